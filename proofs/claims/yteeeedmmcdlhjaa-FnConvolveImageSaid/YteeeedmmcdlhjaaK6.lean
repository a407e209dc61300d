/- Contracts and row, written by a program of this place out of the translation: the call answers true and its argument reads as before, for every input; no condition. -/
import Derived.Test.YteeeedmmcdlhjaaK0
import Derived.Test.YteeeedmmcdlhjaaK1
import Derived.Test.YteeeedmmcdlhjaaK4
import Derived.Test.YteeeedmmcdlhjaaK5
namespace Go.Proofs.Yteeeedmmcdlhjaa.P
open Go.RowKit Go.Proofs.YteeeedmmcdlhjaaW.PrintWords Go.Proofs.YteeeedmmcdlhjaaW.PrintLast Go.Proofs.YteeeedmmcdlhjaaW.PrintMore
attribute [local go_sem] max2_int min2_int max_two min_two max_three min_three max_four min_four   -- for this text's walks alone
set_option linter.unusedVariables false
set_option linter.unusedSimpArgs false
def spec_anyKernel.l0 : Nat → List Int → Int → List Int → Int → Int → Int → Option (Int × List Int × Int × Int)
 | 0, _, _, _, _, _, _ => none
 | k + 1, x4, x5, x1000, x1001, x748000, x748002 => if x5 > 0 then ((spec_reader_pick.f k x1000 x1001 9).bind fun bt751 => (if x4.length < 17592186044416 then (spec_anyKernel.l0 k (x4 ++ [wrap64 (bt751.1 - 3)]) (wrap64 (x5 - 1)) x1000 bt751.2 x748000 x748002) else (none))) else ((spec_reader_pick.f k x1000 x1001 20).bind fun bt756 => (if bt756.1 = 0 then ((spec_reader_one.f k x1000 bt756.2 (([0, 999, 1000] : List Int))).bind fun bt761 => (some (x748000, x4, bt761.1, bt761.2))) else (if bt756.1 = 1 then ((spec_reader_one.f k x1000 bt756.2 (([(-1), 3] : List Int))).bind fun bt766 => (some (bt766.1, x4, x748002, bt766.2))) else (if bt756.1 = 2 then ((spec_reader_one.f k x1000 bt756.2 (([99, 100, (-99), (-100)] : List Int))).bind fun bt771 => (if 0 < (x4.length : Int) then (some (x748000, (x4.set (0 : Int).toNat bt771.1), x748002, bt771.2)) else (none))) else (some (x748000, x4, x748002, bt756.2))))))
def spec_anyKernel.f (k : Nat) (s0_0 : List Int) (s0_1 : Int) : Option (Int × List Int × Int × Int) := (spec_reader_one.f k s0_0 s0_1 (([0, 1, 1, 2] : List Int))).bind fun bt740 => ((spec_reader_one.f k s0_0 bt740.2 (([1, 9, 4, 16, 3] : List Int))).bind fun bt745 => (spec_anyKernel.l0 k (([] : List Int)) (wrap64 ((wrap64 ((wrap64 (2 * bt740.1)) + 1)) * (wrap64 ((wrap64 (2 * bt740.1)) + 1)))) s0_0 bt745.2 bt740.1 bt745.1))
theorem spec_anyKernel.mono_l : ∀ k, (∀ y0 y1 y2 y3 y4 y5, LeO (spec_anyKernel.l0 k y0 y1 y2 y3 y4 y5) (spec_anyKernel.l0 (k + 1) y0 y1 y2 y3 y4 y5))
 | 0 => fun _ _ _ _ _ _ r h => by simp [spec_anyKernel.l0] at h
 | k + 1 => by
  have ih0 := spec_anyKernel.mono_l k
  ·intro y0 y1 y2 y3 y4 y5
   unfold spec_anyKernel.l0
   repeat' first | (with_reducible first | exact ih0 _ _ _ _ _ _ | exact spec_reader_one.mono _ _ _ _ | exact spec_reader_pick.mono _ _ _ _ | exact lR | exact lN | refine lI ?_ ?_ | refine lB ?_ fun _ => ?_) | exact ih0 _ _ _ _ _ _ | exact spec_reader_one.mono _ _ _ _ | exact spec_reader_pick.mono _ _ _ _ | exact lN | refine lI ?_ ?_ | refine lB ?_ fun _ => ?_
theorem spec_anyKernel.mono : ∀ a0 a1 k, LeO (spec_anyKernel.f k a0 a1) (spec_anyKernel.f (k + 1) a0 a1) := by
 intro a0 a1 k
 have ih0 := spec_anyKernel.mono_l k
 unfold spec_anyKernel.f
 repeat' first | (with_reducible first | exact ih0 _ _ _ _ _ _ | exact spec_reader_one.mono _ _ _ _ | exact spec_reader_pick.mono _ _ _ _ | exact lR | exact lN | refine lI ?_ ?_ | refine lB ?_ fun _ => ?_) | exact ih0 _ _ _ _ _ _ | exact spec_reader_one.mono _ _ _ _ | exact spec_reader_pick.mono _ _ _ _ | exact lN | refine lI ?_ ?_ | refine lB ?_ fun _ => ?_
set_option maxHeartbeats 8000000 in
set_option maxRecDepth 100000 in
theorem spec_anyKernel.calls (k : Nat) (g : Nat) (s0_0 : List Int) (s0_1 : Int) (r1 : Int) (r2 : List Int) (r3 : Int) (r4 : Int) (w0 w : World) (hI : IsS85 w0 w g s0_0 s0_1) (hB : Below w0.heap.size w0 w) (h : spec_anyKernel.f k s0_0 s0_1 = some (r1, r2, r3, r4)) :
  Calls Try.prog 83 #[.pointer (some ⟨g, 0, none⟩)] w fun e w' => ∃ v1_ : Value, e = .returned (.agg #[.int .i64 r1, v1_, .int .i64 r3]) ∧ Kd.R (Kd.int .i64) 3 w' w.heap.size (fun _ => True) v1_ r2 ∧ IsS85 w0 w' g s0_0 r4 ∧ Below w0.heap.size w0 w' ∧ KeepBut w w' g none := by
 have hu49 := Try.underlying49
 have HI0 := aM hI
 have HK := aM (KeepBut.refl w g none)
 have HL := aM hB.size
 clear hI
 have HW0 := aM hB.size
 have HB := aM hB
 clear hB
 unfold spec_anyKernel.f at h
 have H := h
 clear h
 obtain ⟨y737, hy737⟩ : ∃ y_ : List Int, y_ = (([0, 1, 1, 2] : List Int)) := ⟨_, rfl⟩
 replace H : ((spec_reader_one.f k s0_0 s0_1 y737).bind fun bt740 => ((spec_reader_one.f k s0_0 bt740.2 (([1, 9, 4, 16, 3] : List Int))).bind fun bt745 => (spec_anyKernel.l0 k (([] : List Int)) (wrap64 ((wrap64 ((wrap64 (2 * bt740.1)) + 1)) * (wrap64 ((wrap64 (2 * bt740.1)) + 1)))) s0_0 bt745.2 bt740.1 bt745.1))) = some (r1, r2, r3, r4) := rY hy737 H
 have Ny737 := aM hy737
 clear hy737
 replace H := Option.bind_eq_some_iff.mp H
 obtain ⟨⟨t740, t741⟩, A20, H⟩ := H
 replace H : ((spec_reader_one.f k s0_0 t741 (([1, 9, 4, 16, 3] : List Int))).bind fun bt745 => (spec_anyKernel.l0 k (([] : List Int)) (wrap64 ((wrap64 ((wrap64 (2 * t740)) + 1)) * (wrap64 ((wrap64 (2 * t740)) + 1)))) s0_0 bt745.2 t740 bt745.1)) = some (r1, r2, r3, r4) := H
 have A2 := aM A20
 clear A20
 obtain ⟨y742, hy742⟩ : ∃ y_ : List Int, y_ = (([1, 9, 4, 16, 3] : List Int)) := ⟨_, rfl⟩
 replace H : ((spec_reader_one.f k s0_0 t741 y742).bind fun bt745 => (spec_anyKernel.l0 k (([] : List Int)) (wrap64 ((wrap64 ((wrap64 (2 * t740)) + 1)) * (wrap64 ((wrap64 (2 * t740)) + 1)))) s0_0 bt745.2 t740 bt745.1)) = some (r1, r2, r3, r4) := rY hy742 H
 have Ny742 := aM hy742
 clear hy742
 replace H := Option.bind_eq_some_iff.mp H
 obtain ⟨⟨t745, t746⟩, A30, H⟩ := H
 replace H : (spec_anyKernel.l0 k (([] : List Int)) (wrap64 ((wrap64 ((wrap64 (2 * t740)) + 1)) * (wrap64 ((wrap64 (2 * t740)) + 1)))) s0_0 t746 t740 t745) = some (r1, r2, r3, r4) := H
 have A3 := aM A30
 clear A30
 obtain ⟨y748, hy748⟩ : ∃ y_ : List Int, y_ = (([] : List Int)) := ⟨_, rfl⟩
 replace H : (spec_anyKernel.l0 k y748 (wrap64 ((wrap64 ((wrap64 (2 * t740)) + 1)) * (wrap64 ((wrap64 (2 * t740)) + 1)))) s0_0 t746 t740 t745) = some (r1, r2, r3, r4) := rY hy748 H
 have Ny748 := aM hy748
 clear hy748
 have H' := aM H
 clear H
 go_enter Try.func83, Try.ntmps83
 go_wp2_with (first | ((with_reducible refine gate_dst (N := 2) rfl ?_); refine bxE (N := 2) (cs := #[.int .i64 0, .slice none 0 0, .int .i64 0]) (t := 49) ?_; intro gb736 hg w4 hbox hb; replace HB := aM (below_step (wS85 HB.out) hb); have BK736 := aM (hbox); have GW736 := aM ((by rw [hg]; exact (keep_size (w := w) (g := g) (row := none) (kB HK.out)) : w.heap.size ≤ gb736)); have GE736 := aM ((Nat.le_trans HW0.out (by rw [hg]; exact (keep_size (w := w) (g := g) (row := none) (kB HK.out)) : w.heap.size ≤ gb736) : w0.heap.size ≤ gb736)); replace HK := aM (KeepBut.trans (kB HK.out) (KeepBut.of_below hb g none) (.inl rfl)); have NB0_736 := aM ((by rw [hg]; exact Nat.ne_of_lt (IsS85.lt (show IsS85 w0 _ g s0_0 s0_1 from iS85 HI0.out)) : g ≠ gb736)); have NB736_0 := aM ((by rw [hg]; exact Nat.ne_of_gt (IsS85.lt (show IsS85 w0 _ g s0_0 s0_1 from iS85 HI0.out)) : gb736 ≠ g)); replace HI0 := aM (IsS85.below (iS85 HI0.out) hb); clear hb hbox hg) | ((with_reducible refine gate_dst (N := 7) rfl ?_); refine iL ([0, 1, 1, 2] : List Int) [.int .i64 0, .int .i64 1, .int .i64 1, .int .i64 2] ?_; intro v738 w5 ho6 hb hg_ hnew_; clear hg_ hnew_; (first | rw [← Ny737.out] at ho6 | (simp only [Int.reduceToNat] at ho6; rw [← Ny737.out] at ho6)); have HO739 := lK ho6 HK; replace BK736 := bB BK736 hb; replace HK := aM (KeepBut.trans (kB HK.out) (KeepBut.of_below hb g none) (.inl rfl)); replace HB := aM (below_step (wS85 HB.out) hb); replace HI0 := aM (IsS85.below (iS85 HI0.out) hb); clear hb ho6; obtain ⟨Ao7, co7, rfl⟩ := sL HO739) | ((with_reducible refine gate_callee (f := 98) rfl ?_); refine gL (some 8) Try.func98 #[.pointer (some ⟨g, 0, none⟩), .slice Ao7 y737.length co7] ?_; (with_reducible refine (spec_reader_one.calls k g s0_0 s0_1 _ _ y737 t740 t741 w0 _ ?side1 ?side2 ?side3 ?side4 ?side5 A2.out).mono ?_); (case side1 => exact iS85 HI0.out); (case side2 => exact wS85 HB.out); (case side3 => exact qC (Kd.R_reads' HO739.out).2.2); (case side4 => exact (Kd.R_reads' HO739.out).2.1); (case side5 => exact far_slice (IsS85.own_ne HI0.out HO739.out (by decide))); rintro e w8 ⟨rfl, hi, hb, hk⟩; refine ⟨_, rfl, ?_⟩; replace BK736 := bK hk BK736 NB736_0; replace HO739 := aM (Kd.R_mono (Kd.R_keep (IsS85.apart (show IsS85 w0 _ g s0_0 s0_1 from iS85 HI0.out) (qR HO739.out) (by decide)) hk (fun _ h => h.2)) (fun _ h => h.1)); replace HK := aM (KeepBut.trans (kB HK.out) hk (.inl rfl)); replace HB := aM (hb); replace HI0 := aM (hi); clear hb hk hi) | ((with_reducible refine gate_dst (N := 10) rfl ?_); refine iL ([1, 9, 4, 16, 3] : List Int) [.int .i64 1, .int .i64 9, .int .i64 4, .int .i64 16, .int .i64 3] ?_; intro v743 w9 ho10 hb hg_ hnew_; clear hg_ hnew_; (first | rw [← Ny742.out] at ho10 | (simp only [Int.reduceToNat] at ho10; rw [← Ny742.out] at ho10)); have HO744 := aM (Kd.R_lower (Kd.R_new' ho10 (Kd.R_lt (qR HO739.out))) (keep_size (w := w) (g := g) (row := none) (kB HK.out))); replace HO739 := aM (Kd.R_elder' (qR HO739.out) (Kd.R_base ho10) hb); replace BK736 := bB BK736 hb; replace HK := aM (KeepBut.trans (kB HK.out) (KeepBut.of_below hb g none) (.inl rfl)); replace HB := aM (below_step (wS85 HB.out) hb); replace HI0 := aM (IsS85.below (iS85 HI0.out) hb); clear hb ho10; obtain ⟨Ao11, co11, rfl⟩ := sL HO744) | ((with_reducible refine gate_callee (f := 98) rfl ?_); refine gL (some 11) Try.func98 #[.pointer (some ⟨g, 0, none⟩), .slice Ao11 y742.length co11] ?_; (with_reducible refine (spec_reader_one.calls k g s0_0 t741 _ _ y742 t745 t746 w0 _ ?side1 ?side2 ?side3 ?side4 ?side5 A3.out).mono ?_); (case side1 => exact iS85 HI0.out); (case side2 => exact wS85 HB.out); (case side3 => exact qC (Kd.R_reads' HO744.out).2.2); (case side4 => exact (Kd.R_reads' HO744.out).2.1); (case side5 => exact far_slice (IsS85.own_ne HI0.out HO744.out (by decide))); rintro e w12 ⟨rfl, hi, hb, hk⟩; refine ⟨_, rfl, ?_⟩; replace BK736 := bK hk BK736 NB736_0; replace HO739 := aM (Kd.R_mono (Kd.R_keep (IsS85.apart (show IsS85 w0 _ g s0_0 t741 from iS85 HI0.out) (qR HO739.out) (by decide)) hk (fun _ h => h.2)) (fun _ h => h.1)); replace HO744 := aM (Kd.R_mono (Kd.R_keep (IsS85.apart (show IsS85 w0 _ g s0_0 t741 from iS85 HI0.out) (qR HO744.out) (by decide)) hk (fun _ h => h.2)) (fun _ h => h.1)); replace HK := aM (KeepBut.trans (kB HK.out) hk (.inl rfl)); replace HB := aM (hb); replace HI0 := aM (hi); clear hb hk hi) | ((with_reducible refine gate_dst (N := 3) rfl ?_); refine bxE (N := 3) (cs := #[.int .i64 0, .slice none 0 0, .int .i64 0]) (t := 49) ?_; intro gb747 hg w13 hbox hb; replace HO739 := aM (Kd.R_below (qR HO739.out) hb); replace HO744 := aM (Kd.R_below (qR HO744.out) hb); replace HB := aM (below_step (wS85 HB.out) hb); have BK747 := aM (hbox); have GW747 := aM ((by rw [hg]; exact (keep_size (w := w) (g := g) (row := none) (kB HK.out)) : w.heap.size ≤ gb747)); have GE747 := aM ((Nat.le_trans HW0.out (by rw [hg]; exact (keep_size (w := w) (g := g) (row := none) (kB HK.out)) : w.heap.size ≤ gb747) : w0.heap.size ≤ gb747)); replace HK := aM (KeepBut.trans (kB HK.out) (KeepBut.of_below hb g none) (.inl rfl)); have NB736_747 := nL hg BK736; have NB747_736 := nG hg BK736; replace BK736 := bB BK736 hb; have NB0_747 := aM ((by rw [hg]; exact Nat.ne_of_lt (IsS85.lt (show IsS85 w0 _ g s0_0 t746 from iS85 HI0.out)) : g ≠ gb747)); have NB747_0 := aM ((by rw [hg]; exact Nat.ne_of_gt (IsS85.lt (show IsS85 w0 _ g s0_0 t746 from iS85 HI0.out)) : gb747 ≠ g)); replace HI0 := aM (IsS85.below (iS85 HI0.out) hb); clear hb hbox hg; have hnb14 := NB747_736.out; have hnc14 := NB736_747.out; have hnb15 := NB747_0.out; have hnc15 := NB0_747.out; obtain ⟨⟨hcz16_0, hcz16_1, hcz16_2⟩, hfz16_0, hfz16_1, hfz16_2⟩ := cf3 BK747) | ((with_reducible refine gate_dst (N := 13) rfl ?_); refine iL ([] : List Int) [] ?_; intro v749 w17 ho18 hb hg_ hnew_; clear hg_ hnew_; (first | rw [← Ny748.out] at ho18 | (simp only [Int.reduceToNat] at ho18; rw [← Ny748.out] at ho18)); have HO750 := aM (Kd.R_lower (Kd.R_new' (Kd.R_new' ho18 (Kd.R_lt (by refine qR ?_; exact (Kd.R_mono (rT HO739 BK747) (fun _ h_ => h_.1))))) (Kd.R_lt (by refine qR ?_; exact (Kd.R_mono (rT HO744 BK747) (fun _ h_ => h_.1))))) (keep_size (w := w) (g := g) (row := none) (kB HK.out))); replace HO739 := aM (Kd.R_elder' (by refine qR ?_; exact (Kd.R_mono (rT HO739 BK747) (fun _ h_ => h_.1))) (Kd.R_base ho18) hb); replace HO744 := aM (Kd.R_elder' (by refine qR ?_; exact (Kd.R_mono (rT HO744 BK747) (fun _ h_ => h_.1))) (Kd.R_base ho18) hb); replace BK736 := aM (blk_below (g := gb736) (o := .cells #[.int .i64 0, .slice none 0 0, .int .i64 0] 49 (0, 0)) (by refine qB ?_; refine blk_far ?_ NB736_747.out _; refine qB ?_; refine blk_far ?_ NB736_747.out _; refine qB ?_; refine blk_far ?_ NB736_747.out _; refine qB ?_; exact BK736.out) hb); replace BK747 := aM (blk_below (g := gb747) (o := .cells #[.int .i64 t740, .slice none 0 0, .int .i64 t745] 49 (0, 0)) (by exact bP BK747.out) hb); replace HK := aM (KeepBut.trans (kB HK.out) (KeepBut.of_below hb g none) (.inl rfl)); replace HB := aM (below_step (wS85 HB.out) hb); replace HI0 := aM (IsS85.below (show IsS85 w0 (((w13.setCell ⟨gb747, 0, none⟩ (.int .i64 t740)).setCell ⟨gb747, 1, none⟩ (.slice none 0 0)).setCell ⟨gb747, 2, none⟩ (.int .i64 t745)) g s0_0 t746 from iS85 HI0.out) hb); clear hb ho18; obtain ⟨⟨hcz19_0, hcz19_1, hcz19_2⟩, hfz19_0, hfz19_1, hfz19_2⟩ := cf3 BK747))
 go_loopg [4, 5] k (fun kq v4 v5 w' => ∃ (x4_1 : List Int) (x5_1 : Int) (x1001_1 : Int), v5 = .int .i64 x5_1 ∧ Aside0 (spec_anyKernel.l0 kq x4_1 x5_1 s0_0 x1001_1 t740 t745 = some (r1, r2, r3, r4)) ∧ Aside0 (kq ≤ k) ∧ Aside0 (Kd.R (Kd.int .i64) 3 w' w.heap.size (fun _ => True) v4 x4_1) ∧ Aside0 (w'.heap[gb736]? = some (.cells #[.int .i64 0, (.slice none 0 0), .int .i64 0] 49 (0, 0))) ∧ Aside0 (w'.heap[gb747]? = some (.cells #[.int .i64 t740, (.slice none 0 0), .int .i64 t745] 49 (0, 0))) ∧ Aside0 (IsS85 w0 w' g s0_0 x1001_1) ∧ Aside0 (KeepBut w w' g none) ∧ Aside0 (Below w0.heap.size w0 w'))
 case atStart => exact ⟨(y748), (wrap64 ((wrap64 ((wrap64 (2 * t740)) + 1)) * (wrap64 ((wrap64 (2 * t740)) + 1)))), (t746), qE, H', ⟨Nat.le_refl _⟩, ⟨by refine qR ?_; exact Kd.R_mono HO750.out (fun _ hk => trivial)⟩, ⟨by refine qB ?_; exact BK736.out⟩, ⟨by refine qB ?_; exact BK747.out⟩, ⟨iS85 HI0.out⟩, ⟨kB HK.out⟩, ⟨wS85 HB.out⟩⟩
 case round =>
  clear H'
  try clear hcz16_0 hcz16_1 hcz16_2 hfz16_0 hfz16_1 hfz16_2
  try clear hcz19_0 hcz19_1 hcz19_2 hfz19_0 hfz19_1 hfz19_2
  obtain ⟨x4_1, x5_1, x1001_1, rfl, HA, HK1, HO_4, BK736, BK747, HI0, HK, HB⟩ := hrel
  cases gk with
  | zero => exact absurd HA.out (by simp [spec_anyKernel.l0])
  | succ k1 =>
   have H := HA.out
   clear HA
   simp only [spec_anyKernel.l0] at H
   by_cases c20 : x5_1 > 0
   ·rw [if_pos c20] at H
    have c20b0 : decide (0 < x5_1) = true := decide_eq_true c20
    clear c20
    replace H := Option.bind_eq_some_iff.mp H
    obtain ⟨⟨t751, t752⟩, A210, H⟩ := H
    replace H : (if x4_1.length < 17592186044416 then (spec_anyKernel.l0 k1 (x4_1 ++ [wrap64 (t751 - 3)]) (wrap64 (x5_1 - 1)) s0_0 t752 t740 t745) else (none)) = some (r1, r2, r3, r4) := H
    have A21 := aM A210
    clear A210
    replace H := iS H
    obtain ⟨c22, H⟩ := H
    have LMc22 := aM c22
    clear c22
    obtain ⟨y753, hy753⟩ : ∃ y_ : List Int, y_ = (x4_1 ++ [wrap64 (t751 - 3)]) := ⟨_, rfl⟩
    replace H : (spec_anyKernel.l0 k1 y753 (wrap64 (x5_1 - 1)) s0_0 t752 t740 t745) = some (r1, r2, r3, r4) := rY hy753 H
    have Ny753 := aM hy753
    clear hy753
    have H' := aM H
    clear H
    go_wp2_with (first | ((with_reducible refine gate_callee (f := 45) rfl ?_); refine gL (some 29) Try.func45 #[.pointer (some ⟨g, 0, none⟩), .int .i64 9] ?_; (with_reducible refine (spec_reader_pick.calls k1 g s0_0 x1001_1 9 t751 t752 w0 _ ?side1 ?side2 A21.out).mono ?_); (case side1 => exact iS85 HI0.out); (case side2 => exact wS85 HB.out); rintro e w23 ⟨rfl, hi, hb, hk⟩; refine ⟨_, rfl, ?_⟩; replace HO_4 := aM (Kd.R_mono (Kd.R_keep (IsS85.apart (show IsS85 w0 _ g s0_0 x1001_1 from iS85 HI0.out) (qR HO_4.out) (by decide)) hk (fun _ h => h.2)) (fun _ h => h.1)); replace BK736 := bK hk BK736 NB736_0; replace BK747 := bK hk BK747 NB747_0; replace HK := aM (KeepBut.trans (kB HK.out) hk (.inl rfl)); replace HB := aM (hb); replace HI0 := aM (hi); clear hb hk hi) | ((with_reducible refine gate_builtin (b := .append) (xs := #[.tmp 27, .tmp 31]) rfl ?_); at_builtin; refine Kd.R_append (Kd.int .i64) w.heap.size rfl (.tmp 27) (.tmp 31) 25 3 (.int .i64 0) 8 rfl Try.underlying25 info3 rfl (by decide) (by omega) u4 x4_1 (wrap64 (t751 - 3)) [.int .i64 (wrap64 (t751 - 3))] (fun _ => True) (fun _ => False) rfl rfl ?aP (fun _ hk => hk.elim) ?aF ?aO (Below.refl _ _) ?aS ?aL ?_; (case aP => exact rfl); (case aF => exact (fun _ _ => trivial)); (case aO => exact (qR HO_4.out)); (case aS => exact (keep_size (w := w) (g := g) (row := none) (kB HK.out))); (case aL => have := LMc22.out; omega); intro v754 w24 ho hb hg hat; rw [← Ny753.out] at ho; replace BK736 := gB BK736 hg (Kd.R_ne HO_4.out BK736.out (by decide)); replace BK747 := gB BK747 hg (Kd.R_ne HO_4.out BK747.out (by decide)); replace HB := aM (below_weaken (wS85 HB.out) HL.out hb); replace HI0 := aM (IsS85.grown (iS85 HI0.out) hg (IsS85.own_ne HI0.out HO_4.out (by decide))); replace HK := aM (KeepBut.trans (kB HK.out) (KeepBut.of_grown hg g) (Kd.R_base2 HO_4.out)); have HO755 := aM (ho); clear HO_4; clear ho hb hg hat))
    go_roundg k1
    case measure => have := HK1.out; omega
    case rel => exact ⟨(y753), (wrap64 (x5_1 - 1)), (t752), qE, H', ⟨by have := HK1.out; omega⟩, ⟨by refine qR ?_; exact HO755.out⟩, ⟨by refine qB ?_; exact BK736.out⟩, ⟨by refine qB ?_; exact BK747.out⟩, ⟨iS85 HI0.out⟩, ⟨kB HK.out⟩, ⟨wS85 HB.out⟩⟩
   rw [if_neg c20] at H
   have c20b0 : decide (0 < x5_1) = false := decide_eq_false c20
   clear c20
   replace H := Option.bind_eq_some_iff.mp H
   obtain ⟨⟨t756, t757⟩, A250, H⟩ := H
   replace H : (if t756 = 0 then ((spec_reader_one.f k1 s0_0 t757 (([0, 999, 1000] : List Int))).bind fun bt761 => (some (t740, x4_1, bt761.1, bt761.2))) else (if t756 = 1 then ((spec_reader_one.f k1 s0_0 t757 (([(-1), 3] : List Int))).bind fun bt766 => (some (bt766.1, x4_1, t745, bt766.2))) else (if t756 = 2 then ((spec_reader_one.f k1 s0_0 t757 (([99, 100, (-99), (-100)] : List Int))).bind fun bt771 => (if 0 < (x4_1.length : Int) then (some (t740, (x4_1.set (0 : Int).toNat bt771.1), t745, bt771.2)) else (none))) else (some (t740, x4_1, t745, t757))))) = some (r1, r2, r3, r4) := H
   have A25 := aM A250
   clear A250
   by_cases c26 : t756 = 0
   ·rw [if_pos c26] at H
    have c26b0 : (t756 == 0) = true := beq_iff_eq.mpr c26
    have c26b1 : (t756 != 0) = false := bne_eq_false_iff_eq.mpr c26
    clear c26
    obtain ⟨y758, hy758⟩ : ∃ y_ : List Int, y_ = (([0, 999, 1000] : List Int)) := ⟨_, rfl⟩
    replace H : ((spec_reader_one.f k1 s0_0 t757 y758).bind fun bt761 => (some (t740, x4_1, bt761.1, bt761.2))) = some (r1, r2, r3, r4) := rY hy758 H
    have Ny758 := aM hy758
    clear hy758
    replace H := Option.bind_eq_some_iff.mp H
    obtain ⟨⟨t761, t762⟩, A270, H⟩ := H
    replace H : (some (t740, x4_1, t761, t762)) = some (r1, r2, r3, r4) := H
    have A27 := aM A270
    clear A270
    simp only [Option.some.injEq, Prod.mk.injEq] at H
    obtain ⟨rfl, rfl, rfl, rfl⟩ := H
    obtain ⟨Ao28, co28, rfl⟩ := sL HO_4
    have hnb29 := NB747_736.out
    have hnc29 := NB736_747.out
    have hnb30 := NB747_0.out
    have hnc30 := NB0_747.out
    obtain ⟨⟨hcz31_0, hcz31_1, hcz31_2⟩, hfz31_0, hfz31_1, hfz31_2⟩ := cf3 BK747
    go_wp2_with (first | ((with_reducible refine gate_callee (f := 45) rfl ?_); refine gL (some 36) Try.func45 #[.pointer (some ⟨g, 0, none⟩), .int .i64 20] ?_; (with_reducible refine (spec_reader_pick.calls k1 g s0_0 x1001_1 20 t756 t757 w0 _ ?side1 ?side2 A25.out).mono ?_); (case side1 => exact iS85 HI0.out); (case side2 => exact wS85 HB.out); rintro e w32 ⟨rfl, hi, hb, hk⟩; refine ⟨_, rfl, ?_⟩; replace HO_4 := aM (Kd.R_mono (Kd.R_keep (IsS85.apart (show IsS85 w0 _ g s0_0 x1001_1 from iS85 HI0.out) (by refine qR ?_; exact (Kd.R_mono (rT HO_4 BK747) (fun _ h_ => h_.1))) (by decide)) hk (fun _ h => h.2)) (fun _ h => h.1)); replace BK736 := aM (KeepBut.blk hk (g' := gb736) (o := .cells #[.int .i64 0, .slice none 0 0, .int .i64 0] 49 (0, 0)) (by refine qB ?_; refine blk_far ?_ NB736_747.out _; refine qB ?_; exact BK736.out) NB736_0.out (by simp)); replace BK747 := aM (KeepBut.blk hk (g' := gb747) (o := .cells #[.int .i64 t740, .slice Ao28 x4_1.length co28, .int .i64 t745] 49 (0, 0)) (by exact bP BK747.out) NB747_0.out (by simp)); replace HK := aM (KeepBut.trans (kB HK.out) hk (.inl rfl)); replace HB := aM (hb); replace HI0 := aM (hi); clear hb hk hi) | ((with_reducible refine gate_dst (N := 40) rfl ?_); refine iL ([0, 999, 1000] : List Int) [.int .i64 0, .int .i64 999, .int .i64 1000] ?_; intro v759 w33 ho34 hb hg_ hnew_; clear hg_ hnew_; (first | rw [← Ny758.out] at ho34 | (simp only [Int.reduceToNat] at ho34; rw [← Ny758.out] at ho34)); have HO760 := aM (Kd.R_lower (Kd.R_new' ho34 (Kd.R_lt (qR HO_4.out))) (keep_size (w := w) (g := g) (row := none) (kB HK.out))); replace HO_4 := aM (Kd.R_elder' (qR HO_4.out) (Kd.R_base ho34) hb); replace BK736 := bB BK736 hb; replace BK747 := bB BK747 hb; replace HK := aM (KeepBut.trans (kB HK.out) (KeepBut.of_below hb g none) (.inl rfl)); replace HB := aM (below_step (wS85 HB.out) hb); replace HI0 := aM (IsS85.below (iS85 HI0.out) hb); clear hb ho34; obtain ⟨Ao35, co35, rfl⟩ := sL HO760) | ((with_reducible refine gate_callee (f := 98) rfl ?_); refine gL (some 41) Try.func98 #[.pointer (some ⟨g, 0, none⟩), .slice Ao35 y758.length co35] ?_; (with_reducible refine (spec_reader_one.calls k1 g s0_0 t757 _ _ y758 t761 t762 w0 _ ?side1 ?side2 ?side3 ?side4 ?side5 A27.out).mono ?_); (case side1 => exact iS85 HI0.out); (case side2 => exact wS85 HB.out); (case side3 => exact qC (Kd.R_reads' HO760.out).2.2); (case side4 => exact (Kd.R_reads' HO760.out).2.1); (case side5 => exact far_slice (IsS85.own_ne HI0.out HO760.out (by decide))); rintro e w36 ⟨rfl, hi, hb, hk⟩; refine ⟨_, rfl, ?_⟩; replace HO_4 := aM (Kd.R_mono (Kd.R_keep (IsS85.apart (show IsS85 w0 _ g s0_0 t757 from iS85 HI0.out) (qR HO_4.out) (by decide)) hk (fun _ h => h.2)) (fun _ h => h.1)); replace BK736 := bK hk BK736 NB736_0; replace BK747 := bK hk BK747 NB747_0; replace HO760 := aM (Kd.R_mono (Kd.R_keep (IsS85.apart (show IsS85 w0 _ g s0_0 t757 from iS85 HI0.out) (qR HO760.out) (by decide)) hk (fun _ h => h.2)) (fun _ h => h.1)); replace HK := aM (KeepBut.trans (kB HK.out) hk (.inl rfl)); replace HB := aM (hb); replace HI0 := aM (hi); clear hb hk hi; obtain ⟨⟨hcz37_0, hcz37_1, hcz37_2⟩, hfz37_0, hfz37_1, hfz37_2⟩ := cf3 BK747; have hnb38 := NB736_0.out; have hnc38 := NB0_736.out; obtain ⟨⟨hcz39_0, hcz39_1, hcz39_2⟩, hfz39_0, hfz39_1, hfz39_2⟩ := cf3 BK736))
    refine bodyPost_ret (results_cell_row rfl _ _ gb736 49 #[.int .i64 t740, .slice Ao28 x4_1.length co28, .int .i64 t761] (0, 0) _ rfl (by refine qB ?_; refine blk_put (cs := #[.int .i64 t740, .slice Ao28 x4_1.length co28, .int .i64 0]) ?_ 2 _ rfl; refine qB ?_; refine blk_put (cs := #[.int .i64 t740, .slice none 0 0, .int .i64 0]) ?_ 1 _ rfl; refine qB ?_; refine blk_put (cs := #[.int .i64 0, .slice none 0 0, .int .i64 0]) ?_ 0 _ rfl; refine qB ?_; refine blk_far ?_ NB736_747.out _; refine qB ?_; exact BK736.out) Try.underlying49 rfl (by kernel_rfl)) rfl ?_
    exact ⟨_, qX, by refine qR ?_; exact Kd.R_mono (Kd.R_far (p := ⟨gb736, 2, none⟩) (Kd.R_far (p := ⟨gb736, 1, none⟩) (Kd.R_far (p := ⟨gb736, 0, none⟩) (Kd.R_far (p := ⟨gb747, 2, none⟩) (Kd.R_types (Kd.R_types HO_4.out BK747.out (by decide)) BK736.out (by decide)) (fun _ hk => hk.1.2) (.int .i64 t761)) (fun _ hk => hk.2) (.int .i64 t740)) (fun _ hk => hk.2) (.slice Ao28 x4_1.length co28)) (fun _ hk => hk.2) (.int .i64 t761)) (fun _ hk => trivial), iS85 HI0.out, wS85 HB.out, kB HK.out⟩
   rw [if_neg c26] at H
   have c26b0 : (t756 == 0) = false := beq_eq_false_iff_ne.mpr c26
   have c26b1 : (t756 != 0) = true := bne_iff_ne.mpr c26
   by_cases c40 : t756 = 1
   ·rw [if_pos c40] at H
    have c40b0 : (t756 == 1) = true := beq_iff_eq.mpr c40
    have c40b1 : (t756 != 1) = false := bne_eq_false_iff_eq.mpr c40
    clear c40
    obtain ⟨y763, hy763⟩ : ∃ y_ : List Int, y_ = (([(-1), 3] : List Int)) := ⟨_, rfl⟩
    replace H : ((spec_reader_one.f k1 s0_0 t757 y763).bind fun bt766 => (some (bt766.1, x4_1, t745, bt766.2))) = some (r1, r2, r3, r4) := rY hy763 H
    have Ny763 := aM hy763
    clear hy763
    replace H := Option.bind_eq_some_iff.mp H
    obtain ⟨⟨t766, t767⟩, A410, H⟩ := H
    replace H : (some (t766, x4_1, t745, t767)) = some (r1, r2, r3, r4) := H
    have A41 := aM A410
    clear A410
    simp only [Option.some.injEq, Prod.mk.injEq] at H
    obtain ⟨rfl, rfl, rfl, rfl⟩ := H
    obtain ⟨Ao42, co42, rfl⟩ := sL HO_4
    have hnb43 := NB747_736.out
    have hnc43 := NB736_747.out
    have hnb44 := NB747_0.out
    have hnc44 := NB0_747.out
    obtain ⟨⟨hcz45_0, hcz45_1, hcz45_2⟩, hfz45_0, hfz45_1, hfz45_2⟩ := cf3 BK747
    go_wp2_with (first | ((with_reducible refine gate_callee (f := 45) rfl ?_); refine gL (some 36) Try.func45 #[.pointer (some ⟨g, 0, none⟩), .int .i64 20] ?_; (with_reducible refine (spec_reader_pick.calls k1 g s0_0 x1001_1 20 t756 t757 w0 _ ?side1 ?side2 A25.out).mono ?_); (case side1 => exact iS85 HI0.out); (case side2 => exact wS85 HB.out); rintro e w46 ⟨rfl, hi, hb, hk⟩; refine ⟨_, rfl, ?_⟩; replace HO_4 := aM (Kd.R_mono (Kd.R_keep (IsS85.apart (show IsS85 w0 _ g s0_0 x1001_1 from iS85 HI0.out) (by refine qR ?_; exact (Kd.R_mono (rT HO_4 BK747) (fun _ h_ => h_.1))) (by decide)) hk (fun _ h => h.2)) (fun _ h => h.1)); replace BK736 := aM (KeepBut.blk hk (g' := gb736) (o := .cells #[.int .i64 0, .slice none 0 0, .int .i64 0] 49 (0, 0)) (by refine qB ?_; refine blk_far ?_ NB736_747.out _; refine qB ?_; exact BK736.out) NB736_0.out (by simp)); replace BK747 := aM (KeepBut.blk hk (g' := gb747) (o := .cells #[.int .i64 t740, .slice Ao42 x4_1.length co42, .int .i64 t745] 49 (0, 0)) (by exact bP BK747.out) NB747_0.out (by simp)); replace HK := aM (KeepBut.trans (kB HK.out) hk (.inl rfl)); replace HB := aM (hb); replace HI0 := aM (hi); clear hb hk hi) | ((with_reducible refine gate_dst (N := 46) rfl ?_); refine iL ([(-1), 3] : List Int) [.int .i64 (-1), .int .i64 3] ?_; intro v764 w47 ho48 hb hg_ hnew_; clear hg_ hnew_; (first | rw [← Ny763.out] at ho48 | (simp only [Int.reduceToNat] at ho48; rw [← Ny763.out] at ho48)); have HO765 := aM (Kd.R_lower (Kd.R_new' ho48 (Kd.R_lt (qR HO_4.out))) (keep_size (w := w) (g := g) (row := none) (kB HK.out))); replace HO_4 := aM (Kd.R_elder' (qR HO_4.out) (Kd.R_base ho48) hb); replace BK736 := bB BK736 hb; replace BK747 := bB BK747 hb; replace HK := aM (KeepBut.trans (kB HK.out) (KeepBut.of_below hb g none) (.inl rfl)); replace HB := aM (below_step (wS85 HB.out) hb); replace HI0 := aM (IsS85.below (iS85 HI0.out) hb); clear hb ho48; obtain ⟨Ao49, co49, rfl⟩ := sL HO765) | ((with_reducible refine gate_callee (f := 98) rfl ?_); refine gL (some 47) Try.func98 #[.pointer (some ⟨g, 0, none⟩), .slice Ao49 y763.length co49] ?_; (with_reducible refine (spec_reader_one.calls k1 g s0_0 t757 _ _ y763 t766 t767 w0 _ ?side1 ?side2 ?side3 ?side4 ?side5 A41.out).mono ?_); (case side1 => exact iS85 HI0.out); (case side2 => exact wS85 HB.out); (case side3 => exact qC (Kd.R_reads' HO765.out).2.2); (case side4 => exact (Kd.R_reads' HO765.out).2.1); (case side5 => exact far_slice (IsS85.own_ne HI0.out HO765.out (by decide))); rintro e w50 ⟨rfl, hi, hb, hk⟩; refine ⟨_, rfl, ?_⟩; replace HO_4 := aM (Kd.R_mono (Kd.R_keep (IsS85.apart (show IsS85 w0 _ g s0_0 t757 from iS85 HI0.out) (qR HO_4.out) (by decide)) hk (fun _ h => h.2)) (fun _ h => h.1)); replace BK736 := bK hk BK736 NB736_0; replace BK747 := bK hk BK747 NB747_0; replace HO765 := aM (Kd.R_mono (Kd.R_keep (IsS85.apart (show IsS85 w0 _ g s0_0 t757 from iS85 HI0.out) (qR HO765.out) (by decide)) hk (fun _ h => h.2)) (fun _ h => h.1)); replace HK := aM (KeepBut.trans (kB HK.out) hk (.inl rfl)); replace HB := aM (hb); replace HI0 := aM (hi); clear hb hk hi; obtain ⟨⟨hcz51_0, hcz51_1, hcz51_2⟩, hfz51_0, hfz51_1, hfz51_2⟩ := cf3 BK747; have hnb52 := NB736_0.out; have hnc52 := NB0_736.out; obtain ⟨⟨hcz53_0, hcz53_1, hcz53_2⟩, hfz53_0, hfz53_1, hfz53_2⟩ := cf3 BK736))
    refine bodyPost_ret (results_cell_row rfl _ _ gb736 49 #[.int .i64 t766, .slice Ao42 x4_1.length co42, .int .i64 t745] (0, 0) _ rfl (by refine qB ?_; refine blk_put (cs := #[.int .i64 t766, .slice Ao42 x4_1.length co42, .int .i64 0]) ?_ 2 _ rfl; refine qB ?_; refine blk_put (cs := #[.int .i64 t766, .slice none 0 0, .int .i64 0]) ?_ 1 _ rfl; refine qB ?_; refine blk_put (cs := #[.int .i64 0, .slice none 0 0, .int .i64 0]) ?_ 0 _ rfl; refine qB ?_; refine blk_far ?_ NB736_747.out _; refine qB ?_; exact BK736.out) Try.underlying49 rfl (by kernel_rfl)) rfl ?_
    exact ⟨_, qX, by refine qR ?_; exact Kd.R_mono (Kd.R_far (p := ⟨gb736, 2, none⟩) (Kd.R_far (p := ⟨gb736, 1, none⟩) (Kd.R_far (p := ⟨gb736, 0, none⟩) (Kd.R_far (p := ⟨gb747, 0, none⟩) (Kd.R_types (Kd.R_types HO_4.out BK747.out (by decide)) BK736.out (by decide)) (fun _ hk => hk.1.2) (.int .i64 t766)) (fun _ hk => hk.2) (.int .i64 t766)) (fun _ hk => hk.2) (.slice Ao42 x4_1.length co42)) (fun _ hk => hk.2) (.int .i64 t745)) (fun _ hk => trivial), iS85 HI0.out, wS85 HB.out, kB HK.out⟩
   rw [if_neg c40] at H
   have c40b0 : (t756 == 1) = false := beq_eq_false_iff_ne.mpr c40
   have c40b1 : (t756 != 1) = true := bne_iff_ne.mpr c40
   by_cases c54 : t756 = 2
   rotate_left
   ·rw [if_neg c54] at H
    have c54b0 : (t756 == 2) = false := beq_eq_false_iff_ne.mpr c54
    have c54b1 : (t756 != 2) = true := bne_iff_ne.mpr c54
    simp only [Option.some.injEq, Prod.mk.injEq] at H
    obtain ⟨rfl, rfl, rfl, rfl⟩ := H
    obtain ⟨Ao72, co72, rfl⟩ := sL HO_4
    have hnb73 := NB747_736.out
    have hnc73 := NB736_747.out
    have hnb74 := NB747_0.out
    have hnc74 := NB0_747.out
    obtain ⟨⟨hcz75_0, hcz75_1, hcz75_2⟩, hfz75_0, hfz75_1, hfz75_2⟩ := cf3 BK747
    go_wp2_with (first | ((with_reducible refine gate_callee (f := 45) rfl ?_); refine gL (some 36) Try.func45 #[.pointer (some ⟨g, 0, none⟩), .int .i64 20] ?_; (with_reducible refine (spec_reader_pick.calls k1 g s0_0 x1001_1 20 t756 t757 w0 _ ?side1 ?side2 A25.out).mono ?_); (case side1 => exact iS85 HI0.out); (case side2 => exact wS85 HB.out); rintro e w76 ⟨rfl, hi, hb, hk⟩; refine ⟨_, rfl, ?_⟩; replace HO_4 := aM (Kd.R_mono (Kd.R_keep (IsS85.apart (show IsS85 w0 _ g s0_0 x1001_1 from iS85 HI0.out) (by refine qR ?_; exact (Kd.R_mono (rT HO_4 BK747) (fun _ h_ => h_.1))) (by decide)) hk (fun _ h => h.2)) (fun _ h => h.1)); replace BK736 := aM (KeepBut.blk hk (g' := gb736) (o := .cells #[.int .i64 0, .slice none 0 0, .int .i64 0] 49 (0, 0)) (by refine qB ?_; refine blk_far ?_ NB736_747.out _; refine qB ?_; exact BK736.out) NB736_0.out (by simp)); replace BK747 := aM (KeepBut.blk hk (g' := gb747) (o := .cells #[.int .i64 t740, .slice Ao72 x4_1.length co72, .int .i64 t745] 49 (0, 0)) (by exact bP BK747.out) NB747_0.out (by simp)); replace HK := aM (KeepBut.trans (kB HK.out) hk (.inl rfl)); replace HB := aM (hb); replace HI0 := aM (hi); clear hb hk hi; obtain ⟨⟨hcz77_0, hcz77_1, hcz77_2⟩, hfz77_0, hfz77_1, hfz77_2⟩ := cf3 BK747; have hnb78 := NB736_0.out; have hnc78 := NB0_736.out; obtain ⟨⟨hcz79_0, hcz79_1, hcz79_2⟩, hfz79_0, hfz79_1, hfz79_2⟩ := cf3 BK736))
    refine bodyPost_ret (results_cell_row rfl _ _ gb736 49 #[.int .i64 t740, .slice Ao72 x4_1.length co72, .int .i64 t745] (0, 0) _ rfl (by exact bP BK736.out) Try.underlying49 rfl (by kernel_rfl)) rfl ?_
    exact ⟨_, qX, by refine qR ?_; exact Kd.R_mono (rT HO_4 BK736) (fun _ hk => trivial), iS85 HI0.out, wS85 HB.out, kB HK.out⟩
   rw [if_pos c54] at H
   have c54b0 : (t756 == 2) = true := beq_iff_eq.mpr c54
   have c54b1 : (t756 != 2) = false := bne_eq_false_iff_eq.mpr c54
   clear c54
   obtain ⟨y768, hy768⟩ : ∃ y_ : List Int, y_ = (([99, 100, (-99), (-100)] : List Int)) := ⟨_, rfl⟩
   replace H : ((spec_reader_one.f k1 s0_0 t757 y768).bind fun bt771 => (if 0 < (x4_1.length : Int) then (some (t740, (x4_1.set (0 : Int).toNat bt771.1), t745, bt771.2)) else (none))) = some (r1, r2, r3, r4) := rY hy768 H
   have Ny768 := aM hy768
   clear hy768
   replace H := Option.bind_eq_some_iff.mp H
   obtain ⟨⟨t771, t772⟩, A550, H⟩ := H
   replace H : (if 0 < (x4_1.length : Int) then (some (t740, (x4_1.set (0 : Int).toNat t771), t745, t772)) else (none)) = some (r1, r2, r3, r4) := H
   have A55 := aM A550
   clear A550
   replace H := iS H
   obtain ⟨c56, H⟩ := H
   have c56b0 : decide (0 < (x4_1.length : Int)) = true := decide_eq_true c56
   have c56b1 : decide (0 < x4_1.length) = true := decide_eq_true (by omega)
   clear c56
   obtain ⟨y773, hy773⟩ : ∃ y_ : List Int, y_ = (x4_1.set (0 : Int).toNat t771) := ⟨_, rfl⟩
   replace H : (some (t740, y773, t745, t772)) = some (r1, r2, r3, r4) := rY hy773 H
   have Ny773 := aM hy773
   clear hy773
   simp only [Option.some.injEq, Prod.mk.injEq] at H
   obtain ⟨rfl, rfl, rfl, rfl⟩ := H
   obtain ⟨Ao58, co58, rfl⟩ := sL HO_4
   have hnb59 := NB747_736.out
   have hnc59 := NB736_747.out
   have hnb60 := NB747_0.out
   have hnc60 := NB0_747.out
   obtain ⟨⟨hcz61_0, hcz61_1, hcz61_2⟩, hfz61_0, hfz61_1, hfz61_2⟩ := cf3 BK747
   go_wp2_with (first | ((with_reducible refine gate_callee (f := 45) rfl ?_); refine gL (some 36) Try.func45 #[.pointer (some ⟨g, 0, none⟩), .int .i64 20] ?_; (with_reducible refine (spec_reader_pick.calls k1 g s0_0 x1001_1 20 t756 t757 w0 _ ?side1 ?side2 A25.out).mono ?_); (case side1 => exact iS85 HI0.out); (case side2 => exact wS85 HB.out); rintro e w62 ⟨rfl, hi, hb, hk⟩; refine ⟨_, rfl, ?_⟩; replace HO_4 := aM (Kd.R_mono (Kd.R_keep (IsS85.apart (show IsS85 w0 _ g s0_0 x1001_1 from iS85 HI0.out) (by refine qR ?_; exact (Kd.R_mono (rT HO_4 BK747) (fun _ h_ => h_.1))) (by decide)) hk (fun _ h => h.2)) (fun _ h => h.1)); replace BK736 := aM (KeepBut.blk hk (g' := gb736) (o := .cells #[.int .i64 0, .slice none 0 0, .int .i64 0] 49 (0, 0)) (by refine qB ?_; refine blk_far ?_ NB736_747.out _; refine qB ?_; exact BK736.out) NB736_0.out (by simp)); replace BK747 := aM (KeepBut.blk hk (g' := gb747) (o := .cells #[.int .i64 t740, .slice Ao58 x4_1.length co58, .int .i64 t745] 49 (0, 0)) (by exact bP BK747.out) NB747_0.out (by simp)); replace HK := aM (KeepBut.trans (kB HK.out) hk (.inl rfl)); replace HB := aM (hb); replace HI0 := aM (hi); clear hb hk hi) | ((with_reducible refine gate_dst (N := 53) rfl ?_); refine iL ([99, 100, (-99), (-100)] : List Int) [.int .i64 99, .int .i64 100, .int .i64 (-99), .int .i64 (-100)] ?_; intro v769 w63 ho64 hb hg_ hnew_; clear hg_ hnew_; (first | rw [← Ny768.out] at ho64 | (simp only [Int.reduceToNat] at ho64; rw [← Ny768.out] at ho64)); have HO770 := aM (Kd.R_lower (Kd.R_new' ho64 (Kd.R_lt (qR HO_4.out))) (keep_size (w := w) (g := g) (row := none) (kB HK.out))); replace HO_4 := aM (Kd.R_elder' (qR HO_4.out) (Kd.R_base ho64) hb); replace BK736 := bB BK736 hb; replace BK747 := bB BK747 hb; replace HK := aM (KeepBut.trans (kB HK.out) (KeepBut.of_below hb g none) (.inl rfl)); replace HB := aM (below_step (wS85 HB.out) hb); replace HI0 := aM (IsS85.below (iS85 HI0.out) hb); clear hb ho64; obtain ⟨Ao65, co65, rfl⟩ := sL HO770) | ((with_reducible refine gate_callee (f := 98) rfl ?_); refine gL (some 54) Try.func98 #[.pointer (some ⟨g, 0, none⟩), .slice Ao65 y768.length co65] ?_; (with_reducible refine (spec_reader_one.calls k1 g s0_0 t757 _ _ y768 t771 t772 w0 _ ?side1 ?side2 ?side3 ?side4 ?side5 A55.out).mono ?_); (case side1 => exact iS85 HI0.out); (case side2 => exact wS85 HB.out); (case side3 => exact qC (Kd.R_reads' HO770.out).2.2); (case side4 => exact (Kd.R_reads' HO770.out).2.1); (case side5 => exact far_slice (IsS85.own_ne HI0.out HO770.out (by decide))); rintro e w66 ⟨rfl, hi, hb, hk⟩; refine ⟨_, rfl, ?_⟩; replace HO_4 := aM (Kd.R_mono (Kd.R_keep (IsS85.apart (show IsS85 w0 _ g s0_0 t757 from iS85 HI0.out) (qR HO_4.out) (by decide)) hk (fun _ h => h.2)) (fun _ h => h.1)); replace BK736 := bK hk BK736 NB736_0; replace BK747 := bK hk BK747 NB747_0; replace HO770 := aM (Kd.R_mono (Kd.R_keep (IsS85.apart (show IsS85 w0 _ g s0_0 t757 from iS85 HI0.out) (qR HO770.out) (by decide)) hk (fun _ h => h.2)) (fun _ h => h.1)); replace HK := aM (KeepBut.trans (kB HK.out) hk (.inl rfl)); replace HB := aM (hb); replace HI0 := aM (hi); clear hb hk hi; have p57 : 0 ≤ (0 : Int) := (by omega); have q57 : (0 : Int) < ((x4_1.length : Int) : Int) := oD; have qi57 : (0 < x4_1.length) = True := eq_true (by omega); obtain ⟨go57, co57, eo57, gb57, gl57, cl57, HG57⟩ := Kd.R_form HO_4.out (by omega); (first | cases eo57 | (injection eo57 with ea_ en_ ec_; (first | subst ea_ | (injection ea_ with ea_; subst ea_)); subst ec_; clear en_)); have GB57 := aM gb57; have GG57 := aM HG57; clear gb57 gl57 HG57; obtain ⟨hx57_0, hf57_0⟩ := Kd.R_celln 0 HO_4.out (0 : Int) p57 q57; (try rw [show ((0 : Int)).toNat = 0 from rfl] at hx57_0); (try simp only [Nat.reduceMul, Nat.zero_mul, Nat.zero_add, Nat.reduceAdd] at hx57_0); (try rw [show ((0 : Int)).toNat = 0 from rfl] at hf57_0); (try simp only [Nat.reduceMul, Nat.zero_mul, Nat.zero_add, Nat.reduceAdd] at hf57_0); replace p57 := eq_true p57; replace q57 := eq_true q57; have n_ := aM (Kd.R_mono (ok' := (fun k_ => some k_ ≠ (.slice Ao65 y768.length co65 : Value).ownBlock)) HO_4.out (fun k_ hk => hk.2)); clear HO_4; have HO_4 := n_; clear n_; obtain ⟨hy67_, hz67_⟩ := Kd.R_celln 0 HO_4.out (0 : Int) (by omega) oD; (try simp only [Int.reduceToNat, Int.toNat_zero, Int.toNat_ofNat, Nat.reduceMul, Nat.zero_mul, Nat.zero_add] at hy67_ hz67_); (try rw [show ((0 : Int)).toNat = 0 from rfl] at hy67_); (try rw [show ((0 : Int)).toNat = 0 from rfl] at hz67_); have HP67 := Kd.R_putg HO_4.out (0 : Int) t771) | ((with_reducible refine gate_store (t := 3) (p := 55) rfl ?_); refine store_event (t := 3) (p := 55) (v := ?vo_w68) (w1 := (w66.setCell ⟨go57, (0 : Int).toNat, none⟩ (.int .i64 t771))) ?hg ?ho ?hn ?hr ?_; (case ho => rfl); (case hg => rfl); (case hn => rfl); (case hr => first | (go_simp; done) | (go_simp; rfl)); intro w68 hw; have hg : w66.grownBy w68 (some go57) := (by rw [hw]; exact HP67.2); have hp_ : Kd.R (Kd.int .i64) 3 w68 w.heap.size (fun k_ => some k_ ≠ (.slice Ao65 y768.length co65 : Value).ownBlock) (.slice (some ⟨go57, 0, none⟩) x4_1.length co58) y773 := (by rw [hw, Ny773.out]; exact HP67.1); clear HP67; replace BK736 := gB BK736 hg (Kd.R_ne HO_4.out BK736.out (by decide)); replace BK747 := gB BK747 hg (Kd.R_ne HO_4.out BK747.out (by decide)); replace HI0 := aM (IsS85.grown (iS85 HI0.out) hg (IsS85.own_ne HI0.out HO_4.out (by decide))); replace HO770 := aM (Kd.R_after (v := (.slice (some ⟨go57, 0, none⟩) x4_1.length co58)) (v1 := (.slice (some ⟨go57, 0, none⟩) x4_1.length co58)) (ok := (fun _ => True)) (qR HO770.out) hg (.inl rfl)); replace HB := aM ((by rw [hw]; exact below_set (HB.out) (Nat.le_trans HL.out GB57.out) : Below w0.heap.size w0 w68)); replace HK := aM (KeepBut.trans (kB HK.out) (KeepBut.of_grown hg g) (Kd.R_base2 HO_4.out)); replace HO_4 := aM (hp_); clear hg hw hp_; obtain ⟨⟨hcz69_0, hcz69_1, hcz69_2⟩, hfz69_0, hfz69_1, hfz69_2⟩ := cf3 BK747; have hnb70 := NB736_0.out; have hnc70 := NB0_736.out; obtain ⟨⟨hcz71_0, hcz71_1, hcz71_2⟩, hfz71_0, hfz71_1, hfz71_2⟩ := cf3 BK736))
   refine bodyPost_ret (results_cell_row rfl _ _ gb736 49 #[.int .i64 t740, .slice (some ⟨go57, 0, none⟩) x4_1.length co58, .int .i64 t745] (0, 0) _ rfl (by exact bP BK736.out) Try.underlying49 rfl (by kernel_rfl)) rfl ?_
   exact ⟨_, qX, by refine qR ?_; exact Kd.R_mono (rT HO_4 BK736) (fun _ hk => trivial), iS85 HI0.out, wS85 HB.out, kB HK.out⟩
def spec_DrawConvolveImage.f (k : Nat) (l0 : List Int) : Option (Int × Int × Int × List Int × Int × List Int × Int) := (spec_newReader.f l0).bind fun bt776 => ((spec_anyImage.f k bt776.1 bt776.2).bind fun bt779 => ((spec_anyKernel.f k bt776.1 bt779.2.2.2.2).bind fun bt787 => (some (bt779.1, bt779.2.1, bt779.2.2.1, bt779.2.2.2.1, bt787.1, bt787.2.1, bt787.2.2.1))))
theorem spec_DrawConvolveImage.mono : ∀ a0 k, LeO (spec_DrawConvolveImage.f k a0) (spec_DrawConvolveImage.f (k + 1) a0) := by
 intro a0 k
 unfold spec_DrawConvolveImage.f
 repeat' first | (with_reducible first | exact spec_anyImage.mono _ _ _ | exact spec_anyKernel.mono _ _ _ | exact lR | exact lN | refine lI ?_ ?_ | refine lB ?_ fun _ => ?_) | exact spec_anyImage.mono _ _ _ | exact spec_anyKernel.mono _ _ _ | exact lN | refine lI ?_ ?_ | refine lB ?_ fun _ => ?_
set_option maxHeartbeats 8000000 in
set_option maxRecDepth 100000 in
theorem spec_DrawConvolveImage.calls (k : Nat) (A0 : Option Addr) (c0 : Nat) (l0 : List Int) (r1 : Int) (r2 : Int) (r3 : Int) (r4 : List Int) (r5 : Int) (r6 : List Int) (r7 : Int) (w : World) (hr0 : Kd.C (Kd.int .u8) w A0 l0.length l0) (hc0 : l0.length ≤ c0) (h : spec_DrawConvolveImage.f k l0 = some (r1, r2, r3, r4, r5, r6, r7)) :
  Calls Try.prog 38 #[.slice A0 l0.length c0] w fun e w' => ∃ v3_ v5_ : Value, e = .returned (.tuple #[.agg #[.int .i64 r1, .int .i64 r2, .int .i64 r3, v3_], .agg #[.int .i64 r5, v5_, .int .i64 r7]]) ∧ Kd.Q (Kd.int .i64) 3 w' w.heap.size (fun k_ => some k_ ≠ (v5_ : Value).ownBlock) v3_ r4 ∧ Kd.R (Kd.int .i64) 3 w' w.heap.size (fun k_ => some k_ ≠ (v3_ : Value).ownBlock) v5_ r6 ∧ Below w.heap.size w w' := by
 have hu27 := Try.underlying27
 have hu49 := Try.underlying49
 have HR0 := aM hr0
 have HC0 := aM hc0
 clear hr0 hc0
 have HB := aM (Below.refl w.heap.size w)
 unfold spec_DrawConvolveImage.f at h
 have H := h
 clear h
 replace H := Option.bind_eq_some_iff.mp H
 obtain ⟨⟨t776, t777⟩, A20, H⟩ := H
 replace H : ((spec_anyImage.f k t776 t777).bind fun bt779 => ((spec_anyKernel.f k t776 bt779.2.2.2.2).bind fun bt787 => (some (bt779.1, bt779.2.1, bt779.2.2.1, bt779.2.2.2.1, bt787.1, bt787.2.1, bt787.2.2.1)))) = some (r1, r2, r3, r4, r5, r6, r7) := H
 have A2 := aM A20
 clear A20
 replace H := Option.bind_eq_some_iff.mp H
 obtain ⟨⟨t779, t780, t781, t782, t785⟩, A30, H⟩ := H
 replace H : ((spec_anyKernel.f k t776 t785).bind fun bt787 => (some (t779, t780, t781, t782, bt787.1, bt787.2.1, bt787.2.2.1))) = some (r1, r2, r3, r4, r5, r6, r7) := H
 have A3 := aM A30
 clear A30
 replace H := Option.bind_eq_some_iff.mp H
 obtain ⟨⟨t787, t788, t791, t792⟩, A40, H⟩ := H
 replace H : (some (t779, t780, t781, t782, t787, t788, t791)) = some (r1, r2, r3, r4, r5, r6, r7) := H
 have A4 := aM A40
 clear A40
 simp only [Option.some.injEq, Prod.mk.injEq] at H
 obtain ⟨rfl, rfl, rfl, rfl, rfl, rfl, rfl⟩ := H
 go_enter Try.func38, Try.ntmps38
 try go_wp2_with (first | ((with_reducible refine gate_dst (N := 2) rfl ?_); refine bxE (N := 2) (cs := #[.int .i64 0, .int .i64 0, .int .i64 0, .slice none 0 0]) (t := 27) ?_; intro gb774 hg w5 hbox hb; have BK774 := aM (hbox); have GW774 := gW hg HB; have GE774 := gW hg HB; replace HB := bS HB hb; clear hb hbox hg) | ((with_reducible refine gate_dst (N := 3) rfl ?_); refine bxE (N := 3) (cs := #[.int .i64 0, .slice none 0 0, .int .i64 0]) (t := 49) ?_; intro gb775 hg w6 hbox hb; have BK775 := aM (hbox); have GW775 := gW hg HB; have GE775 := gW hg HB; replace HB := bS HB hb; have NB774_775 := nL hg BK774; have NB775_774 := nG hg BK774; replace BK774 := bB BK774 hb; clear hb hbox hg) | ((with_reducible refine gate_callee (f := 42) rfl ?_); refine gL (some 7) Try.func42 #[.slice A0 l0.length c0] ?_; (with_reducible refine (spec_newReader.calls _ _ l0 t776 t777 w _ ?side1 ?side2 ?side3 A2.out).mono ?_); (case side1 => exact qW HB.out); (case side2 => exact HR0.out); (case side3 => exact HC0.out); rintro e w7 ⟨g778, rfl, hi, hb, hb2⟩; refine ⟨_, rfl, ?_⟩; replace HB := aM (hb); have HI778 := aM (hi); have NB778_774 := aM (IsS85.ne_blk hi (blk_below (g := gb774) (o := .cells #[.int .i64 0, .int .i64 0, .int .i64 0, .slice none 0 0] 27 (0, 0)) (qB BK774.out) hb2) (by decide)); have NB774_778 := aM (Ne.symm (IsS85.ne_blk hi (blk_below (g := gb774) (o := .cells #[.int .i64 0, .int .i64 0, .int .i64 0, .slice none 0 0] 27 (0, 0)) (qB BK774.out) hb2) (by decide))); replace BK774 := bB BK774 hb2; have NB778_775 := aM (IsS85.ne_blk hi (blk_below (g := gb775) (o := .cells #[.int .i64 0, .slice none 0 0, .int .i64 0] 49 (0, 0)) (qB BK775.out) hb2) (by decide)); have NB775_778 := aM (Ne.symm (IsS85.ne_blk hi (blk_below (g := gb775) (o := .cells #[.int .i64 0, .slice none 0 0, .int .i64 0] 49 (0, 0)) (qB BK775.out) hb2) (by decide))); replace BK775 := bB BK775 hb2; clear hb hb2 hi) | ((with_reducible refine gate_callee (f := 44) rfl ?_); refine gL (some 9) Try.func44 #[.pointer (some ⟨g778, 0, none⟩)] ?_; (with_reducible refine (spec_anyImage.calls k g778 t776 t777 t779 t780 t781 t782 t785 w _ ?side1 ?side2 A3.out).mono ?_); (case side1 => exact iS85 HI778.out); (case side2 => exact wS85 HB.out); rintro e w8 ⟨v783, rfl, ho0, hi, hb, hk⟩; refine ⟨_, rfl, ?_⟩; replace BK774 := bK hk BK774 NB774_778; replace BK775 := bK hk BK775 NB775_778; have HO784 := aM (Kd.Q_lower ho0 (below_size (wS85 HB.out))); replace HB := aM (hb); replace HI778 := aM (hi); clear hb hk hi ho0) | ((with_reducible refine gate_dst (N := 5) rfl ?_); refine bxE (N := 5) (cs := #[.int .i64 0, .int .i64 0, .int .i64 0, .slice none 0 0]) (t := 27) ?_; intro gb786 hg w9 hbox hb; replace HO784 := aM (Kd.Q_below (qQ HO784.out) hb); have BK786 := aM (hbox); have GW786 := aM ((by rw [hg]; exact (below_size (wS85 HB.out)) : w.heap.size ≤ gb786)); have GE786 := aM ((by rw [hg]; exact (below_size (wS85 HB.out)) : w.heap.size ≤ gb786)); replace HB := aM (below_step (wS85 HB.out) hb); have NB774_786 := nL hg BK774; have NB786_774 := nG hg BK774; replace BK774 := bB BK774 hb; have NB775_786 := nL hg BK775; have NB786_775 := nG hg BK775; replace BK775 := bB BK775 hb; have NB778_786 := aM ((by rw [hg]; exact Nat.ne_of_lt (IsS85.lt (show IsS85 w _ g778 t776 t785 from iS85 HI778.out)) : g778 ≠ gb786)); have NB786_778 := aM ((by rw [hg]; exact Nat.ne_of_gt (IsS85.lt (show IsS85 w _ g778 t776 t785 from iS85 HI778.out)) : gb786 ≠ g778)); replace HI778 := aM (IsS85.below (iS85 HI778.out) hb); clear hb hbox hg; have hnb10 := NB786_774.out; have hnc10 := NB774_786.out; have hnb11 := NB786_775.out; have hnc11 := NB775_786.out; have hnb12 := NB786_778.out; have hnc12 := NB778_786.out; obtain ⟨⟨hcz13_0, hcz13_1, hcz13_2, hcz13_3⟩, hfz13_0, hfz13_1, hfz13_2, hfz13_3⟩ := cf4 BK786; obtain ⟨Ao14, co14, eo14, _⟩ := Kd.Q_slice HO784.out; subst eo14))
 have n0_ : Aside0 (Kd.Q (Kd.int .i64) 3 ((((w9.setCell ⟨gb786, 0, none⟩ (.int .i64 t779)).setCell ⟨gb786, 1, none⟩ (.int .i64 t780)).setCell ⟨gb786, 2, none⟩ (.int .i64 t781)).setCell ⟨gb786, 3, none⟩ (.slice Ao14 t782.length co14)) w.heap.size (fun _ => True) (.slice Ao14 t782.length co14) t782) := ⟨by (with_reducible repeat (first | apply Kd.Q_alloc | apply Kd.Q_drewN | apply Kd.Q_drew)); exact Kd.Q_mono (qT HO784 BK786) (fun _ hk => trivial)⟩
 have n1_ : Aside0 (((((w9.setCell ⟨gb786, 0, none⟩ (.int .i64 t779)).setCell ⟨gb786, 1, none⟩ (.int .i64 t780)).setCell ⟨gb786, 2, none⟩ (.int .i64 t781)).setCell ⟨gb786, 3, none⟩ (.slice Ao14 t782.length co14)).heap[gb774]? = some (.cells #[.int .i64 0, .int .i64 0, .int .i64 0, .slice none 0 0] 27 (0, 0))) := ⟨by refine qB ?_; refine blk_far ?_ NB774_786.out _; refine qB ?_; refine blk_far ?_ NB774_786.out _; refine qB ?_; refine blk_far ?_ NB774_786.out _; refine qB ?_; refine blk_far ?_ NB774_786.out _; refine qB ?_; exact BK774.out⟩
 have n2_ : Aside0 (((((w9.setCell ⟨gb786, 0, none⟩ (.int .i64 t779)).setCell ⟨gb786, 1, none⟩ (.int .i64 t780)).setCell ⟨gb786, 2, none⟩ (.int .i64 t781)).setCell ⟨gb786, 3, none⟩ (.slice Ao14 t782.length co14)).heap[gb775]? = some (.cells #[.int .i64 0, .slice none 0 0, .int .i64 0] 49 (0, 0))) := ⟨by refine qB ?_; refine blk_far ?_ NB775_786.out _; refine qB ?_; refine blk_far ?_ NB775_786.out _; refine qB ?_; refine blk_far ?_ NB775_786.out _; refine qB ?_; refine blk_far ?_ NB775_786.out _; refine qB ?_; exact BK775.out⟩
 have n3_ : Aside0 (((((w9.setCell ⟨gb786, 0, none⟩ (.int .i64 t779)).setCell ⟨gb786, 1, none⟩ (.int .i64 t780)).setCell ⟨gb786, 2, none⟩ (.int .i64 t781)).setCell ⟨gb786, 3, none⟩ (.slice Ao14 t782.length co14)).heap[gb786]? = some (.cells #[.int .i64 t779, .int .i64 t780, .int .i64 t781, .slice Ao14 t782.length co14] 27 (0, 0))) := ⟨by exact bP BK786.out⟩
 have n4_ : Aside0 (IsS85 w ((((w9.setCell ⟨gb786, 0, none⟩ (.int .i64 t779)).setCell ⟨gb786, 1, none⟩ (.int .i64 t780)).setCell ⟨gb786, 2, none⟩ (.int .i64 t781)).setCell ⟨gb786, 3, none⟩ (.slice Ao14 t782.length co14)) g778 t776 t785) := ⟨iS85 HI778.out⟩
 have n5_ : Aside0 (Below w.heap.size w ((((w9.setCell ⟨gb786, 0, none⟩ (.int .i64 t779)).setCell ⟨gb786, 1, none⟩ (.int .i64 t780)).setCell ⟨gb786, 2, none⟩ (.int .i64 t781)).setCell ⟨gb786, 3, none⟩ (.slice Ao14 t782.length co14))) := ⟨wS85 HB.out⟩
 (try clear HO784)
 (try clear BK774)
 (try clear BK775)
 (try clear BK786)
 (try clear HI778)
 (try clear HB)
 generalize ((((w9.setCell ⟨gb786, 0, none⟩ (.int .i64 t779)).setCell ⟨gb786, 1, none⟩ (.int .i64 t780)).setCell ⟨gb786, 2, none⟩ (.int .i64 t781)).setCell ⟨gb786, 3, none⟩ (.slice Ao14 t782.length co14)) = w15 at n0_ n1_ n2_ n3_ n4_ n5_ ⊢
 have HO784 := n0_
 have BK774 := n1_
 have BK775 := n2_
 have BK786 := n3_
 have HI778 := n4_
 have HB := n5_
 clear n0_ n1_ n2_ n3_ n4_ n5_
 replace HO784 := aM (Kd.Q_drew HO784.out)
 replace BK774 := aM (blk_drew BK774.out)
 replace BK775 := aM (blk_drew BK775.out)
 replace BK786 := aM (blk_drew BK786.out)
 replace HI778 := aM (IsS85.drew HI778.out)
 replace HB := aM (below_drew1 HB.out)
 refine start_ (n := 5) (S := fun w' => w'.cell? ⟨gb786, 0, none⟩ = some (.int .i64 t779) ∧ w'.cell? ⟨gb786, 1, none⟩ = some (.int .i64 t780) ∧ w'.cell? ⟨gb786, 2, none⟩ = some (.int .i64 t781) ∧ w'.cell? ⟨gb786, 3, none⟩ = some (.slice Ao14 t782.length co14)) (ds := []) (bA 5 0) (by kernel_rfl) rfl rfl ⟨(blk_cell BK786.out 0).trans rfl, (blk_cell BK786.out 1).trans rfl, (blk_cell BK786.out 2).trans rfl, (blk_cell BK786.out 3).trans rfl⟩ (fun hHeld => ?_)
 generalize w15.drew = w16 at HO784 BK774 BK775 BK786 HI778 HB hHeld ⊢
 refine pure_ (i := 1) (N := some 11) (v := ?_) (a' := ?_) (bA 5 2) rfl rfl (by kernel_rfl) (fun _ _ _ h => h) (Or.inl ⟨by rfl, ?_⟩) ?_ ?_
 rotate_left
 ·intro w'
  go_simp
  with_reducible rfl
 rotate_left
 ·refine pZ ?_
  rfl
 refine take_ (i := 0) (N := some 10) (v := ?_) (a' := ?_) (bA 5 3) rfl rfl (by kernel_rfl) (fun _ _ _ h => h) (Or.inl ⟨by rfl, ?_⟩) hHeld ?_ ?_
 rotate_left
 ·rintro w' ⟨s0, s1, s2, s3⟩
  go_simp
  with_reducible rfl
 rotate_left
 ·refine pZ ?_
  rfl
 refine one_ (i := 2) (N := some 12) (bA 5 7) rfl rfl (by kernel_rfl) (by decide) (fun K hK => ?_)
 refine goes_ Try.func83 (by kernel_rfl) rfl #[.pointer (some ⟨g778, 0, none⟩)] (by rfl) rfl rfl qM ?_
 with_reducible refine (spec_anyKernel.calls k g778 t776 t785 t787 t788 t791 t792 w _ ?side1 ?side2 A4.out).mono ?_
 (case side1 => exact iS85 HI778.out)
 (case side2 => exact wS85 HB.out)
 rintro e w17 ⟨v789, rfl, ho0, hi, hb, hk⟩
 refine ⟨_, rfl, ?_⟩
 replace BK774 := bK hk BK774 NB774_778
 replace BK775 := bK hk BK775 NB775_778
 replace BK786 := bK hk BK786 NB786_778
 have HO790 := aM (Kd.R_lower (Kd.R_new' ho0 (Kd.Q_lt (qQ HO784.out))) (below_size (wS85 HB.out)))
 replace HO784 := aM (Kd.Q_mono (Kd.Q_told (Kd.Q_oldK (IsS85.apartQ (show IsS85 w _ g778 t776 t785 from iS85 HI778.out) (qQ HO784.out) (by decide)) hk) (Kd.R_base ho0)) (fun _ h_ => h_.1))
 replace HB := aM (hb)
 replace HI778 := aM (hi)
 (try clear hb)
 (try clear hb2)
 (try clear hk)
 (try clear hi)
 (try clear ho0)
 obtain ⟨Ao23, co23, eo23⟩ := Kd.R_slice HO790.out
 (first | subst eo23 | (injection eo23 with f1_ f2_ f3_; have f4_ := f1_.symm; have f5_ := f3_.symm; clear f1_ f2_ f3_; subst f4_; subst f5_))
 refine hK.out _ _ ⟨(blk_cell BK786.out 0).trans rfl, (blk_cell BK786.out 1).trans rfl, (blk_cell BK786.out 2).trans rfl, (blk_cell BK786.out 3).trans rfl⟩ (fun hHeld => ?_)
 clear hK K
 refine norm_ (a' := ?_) ?_ ?_
 rotate_left
 ·show Act.put _ (some 12) _ = _
  refine pZ ?_
  rfl
 refine one_ (i := 3) (N := none) (bA 5 15) rfl rfl (by kernel_rfl) (by decide) (fun K hK => ?_)
 have hs18 : w17.cell? ⟨gb774, 0, none⟩ = some (.int .i64 0) := (blk_cell BK774.out 0).trans rfl
 have hfs18 := blk_frozen BK774.out 0
 have hns18_1 := NB775_774.out
 have hns18_2 := NB786_774.out
 have hms18_1 := NB774_775.out
 have hms18_2 := NB774_786.out
 have hs19 : w17.cell? ⟨gb774, 1, none⟩ = some (.int .i64 0) := (blk_cell BK774.out 1).trans rfl
 have hfs19 := blk_frozen BK774.out 1
 have hns19_1 := NB775_774.out
 have hns19_2 := NB786_774.out
 have hms19_1 := NB774_775.out
 have hms19_2 := NB774_786.out
 have hs20 : w17.cell? ⟨gb774, 2, none⟩ = some (.int .i64 0) := (blk_cell BK774.out 2).trans rfl
 have hfs20 := blk_frozen BK774.out 2
 have hns20_1 := NB775_774.out
 have hns20_2 := NB786_774.out
 have hms20_1 := NB774_775.out
 have hms20_2 := NB774_786.out
 have hs21 : w17.cell? ⟨gb774, 3, none⟩ = some (.slice none 0 0) := (blk_cell BK774.out 3).trans rfl
 have hfs21 := blk_frozen BK774.out 3
 have hns21_1 := NB775_774.out
 have hns21_2 := NB786_774.out
 have hms21_1 := NB774_775.out
 have hms21_2 := NB774_786.out
 refine skip_ (w1 := ?_) (by rfl) rfl ?_ ?_
 rotate_left
 ·go_simp
  rfl
 refine hK.out _ _ ⟨((cell_far (p := ⟨gb774, _, none⟩) NB786_774.out _).trans (((cell_far (p := ⟨gb774, _, none⟩) NB786_774.out _).trans (((cell_far (p := ⟨gb774, _, none⟩) NB786_774.out _).trans (((cell_far (p := ⟨gb774, _, none⟩) NB786_774.out _).trans (hHeld.1)))))))), ((cell_far (p := ⟨gb774, _, none⟩) NB786_774.out _).trans (((cell_far (p := ⟨gb774, _, none⟩) NB786_774.out _).trans (((cell_far (p := ⟨gb774, _, none⟩) NB786_774.out _).trans (((cell_far (p := ⟨gb774, _, none⟩) NB786_774.out _).trans (hHeld.2.1)))))))), ((cell_far (p := ⟨gb774, _, none⟩) NB786_774.out _).trans (((cell_far (p := ⟨gb774, _, none⟩) NB786_774.out _).trans (((cell_far (p := ⟨gb774, _, none⟩) NB786_774.out _).trans (((cell_far (p := ⟨gb774, _, none⟩) NB786_774.out _).trans (hHeld.2.2.1)))))))), ((cell_far (p := ⟨gb774, _, none⟩) NB786_774.out _).trans (((cell_far (p := ⟨gb774, _, none⟩) NB786_774.out _).trans (((cell_far (p := ⟨gb774, _, none⟩) NB786_774.out _).trans (((cell_far (p := ⟨gb774, _, none⟩) NB786_774.out _).trans (hHeld.2.2.2))))))))⟩ (fun hHeld => ?_)
 clear hK K
 refine one_ (i := 4) (N := none) (bA 5 31) rfl rfl (by kernel_rfl) (by decide) (fun K hK => ?_)
 have hs22 : w17.cell? ⟨gb775, 0, none⟩ = some (.int .i64 0) := (blk_cell BK775.out 0).trans rfl
 have hfs22 := blk_frozen BK775.out 0
 have hns22_0 := NB774_775.out
 have hns22_2 := NB786_775.out
 have hms22_0 := NB775_774.out
 have hms22_2 := NB775_786.out
 have hs24 : w17.cell? ⟨gb775, 1, none⟩ = some (.slice none 0 0) := (blk_cell BK775.out 1).trans rfl
 have hfs24 := blk_frozen BK775.out 1
 have hns24_0 := NB774_775.out
 have hns24_2 := NB786_775.out
 have hms24_0 := NB775_774.out
 have hms24_2 := NB775_786.out
 have hs25 : w17.cell? ⟨gb775, 2, none⟩ = some (.int .i64 0) := (blk_cell BK775.out 2).trans rfl
 have hfs25 := blk_frozen BK775.out 2
 have hns25_0 := NB774_775.out
 have hns25_2 := NB786_775.out
 have hms25_0 := NB775_774.out
 have hms25_2 := NB775_786.out
 refine skip_ (w1 := ?_) (by rfl) rfl ?_ ?_
 rotate_left
 ·go_simp
  rfl
 refine hK.out _ _ ⟨((cell_far (p := ⟨gb775, _, none⟩) NB786_775.out _).trans (((cell_far (p := ⟨gb775, _, none⟩) NB786_775.out _).trans (((cell_far (p := ⟨gb775, _, none⟩) NB786_775.out _).trans (hHeld.1)))))), ((cell_far (p := ⟨gb775, _, none⟩) NB786_775.out _).trans (((cell_far (p := ⟨gb775, _, none⟩) NB786_775.out _).trans (((cell_far (p := ⟨gb775, _, none⟩) NB786_775.out _).trans (hHeld.2.1)))))), ((cell_far (p := ⟨gb775, _, none⟩) NB786_775.out _).trans (((cell_far (p := ⟨gb775, _, none⟩) NB786_775.out _).trans (((cell_far (p := ⟨gb775, _, none⟩) NB786_775.out _).trans (hHeld.2.2.1)))))), ((cell_far (p := ⟨gb775, _, none⟩) NB786_775.out _).trans (((cell_far (p := ⟨gb775, _, none⟩) NB786_775.out _).trans (((cell_far (p := ⟨gb775, _, none⟩) NB786_775.out _).trans (hHeld.2.2.2))))))⟩ (fun hHeld => ?_)
 clear hK K
 refine done_ (by kernel_rfl) ?_
 try go_wp2
 refine bodyPost_ret (results_cc rfl _ _ gb774 gb775 27 49 #[.int .i64 t779, .int .i64 t780, .int .i64 t781, .slice Ao14 t782.length co14] #[.int .i64 t787, .slice Ao23 t788.length co23, .int .i64 t791] (0, 0) (0, 0) _ _ rfl (by refine qB ?_; refine blk_far ?_ NB774_775.out _; refine qB ?_; refine blk_far ?_ NB774_775.out _; refine qB ?_; refine blk_far ?_ NB774_775.out _; exact bP BK774.out) Try.underlying27 rfl (by kernel_rfl) rfl (by refine qB ?_; refine blk_put (cs := #[.int .i64 t787, .slice Ao23 t788.length co23, .int .i64 0]) ?_ 2 _ rfl; refine qB ?_; refine blk_put (cs := #[.int .i64 t787, .slice none 0 0, .int .i64 0]) ?_ 1 _ rfl; refine qB ?_; refine blk_put (cs := #[.int .i64 0, .slice none 0 0, .int .i64 0]) ?_ 0 _ rfl; refine qB ?_; refine blk_far ?_ NB775_774.out _; refine qB ?_; refine blk_far ?_ NB775_774.out _; refine qB ?_; refine blk_far ?_ NB775_774.out _; refine qB ?_; refine blk_far ?_ NB775_774.out _; refine qB ?_; exact BK775.out) Try.underlying49 rfl (by kernel_rfl)) rfl ?_
 exact ⟨_, _, qX, by (with_reducible repeat (first | apply Kd.Q_alloc | apply Kd.Q_drewN | apply Kd.Q_drew)); exact Kd.Q_mono (Kd.Q_far (p := ⟨gb775, 2, none⟩) (Kd.Q_far (p := ⟨gb775, 1, none⟩) (Kd.Q_far (p := ⟨gb775, 0, none⟩) (Kd.Q_far (p := ⟨gb774, 3, none⟩) (Kd.Q_far (p := ⟨gb774, 2, none⟩) (Kd.Q_far (p := ⟨gb774, 1, none⟩) (Kd.Q_far (p := ⟨gb774, 0, none⟩) (Kd.Q_types (Kd.Q_types HO784.out BK774.out (by decide)) BK775.out (by decide)) (fun _ hk => hk.1.2) (.int .i64 t779)) (fun _ hk => hk.1.2) (.int .i64 t780)) (fun _ hk => hk.1.2) (.int .i64 t781)) (fun _ hk => hk.1.2) (.slice Ao14 t782.length co14)) (fun _ hk => hk.2) (.int .i64 t787)) (fun _ hk => hk.2) (.slice Ao23 t788.length co23)) (fun _ hk => hk.2) (.int .i64 t791)) (fun _ hk => hk.1.1.2), by refine qR ?_; exact Kd.R_mono (Kd.R_far (p := ⟨gb775, 2, none⟩) (Kd.R_far (p := ⟨gb775, 1, none⟩) (Kd.R_far (p := ⟨gb775, 0, none⟩) (Kd.R_far (p := ⟨gb774, 3, none⟩) (Kd.R_far (p := ⟨gb774, 2, none⟩) (Kd.R_far (p := ⟨gb774, 1, none⟩) (Kd.R_far (p := ⟨gb774, 0, none⟩) (Kd.R_types (Kd.R_types HO790.out BK774.out (by decide)) BK775.out (by decide)) (fun _ hk => hk.1.2) (.int .i64 t779)) (fun _ hk => hk.1.2) (.int .i64 t780)) (fun _ hk => hk.1.2) (.int .i64 t781)) (fun _ hk => hk.1.2) (.slice Ao14 t782.length co14)) (fun _ hk => hk.2) (.int .i64 t787)) (fun _ hk => hk.2) (.slice Ao23 t788.length co23)) (fun _ hk => hk.2) (.int .i64 t791)) (fun _ hk => hk.1.1.2), wS85 HB.out⟩
def laws_equalImage.f (k : Nat) (a0_0 : Int) (a0_1 : Int) (a0_2 : Int) (l0_3 : List Int) (a1_0 : Int) (a1_1 : Int) (a1_2 : Int) (l1_3 : List Int) : Option (Bool) := if a0_0 = a1_0 then (if a0_1 = a1_1 then (if a0_2 = a1_2 then ((laws_equalInts.f k l0_3 l1_3).bind fun t295 => (some t295)) else (some false)) else (some false)) else (some false)
theorem laws_equalImage.mono : ∀ a0 a1 a2 a3 a4 a5 a6 a7 k, LeO (laws_equalImage.f k a0 a1 a2 a3 a4 a5 a6 a7) (laws_equalImage.f (k + 1) a0 a1 a2 a3 a4 a5 a6 a7) := by
 intro a0 a1 a2 a3 a4 a5 a6 a7 k
 unfold laws_equalImage.f
 repeat' first | (with_reducible first | exact laws_equalInts.mono _ _ _ | exact lR | exact lN | refine lI ?_ ?_ | refine lB ?_ fun _ => ?_) | exact laws_equalInts.mono _ _ _ | exact lN | refine lI ?_ ?_ | refine lB ?_ fun _ => ?_
set_option maxHeartbeats 8000000 in
set_option maxRecDepth 100000 in
theorem laws_equalImage.calls (k : Nat) (a0_0 : Int) (a0_1 : Int) (a0_2 : Int) (A0_3 : Option Addr) (c0_3 : Nat) (l0_3 : List Int) (a1_0 : Int) (a1_1 : Int) (a1_2 : Int) (A1_3 : Option Addr) (c1_3 : Nat) (l1_3 : List Int) (r : Bool) (w : World) (hr0_3 : Kd.C (Kd.int .i64) w A0_3 l0_3.length l0_3) (hc0_3 : l0_3.length ≤ c0_3) (hr1_3 : Kd.C (Kd.int .i64) w A1_3 l1_3.length l1_3) (hc1_3 : l1_3.length ≤ c1_3) (h : laws_equalImage.f k a0_0 a0_1 a0_2 l0_3 a1_0 a1_1 a1_2 l1_3 = some r) :
  Calls Try.prog 15 #[.agg #[.int .i64 a0_0, .int .i64 a0_1, .int .i64 a0_2, .slice A0_3 l0_3.length c0_3], .agg #[.int .i64 a1_0, .int .i64 a1_1, .int .i64 a1_2, .slice A1_3 l1_3.length c1_3]] w fun e w' => e = .returned (.bool r) ∧ Below w.heap.size w w' := by
 have hu27 := Try.underlying27
 have HR0_3 := aM hr0_3
 have HC0_3 := aM hc0_3
 clear hr0_3 hc0_3
 have HR1_3 := aM hr1_3
 have HC1_3 := aM hc1_3
 clear hr1_3 hc1_3
 have HB := aM (Below.refl w.heap.size w)
 unfold laws_equalImage.f at h
 have H := h
 clear h
 by_cases c3 : a0_0 = a1_0
 rotate_left
 ·rw [if_neg c3] at H
  have c3b0 : (a0_0 == a1_0) = false := beq_eq_false_iff_ne.mpr c3
  have c3b1 : (a0_0 != a1_0) = true := bne_iff_ne.mpr c3
  obtain rfl := Option.some.inj H
  go_enter Try.func15, Try.ntmps15
  go_wp2_with (first | ((with_reducible refine gate_dst (N := 2) rfl ?_); refine bxE (N := 2) (cs := #[.int .i64 a0_0, .int .i64 a0_1, .int .i64 a0_2, .slice A0_3 l0_3.length c0_3]) (t := 27) ?_; intro gb293 hg w22 hbox hb; have BK293 := aM (hbox); have GW293 := gW hg HB; have GE293 := gW hg HB; replace HB := bS HB hb; clear hb hbox hg) | ((with_reducible refine gate_dst (N := 3) rfl ?_); refine bxE (N := 3) (cs := #[.int .i64 a1_0, .int .i64 a1_1, .int .i64 a1_2, .slice A1_3 l1_3.length c1_3]) (t := 27) ?_; intro gb294 hg w23 hbox hb; have BK294 := aM (hbox); have GW294 := gW hg HB; have GE294 := gW hg HB; replace HB := bS HB hb; have NB293_294 := nL hg BK293; have NB294_293 := nG hg BK293; replace BK293 := bB BK293 hb; clear hb hbox hg; have hnb24 := NB293_294.out; have hnc24 := NB294_293.out; obtain ⟨⟨hcz25_0, hcz25_1, hcz25_2, hcz25_3⟩, hfz25_0, hfz25_1, hfz25_2, hfz25_3⟩ := cf4 BK293; obtain ⟨⟨hcz26_0, hcz26_1, hcz26_2, hcz26_3⟩, hfz26_0, hfz26_1, hfz26_2, hfz26_3⟩ := cf4 BK294))
  go_ret
  exact ⟨qX, by exact qW HB.out⟩
 rw [if_pos c3] at H
 have c3b0 : (a0_0 == a1_0) = true := beq_iff_eq.mpr c3
 have c3b1 : (a0_0 != a1_0) = false := bne_eq_false_iff_eq.mpr c3
 clear c3
 by_cases c4 : a0_1 = a1_1
 rotate_left
 ·rw [if_neg c4] at H
  have c4b0 : (a0_1 == a1_1) = false := beq_eq_false_iff_ne.mpr c4
  have c4b1 : (a0_1 != a1_1) = true := bne_iff_ne.mpr c4
  obtain rfl := Option.some.inj H
  go_enter Try.func15, Try.ntmps15
  go_wp2_with (first | ((with_reducible refine gate_dst (N := 2) rfl ?_); refine bxE (N := 2) (cs := #[.int .i64 a0_0, .int .i64 a0_1, .int .i64 a0_2, .slice A0_3 l0_3.length c0_3]) (t := 27) ?_; intro gb293 hg w17 hbox hb; have BK293 := aM (hbox); have GW293 := gW hg HB; have GE293 := gW hg HB; replace HB := bS HB hb; clear hb hbox hg) | ((with_reducible refine gate_dst (N := 3) rfl ?_); refine bxE (N := 3) (cs := #[.int .i64 a1_0, .int .i64 a1_1, .int .i64 a1_2, .slice A1_3 l1_3.length c1_3]) (t := 27) ?_; intro gb294 hg w18 hbox hb; have BK294 := aM (hbox); have GW294 := gW hg HB; have GE294 := gW hg HB; replace HB := bS HB hb; have NB293_294 := nL hg BK293; have NB294_293 := nG hg BK293; replace BK293 := bB BK293 hb; clear hb hbox hg; have hnb19 := NB293_294.out; have hnc19 := NB294_293.out; obtain ⟨⟨hcz20_0, hcz20_1, hcz20_2, hcz20_3⟩, hfz20_0, hfz20_1, hfz20_2, hfz20_3⟩ := cf4 BK293; obtain ⟨⟨hcz21_0, hcz21_1, hcz21_2, hcz21_3⟩, hfz21_0, hfz21_1, hfz21_2, hfz21_3⟩ := cf4 BK294))
  go_ret
  exact ⟨qX, by exact qW HB.out⟩
 rw [if_pos c4] at H
 have c4b0 : (a0_1 == a1_1) = true := beq_iff_eq.mpr c4
 have c4b1 : (a0_1 != a1_1) = false := bne_eq_false_iff_eq.mpr c4
 clear c4
 by_cases c5 : a0_2 = a1_2
 rotate_left
 ·rw [if_neg c5] at H
  have c5b0 : (a0_2 == a1_2) = false := beq_eq_false_iff_ne.mpr c5
  have c5b1 : (a0_2 != a1_2) = true := bne_iff_ne.mpr c5
  obtain rfl := Option.some.inj H
  go_enter Try.func15, Try.ntmps15
  go_wp2_with (first | ((with_reducible refine gate_dst (N := 2) rfl ?_); refine bxE (N := 2) (cs := #[.int .i64 a0_0, .int .i64 a0_1, .int .i64 a0_2, .slice A0_3 l0_3.length c0_3]) (t := 27) ?_; intro gb293 hg w12 hbox hb; have BK293 := aM (hbox); have GW293 := gW hg HB; have GE293 := gW hg HB; replace HB := bS HB hb; clear hb hbox hg) | ((with_reducible refine gate_dst (N := 3) rfl ?_); refine bxE (N := 3) (cs := #[.int .i64 a1_0, .int .i64 a1_1, .int .i64 a1_2, .slice A1_3 l1_3.length c1_3]) (t := 27) ?_; intro gb294 hg w13 hbox hb; have BK294 := aM (hbox); have GW294 := gW hg HB; have GE294 := gW hg HB; replace HB := bS HB hb; have NB293_294 := nL hg BK293; have NB294_293 := nG hg BK293; replace BK293 := bB BK293 hb; clear hb hbox hg; have hnb14 := NB293_294.out; have hnc14 := NB294_293.out; obtain ⟨⟨hcz15_0, hcz15_1, hcz15_2, hcz15_3⟩, hfz15_0, hfz15_1, hfz15_2, hfz15_3⟩ := cf4 BK293; obtain ⟨⟨hcz16_0, hcz16_1, hcz16_2, hcz16_3⟩, hfz16_0, hfz16_1, hfz16_2, hfz16_3⟩ := cf4 BK294))
  go_ret
  exact ⟨qX, by exact qW HB.out⟩
 rw [if_pos c5] at H
 have c5b0 : (a0_2 == a1_2) = true := beq_iff_eq.mpr c5
 have c5b1 : (a0_2 != a1_2) = false := bne_eq_false_iff_eq.mpr c5
 clear c5
 replace H := Option.bind_eq_some_iff.mp H
 obtain ⟨t295, A60, H⟩ := H
 replace H : (some t295) = some r := H
 have A6 := aM A60
 clear A60
 obtain rfl := Option.some.inj H
 go_enter Try.func15, Try.ntmps15
 go_wp2_with (first | ((with_reducible refine gate_dst (N := 2) rfl ?_); refine bxE (N := 2) (cs := #[.int .i64 a0_0, .int .i64 a0_1, .int .i64 a0_2, .slice A0_3 l0_3.length c0_3]) (t := 27) ?_; intro gb293 hg w7 hbox hb; have BK293 := aM (hbox); have GW293 := gW hg HB; have GE293 := gW hg HB; replace HB := bS HB hb; clear hb hbox hg) | ((with_reducible refine gate_dst (N := 3) rfl ?_); refine bxE (N := 3) (cs := #[.int .i64 a1_0, .int .i64 a1_1, .int .i64 a1_2, .slice A1_3 l1_3.length c1_3]) (t := 27) ?_; intro gb294 hg w8 hbox hb; have BK294 := aM (hbox); have GW294 := gW hg HB; have GE294 := gW hg HB; replace HB := bS HB hb; have NB293_294 := nL hg BK293; have NB294_293 := nG hg BK293; replace BK293 := bB BK293 hb; clear hb hbox hg; have hnb9 := NB293_294.out; have hnc9 := NB294_293.out; obtain ⟨⟨hcz10_0, hcz10_1, hcz10_2, hcz10_3⟩, hfz10_0, hfz10_1, hfz10_2, hfz10_3⟩ := cf4 BK293; obtain ⟨⟨hcz11_0, hcz11_1, hcz11_2, hcz11_3⟩, hfz11_0, hfz11_1, hfz11_2, hfz11_3⟩ := cf4 BK294) | (go_at_call 54; (with_reducible refine (laws_equalInts.calls k _ _ l0_3 _ _ l1_3 t295 _ ?side1 ?side2 ?side3 ?side4 A6.out).mono ?_); (case side1 => exact qC (Kd.C_below HR0_3.out HB.out)); (case side2 => exact HC0_3.out); (case side3 => exact qC (Kd.C_below HR1_3.out HB.out)); (case side4 => exact HC1_3.out); rintro e w' ⟨rfl, ⟨nd, rfl⟩⟩))
 go_ret
 exact ⟨qX, by exact qW HB.out⟩
end Go.Proofs.Yteeeedmmcdlhjaa.P
