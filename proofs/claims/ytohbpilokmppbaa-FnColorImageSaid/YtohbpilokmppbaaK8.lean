/- Contracts and row, written by a program of this place out of the translation: the call answers true and its argument reads as before, for every input; no condition. -/
import Derived.Test.YtohbpilokmppbaaK0
import Derived.Test.YtohbpilokmppbaaK3
import Derived.Test.YtohbpilokmppbaaK4
import Derived.Test.YtohbpilokmppbaaK5
import Derived.Test.YtohbpilokmppbaaK6
import Derived.Test.YtohbpilokmppbaaK7
namespace Go.Proofs.Ytohbpilokmppbaa.P
open Go.RowKit Go.Proofs.YtohbpilokmppbaaW.PrintWords Go.Proofs.YtohbpilokmppbaaW.PrintLast Go.Proofs.YtohbpilokmppbaaW.PrintMore
attribute [local go_sem] max2_int min2_int max_two min_two max_three min_three max_four min_four   -- for this text's walks alone
set_option linter.unusedVariables false
set_option linter.unusedSimpArgs false
mutual
def spec_DrawColorImage.j0 : Nat → Int → List (List Int) → Bool → Int → Int → Int → List Int → Option (Int × Int × Int × List Int × (List (List Int)) × Int)
 | 0, _, _, _, _, _, _, _ => none
 | k + 1, x6, x7, x26, x590000, x590001, x590002, x590003 => if x26 = true then (spec_DrawColorImage.l0 k x6 x7 0 x590000 x590001 x590002 x590003) else (some (x590000, x590001, x590002, x590003, x7, x6))
def spec_DrawColorImage.l0 : Nat → Int → List (List Int) → Int → Int → Int → Int → List Int → Option (Int × Int × Int × List Int × (List (List Int)) × Int)
 | 0, _, _, _, _, _, _, _ => none
 | k + 1, x6, x7, x9, x590000, x590001, x590002, x590003 => if x9 < (x590003.length : Int) then (if 0 ≤ x9 then (if (x7.length : Int) = 0 then (none) else (spec_DrawColorImage.l0 k x6 x7 (wrap64 (x9 + 1)) x590000 x590001 x590002 (x590003.set (x9 : Int).toNat ((mx (rd x590003 x9) 0) % (x7.length : Int))))) else (none)) else (some (x590000, x590001, x590002, x590003, x7, x6))
end
def spec_DrawColorImage.f (k : Nat) (l0 : List Int) : Option (Int × Int × Int × List Int × (List (List Int)) × Int) := (spec_newReader.f l0).bind fun bt573 => ((spec_anyPlanes.f k bt573.1 bt573.2).bind fun bt576 => ((spec_anyColors.f k bt573.1 bt576.2 bt576.1).bind fun bt578 => ((spec_grayImage.f k bt573.1 bt578.2).bind fun bt582 => (if (bt578.1.length : Int) > 0 then ((spec_reader_pick.f k bt573.1 bt582.2.2.2.2 6).bind fun bt590 => (spec_DrawColorImage.j0 k bt576.1 bt578.1 (decide (bt590.1 > 0)) bt582.1 bt582.2.1 bt582.2.2.1 bt582.2.2.2.1)) else (spec_DrawColorImage.j0 k bt576.1 bt578.1 false bt582.1 bt582.2.1 bt582.2.2.1 bt582.2.2.2.1)))))
theorem spec_DrawColorImage.mono_l : ∀ k, (∀ y0 y1 y2 y3 y4 y5 y6, LeO (spec_DrawColorImage.j0 k y0 y1 y2 y3 y4 y5 y6) (spec_DrawColorImage.j0 (k + 1) y0 y1 y2 y3 y4 y5 y6)) ∧ (∀ y0 y1 y2 y3 y4 y5 y6, LeO (spec_DrawColorImage.l0 k y0 y1 y2 y3 y4 y5 y6) (spec_DrawColorImage.l0 (k + 1) y0 y1 y2 y3 y4 y5 y6))
 | 0 => ⟨fun _ _ _ _ _ _ _ r h => by simp [spec_DrawColorImage.j0] at h, fun _ _ _ _ _ _ _ r h => by simp [spec_DrawColorImage.l0] at h⟩
 | k + 1 => by
  obtain ⟨ih0, ih1⟩ := spec_DrawColorImage.mono_l k
  refine ⟨?_, ?_⟩
  all_goals intros
  all_goals first | unfold spec_DrawColorImage.j0 | unfold spec_DrawColorImage.l0
  all_goals repeat' first | (with_reducible first | exact ih0 _ _ _ _ _ _ _ | exact ih1 _ _ _ _ _ _ _ | exact spec_anyColors.mono _ _ _ _ | exact spec_anyPlanes.mono _ _ _ | exact spec_grayImage.mono _ _ _ | exact spec_reader_pick.mono _ _ _ _ | exact lR | exact lN | refine lI ?_ ?_ | refine lB ?_ fun _ => ?_) | exact ih0 _ _ _ _ _ _ _ | exact ih1 _ _ _ _ _ _ _ | exact spec_anyColors.mono _ _ _ _ | exact spec_anyPlanes.mono _ _ _ | exact spec_grayImage.mono _ _ _ | exact spec_reader_pick.mono _ _ _ _ | exact lN | refine lI ?_ ?_ | refine lB ?_ fun _ => ?_
theorem spec_DrawColorImage.mono : ∀ a0 k, LeO (spec_DrawColorImage.f k a0) (spec_DrawColorImage.f (k + 1) a0) := by
 intro a0 k
 obtain ⟨ih0, ih1⟩ := spec_DrawColorImage.mono_l k
 unfold spec_DrawColorImage.f
 repeat' first | (with_reducible first | exact ih0 _ _ _ _ _ _ _ | exact ih1 _ _ _ _ _ _ _ | exact spec_anyColors.mono _ _ _ _ | exact spec_anyPlanes.mono _ _ _ | exact spec_grayImage.mono _ _ _ | exact spec_reader_pick.mono _ _ _ _ | exact lR | exact lN | refine lI ?_ ?_ | refine lB ?_ fun _ => ?_) | exact ih0 _ _ _ _ _ _ _ | exact ih1 _ _ _ _ _ _ _ | exact spec_anyColors.mono _ _ _ _ | exact spec_anyPlanes.mono _ _ _ | exact spec_grayImage.mono _ _ _ | exact spec_reader_pick.mono _ _ _ _ | exact lN | refine lI ?_ ?_ | refine lB ?_ fun _ => ?_
def spec_DrawColorImage.T9 : Bool × List (List Nat × List Nat) := (true, [([], []), ([0], [0]), ([], []), ([], []), ([3], [3]), ([], []), ([4, 5], [4, 5]), ([6], [6]), ([7], [7]), ([], []), ([9], [9]), ([8, 10], [8, 10]), ([1, 2, 0, 1, 2, 3, 4, 5, 6, 7, 8, 9, 10, 11], [1, 2]), ([12, 11, 0, 1, 2, 3, 4, 5, 6, 7, 8, 9, 10, 11], [11, 12])])
def spec_DrawColorImage.B9 : List Nat := [0, 1, 0, 0, 8, 0, 56, 120, 248, 0, 512, 2040, 4095, 8191]
theorem spec_DrawColorImage.tab9 : rtab .any (opsOf Try.f32 9) = spec_DrawColorImage.T9 := by kernel_rfl
theorem spec_DrawColorImage.bits9 : waitsOk spec_DrawColorImage.T9.2 spec_DrawColorImage.B9 = true := by kernel_rfl
set_option maxHeartbeats 8000000 in
set_option maxRecDepth 100000 in
theorem spec_DrawColorImage.calls (k : Nat) (A0 : Option Addr) (c0 : Nat) (l0 : List Int) (r1 : Int) (r2 : Int) (r3 : Int) (r4 : List Int) (r5 : List (List Int)) (r6 : Int) (w : World) (hr0 : Kd.C (Kd.int .u8) w A0 l0.length l0) (hc0 : l0.length ≤ c0) (h : spec_DrawColorImage.f k l0 = some (r1, r2, r3, r4, r5, r6)) :
  Calls Try.prog 32 #[.slice A0 l0.length c0] w fun e w' => ∃ v3_ v4_ : Value, e = .returned (.tuple #[.agg #[.int .i64 r1, .int .i64 r2, .int .i64 r3, v3_], v4_, .int .i64 r6]) ∧ Kd.Q (Kd.int .i64) 3 w' w.heap.size (fun k_ => (w.heap.size ≤ k_)) v3_ r4 ∧ Kd.N (Kd.slice 3 (Kd.int .i64)) 22 w' w.heap.size (fun k_ => (w.heap.size ≤ k_) ∧ some k_ ≠ (v3_ : Value).ownBlock) v4_ r5 ∧ Below w.heap.size w w' := by
 have hu29 := Try.underlying29
 have HR0 := aM hr0
 have HC0 := aM hc0
 clear hr0 hc0
 have HB := aM (Below.refl w.heap.size w)
 unfold spec_DrawColorImage.f at h
 have H := h
 clear h
 replace H := Option.bind_eq_some_iff.mp H
 obtain ⟨⟨t573, t574⟩, A20, H⟩ := H
 replace H : ((spec_anyPlanes.f k t573 t574).bind fun bt576 => ((spec_anyColors.f k t573 bt576.2 bt576.1).bind fun bt578 => ((spec_grayImage.f k t573 bt578.2).bind fun bt582 => (if (bt578.1.length : Int) > 0 then ((spec_reader_pick.f k t573 bt582.2.2.2.2 6).bind fun bt590 => (spec_DrawColorImage.j0 k bt576.1 bt578.1 (decide (bt590.1 > 0)) bt582.1 bt582.2.1 bt582.2.2.1 bt582.2.2.2.1)) else (spec_DrawColorImage.j0 k bt576.1 bt578.1 false bt582.1 bt582.2.1 bt582.2.2.1 bt582.2.2.2.1))))) = some (r1, r2, r3, r4, r5, r6) := H
 have A2 := aM A20
 clear A20
 replace H := Option.bind_eq_some_iff.mp H
 obtain ⟨⟨t576, t577⟩, A30, H⟩ := H
 replace H : ((spec_anyColors.f k t573 t577 t576).bind fun bt578 => ((spec_grayImage.f k t573 bt578.2).bind fun bt582 => (if (bt578.1.length : Int) > 0 then ((spec_reader_pick.f k t573 bt582.2.2.2.2 6).bind fun bt590 => (spec_DrawColorImage.j0 k t576 bt578.1 (decide (bt590.1 > 0)) bt582.1 bt582.2.1 bt582.2.2.1 bt582.2.2.2.1)) else (spec_DrawColorImage.j0 k t576 bt578.1 false bt582.1 bt582.2.1 bt582.2.2.1 bt582.2.2.2.1)))) = some (r1, r2, r3, r4, r5, r6) := H
 have A3 := aM A30
 clear A30
 replace H := Option.bind_eq_some_iff.mp H
 obtain ⟨⟨t578, t581⟩, A40, H⟩ := H
 replace H : ((spec_grayImage.f k t573 t581).bind fun bt582 => (if (t578.length : Int) > 0 then ((spec_reader_pick.f k t573 bt582.2.2.2.2 6).bind fun bt590 => (spec_DrawColorImage.j0 k t576 t578 (decide (bt590.1 > 0)) bt582.1 bt582.2.1 bt582.2.2.1 bt582.2.2.2.1)) else (spec_DrawColorImage.j0 k t576 t578 false bt582.1 bt582.2.1 bt582.2.2.1 bt582.2.2.2.1))) = some (r1, r2, r3, r4, r5, r6) := H
 have A4 := aM A40
 clear A40
 replace H := Option.bind_eq_some_iff.mp H
 obtain ⟨⟨t582, t583, t584, t585, t588⟩, A50, H⟩ := H
 replace H : (if (t578.length : Int) > 0 then ((spec_reader_pick.f k t573 t588 6).bind fun bt590 => (spec_DrawColorImage.j0 k t576 t578 (decide (bt590.1 > 0)) t582 t583 t584 t585)) else (spec_DrawColorImage.j0 k t576 t578 false t582 t583 t584 t585)) = some (r1, r2, r3, r4, r5, r6) := H
 have A5 := aM A50
 clear A50
 have HC6 := aM H
 clear H
 go_enter Try.func32, Try.ntmps32
 go_upto_region 5 with (first | ((with_reducible refine gate_dst (N := 2) rfl ?_); refine bxE (N := 2) (cs := #[.int .i64 0, .int .i64 0, .int .i64 0, .slice none 0 0]) (t := 29) ?_; intro gb572 hg w7 hbox hb; have BK572 := aM (hbox); have GW572 := gW hg HB; have GE572 := gW hg HB; replace HB := bS HB hb; clear hb hbox hg) | ((with_reducible refine gate_callee (f := 52) rfl ?_); refine gL (some 11) Try.func52 #[.slice A0 l0.length c0] ?_; (with_reducible refine (spec_newReader.calls _ _ l0 t573 t574 w _ ?side1 ?side2 ?side3 A2.out).mono ?_); (case side1 => exact qW HB.out); (case side2 => exact HR0.out); (case side3 => exact HC0.out); rintro e w8 ⟨g575, rfl, hi, hb, hb2⟩; refine ⟨_, rfl, ?_⟩; replace HB := aM (hb); have HI575 := aM (hi); have NB575_572 := aM (IsS83.ne_blk hi (blk_below (g := gb572) (o := .cells #[.int .i64 0, .int .i64 0, .int .i64 0, .slice none 0 0] 29 (0, 0)) (qB BK572.out) hb2) (by decide)); have NB572_575 := aM (Ne.symm (IsS83.ne_blk hi (blk_below (g := gb572) (o := .cells #[.int .i64 0, .int .i64 0, .int .i64 0, .slice none 0 0] 29 (0, 0)) (qB BK572.out) hb2) (by decide))); replace BK572 := bB BK572 hb2; clear hb hb2 hi) | ((with_reducible refine gate_callee (f := 63) rfl ?_); refine gL (some 13) Try.func63 #[.pointer (some ⟨g575, 0, none⟩)] ?_; (with_reducible refine (spec_anyPlanes.calls k g575 t573 t574 t576 t577 w _ ?side1 ?side2 A3.out).mono ?_); (case side1 => exact iS83 HI575.out); (case side2 => exact wS83 HB.out); rintro e w9 ⟨rfl, hi, hb, hk⟩; refine ⟨_, rfl, ?_⟩; replace BK572 := bK hk BK572 NB572_575; replace HB := aM (hb); replace HI575 := aM (hi); clear hb hk hi) | ((with_reducible refine gate_callee (f := 64) rfl ?_); refine gL (some 16) Try.func64 #[.pointer (some ⟨g575, 0, none⟩), .int .i64 t576] ?_; (with_reducible refine (spec_anyColors.calls k g575 t573 t577 t576 t578 t581 w _ ?side1 ?side2 A4.out).mono ?_); (case side1 => exact iS83 HI575.out); (case side2 => exact wS83 HB.out); rintro e w10 ⟨v579, rfl, ho0, hi, hb, hk⟩; refine ⟨_, rfl, ?_⟩; have HO580 := aM (Kd.N_lower (Kd.N_mono (ok' := fun k_ => (w.heap.size ≤ k_) ∧ k_ ≠ gb572 ∧ k_ ≠ g575) ho0 (fun k_ hk_ => ⟨(Nat.le_trans (below_size (wS83 HB.out)) hk_), (Kd.freshB (g := gb572) (o := .cells #[.int .i64 0, .int .i64 0, .int .i64 0, .slice none 0 0] 29 (0, 0)) (qB BK572.out) k_ hk_), (IsS83.fresh (iS83 HI575.out) k_ hk_)⟩)) (below_size (wS83 HB.out))); replace BK572 := bK hk BK572 NB572_575; replace HB := aM (hb); replace HI575 := aM (hi); clear hb hk hi ho0) | ((with_reducible refine gate_callee (f := 65) rfl ?_); refine gL (some 18) Try.func65 #[.pointer (some ⟨g575, 0, none⟩)] ?_; (with_reducible refine (spec_grayImage.calls k g575 t573 t581 t582 t583 t584 t585 t588 w _ ?side1 ?side2 A5.out).mono ?_); (case side1 => exact iS83 HI575.out); (case side2 => exact wS83 HB.out); rintro e w11 ⟨v586, rfl, ho0, hi, hb, hk⟩; refine ⟨_, rfl, ?_⟩; replace BK572 := bK hk BK572 NB572_575; replace HO580 := aM (Kd.N_mono (Kd.N_told (Kd.N_oldK (Kd.N_mono (ok := fun k_ => (((w.heap.size ≤ k_)) ∧ (k_ ≠ gb572 ∧ k_ ≠ g575))) (by (with_reducible repeat (first | apply Kd.N_alloc | apply Kd.N_drewN | apply Kd.N_drew)); exact HO580.out) (fun k_ hk_ => (⟨hk_, hk_.2.2⟩ : _ ∧ k_ ≠ g575))) hk) (Kd.Q_base ho0)) (fun _ h_ => h_.1)); have HO587 := aM (Kd.Q_lower (Kd.Q_newM (M := fun k_ => (w.heap.size ≤ k_)) ho0 (below_size (wS83 HB.out)) (fun k_ h_ => h_)) (below_size (wS83 HB.out))); replace HB := aM (hb); replace HI575 := aM (hi); clear hb hk hi ho0) | ((with_reducible refine gate_dst (N := 8) rfl ?_); refine bxE (N := 8) (cs := #[.int .i64 0, .int .i64 0, .int .i64 0, .slice none 0 0]) (t := 29) ?_; intro gb589 hg w12 hbox hb; replace HO580 := aM (Kd.N_below (Kd.N_elderB (by (with_reducible repeat (first | apply Kd.N_alloc | apply Kd.N_drewN | apply Kd.N_drew)); exact HO580.out) gb589 (Nat.le_of_eq hg.symm)) hb); replace HO587 := aM (Kd.Q_below (qQ HO587.out) hb); have BK589 := aM (hbox); have GW589 := aM ((by rw [hg]; exact (below_size (wS83 HB.out)) : w.heap.size ≤ gb589)); have GE589 := aM ((by rw [hg]; exact (below_size (wS83 HB.out)) : w.heap.size ≤ gb589)); replace HB := aM (below_step (wS83 HB.out) hb); have NB572_589 := nL hg BK572; have NB589_572 := nG hg BK572; replace BK572 := bB BK572 hb; have NB575_589 := aM ((by rw [hg]; exact Nat.ne_of_lt (IsS83.lt (show IsS83 w _ g575 t573 t588 from iS83 HI575.out)) : g575 ≠ gb589)); have NB589_575 := aM ((by rw [hg]; exact Nat.ne_of_gt (IsS83.lt (show IsS83 w _ g575 t573 t588 from iS83 HI575.out)) : gb589 ≠ g575)); replace HI575 := aM (IsS83.below (iS83 HI575.out) hb); clear hb hbox hg; have hnb13 := NB589_572.out; have hnc13 := NB572_589.out; have hnb14 := NB589_575.out; have hnc14 := NB575_589.out; obtain ⟨⟨hcz15_0, hcz15_1, hcz15_2, hcz15_3⟩, hfz15_0, hfz15_1, hfz15_2, hfz15_3⟩ := cf4 BK589; obtain ⟨Ao16, co16, eo16, _⟩ := Kd.Q_slice HO587.out; subst eo16))
 (try simp only [Act.put, List.setIfInBounds_toArray, List.set_cons_zero, List.set_cons_succ])
 go_cut [26] (fun v26 wc => ∃ (kq : Nat) (x26_5 : Bool), v26 = .bool x26_5 ∧ Aside0 (spec_DrawColorImage.j0 kq t576 t578 x26_5 t582 t583 t584 t585 = some (r1, r2, r3, r4, r5, r6)) ∧ Aside0 (kq ≤ k) ∧ Aside0 (Kd.N (Kd.slice 3 (Kd.int .i64)) 22 wc w.heap.size (fun k_ => (w.heap.size ≤ k_) ∧ some k_ ≠ ((.slice Ao16 t585.length co16) : Value).ownBlock ∧ k_ ≠ gb572 ∧ k_ ≠ gb589) v579 t578) ∧ Aside0 (Kd.Q (Kd.int .i64) 3 wc w.heap.size (fun k_ => (w.heap.size ≤ k_)) (.slice Ao16 t585.length co16) t585) ∧ Aside0 (wc.heap[gb572]? = some (.cells #[.int .i64 0, .int .i64 0, .int .i64 0, (.slice none 0 0)] 29 (0, 0))) ∧ Aside0 (wc.heap[gb589]? = some (.cells #[.int .i64 t582, .int .i64 t583, .int .i64 t584, (.slice Ao16 t585.length co16)] 29 (0, 0))) ∧ Aside0 (Below w.heap.size w wc))
 case first =>
  have H := HC6.out
  clear HC6
  by_cases c17 : (t578.length : Int) > 0
  rotate_left
  ·rw [if_neg c17] at H
   have c17b0 : decide (0 < (t578.length : Int)) = false := decide_eq_false c17
   have c17b1 : decide (0 < t578.length) = false := decide_eq_false (by omega)
   clear c17
   (first | rw [c17b0] | (simp only [i64_w, i32_w]; rw [c17b0]) | skip)
   have H' := aM H
   clear H
   obtain ⟨Ao21, co21, eo21⟩ := Kd.N_slice HO580.out
   subst eo21
   go_wp2
   go_meet
   case rel => exact ⟨_, (false), qE, H', ⟨by first | omega | exact Nat.le_refl _⟩, ⟨by (with_reducible repeat (first | apply Kd.N_alloc | apply Kd.N_drewN | apply Kd.N_drew)); exact Kd.N_mono (Kd.N_far (p := ⟨gb589, 3, none⟩) (Kd.N_far (p := ⟨gb589, 2, none⟩) (Kd.N_far (p := ⟨gb589, 1, none⟩) (Kd.N_far (p := ⟨gb589, 0, none⟩) (Kd.N_mono HO580.out (fun k_ hk => (⟨hk, hk.2⟩ : _ ∧ k_ ≠ gb589))) (fun _ hk => hk.2) (.int .i64 t582)) (fun _ hk => hk.2) (.int .i64 t583)) (fun _ hk => hk.2) (.int .i64 t584)) (fun _ hk => hk.2) (.slice Ao16 t585.length co16)) (fun _ hk => ⟨hk.1.1.1.1, ⟨hk.1.1.2, ⟨hk.1.1.1.2.1, hk.1.2⟩⟩⟩)⟩, ⟨by (with_reducible repeat (first | apply Kd.Q_alloc | apply Kd.Q_drewN | apply Kd.Q_drew)); exact Kd.Q_mono (qT HO587 BK589) (fun _ hk => hk.1.1)⟩, ⟨by refine qB ?_; refine blk_far ?_ NB572_589.out _; refine qB ?_; refine blk_far ?_ NB572_589.out _; refine qB ?_; refine blk_far ?_ NB572_589.out _; refine qB ?_; refine blk_far ?_ NB572_589.out _; refine qB ?_; exact BK572.out⟩, ⟨by exact bP BK589.out⟩, ⟨wS83 HB.out⟩⟩
  rw [if_pos c17] at H
  have c17b0 : decide (0 < (t578.length : Int)) = true := decide_eq_true c17
  have c17b1 : decide (0 < t578.length) = true := decide_eq_true (by omega)
  clear c17
  (first | rw [c17b0] | (simp only [i64_w, i32_w]; rw [c17b0]) | skip)
  replace H := Option.bind_eq_some_iff.mp H
  obtain ⟨⟨t590, t591⟩, A180, H⟩ := H
  replace H : (spec_DrawColorImage.j0 k t576 t578 (decide (t590 > 0)) t582 t583 t584 t585) = some (r1, r2, r3, r4, r5, r6) := H
  have A18 := aM A180
  clear A180
  have H' := aM H
  clear H
  obtain ⟨Ao19, co19, eo19⟩ := Kd.N_slice HO580.out
  subst eo19
  go_wp2_with (first | (go_at_call 66; (with_reducible refine (spec_reader_pick.calls k g575 t573 t588 6 t590 t591 w _ ?side1 ?side2 A18.out).mono ?_); (case side1 => exact iS83 HI575.out); (case side2 => exact wS83 HB.out); rintro e w20 ⟨rfl, hi, hb, hk⟩; replace BK572 := aM (KeepBut.blk hk (g' := gb572) (o := .cells #[.int .i64 0, .int .i64 0, .int .i64 0, .slice none 0 0] 29 (0, 0)) (by refine qB ?_; refine blk_far ?_ NB572_589.out _; refine qB ?_; refine blk_far ?_ NB572_589.out _; refine qB ?_; refine blk_far ?_ NB572_589.out _; refine qB ?_; refine blk_far ?_ NB572_589.out _; refine qB ?_; exact BK572.out) NB572_575.out (by simp)); replace HO580 := aM (Kd.N_mono (Kd.N_keep (Kd.N_mono (ok := fun k_ => (((((w.heap.size ≤ k_)) ∧ (k_ ≠ gb572 ∧ k_ ≠ g575)) ∧ some k_ ≠ (.slice Ao16 t585.length co16 : Value).ownBlock) ∧ k_ ≠ gb589)) (by (with_reducible repeat (first | apply Kd.N_alloc | apply Kd.N_drewN | apply Kd.N_drew)); exact (Kd.N_mono (Kd.N_far (p := ⟨gb589, 3, none⟩) (Kd.N_far (p := ⟨gb589, 2, none⟩) (Kd.N_far (p := ⟨gb589, 1, none⟩) (Kd.N_far (p := ⟨gb589, 0, none⟩) (Kd.N_mono HO580.out (fun k_ hk => (⟨hk, hk.2⟩ : _ ∧ k_ ≠ gb589))) (fun _ hk => hk.2) (.int .i64 t582)) (fun _ hk => hk.2) (.int .i64 t583)) (fun _ hk => hk.2) (.int .i64 t584)) (fun _ hk => hk.2) (.slice Ao16 t585.length co16)) (fun _ h_ => h_.1))) (fun k_ hk_ => (⟨hk_, hk_.1.1.2.2⟩ : _ ∧ k_ ≠ g575))) hk (fun _ h => h.2)) (fun _ h => h.1)); replace HO587 := aM (Kd.Q_mono (Kd.Q_keep (IsS83.apartQ (show IsS83 w _ g575 t573 t588 from iS83 HI575.out) (by (with_reducible repeat (first | apply Kd.Q_alloc | apply Kd.Q_drewN | apply Kd.Q_drew)); exact (Kd.Q_mono (qT HO587 BK589) (fun _ h_ => h_.1))) (by decide)) hk (fun _ h => h.2)) (fun _ h => h.1)); replace BK589 := aM (KeepBut.blk hk (g' := gb589) (o := .cells #[.int .i64 t582, .int .i64 t583, .int .i64 t584, .slice Ao16 t585.length co16] 29 (0, 0)) (by exact bP BK589.out) NB589_575.out (by simp)); replace HB := aM (hb); replace HI575 := aM (hi); clear hb hk hi))
  go_meet
  case rel => exact ⟨_, (decide (t590 > 0)), qE, H', ⟨by first | omega | exact Nat.le_refl _⟩, ⟨by (with_reducible repeat (first | apply Kd.N_alloc | apply Kd.N_drewN | apply Kd.N_drew)); exact Kd.N_mono HO580.out (fun _ hk => ⟨hk.1.1.1, ⟨hk.1.2, ⟨hk.1.1.2.1, hk.2⟩⟩⟩)⟩, ⟨by (with_reducible repeat (first | apply Kd.Q_alloc | apply Kd.Q_drewN | apply Kd.Q_drew)); exact Kd.Q_mono HO587.out (fun _ hk => hk.1)⟩, ⟨by refine qB ?_; exact BK572.out⟩, ⟨by refine qB ?_; exact BK589.out⟩, ⟨wS83 HB.out⟩⟩
 case rest =>
  clear HC6
  try clear c17
  try clear c17b0
  try clear c17b1
  try clear hcz15_0 hcz15_1 hcz15_2 hcz15_3 hfz15_0 hfz15_1 hfz15_2 hfz15_3
  obtain ⟨kq, x26_5, rfl, HA, HJ5, HO_7, HO_590003, BK572, BK589, HB⟩ := hcut
  cases kq with
  | zero => exact absurd HA.out (by simp [spec_DrawColorImage.j0])
  | succ kj5 =>
   have H := HA.out
   clear HA
   simp only [spec_DrawColorImage.j0] at H
   by_cases c22 : x26_5 = true
   rotate_left
   ·replace c22 := Bool.eq_false_iff.mpr c22
    subst c22
    have H1 : (some (t582, t583, t584, t585, t578, t576)) = some (r1, r2, r3, r4, r5, r6) := by rw [if_neg (show ¬ (false = true) by decide)] at H; exact H
    clear H
    have H := H1
    clear H1
    simp only [Option.some.injEq, Prod.mk.injEq] at H
    obtain ⟨rfl, rfl, rfl, rfl, rfl, rfl⟩ := H
    have hnb38 := NB589_572.out
    have hnc38 := NB572_589.out
    obtain ⟨⟨hcz39_0, hcz39_1, hcz39_2, hcz39_3⟩, hfz39_0, hfz39_1, hfz39_2, hfz39_3⟩ := cf4 BK589
    obtain ⟨⟨hcz40_0, hcz40_1, hcz40_2, hcz40_3⟩, hfz40_0, hfz40_1, hfz40_2, hfz40_3⟩ := cf4 BK572
    go_wp2
    refine bodyPost_ret (results_ctt rfl _ _ gb572 29 #[.int .i64 t582, .int .i64 t583, .int .i64 t584, .slice Ao16 t585.length co16] (0, 0) _ rfl (by exact bP BK572.out) Try.underlying29 rfl (by kernel_rfl)) rfl ?_
    exact ⟨_, _, qX, by (with_reducible repeat (first | apply Kd.Q_alloc | apply Kd.Q_drewN | apply Kd.Q_drew)); exact Kd.Q_mono (qT HO_590003 BK572) (fun _ hk => hk.1), by (with_reducible repeat (first | apply Kd.N_alloc | apply Kd.N_drewN | apply Kd.N_drew)); exact Kd.N_mono (Kd.N_far (p := ⟨gb572, 3, none⟩) (Kd.N_far (p := ⟨gb572, 2, none⟩) (Kd.N_far (p := ⟨gb572, 1, none⟩) (Kd.N_far (p := ⟨gb572, 0, none⟩) (Kd.N_mono HO_7.out (fun k_ hk => (⟨hk, hk.2.2.1⟩ : _ ∧ k_ ≠ gb572))) (fun _ hk => hk.2) (.int .i64 t582)) (fun _ hk => hk.2) (.int .i64 t583)) (fun _ hk => hk.2) (.int .i64 t584)) (fun _ hk => hk.2) (.slice Ao16 t585.length co16)) (fun _ hk => by first | exact ⟨hk.1.1, hk.1.2.1⟩ | (revert hk; simp only [and_imp]; intros; and_intros <;> assumption)), by exact qW HB.out⟩
   subst c22
   have H1 : (spec_DrawColorImage.l0 kj5 t576 t578 0 t582 t583 t584 t585) = some (r1, r2, r3, r4, r5, r6) := by rw [if_pos rfl] at H; exact H
   clear H
   have H := H1
   clear H1
   have H' := aM H
   clear H
   go_wp2
   go_loopg [9] kj5 (fun kq v9 w' => ∃ (x9_2 : Int) (x590003_2 : List Int) (u590003 : Value), v9 = .int .i64 x9_2 ∧ Aside0 (spec_DrawColorImage.l0 kq t576 t578 x9_2 t582 t583 t584 x590003_2 = some (r1, r2, r3, r4, r5, r6)) ∧ Aside0 (kq ≤ kj5) ∧ Aside0 (Kd.N (Kd.slice 3 (Kd.int .i64)) 22 w' w.heap.size (fun k_ => (w.heap.size ≤ k_) ∧ some k_ ≠ (u590003 : Value).ownBlock ∧ k_ ≠ gb572 ∧ k_ ≠ gb589) v579 t578) ∧ Aside0 (Kd.Q (Kd.int .i64) 3 w' w.heap.size (fun k_ => (w.heap.size ≤ k_)) u590003 x590003_2) ∧ Aside0 (w'.heap[gb572]? = some (.cells #[.int .i64 0, .int .i64 0, .int .i64 0, (.slice none 0 0)] 29 (0, 0))) ∧ Aside0 (w'.heap[gb589]? = some (.cells #[.int .i64 t582, .int .i64 t583, .int .i64 t584, u590003] 29 (0, 0))) ∧ Aside0 (Below w.heap.size w w'))
   case atStart => exact ⟨(0), (t585), (.slice Ao16 t585.length co16), qE, H', ⟨Nat.le_refl _⟩, ⟨by (with_reducible repeat (first | apply Kd.N_alloc | apply Kd.N_drewN | apply Kd.N_drew)); exact HO_7.out⟩, ⟨by (with_reducible repeat (first | apply Kd.Q_alloc | apply Kd.Q_drewN | apply Kd.Q_drew)); exact HO_590003.out⟩, ⟨by refine qB ?_; exact BK572.out⟩, ⟨by refine qB ?_; exact BK589.out⟩, ⟨by exact qW HB.out⟩⟩
   case round =>
    clear H'
    try clear c17
    try clear c17b0
    try clear c17b1
    try clear c22
    try clear hcz15_0 hcz15_1 hcz15_2 hcz15_3 hfz15_0 hfz15_1 hfz15_2 hfz15_3
    obtain ⟨x9_2, x590003_2, u590003, rfl, HA, HK2, HO_7, HO_590003, BK572, BK589, HB⟩ := hrel
    cases gk with
    | zero => exact absurd HA.out (by simp [spec_DrawColorImage.l0])
    | succ k2 =>
     have H := HA.out
     clear HA
     simp only [spec_DrawColorImage.l0] at H
     by_cases c23 : x9_2 < (x590003_2.length : Int)
     rotate_left
     ·rw [if_neg c23] at H
      have c23b0 : decide (x9_2 < (x590003_2.length : Int)) = false := decide_eq_false c23
      clear c23
      simp only [Option.some.injEq, Prod.mk.injEq] at H
      obtain ⟨rfl, rfl, rfl, rfl, rfl, rfl⟩ := H
      have hnb34 := NB589_572.out
      have hnc34 := NB572_589.out
      obtain ⟨⟨hcz35_0, hcz35_1, hcz35_2, hcz35_3⟩, hfz35_0, hfz35_1, hfz35_2, hfz35_3⟩ := cf4 BK589
      obtain ⟨Ao36, co36, eo36, _⟩ := Kd.Q_slice HO_590003.out
      subst eo36
      obtain ⟨⟨hcz37_0, hcz37_1, hcz37_2, hcz37_3⟩, hfz37_0, hfz37_1, hfz37_2, hfz37_3⟩ := cf4 BK572
      go_wp2
      refine bodyPost_ret (results_ctt rfl _ _ gb572 29 #[.int .i64 t582, .int .i64 t583, .int .i64 t584, .slice Ao36 x590003_2.length co36] (0, 0) _ rfl (by exact bP BK572.out) Try.underlying29 rfl (by kernel_rfl)) rfl ?_
      exact ⟨_, _, qX, by (with_reducible repeat (first | apply Kd.Q_alloc | apply Kd.Q_drewN | apply Kd.Q_drew)); exact Kd.Q_mono (qT HO_590003 BK572) (fun _ hk => hk.1), by (with_reducible repeat (first | apply Kd.N_alloc | apply Kd.N_drewN | apply Kd.N_drew)); exact Kd.N_mono (Kd.N_far (p := ⟨gb572, 3, none⟩) (Kd.N_far (p := ⟨gb572, 2, none⟩) (Kd.N_far (p := ⟨gb572, 1, none⟩) (Kd.N_far (p := ⟨gb572, 0, none⟩) (Kd.N_mono HO_7.out (fun k_ hk => (⟨hk, hk.2.2.1⟩ : _ ∧ k_ ≠ gb572))) (fun _ hk => hk.2) (.int .i64 t582)) (fun _ hk => hk.2) (.int .i64 t583)) (fun _ hk => hk.2) (.int .i64 t584)) (fun _ hk => hk.2) (.slice Ao36 x590003_2.length co36)) (fun _ hk => by first | exact ⟨hk.1.1, hk.1.2.1⟩ | (revert hk; simp only [and_imp]; intros; and_intros <;> assumption)), by exact qW HB.out⟩
     rw [if_pos c23] at H
     have c23b0 : decide (x9_2 < (x590003_2.length : Int)) = true := decide_eq_true c23
     clear c23
     replace H := iD H
     obtain ⟨c24b0, H⟩ := H
     obtain ⟨ji25, hji25⟩ : ∃ j_ : Int, (mx (rd x590003_2 x9_2) 0) = j_ := ⟨_, rfl⟩
     replace H : (if (t578.length : Int) = 0 then (none) else (spec_DrawColorImage.l0 k2 t576 t578 (wrap64 (x9_2 + 1)) t582 t583 t584 (x590003_2.set (x9_2 : Int).toNat ((ji25) % (t578.length : Int))))) = some (r1, r2, r3, r4, r5, r6) := by first | (rw [hji25] at H; exact H) | (simp only [hji25] at H ⊢; exact H)
     have hji25_ : (if (rd x590003_2 x9_2) < 0 then 0 else (rd x590003_2 x9_2)) = ji25 := hji25
     by_cases c26 : (t578.length : Int) = 0
     ·rw [if_pos c26] at H
      exact absurd H (by simp)
     rw [if_neg c26] at H
     have c26b0 : ((t578.length : Int) == 0) = false := beq_eq_false_iff_ne.mpr c26
     have c26b1 : ((t578.length : Int) != 0) = true := bne_iff_ne.mpr c26
     have c26b2 : ¬ (t578 = []) := fun h_ => c26 (by rw [h_]; rfl)
     obtain ⟨y593, hy593⟩ : ∃ y_ : List Int, y_ = (x590003_2.set (x9_2 : Int).toNat ((ji25) % (t578.length : Int))) := ⟨_, rfl⟩
     replace H : (spec_DrawColorImage.l0 k2 t576 t578 (wrap64 (x9_2 + 1)) t582 t583 t584 y593) = some (r1, r2, r3, r4, r5, r6) := rY hy593 H
     have Ny593 := aM hy593
     clear hy593
     have H' := aM H
     clear H
     have hnb28 := NB589_572.out
     have hnc28 := NB572_589.out
     obtain ⟨⟨hcz29_0, hcz29_1, hcz29_2, hcz29_3⟩, hfz29_0, hfz29_1, hfz29_2, hfz29_3⟩ := cf4 BK589
     obtain ⟨Ao30, co30, eo30, _⟩ := Kd.Q_slice HO_590003.out
     subst eo30
     try go_wp2
     replace HO_7 := aM (Kd.N_drew HO_7.out)
     replace HO_590003 := aM (Kd.Q_drew HO_590003.out)
     replace BK572 := aM (blk_drew BK572.out)
     replace BK589 := aM (blk_drew BK589.out)
     replace HB := aM (below_drew1 HB.out)
     obtain ⟨ad592, e592, hx592_0⟩ := Kd.at_int (Kd.Q_reads' HO_590003.out).2.2 x9_2 oD oD
     cases e592
     have p592 := eq_true (oD : 0 ≤ (x9_2 : Int))
     have q592 := eq_true (oD : x9_2 < (x590003_2.length : Int))
     obtain ⟨Ao32, co32, eo32⟩ := Kd.N_slice HO_7.out
     (first | subst eo32 | (injection eo32 with f1_ f2_ f3_; have f4_ := f1_.symm; have f5_ := f3_.symm; clear f1_ f2_ f3_; subst f4_; subst f5_))
     have p27 : 0 ≤ (x9_2 : Int) := oD
     have q27 : (x9_2 : Int) < ((x590003_2.length : Int) : Int) := oD
     obtain ⟨go27, oo27, co27, eo27, gb27, gl27, cl27, HG27⟩ := Kd.Q_form HO_590003.out (by omega)
     (first | cases eo27 | (injection eo27 with ea_ en_ ec_; (first | subst ea_ | (injection ea_ with ea_; subst ea_)); subst ec_; clear en_))
     have GB27 := aM gb27
     have GG27 := aM HG27
     clear gb27 gl27 HG27
     (first | simp only [add_at] at hx592_0 | skip)
     obtain ⟨hx27_0, hf27_0⟩ := Kd.Q_cell 0 HO_590003.out (x9_2 : Int) p27 q27
     replace p27 := eq_true p27
     replace q27 := eq_true q27
     have HP33 := (Kd.Q_putg HO_590003.out (x9_2 : Int) oD (by have h_ : (x9_2 : Int) < ((x590003_2.length : Int) : Int) := oD; first | exact h_ | (have e_ := (Kd.Q_reads' HO_590003.out).1; omega) | simpa using h_) ((ji25) % (t578.length : Int))).1
     rw [← Ny593.out] at HP33
     have HQ33 := aM HP33
     clear HP33
     refine start_ (n := 14) (S := fun w' => w'.cell? ⟨gb589, 0, none⟩ = some (.int .i64 t582) ∧ w'.cell? ⟨gb589, 1, none⟩ = some (.int .i64 t583) ∧ w'.cell? ⟨gb589, 2, none⟩ = some (.int .i64 t584) ∧ w'.cell? ⟨gb589, 3, none⟩ = some (.slice (some ⟨go27, oo27, none⟩) x590003_2.length co30) ∧ w'.cell? ⟨go27, oo27 + (x9_2).toNat, none⟩ = some (.int .i64 (rd x590003_2 x9_2))) (ds := [13]) (bA 14 0) (by kernel_rfl) rfl rfl ⟨(blk_cell BK589.out 0).trans rfl, (blk_cell BK589.out 1).trans rfl, (blk_cell BK589.out 2).trans rfl, (blk_cell BK589.out 3).trans rfl, hx592_0⟩ (fun hHeld => ?_); refine with_tabW spec_DrawColorImage.tab9 spec_DrawColorImage.bits9 (fun HT_ HW_ => ?_)
     generalize wr.drew = w31 at HO_7 HO_590003 BK572 BK589 HB GG27 HQ33 hf27_0 hx27_0 hx592_0 hHeld ⊢
     refine pQ 0 34 HT_ (bA 14 1) ?_
     refine pQ 2 36 HT_ (bA 14 5) ?_
     refine pQ 3 37 HT_ (bA 14 13) ?_
     refine pQ 5 39 HT_ (bA 14 45) ?_
     refine pQ 9 43 HT_ (bA 14 557) ?_
     refine pQ 10 44 HT_ (bA 14 1581) ?_
     refine take_ (i := 1) (N := some 35) (v := ?_) (a' := ?_) (bA 14 1583) rfl rfl (take_ofW HT_.out HW_.out (by kernel_rfl)) (fun _ _ _ h => h) (Or.inl ⟨by rfl, ?_⟩) hHeld ?_ ?_
     rotate_left
     ·rintro w' ⟨s0, s1, s2, s3, s4⟩
      go_simp
      with_reducible rfl
     rotate_left
     ·refine pZ ?_
      rfl
     refine take_ (i := 4) (N := some 38) (v := ?_) (a' := ?_) (bA 14 1599) rfl rfl (take_ofW HT_.out HW_.out (by kernel_rfl)) (fun _ _ _ h => h) (Or.inl ⟨by rfl, ?_⟩) hHeld ?_ ?_
     rotate_left
     ·rintro w' ⟨s0, s1, s2, s3, s4⟩
      go_simp
      with_reducible rfl
     rotate_left
     ·refine pZ ?_
      rfl
     refine pQ 6 40 HT_ (bA 14 1663) ?_
     refine take_ (i := 7) (N := some 41) (v := ?_) (a' := ?_) (bA 14 1791) rfl rfl (take_ofW HT_.out HW_.out (by kernel_rfl)) (fun _ _ _ h => h) (Or.inl ⟨by rfl, ?_⟩) hHeld ?_ ?_
     rotate_left
     ·rintro w' ⟨s0, s1, s2, s3, s4⟩
      go_simp
      with_reducible rfl
     rotate_left
     ·refine pZ ?_
      rfl
     refine pQ 8 42 HT_ (bA 14 2047) ?_
     refine pQ 11 45 HT_ (bA 14 4095) ?_
     refine pQ 12 46 HT_ (bA 14 8191) ?_
     refine last_ (i := 13) (N := none) (bA 14 16383) rfl rfl (one_of HT_.out (by kernel_rfl)) (by decide) (fun K hK => ?_)
     refine skip_ (w1 := ?_) (by rfl) rfl ?_ ?_
     rotate_left
     ·go_simp
      rfl
     refine hK.out _ _ ?_
     clear hK K
     refine done_ (done_of HT_.out (by kernel_rfl)) ?_
     try go_wp2
     go_roundg k2
     case measure => have := HJ5.out; have := HK2.out; omega
     case rel => exact ⟨(wrap64 (x9_2 + 1)), (y593), (.slice (some ⟨go27, oo27, none⟩) x590003_2.length co30), qE, H', ⟨by have := HJ5.out; have := HK2.out; omega⟩, ⟨by (with_reducible repeat (first | apply Kd.N_alloc | apply Kd.N_drewN | apply Kd.N_drew)); exact Kd.N_mono (Kd.N_far (p := ⟨go27, oo27 + (x9_2 : Int).toNat, none⟩) (Kd.N_mono HO_7.out (fun k_ hk => (⟨hk, fun e_ => hk.2.1 (by rw [e_]; rfl)⟩ : _ ∧ k_ ≠ go27))) (fun _ hk => hk.2) (.int .i64 ((ji25) % (t578.length : Int)))) (fun _ hk => ⟨hk.1.1, ⟨hk.1.2.1, ⟨hk.1.2.2.1, hk.1.2.2.2⟩⟩⟩)⟩, ⟨by (with_reducible repeat (first | apply Kd.Q_alloc | apply Kd.Q_drewN | apply Kd.Q_drew)); exact HQ33.out⟩, ⟨by refine qB ?_; refine blk_far ?_ (by have h_ := Kd.Q_ne HO_590003.out BK572.out (by decide); intro e_; exact h_ (by rw [e_]; rfl)) _; refine qB ?_; exact BK572.out⟩, ⟨by refine qB ?_; refine blk_far ?_ (by have h_ := Kd.Q_ne HO_590003.out BK589.out (by decide); intro e_; exact h_ (by rw [e_]; rfl)) _; refine qB ?_; exact BK589.out⟩, ⟨by exact qW HB.out⟩⟩
def laws_FnColorImage.j0 : Nat → List (List Int) → Int → Bool → Bool → Bool → Int → Int → Int → List Int → Int → Int → Int → List Int → Option (Bool)
 | 0, _, _, _, _, _, _, _, _, _, _, _, _, _ => none
 | k + 1, x4, x5, x7, x9, x49, x613000, x613001, x613002, x613003, x621000, x621001, x621002, x621003 => if x49 = true then ((laws_equalImage.f k x613000 x613001 x613002 x613003 x621000 x621001 x621002 x621003).bind fun t622 => (if t622 = true then (some (x7 == x9)) else (some false))) else ((impl_IndexImage.f x613000 x613001 x613002 x613003 x4).bind fun bt623 => ((impl_ColorImage.f bt623.1 bt623.2.1 bt623.2.2.1 bt623.2.2.2.1 x4 x5).bind fun bt631 => (if bt623.2.2.2.2 = true then (if bt631.2.2.2.2 = true then ((laws_equalImage.f k bt631.1 bt631.2.1 bt631.2.2.1 bt631.2.2.2.1 x613000 x613001 x613002 x613003).bind fun t639 => (if t639 = true then (some (x613002 == x5)) else (some false))) else (some false)) else (some false))))
def laws_FnColorImage.f (k : Nat) (l0 : List Int) : Option (Bool) := if (l0.length : Int) > 1048576 then (some true) else ((spec_DrawColorImage.f k l0).bind fun bt594 => ((impl_ColorImage.f bt594.1 bt594.2.1 bt594.2.2.1 bt594.2.2.2.1 bt594.2.2.2.2.1 bt594.2.2.2.2.2).bind fun bt605 => ((spec_ColorImage.f k bt594.1 bt594.2.1 bt594.2.2.1 bt594.2.2.2.1 bt594.2.2.2.2.1 bt594.2.2.2.2.2).bind fun bt613 => ((laws_equalImage.f k bt605.1 bt605.2.1 bt605.2.2.1 bt605.2.2.2.1 bt613.1 bt613.2.1 bt613.2.2.1 bt613.2.2.2.1).bind fun t621 => (if t621 = true then (if (bt605.2.2.2.2 != bt613.2.2.2.2) = true then (laws_FnColorImage.j0 k bt594.2.2.2.2.1 bt594.2.2.2.2.2 bt605.2.2.2.2 bt613.2.2.2.2 true bt605.1 bt605.2.1 bt605.2.2.1 bt605.2.2.2.1 bt613.1 bt613.2.1 bt613.2.2.1 bt613.2.2.2.1) else (laws_FnColorImage.j0 k bt594.2.2.2.2.1 bt594.2.2.2.2.2 bt605.2.2.2.2 bt613.2.2.2.2 (!bt605.2.2.2.2) bt605.1 bt605.2.1 bt605.2.2.1 bt605.2.2.2.1 bt613.1 bt613.2.1 bt613.2.2.1 bt613.2.2.2.1)) else (laws_FnColorImage.j0 k bt594.2.2.2.2.1 bt594.2.2.2.2.2 bt605.2.2.2.2 bt613.2.2.2.2 true bt605.1 bt605.2.1 bt605.2.2.1 bt605.2.2.2.1 bt613.1 bt613.2.1 bt613.2.2.1 bt613.2.2.2.1))))))
theorem laws_FnColorImage.mono_l : ∀ k, (∀ y0 y1 y2 y3 y4 y5 y6 y7 y8 y9 y10 y11 y12, LeO (laws_FnColorImage.j0 k y0 y1 y2 y3 y4 y5 y6 y7 y8 y9 y10 y11 y12) (laws_FnColorImage.j0 (k + 1) y0 y1 y2 y3 y4 y5 y6 y7 y8 y9 y10 y11 y12))
 | 0 => fun _ _ _ _ _ _ _ _ _ _ _ _ _ r h => by simp [laws_FnColorImage.j0] at h
 | k + 1 => by
  have ih0 := laws_FnColorImage.mono_l k
  ·intro y0 y1 y2 y3 y4 y5 y6 y7 y8 y9 y10 y11 y12
   unfold laws_FnColorImage.j0
   repeat' first | (with_reducible first | exact ih0 _ _ _ _ _ _ _ _ _ _ _ _ _ | exact laws_equalImage.mono _ _ _ _ _ _ _ _ _ | exact spec_ColorImage.mono _ _ _ _ _ _ _ | exact spec_DrawColorImage.mono _ _ | exact lR | exact lN | refine lI ?_ ?_ | refine lB ?_ fun _ => ?_) | exact ih0 _ _ _ _ _ _ _ _ _ _ _ _ _ | exact laws_equalImage.mono _ _ _ _ _ _ _ _ _ | exact spec_ColorImage.mono _ _ _ _ _ _ _ | exact spec_DrawColorImage.mono _ _ | exact lN | refine lI ?_ ?_ | refine lB ?_ fun _ => ?_
theorem laws_FnColorImage.mono : ∀ a0 k, LeO (laws_FnColorImage.f k a0) (laws_FnColorImage.f (k + 1) a0) := by
 intro a0 k
 have ih0 := laws_FnColorImage.mono_l k
 unfold laws_FnColorImage.f
 repeat' first | (with_reducible first | exact ih0 _ _ _ _ _ _ _ _ _ _ _ _ _ | exact laws_equalImage.mono _ _ _ _ _ _ _ _ _ | exact spec_ColorImage.mono _ _ _ _ _ _ _ | exact spec_DrawColorImage.mono _ _ | exact lR | exact lN | refine lI ?_ ?_ | refine lB ?_ fun _ => ?_) | exact ih0 _ _ _ _ _ _ _ _ _ _ _ _ _ | exact laws_equalImage.mono _ _ _ _ _ _ _ _ _ | exact spec_ColorImage.mono _ _ _ _ _ _ _ | exact spec_DrawColorImage.mono _ _ | exact lN | refine lI ?_ ?_ | refine lB ?_ fun _ => ?_
set_option maxHeartbeats 8000000 in
set_option maxRecDepth 100000 in
theorem laws_FnColorImage.calls (k : Nat) (A0 : Option Addr) (c0 : Nat) (l0 : List Int) (r : Bool) (w : World) (hr0 : Kd.C (Kd.int .u8) w A0 l0.length l0) (hc0 : l0.length ≤ c0) (h : laws_FnColorImage.f k l0 = some r) (hrt : r = true) :
  Calls Try.prog 6 #[.slice A0 l0.length c0] w fun e w' => e = .returned (.bool r) ∧ Below w.heap.size w w' := by
 have hu29 := Try.underlying29
 have HR0 := aM hr0
 have HC0 := aM hc0
 clear hr0 hc0
 have HB := aM (Below.refl w.heap.size w)
 unfold laws_FnColorImage.f at h
 have H := h
 clear h
 by_cases c2 : (l0.length : Int) > 1048576
 ·rw [if_pos c2] at H
  have c2b0 : decide (1048576 < (l0.length : Int)) = true := decide_eq_true c2
  have c2b1 : decide (1048576 < l0.length) = true := decide_eq_true (by omega)
  clear c2
  obtain rfl := Option.some.inj H
  go_enter Try.func6, Try.ntmps6
  go_wp2
  go_ret
  exact ⟨qX, by exact qW HB.out⟩
 rw [if_neg c2] at H
 have c2b0 : decide (1048576 < (l0.length : Int)) = false := decide_eq_false c2
 have c2b1 : decide (1048576 < l0.length) = false := decide_eq_false (by omega)
 clear c2
 replace H := Option.bind_eq_some_iff.mp H
 obtain ⟨⟨t594, t595, t596, t597, t600, t603⟩, A30, H⟩ := H
 replace H : ((impl_ColorImage.f t594 t595 t596 t597 t600 t603).bind fun bt605 => ((spec_ColorImage.f k t594 t595 t596 t597 t600 t603).bind fun bt613 => ((laws_equalImage.f k bt605.1 bt605.2.1 bt605.2.2.1 bt605.2.2.2.1 bt613.1 bt613.2.1 bt613.2.2.1 bt613.2.2.2.1).bind fun t621 => (if t621 = true then (if (bt605.2.2.2.2 != bt613.2.2.2.2) = true then (laws_FnColorImage.j0 k t600 t603 bt605.2.2.2.2 bt613.2.2.2.2 true bt605.1 bt605.2.1 bt605.2.2.1 bt605.2.2.2.1 bt613.1 bt613.2.1 bt613.2.2.1 bt613.2.2.2.1) else (laws_FnColorImage.j0 k t600 t603 bt605.2.2.2.2 bt613.2.2.2.2 (!bt605.2.2.2.2) bt605.1 bt605.2.1 bt605.2.2.1 bt605.2.2.2.1 bt613.1 bt613.2.1 bt613.2.2.1 bt613.2.2.2.1)) else (laws_FnColorImage.j0 k t600 t603 bt605.2.2.2.2 bt613.2.2.2.2 true bt605.1 bt605.2.1 bt605.2.2.1 bt605.2.2.2.1 bt613.1 bt613.2.1 bt613.2.2.1 bt613.2.2.2.1))))) = some r := H
 have A3 := aM A30
 clear A30
 replace H := Option.bind_eq_some_iff.mp H
 obtain ⟨⟨t605, t606, t607, t608, t611⟩, A40, H⟩ := H
 replace H : ((spec_ColorImage.f k t594 t595 t596 t597 t600 t603).bind fun bt613 => ((laws_equalImage.f k t605 t606 t607 t608 bt613.1 bt613.2.1 bt613.2.2.1 bt613.2.2.2.1).bind fun t621 => (if t621 = true then (if (t611 != bt613.2.2.2.2) = true then (laws_FnColorImage.j0 k t600 t603 t611 bt613.2.2.2.2 true t605 t606 t607 t608 bt613.1 bt613.2.1 bt613.2.2.1 bt613.2.2.2.1) else (laws_FnColorImage.j0 k t600 t603 t611 bt613.2.2.2.2 (!t611) t605 t606 t607 t608 bt613.1 bt613.2.1 bt613.2.2.1 bt613.2.2.2.1)) else (laws_FnColorImage.j0 k t600 t603 t611 bt613.2.2.2.2 true t605 t606 t607 t608 bt613.1 bt613.2.1 bt613.2.2.1 bt613.2.2.2.1)))) = some r := H
 have A4 := aM A40
 clear A40
 replace H := Option.bind_eq_some_iff.mp H
 obtain ⟨⟨t613, t614, t615, t616, t619⟩, A50, H⟩ := H
 replace H : ((laws_equalImage.f k t605 t606 t607 t608 t613 t614 t615 t616).bind fun t621 => (if t621 = true then (if (t611 != t619) = true then (laws_FnColorImage.j0 k t600 t603 t611 t619 true t605 t606 t607 t608 t613 t614 t615 t616) else (laws_FnColorImage.j0 k t600 t603 t611 t619 (!t611) t605 t606 t607 t608 t613 t614 t615 t616)) else (laws_FnColorImage.j0 k t600 t603 t611 t619 true t605 t606 t607 t608 t613 t614 t615 t616))) = some r := H
 have A5 := aM A50
 clear A50
 have HC6 := aM H
 clear H
 go_enter Try.func6, Try.ntmps6
 go_upto_region 6 with (first | ((with_reducible refine gate_callee (f := 32) rfl ?_); refine gL (some 19) Try.func32 #[.slice A0 l0.length c0] ?_; (with_reducible refine (spec_DrawColorImage.calls k _ _ l0 t594 t595 t596 t597 t600 t603 _ ?side1 ?side2 A3.out).mono ?_); (case side1 => exact qC HR0.out); (case side2 => exact HC0.out); rintro e w7 ⟨v598, v601, rfl, ho0, ho1, hb⟩; refine ⟨_, rfl, ?_⟩; have HO599 := aM (Kd.Q_lower (Kd.Q_mono (ok' := fun k_ => True) ho0 (fun _ hk_ => trivial)) (below_size (qW HB.out))); have HO602 := aM (Kd.N_lower (Kd.N_mono (ok' := fun k_ => some k_ ≠ (v598 : Value).ownBlock) ho1 (fun k_ hk_ => hk_.2)) (below_size (qW HB.out))); replace HB := bS HB hb; clear hb ho0 ho1) | ((with_reducible refine gate_dst (N := 3) rfl ?_); refine bxE (N := 3) (cs := #[.int .i64 0, .int .i64 0, .int .i64 0, .slice none 0 0]) (t := 29) ?_; intro gb604 hg w8 hbox hb; replace HO599 := aM (Kd.Q_below (qQ HO599.out) hb); replace HO602 := aM (Kd.N_below (Kd.N_elderB (by (with_reducible repeat (first | apply Kd.N_alloc | apply Kd.N_drewN | apply Kd.N_drew)); exact HO602.out) gb604 (Nat.le_of_eq hg.symm)) hb); have BK604 := aM (hbox); have GW604 := gW hg HB; have GE604 := gW hg HB; replace HB := bS HB hb; clear hb hbox hg; obtain ⟨⟨hcz9_0, hcz9_1, hcz9_2, hcz9_3⟩, hfz9_0, hfz9_1, hfz9_2, hfz9_3⟩ := cf4 BK604; obtain ⟨Ao10, co10, eo10, _⟩ := Kd.Q_slice HO599.out; subst eo10; obtain ⟨Ao11, co11, eo11⟩ := Kd.N_slice HO602.out; subst eo11) | ((with_reducible refine gate_callee (f := 25) rfl ?_); refine gL (some 27) Try.func25 #[.agg #[.int .i64 t594, .int .i64 t595, .int .i64 t596, .slice Ao10 t597.length co10], .slice Ao11 t600.length co11, .int .i64 t603] ?_; (with_reducible refine (impl_ColorImage.calls t594 t595 t596 _ _ t597 _ _ t600 t603 t605 t606 t607 t608 t611 _ ?side1 ?side2 ?side3 ?side4 A4.out).mono ?_); (case side1 => refine (Kd.Q_reads' (e := 3) (base := w.heap.size) (ok := fun k_ => True) (n := t597.length) (c := co10) ?_).2.2; exact (by (with_reducible repeat (first | apply Kd.Q_alloc | apply Kd.Q_drewN | apply Kd.Q_drew)); exact (Kd.Q_mono (qT HO599 BK604) (fun _ h_ => h_.1)))); (case side2 => exact (Kd.Q_reads' HO599.out).2.1); (case side3 => refine (Kd.N_reads' (e := 22) (base := w.heap.size) (ok := fun k_ => (some k_ ≠ (.slice Ao10 t597.length co10 : Value).ownBlock ∧ k_ ≠ gb604)) (n := t600.length) (c := co11) ?_).2.2; exact (by (with_reducible repeat (first | apply Kd.N_alloc | apply Kd.N_drewN | apply Kd.N_drew)); exact (Kd.N_mono (Kd.N_far (p := ⟨gb604, 3, none⟩) (Kd.N_far (p := ⟨gb604, 2, none⟩) (Kd.N_far (p := ⟨gb604, 1, none⟩) (Kd.N_far (p := ⟨gb604, 0, none⟩) (Kd.N_mono HO602.out (fun k_ hk => (⟨hk, hk.2⟩ : _ ∧ k_ ≠ gb604))) (fun _ hk => hk.2) (.int .i64 t594)) (fun _ hk => hk.2) (.int .i64 t595)) (fun _ hk => hk.2) (.int .i64 t596)) (fun _ hk => hk.2) (.slice Ao10 t597.length co10)) (fun _ h_ => h_.1)))); (case side4 => exact (Kd.N_reads' HO602.out).2.1); rintro e w12 ⟨v609, rfl, ho0, hb⟩; refine ⟨_, rfl, ?_⟩; replace HO602 := aM (Kd.N_elder' (by (with_reducible repeat (first | apply Kd.N_alloc | apply Kd.N_drewN | apply Kd.N_drew)); exact (Kd.N_mono (Kd.N_far (p := ⟨gb604, 3, none⟩) (Kd.N_far (p := ⟨gb604, 2, none⟩) (Kd.N_far (p := ⟨gb604, 1, none⟩) (Kd.N_far (p := ⟨gb604, 0, none⟩) (Kd.N_mono HO602.out (fun k_ hk => (⟨hk, hk.2⟩ : _ ∧ k_ ≠ gb604))) (fun _ hk => hk.2) (.int .i64 t594)) (fun _ hk => hk.2) (.int .i64 t595)) (fun _ hk => hk.2) (.int .i64 t596)) (fun _ hk => hk.2) (.slice Ao10 t597.length co10)) (fun _ h_ => h_.1))) (Kd.R_base ho0) hb); have HO610 := aM (Kd.R_lower (Kd.R_new' ho0 (Kd.Q_lt (by (with_reducible repeat (first | apply Kd.Q_alloc | apply Kd.Q_drewN | apply Kd.Q_drew)); exact (Kd.Q_mono (qT HO599 BK604) (fun _ h_ => h_.1))))) (below_size (qW HB.out))); replace HO599 := aM (Kd.Q_elder' (by (with_reducible repeat (first | apply Kd.Q_alloc | apply Kd.Q_drewN | apply Kd.Q_drew)); exact (Kd.Q_mono (qT HO599 BK604) (fun _ h_ => h_.1))) (Kd.R_base ho0) hb); replace BK604 := aM (blk_below (g := gb604) (o := .cells #[.int .i64 t594, .int .i64 t595, .int .i64 t596, .slice Ao10 t597.length co10] 29 (0, 0)) (by exact bP BK604.out) hb); replace HB := bS HB hb; clear hb ho0) | ((with_reducible refine gate_dst (N := 6) rfl ?_); refine bxE (N := 6) (cs := #[.int .i64 0, .int .i64 0, .int .i64 0, .slice none 0 0]) (t := 29) ?_; intro gb612 hg w13 hbox hb; replace HO599 := aM (Kd.Q_below (qQ HO599.out) hb); replace HO602 := aM (Kd.N_below (Kd.N_elderB (by (with_reducible repeat (first | apply Kd.N_alloc | apply Kd.N_drewN | apply Kd.N_drew)); exact HO602.out) gb612 (Nat.le_of_eq hg.symm)) hb); replace HO610 := aM (Kd.R_below (qR HO610.out) hb); have BK612 := aM (hbox); have GW612 := gW hg HB; have GE612 := gW hg HB; replace HB := bS HB hb; have NB604_612 := nL hg BK604; have NB612_604 := nG hg BK604; replace BK604 := bB BK604 hb; clear hb hbox hg; have hnb14 := NB612_604.out; have hnc14 := NB604_612.out; obtain ⟨⟨hcz15_0, hcz15_1, hcz15_2, hcz15_3⟩, hfz15_0, hfz15_1, hfz15_2, hfz15_3⟩ := cf4 BK612; obtain ⟨Ao16, co16, rfl⟩ := sL HO610; obtain ⟨⟨hcz17_0, hcz17_1, hcz17_2, hcz17_3⟩, hfz17_0, hfz17_1, hfz17_2, hfz17_3⟩ := cf4 BK604) | ((with_reducible refine gate_callee (f := 29) rfl ?_); refine gL (some 34) Try.func29 #[.agg #[.int .i64 t594, .int .i64 t595, .int .i64 t596, .slice Ao10 t597.length co10], .slice Ao11 t600.length co11, .int .i64 t603] ?_; (with_reducible refine (spec_ColorImage.calls k t594 t595 t596 _ _ t597 _ _ t600 t603 t613 t614 t615 t616 t619 _ ?side1 ?side2 ?side3 ?side4 A5.out).mono ?_); (case side1 => refine (Kd.Q_reads' (e := 3) (base := w.heap.size) (ok := fun k_ => (True ∧ some k_ ≠ (.slice Ao16 t608.length co16 : Value).ownBlock)) (n := t597.length) (c := co10) ?_).2.2; exact (by (with_reducible repeat (first | apply Kd.Q_alloc | apply Kd.Q_drewN | apply Kd.Q_drew)); exact (Kd.Q_mono (qT HO599 BK612) (fun _ h_ => h_.1)))); (case side2 => exact (Kd.Q_reads' HO599.out).2.1); (case side3 => refine (Kd.N_reads' (e := 22) (base := w.heap.size) (ok := fun k_ => (((some k_ ≠ (.slice Ao10 t597.length co10 : Value).ownBlock ∧ k_ ≠ gb604) ∧ some k_ ≠ (.slice Ao16 t608.length co16 : Value).ownBlock) ∧ k_ ≠ gb612)) (n := t600.length) (c := co11) ?_).2.2; exact (by (with_reducible repeat (first | apply Kd.N_alloc | apply Kd.N_drewN | apply Kd.N_drew)); exact (Kd.N_mono (Kd.N_far (p := ⟨gb612, 3, none⟩) (Kd.N_far (p := ⟨gb612, 2, none⟩) (Kd.N_far (p := ⟨gb612, 1, none⟩) (Kd.N_far (p := ⟨gb612, 0, none⟩) (Kd.N_mono HO602.out (fun k_ hk => (⟨hk, hk.2⟩ : _ ∧ k_ ≠ gb612))) (fun _ hk => hk.2) (.int .i64 t605)) (fun _ hk => hk.2) (.int .i64 t606)) (fun _ hk => hk.2) (.int .i64 t607)) (fun _ hk => hk.2) (.slice Ao16 t608.length co16)) (fun _ h_ => h_.1)))); (case side4 => exact (Kd.N_reads' HO602.out).2.1); rintro e w18 ⟨v617, rfl, ho0, hb⟩; refine ⟨_, rfl, ?_⟩; replace HO602 := aM (Kd.N_elder' (by (with_reducible repeat (first | apply Kd.N_alloc | apply Kd.N_drewN | apply Kd.N_drew)); exact (Kd.N_mono (Kd.N_far (p := ⟨gb612, 3, none⟩) (Kd.N_far (p := ⟨gb612, 2, none⟩) (Kd.N_far (p := ⟨gb612, 1, none⟩) (Kd.N_far (p := ⟨gb612, 0, none⟩) (Kd.N_mono HO602.out (fun k_ hk => (⟨hk, hk.2⟩ : _ ∧ k_ ≠ gb612))) (fun _ hk => hk.2) (.int .i64 t605)) (fun _ hk => hk.2) (.int .i64 t606)) (fun _ hk => hk.2) (.int .i64 t607)) (fun _ hk => hk.2) (.slice Ao16 t608.length co16)) (fun _ h_ => h_.1))) (Kd.R_base ho0) hb); have HO618 := aM (Kd.R_lower (Kd.R_new' (Kd.R_new' ho0 (Kd.Q_lt (by (with_reducible repeat (first | apply Kd.Q_alloc | apply Kd.Q_drewN | apply Kd.Q_drew)); exact (Kd.Q_mono (qT HO599 BK612) (fun _ h_ => h_.1))))) (Kd.R_lt (by refine qR ?_; exact (fr4 HO610 BK612)))) (below_size (qW HB.out))); replace HO599 := aM (Kd.Q_elder' (by (with_reducible repeat (first | apply Kd.Q_alloc | apply Kd.Q_drewN | apply Kd.Q_drew)); exact (Kd.Q_mono (qT HO599 BK612) (fun _ h_ => h_.1))) (Kd.R_base ho0) hb); replace HO610 := aM (Kd.R_elder' (by refine qR ?_; exact (fr4 HO610 BK612)) (Kd.R_base ho0) hb); replace BK604 := aM (blk_below (g := gb604) (o := .cells #[.int .i64 t594, .int .i64 t595, .int .i64 t596, .slice Ao10 t597.length co10] 29 (0, 0)) (by refine qB ?_; refine blk_far ?_ NB604_612.out _; refine qB ?_; refine blk_far ?_ NB604_612.out _; refine qB ?_; refine blk_far ?_ NB604_612.out _; refine qB ?_; refine blk_far ?_ NB604_612.out _; refine qB ?_; exact BK604.out) hb); replace BK612 := aM (blk_below (g := gb612) (o := .cells #[.int .i64 t605, .int .i64 t606, .int .i64 t607, .slice Ao16 t608.length co16] 29 (0, 0)) (by exact bP BK612.out) hb); replace HB := bS HB hb; clear hb ho0) | ((with_reducible refine gate_dst (N := 8) rfl ?_); refine bxE (N := 8) (cs := #[.int .i64 0, .int .i64 0, .int .i64 0, .slice none 0 0]) (t := 29) ?_; intro gb620 hg w19 hbox hb; replace HO599 := aM (Kd.Q_below (qQ HO599.out) hb); replace HO602 := aM (Kd.N_below (Kd.N_elderB (by (with_reducible repeat (first | apply Kd.N_alloc | apply Kd.N_drewN | apply Kd.N_drew)); exact HO602.out) gb620 (Nat.le_of_eq hg.symm)) hb); replace HO610 := aM (Kd.R_below (qR HO610.out) hb); replace HO618 := aM (Kd.R_below (qR HO618.out) hb); have BK620 := aM (hbox); have GW620 := gW hg HB; have GE620 := gW hg HB; replace HB := bS HB hb; have NB604_620 := nL hg BK604; have NB620_604 := nG hg BK604; replace BK604 := bB BK604 hb; have NB612_620 := nL hg BK612; have NB620_612 := nG hg BK612; replace BK612 := bB BK612 hb; clear hb hbox hg; have hnb20 := NB620_604.out; have hnc20 := NB604_620.out; have hnb21 := NB620_612.out; have hnc21 := NB612_620.out; obtain ⟨⟨hcz22_0, hcz22_1, hcz22_2, hcz22_3⟩, hfz22_0, hfz22_1, hfz22_2, hfz22_3⟩ := cf4 BK620; obtain ⟨Ao23, co23, rfl⟩ := sL HO618))
 (try simp only [Act.put, List.setIfInBounds_toArray, List.set_cons_zero, List.set_cons_succ])
 go_cut [49] (fun v49 wc => ∃ (kq : Nat) (x49_5 : Bool), v49 = .bool x49_5 ∧ Aside0 (laws_FnColorImage.j0 kq t600 t603 t611 t619 x49_5 t605 t606 t607 t608 t613 t614 t615 t616 = some r) ∧ Aside0 (kq ≤ k) ∧ Aside0 (Kd.N (Kd.slice 3 (Kd.int .i64)) 22 wc w.heap.size (fun k_ => some k_ ≠ ((.slice Ao10 t597.length co10) : Value).ownBlock ∧ some k_ ≠ ((.slice Ao16 t608.length co16) : Value).ownBlock ∧ some k_ ≠ ((.slice Ao23 t616.length co23) : Value).ownBlock ∧ k_ ≠ gb604 ∧ k_ ≠ gb612 ∧ k_ ≠ gb620) (.slice Ao11 t600.length co11) t600) ∧ Aside0 (Kd.Q (Kd.int .i64) 3 wc w.heap.size (fun k_ => some k_ ≠ ((.slice Ao16 t608.length co16) : Value).ownBlock ∧ some k_ ≠ ((.slice Ao23 t616.length co23) : Value).ownBlock) (.slice Ao10 t597.length co10) t597) ∧ Aside0 (Kd.Q (Kd.int .i64) 3 wc w.heap.size (fun k_ => some k_ ≠ ((.slice Ao10 t597.length co10) : Value).ownBlock ∧ some k_ ≠ ((.slice Ao23 t616.length co23) : Value).ownBlock) (.slice Ao16 t608.length co16) t608) ∧ Aside0 (Kd.Q (Kd.int .i64) 3 wc w.heap.size (fun k_ => some k_ ≠ ((.slice Ao10 t597.length co10) : Value).ownBlock ∧ some k_ ≠ ((.slice Ao16 t608.length co16) : Value).ownBlock) (.slice Ao23 t616.length co23) t616) ∧ Aside0 (wc.heap[gb604]? = some (.cells #[.int .i64 t594, .int .i64 t595, .int .i64 t596, (.slice Ao10 t597.length co10)] 29 (0, 0))) ∧ Aside0 (wc.heap[gb612]? = some (.cells #[.int .i64 t605, .int .i64 t606, .int .i64 t607, (.slice Ao16 t608.length co16)] 29 (0, 0))) ∧ Aside0 (wc.heap[gb620]? = some (.cells #[.int .i64 t613, .int .i64 t614, .int .i64 t615, (.slice Ao23 t616.length co23)] 29 (0, 0))) ∧ Aside0 (Below w.heap.size w wc))
 case first =>
  have H := HC6.out
  clear HC6
  replace H := Option.bind_eq_some_iff.mp H
  obtain ⟨t621, A240, H⟩ := H
  replace H : (if t621 = true then (if (t611 != t619) = true then (laws_FnColorImage.j0 k t600 t603 t611 t619 true t605 t606 t607 t608 t613 t614 t615 t616) else (laws_FnColorImage.j0 k t600 t603 t611 t619 (!t611) t605 t606 t607 t608 t613 t614 t615 t616)) else (laws_FnColorImage.j0 k t600 t603 t611 t619 true t605 t606 t607 t608 t613 t614 t615 t616)) = some r := H
  have A24 := aM A240
  clear A240
  by_cases c25 : t621 = true
  rotate_left
  ·replace c25 := Bool.eq_false_iff.mpr c25
   subst c25
   have H1 : (laws_FnColorImage.j0 k t600 t603 t611 t619 true t605 t606 t607 t608 t613 t614 t615 t616) = some r := by rw [if_neg (show ¬ (false = true) by decide)] at H; exact H
   clear H
   have H := H1
   clear H1
   have H' := aM H
   clear H
   have hnb39 := NB612_604.out
   have hnc39 := NB604_612.out
   have hnb40 := NB612_620.out
   have hnc40 := NB620_612.out
   obtain ⟨⟨hcz41_0, hcz41_1, hcz41_2, hcz41_3⟩, hfz41_0, hfz41_1, hfz41_2, hfz41_3⟩ := cf4 BK612
   have hnb42 := NB620_604.out
   have hnc42 := NB604_620.out
   obtain ⟨⟨hcz43_0, hcz43_1, hcz43_2, hcz43_3⟩, hfz43_0, hfz43_1, hfz43_2, hfz43_3⟩ := cf4 BK620
   go_wp2_with (first | ((with_reducible refine gate_callee (f := 26) rfl ?_); refine gL (some 39) Try.func26 #[.agg #[.int .i64 t605, .int .i64 t606, .int .i64 t607, .slice Ao16 t608.length co16], .agg #[.int .i64 t613, .int .i64 t614, .int .i64 t615, .slice Ao23 t616.length co23]] ?_; (with_reducible refine (laws_equalImage.calls k t605 t606 t607 _ _ t608 t613 t614 t615 _ _ t616 false _ ?side1 ?side2 ?side3 ?side4 A24.out).mono ?_); (case side1 => refine (Kd.R_reads' (e := 3) (base := w.heap.size) (ok := fun k_ => ((True ∧ some k_ ≠ (.slice Ao10 t597.length co10 : Value).ownBlock) ∧ some k_ ≠ (.slice Ao23 t616.length co23 : Value).ownBlock)) (n := t608.length) (c := co16) ?_).2.2; exact (by refine qR ?_; exact (fr4 HO610 BK620))); (case side2 => exact (Kd.R_reads' HO610.out).2.1); (case side3 => refine (Kd.R_reads' (e := 3) (base := w.heap.size) (ok := fun k_ => ((True ∧ some k_ ≠ (.slice Ao10 t597.length co10 : Value).ownBlock) ∧ some k_ ≠ (.slice Ao16 t608.length co16 : Value).ownBlock)) (n := t616.length) (c := co23) ?_).2.2; exact (by refine qR ?_; exact (fr4 HO618 BK620))); (case side4 => exact (Kd.R_reads' HO618.out).2.1); rintro e w44 ⟨rfl, hb⟩; refine ⟨_, rfl, ?_⟩; replace HO599 := aM (Kd.Q_below (by (with_reducible repeat (first | apply Kd.Q_alloc | apply Kd.Q_drewN | apply Kd.Q_drew)); exact (Kd.Q_mono (qT HO599 BK620) (fun _ h_ => h_.1))) hb); replace HO602 := aM (Kd.N_below (by (with_reducible repeat (first | apply Kd.N_alloc | apply Kd.N_drewN | apply Kd.N_drew)); exact (Kd.N_mono (Kd.N_far (p := ⟨gb620, 3, none⟩) (Kd.N_far (p := ⟨gb620, 2, none⟩) (Kd.N_far (p := ⟨gb620, 1, none⟩) (Kd.N_far (p := ⟨gb620, 0, none⟩) (Kd.N_mono HO602.out (fun k_ hk => (⟨hk, hk.2⟩ : _ ∧ k_ ≠ gb620))) (fun _ hk => hk.2) (.int .i64 t613)) (fun _ hk => hk.2) (.int .i64 t614)) (fun _ hk => hk.2) (.int .i64 t615)) (fun _ hk => hk.2) (.slice Ao23 t616.length co23)) (fun _ h_ => h_.1))) hb); replace HO610 := aM (Kd.R_below (by refine qR ?_; exact (fr4 HO610 BK620)) hb); replace HO618 := aM (Kd.R_below (by refine qR ?_; exact (fr4 HO618 BK620)) hb); replace BK604 := aM (blk_below (g := gb604) (o := .cells #[.int .i64 t594, .int .i64 t595, .int .i64 t596, .slice Ao10 t597.length co10] 29 (0, 0)) (by refine qB ?_; refine blk_far ?_ NB604_620.out _; refine qB ?_; refine blk_far ?_ NB604_620.out _; refine qB ?_; refine blk_far ?_ NB604_620.out _; refine qB ?_; refine blk_far ?_ NB604_620.out _; refine qB ?_; exact BK604.out) hb); replace BK612 := aM (blk_below (g := gb612) (o := .cells #[.int .i64 t605, .int .i64 t606, .int .i64 t607, .slice Ao16 t608.length co16] 29 (0, 0)) (by refine qB ?_; refine blk_far ?_ NB612_620.out _; refine qB ?_; refine blk_far ?_ NB612_620.out _; refine qB ?_; refine blk_far ?_ NB612_620.out _; refine qB ?_; refine blk_far ?_ NB612_620.out _; refine qB ?_; exact BK612.out) hb); replace BK620 := aM (blk_below (g := gb620) (o := .cells #[.int .i64 t613, .int .i64 t614, .int .i64 t615, .slice Ao23 t616.length co23] 29 (0, 0)) (by exact bP BK620.out) hb); replace HB := bS HB hb; clear hb))
   go_meet
   case rel => exact ⟨_, (true), qE, H', ⟨by first | omega | exact Nat.le_refl _⟩, ⟨by (with_reducible repeat (first | apply Kd.N_alloc | apply Kd.N_drewN | apply Kd.N_drew)); exact Kd.N_mono HO602.out (fun _ hk => ⟨hk.1.1.1.1.1, ⟨hk.1.1.1.2, ⟨hk.1.2, ⟨hk.1.1.1.1.2, ⟨hk.1.1.2, hk.2⟩⟩⟩⟩⟩)⟩, ⟨by (with_reducible repeat (first | apply Kd.Q_alloc | apply Kd.Q_drewN | apply Kd.Q_drew)); exact Kd.Q_mono HO599.out (fun _ hk => ⟨hk.1.2, hk.2⟩)⟩, ⟨Kd.Q_of_R (by refine qR ?_; exact Kd.R_mono HO610.out (fun _ hk => ⟨hk.1.2, hk.2⟩))⟩, ⟨Kd.Q_of_R (by refine qR ?_; exact Kd.R_mono HO618.out (fun _ hk => ⟨hk.1.2, hk.2⟩))⟩, ⟨by refine qB ?_; exact BK604.out⟩, ⟨by refine qB ?_; exact BK612.out⟩, ⟨by refine qB ?_; exact BK620.out⟩, ⟨by exact qW HB.out⟩⟩
  subst c25
  have H1 : (if (t611 != t619) = true then (laws_FnColorImage.j0 k t600 t603 t611 t619 true t605 t606 t607 t608 t613 t614 t615 t616) else (laws_FnColorImage.j0 k t600 t603 t611 t619 (!t611) t605 t606 t607 t608 t613 t614 t615 t616)) = some r := by rw [if_pos rfl] at H; exact H
  clear H
  have H := H1
  clear H1
  by_cases c26 : (t611 != t619) = true
  rotate_left
  ·rw [if_neg c26] at H
   have c26b0 : (t611 != t619) = false := by simpa using c26
   (try (have c26b1 : decide (t611 = t619) = true := by simpa using c26))
   (try (have c26b2 : (t611 == t619) = true := by simpa using c26))
   clear c26
   (first | rw [c26b0] | (simp only [i64_w, i32_w]; rw [c26b0]) | skip)
   have H' := aM H
   clear H
   have hnb33 := NB612_604.out
   have hnc33 := NB604_612.out
   have hnb34 := NB612_620.out
   have hnc34 := NB620_612.out
   obtain ⟨⟨hcz35_0, hcz35_1, hcz35_2, hcz35_3⟩, hfz35_0, hfz35_1, hfz35_2, hfz35_3⟩ := cf4 BK612
   have hnb36 := NB620_604.out
   have hnc36 := NB604_620.out
   obtain ⟨⟨hcz37_0, hcz37_1, hcz37_2, hcz37_3⟩, hfz37_0, hfz37_1, hfz37_2, hfz37_3⟩ := cf4 BK620
   go_wp2_with (first | ((with_reducible refine gate_callee (f := 26) rfl ?_); refine gL (some 39) Try.func26 #[.agg #[.int .i64 t605, .int .i64 t606, .int .i64 t607, .slice Ao16 t608.length co16], .agg #[.int .i64 t613, .int .i64 t614, .int .i64 t615, .slice Ao23 t616.length co23]] ?_; (with_reducible refine (laws_equalImage.calls k t605 t606 t607 _ _ t608 t613 t614 t615 _ _ t616 true _ ?side1 ?side2 ?side3 ?side4 A24.out).mono ?_); (case side1 => refine (Kd.R_reads' (e := 3) (base := w.heap.size) (ok := fun k_ => ((True ∧ some k_ ≠ (.slice Ao10 t597.length co10 : Value).ownBlock) ∧ some k_ ≠ (.slice Ao23 t616.length co23 : Value).ownBlock)) (n := t608.length) (c := co16) ?_).2.2; exact (by refine qR ?_; exact (fr4 HO610 BK620))); (case side2 => exact (Kd.R_reads' HO610.out).2.1); (case side3 => refine (Kd.R_reads' (e := 3) (base := w.heap.size) (ok := fun k_ => ((True ∧ some k_ ≠ (.slice Ao10 t597.length co10 : Value).ownBlock) ∧ some k_ ≠ (.slice Ao16 t608.length co16 : Value).ownBlock)) (n := t616.length) (c := co23) ?_).2.2; exact (by refine qR ?_; exact (fr4 HO618 BK620))); (case side4 => exact (Kd.R_reads' HO618.out).2.1); rintro e w38 ⟨rfl, hb⟩; refine ⟨_, rfl, ?_⟩; replace HO599 := aM (Kd.Q_below (by (with_reducible repeat (first | apply Kd.Q_alloc | apply Kd.Q_drewN | apply Kd.Q_drew)); exact (Kd.Q_mono (qT HO599 BK620) (fun _ h_ => h_.1))) hb); replace HO602 := aM (Kd.N_below (by (with_reducible repeat (first | apply Kd.N_alloc | apply Kd.N_drewN | apply Kd.N_drew)); exact (Kd.N_mono (Kd.N_far (p := ⟨gb620, 3, none⟩) (Kd.N_far (p := ⟨gb620, 2, none⟩) (Kd.N_far (p := ⟨gb620, 1, none⟩) (Kd.N_far (p := ⟨gb620, 0, none⟩) (Kd.N_mono HO602.out (fun k_ hk => (⟨hk, hk.2⟩ : _ ∧ k_ ≠ gb620))) (fun _ hk => hk.2) (.int .i64 t613)) (fun _ hk => hk.2) (.int .i64 t614)) (fun _ hk => hk.2) (.int .i64 t615)) (fun _ hk => hk.2) (.slice Ao23 t616.length co23)) (fun _ h_ => h_.1))) hb); replace HO610 := aM (Kd.R_below (by refine qR ?_; exact (fr4 HO610 BK620)) hb); replace HO618 := aM (Kd.R_below (by refine qR ?_; exact (fr4 HO618 BK620)) hb); replace BK604 := aM (blk_below (g := gb604) (o := .cells #[.int .i64 t594, .int .i64 t595, .int .i64 t596, .slice Ao10 t597.length co10] 29 (0, 0)) (by refine qB ?_; refine blk_far ?_ NB604_620.out _; refine qB ?_; refine blk_far ?_ NB604_620.out _; refine qB ?_; refine blk_far ?_ NB604_620.out _; refine qB ?_; refine blk_far ?_ NB604_620.out _; refine qB ?_; exact BK604.out) hb); replace BK612 := aM (blk_below (g := gb612) (o := .cells #[.int .i64 t605, .int .i64 t606, .int .i64 t607, .slice Ao16 t608.length co16] 29 (0, 0)) (by refine qB ?_; refine blk_far ?_ NB612_620.out _; refine qB ?_; refine blk_far ?_ NB612_620.out _; refine qB ?_; refine blk_far ?_ NB612_620.out _; refine qB ?_; refine blk_far ?_ NB612_620.out _; refine qB ?_; exact BK612.out) hb); replace BK620 := aM (blk_below (g := gb620) (o := .cells #[.int .i64 t613, .int .i64 t614, .int .i64 t615, .slice Ao23 t616.length co23] 29 (0, 0)) (by exact bP BK620.out) hb); replace HB := bS HB hb; clear hb))
   go_meet
   case rel => exact ⟨_, (!t611), qE, H', ⟨by first | omega | exact Nat.le_refl _⟩, ⟨by (with_reducible repeat (first | apply Kd.N_alloc | apply Kd.N_drewN | apply Kd.N_drew)); exact Kd.N_mono HO602.out (fun _ hk => ⟨hk.1.1.1.1.1, ⟨hk.1.1.1.2, ⟨hk.1.2, ⟨hk.1.1.1.1.2, ⟨hk.1.1.2, hk.2⟩⟩⟩⟩⟩)⟩, ⟨by (with_reducible repeat (first | apply Kd.Q_alloc | apply Kd.Q_drewN | apply Kd.Q_drew)); exact Kd.Q_mono HO599.out (fun _ hk => ⟨hk.1.2, hk.2⟩)⟩, ⟨Kd.Q_of_R (by refine qR ?_; exact Kd.R_mono HO610.out (fun _ hk => ⟨hk.1.2, hk.2⟩))⟩, ⟨Kd.Q_of_R (by refine qR ?_; exact Kd.R_mono HO618.out (fun _ hk => ⟨hk.1.2, hk.2⟩))⟩, ⟨by refine qB ?_; exact BK604.out⟩, ⟨by refine qB ?_; exact BK612.out⟩, ⟨by refine qB ?_; exact BK620.out⟩, ⟨by exact qW HB.out⟩⟩
  rw [if_pos c26] at H
  have c26b0 : (t611 != t619) = true := c26
  (try (have c26b1 : decide (t611 = t619) = false := by simpa using c26))
  (try (have c26b2 : (t611 == t619) = false := by simpa using c26))
  (try (have c26b3 : ¬ (t611 = t619) := by simpa using c26))
  clear c26
  (first | rw [c26b0] | (simp only [i64_w, i32_w]; rw [c26b0]) | skip)
  have H' := aM H
  clear H
  have hnb27 := NB612_604.out
  have hnc27 := NB604_612.out
  have hnb28 := NB612_620.out
  have hnc28 := NB620_612.out
  obtain ⟨⟨hcz29_0, hcz29_1, hcz29_2, hcz29_3⟩, hfz29_0, hfz29_1, hfz29_2, hfz29_3⟩ := cf4 BK612
  have hnb30 := NB620_604.out
  have hnc30 := NB604_620.out
  obtain ⟨⟨hcz31_0, hcz31_1, hcz31_2, hcz31_3⟩, hfz31_0, hfz31_1, hfz31_2, hfz31_3⟩ := cf4 BK620
  go_wp2_with (first | ((with_reducible refine gate_callee (f := 26) rfl ?_); refine gL (some 39) Try.func26 #[.agg #[.int .i64 t605, .int .i64 t606, .int .i64 t607, .slice Ao16 t608.length co16], .agg #[.int .i64 t613, .int .i64 t614, .int .i64 t615, .slice Ao23 t616.length co23]] ?_; (with_reducible refine (laws_equalImage.calls k t605 t606 t607 _ _ t608 t613 t614 t615 _ _ t616 true _ ?side1 ?side2 ?side3 ?side4 A24.out).mono ?_); (case side1 => refine (Kd.R_reads' (e := 3) (base := w.heap.size) (ok := fun k_ => ((True ∧ some k_ ≠ (.slice Ao10 t597.length co10 : Value).ownBlock) ∧ some k_ ≠ (.slice Ao23 t616.length co23 : Value).ownBlock)) (n := t608.length) (c := co16) ?_).2.2; exact (by refine qR ?_; exact (fr4 HO610 BK620))); (case side2 => exact (Kd.R_reads' HO610.out).2.1); (case side3 => refine (Kd.R_reads' (e := 3) (base := w.heap.size) (ok := fun k_ => ((True ∧ some k_ ≠ (.slice Ao10 t597.length co10 : Value).ownBlock) ∧ some k_ ≠ (.slice Ao16 t608.length co16 : Value).ownBlock)) (n := t616.length) (c := co23) ?_).2.2; exact (by refine qR ?_; exact (fr4 HO618 BK620))); (case side4 => exact (Kd.R_reads' HO618.out).2.1); rintro e w32 ⟨rfl, hb⟩; refine ⟨_, rfl, ?_⟩; replace HO599 := aM (Kd.Q_below (by (with_reducible repeat (first | apply Kd.Q_alloc | apply Kd.Q_drewN | apply Kd.Q_drew)); exact (Kd.Q_mono (qT HO599 BK620) (fun _ h_ => h_.1))) hb); replace HO602 := aM (Kd.N_below (by (with_reducible repeat (first | apply Kd.N_alloc | apply Kd.N_drewN | apply Kd.N_drew)); exact (Kd.N_mono (Kd.N_far (p := ⟨gb620, 3, none⟩) (Kd.N_far (p := ⟨gb620, 2, none⟩) (Kd.N_far (p := ⟨gb620, 1, none⟩) (Kd.N_far (p := ⟨gb620, 0, none⟩) (Kd.N_mono HO602.out (fun k_ hk => (⟨hk, hk.2⟩ : _ ∧ k_ ≠ gb620))) (fun _ hk => hk.2) (.int .i64 t613)) (fun _ hk => hk.2) (.int .i64 t614)) (fun _ hk => hk.2) (.int .i64 t615)) (fun _ hk => hk.2) (.slice Ao23 t616.length co23)) (fun _ h_ => h_.1))) hb); replace HO610 := aM (Kd.R_below (by refine qR ?_; exact (fr4 HO610 BK620)) hb); replace HO618 := aM (Kd.R_below (by refine qR ?_; exact (fr4 HO618 BK620)) hb); replace BK604 := aM (blk_below (g := gb604) (o := .cells #[.int .i64 t594, .int .i64 t595, .int .i64 t596, .slice Ao10 t597.length co10] 29 (0, 0)) (by refine qB ?_; refine blk_far ?_ NB604_620.out _; refine qB ?_; refine blk_far ?_ NB604_620.out _; refine qB ?_; refine blk_far ?_ NB604_620.out _; refine qB ?_; refine blk_far ?_ NB604_620.out _; refine qB ?_; exact BK604.out) hb); replace BK612 := aM (blk_below (g := gb612) (o := .cells #[.int .i64 t605, .int .i64 t606, .int .i64 t607, .slice Ao16 t608.length co16] 29 (0, 0)) (by refine qB ?_; refine blk_far ?_ NB612_620.out _; refine qB ?_; refine blk_far ?_ NB612_620.out _; refine qB ?_; refine blk_far ?_ NB612_620.out _; refine qB ?_; refine blk_far ?_ NB612_620.out _; refine qB ?_; exact BK612.out) hb); replace BK620 := aM (blk_below (g := gb620) (o := .cells #[.int .i64 t613, .int .i64 t614, .int .i64 t615, .slice Ao23 t616.length co23] 29 (0, 0)) (by exact bP BK620.out) hb); replace HB := bS HB hb; clear hb))
  go_meet
  case rel => exact ⟨_, (true), qE, H', ⟨by first | omega | exact Nat.le_refl _⟩, ⟨by (with_reducible repeat (first | apply Kd.N_alloc | apply Kd.N_drewN | apply Kd.N_drew)); exact Kd.N_mono HO602.out (fun _ hk => ⟨hk.1.1.1.1.1, ⟨hk.1.1.1.2, ⟨hk.1.2, ⟨hk.1.1.1.1.2, ⟨hk.1.1.2, hk.2⟩⟩⟩⟩⟩)⟩, ⟨by (with_reducible repeat (first | apply Kd.Q_alloc | apply Kd.Q_drewN | apply Kd.Q_drew)); exact Kd.Q_mono HO599.out (fun _ hk => ⟨hk.1.2, hk.2⟩)⟩, ⟨Kd.Q_of_R (by refine qR ?_; exact Kd.R_mono HO610.out (fun _ hk => ⟨hk.1.2, hk.2⟩))⟩, ⟨Kd.Q_of_R (by refine qR ?_; exact Kd.R_mono HO618.out (fun _ hk => ⟨hk.1.2, hk.2⟩))⟩, ⟨by refine qB ?_; exact BK604.out⟩, ⟨by refine qB ?_; exact BK612.out⟩, ⟨by refine qB ?_; exact BK620.out⟩, ⟨by exact qW HB.out⟩⟩
 case rest =>
  clear HC6
  try clear c2
  try clear c2b0
  try clear c2b1
  try clear c25
  try clear c26
  try clear c26b0
  try clear c26b1
  try clear c26b2
  try clear hcz15_0 hcz15_1 hcz15_2 hcz15_3 hfz15_0 hfz15_1 hfz15_2 hfz15_3
  try clear hcz17_0 hcz17_1 hcz17_2 hcz17_3 hfz17_0 hfz17_1 hfz17_2 hfz17_3
  try clear hcz22_0 hcz22_1 hcz22_2 hcz22_3 hfz22_0 hfz22_1 hfz22_2 hfz22_3
  try clear hcz29_0 hcz29_1 hcz29_2 hcz29_3 hfz29_0 hfz29_1 hfz29_2 hfz29_3
  try clear hcz31_0 hcz31_1 hcz31_2 hcz31_3 hfz31_0 hfz31_1 hfz31_2 hfz31_3
  try clear hcz35_0 hcz35_1 hcz35_2 hcz35_3 hfz35_0 hfz35_1 hfz35_2 hfz35_3
  try clear hcz37_0 hcz37_1 hcz37_2 hcz37_3 hfz37_0 hfz37_1 hfz37_2 hfz37_3
  try clear hcz41_0 hcz41_1 hcz41_2 hcz41_3 hfz41_0 hfz41_1 hfz41_2 hfz41_3
  try clear hcz43_0 hcz43_1 hcz43_2 hcz43_3 hfz43_0 hfz43_1 hfz43_2 hfz43_3
  try clear hcz9_0 hcz9_1 hcz9_2 hcz9_3 hfz9_0 hfz9_1 hfz9_2 hfz9_3
  obtain ⟨kq, x49_5, rfl, HA, HJ5, HO_4, HO_605003, HO_613003, HO_621003, BK604, BK612, BK620, HB⟩ := hcut
  cases kq with
  | zero => exact absurd HA.out (by simp [laws_FnColorImage.j0])
  | succ kj5 =>
   have H := HA.out
   clear HA
   simp only [laws_FnColorImage.j0] at H
   by_cases c45 : x49_5 = true
   ·subst c45
    have H1 : ((laws_equalImage.f kj5 t605 t606 t607 t608 t613 t614 t615 t616).bind fun t622 => (if t622 = true then (some (t611 == t619)) else (some false))) = some r := by rw [if_pos rfl] at H; exact H
    clear H
    have H := H1
    clear H1
    replace H := Option.bind_eq_some_iff.mp H
    obtain ⟨t622, A460, H⟩ := H
    replace H : (if t622 = true then (some (t611 == t619)) else (some false)) = some r := H
    have A46 := aM A460
    clear A460
    by_cases c47 : t622 = true
    rotate_left
    ·replace c47 := Bool.eq_false_iff.mpr c47
     subst c47
     have H1 : (some false) = some r := by rw [if_neg (show ¬ (false = true) by decide)] at H; exact H
     clear H
     have H := H1
     clear H1
     obtain rfl := Option.some.inj H
     exact absurd hrt (by decide)
    subst c47
    have H1 : (some (t611 == t619)) = some r := by rw [if_pos rfl] at H; exact H
    clear H
    have H := H1
    clear H1
    obtain rfl := Option.some.inj H
    have hnb48 := NB612_604.out
    have hnc48 := NB604_612.out
    have hnb49 := NB612_620.out
    have hnc49 := NB620_612.out
    obtain ⟨⟨hcz50_0, hcz50_1, hcz50_2, hcz50_3⟩, hfz50_0, hfz50_1, hfz50_2, hfz50_3⟩ := cf4 BK612
    have hnb51 := NB620_604.out
    have hnc51 := NB604_620.out
    obtain ⟨⟨hcz52_0, hcz52_1, hcz52_2, hcz52_3⟩, hfz52_0, hfz52_1, hfz52_2, hfz52_3⟩ := cf4 BK620
    go_wp2_with (first | ((with_reducible refine gate_callee (f := 26) rfl ?_); refine gL (some 52) Try.func26 #[.agg #[.int .i64 t605, .int .i64 t606, .int .i64 t607, .slice Ao16 t608.length co16], .agg #[.int .i64 t613, .int .i64 t614, .int .i64 t615, .slice Ao23 t616.length co23]] ?_; (with_reducible refine (laws_equalImage.calls kj5 t605 t606 t607 _ _ t608 t613 t614 t615 _ _ t616 true _ ?side1 ?side2 ?side3 ?side4 A46.out).mono ?_); (case side1 => exact qC (Kd.Q_reads' HO_613003.out).2.2); (case side2 => exact (Kd.Q_reads' HO_613003.out).2.1); (case side3 => exact qC (Kd.Q_reads' HO_621003.out).2.2); (case side4 => exact (Kd.Q_reads' HO_621003.out).2.1); rintro e w53 ⟨rfl, hb⟩; refine ⟨_, rfl, ?_⟩; replace HO_4 := aM (Kd.N_below (by (with_reducible repeat (first | apply Kd.N_alloc | apply Kd.N_drewN | apply Kd.N_drew)); exact HO_4.out) hb); replace HO_605003 := aM (Kd.Q_below (qQ HO_605003.out) hb); replace HO_613003 := aM (Kd.Q_below (qQ HO_613003.out) hb); replace HO_621003 := aM (Kd.Q_below (qQ HO_621003.out) hb); replace BK604 := bB BK604 hb; replace BK612 := bB BK612 hb; replace BK620 := bB BK620 hb; replace HB := bS HB hb; clear hb))
    go_ret
    exact ⟨qX, by exact qW HB.out⟩
   replace c45 := Bool.eq_false_iff.mpr c45
   subst c45
   have H1 : ((impl_IndexImage.f t605 t606 t607 t608 t600).bind fun bt623 => ((impl_ColorImage.f bt623.1 bt623.2.1 bt623.2.2.1 bt623.2.2.2.1 t600 t603).bind fun bt631 => (if bt623.2.2.2.2 = true then (if bt631.2.2.2.2 = true then ((laws_equalImage.f kj5 bt631.1 bt631.2.1 bt631.2.2.1 bt631.2.2.2.1 t605 t606 t607 t608).bind fun t639 => (if t639 = true then (some (t607 == t603)) else (some false))) else (some false)) else (some false)))) = some r := by rw [if_neg (show ¬ (false = true) by decide)] at H; exact H
   clear H
   have H := H1
   clear H1
   replace H := Option.bind_eq_some_iff.mp H
   obtain ⟨⟨t623, t624, t625, t626, t629⟩, A600, H⟩ := H
   replace H : ((impl_ColorImage.f t623 t624 t625 t626 t600 t603).bind fun bt631 => (if t629 = true then (if bt631.2.2.2.2 = true then ((laws_equalImage.f kj5 bt631.1 bt631.2.1 bt631.2.2.1 bt631.2.2.2.1 t605 t606 t607 t608).bind fun t639 => (if t639 = true then (some (t607 == t603)) else (some false))) else (some false)) else (some false))) = some r := H
   have A60 := aM A600
   clear A600
   replace H := Option.bind_eq_some_iff.mp H
   obtain ⟨⟨t631, t632, t633, t634, t637⟩, A610, H⟩ := H
   replace H : (if t629 = true then (if t637 = true then ((laws_equalImage.f kj5 t631 t632 t633 t634 t605 t606 t607 t608).bind fun t639 => (if t639 = true then (some (t607 == t603)) else (some false))) else (some false)) else (some false)) = some r := H
   have A61 := aM A610
   clear A610
   by_cases c62 : t629 = true
   rotate_left
   ·replace c62 := Bool.eq_false_iff.mpr c62
    subst c62
    have H1 : (some false) = some r := by rw [if_neg (show ¬ (false = true) by decide)] at H; exact H
    clear H
    have H := H1
    clear H1
    obtain rfl := Option.some.inj H
    exact absurd hrt (by decide)
   subst c62
   have H1 : (if t637 = true then ((laws_equalImage.f kj5 t631 t632 t633 t634 t605 t606 t607 t608).bind fun t639 => (if t639 = true then (some (t607 == t603)) else (some false))) else (some false)) = some r := by rw [if_pos rfl] at H; exact H
   clear H
   have H := H1
   clear H1
   by_cases c63 : t637 = true
   rotate_left
   ·replace c63 := Bool.eq_false_iff.mpr c63
    subst c63
    have H1 : (some false) = some r := by rw [if_neg (show ¬ (false = true) by decide)] at H; exact H
    clear H
    have H := H1
    clear H1
    obtain rfl := Option.some.inj H
    exact absurd hrt (by decide)
   subst c63
   have H1 : ((laws_equalImage.f kj5 t631 t632 t633 t634 t605 t606 t607 t608).bind fun t639 => (if t639 = true then (some (t607 == t603)) else (some false))) = some r := by rw [if_pos rfl] at H; exact H
   clear H
   have H := H1
   clear H1
   replace H := Option.bind_eq_some_iff.mp H
   obtain ⟨t639, A640, H⟩ := H
   replace H : (if t639 = true then (some (t607 == t603)) else (some false)) = some r := H
   have A64 := aM A640
   clear A640
   by_cases c65 : t639 = true
   rotate_left
   ·replace c65 := Bool.eq_false_iff.mpr c65
    subst c65
    have H1 : (some false) = some r := by rw [if_neg (show ¬ (false = true) by decide)] at H; exact H
    clear H
    have H := H1
    clear H1
    obtain rfl := Option.some.inj H
    exact absurd hrt (by decide)
   subst c65
   have H1 : (some (t607 == t603)) = some r := by rw [if_pos rfl] at H; exact H
   clear H
   have H := H1
   clear H1
   obtain rfl := Option.some.inj H
   have hnb66 := NB612_604.out
   have hnc66 := NB604_612.out
   have hnb67 := NB612_620.out
   have hnc67 := NB620_612.out
   obtain ⟨⟨hcz68_0, hcz68_1, hcz68_2, hcz68_3⟩, hfz68_0, hfz68_1, hfz68_2, hfz68_3⟩ := cf4 BK612
   go_wp2_with (first | ((with_reducible refine gate_callee (f := 24) rfl ?_); refine gL (some 61) Try.func24 #[.agg #[.int .i64 t605, .int .i64 t606, .int .i64 t607, .slice Ao16 t608.length co16], .slice Ao11 t600.length co11] ?_; (with_reducible refine (impl_IndexImage.calls t605 t606 t607 _ _ t608 _ _ t600 t623 t624 t625 t626 true _ ?side1 ?side2 ?side3 ?side4 A60.out).mono ?_); (case side1 => exact qC (Kd.Q_reads' HO_613003.out).2.2); (case side2 => exact (Kd.Q_reads' HO_613003.out).2.1); (case side3 => exact qC (Kd.N_reads' HO_4.out).2.2); (case side4 => exact (Kd.N_reads' HO_4.out).2.1); rintro e w69 ⟨v627, rfl, ho0, hb⟩; refine ⟨_, rfl, ?_⟩; replace HO_4 := aM (Kd.N_elder' (by (with_reducible repeat (first | apply Kd.N_alloc | apply Kd.N_drewN | apply Kd.N_drew)); exact HO_4.out) (Kd.R_base ho0) hb); have HO628 := aM (Kd.R_lower (Kd.R_new' (Kd.R_new' (Kd.R_new' ho0 (Kd.Q_lt (qQ HO_605003.out))) (Kd.Q_lt (qQ HO_613003.out))) (Kd.Q_lt (qQ HO_621003.out))) (below_size (qW HB.out))); replace HO_605003 := aM (Kd.Q_elder' (qQ HO_605003.out) (Kd.R_base ho0) hb); replace HO_613003 := aM (Kd.Q_elder' (qQ HO_613003.out) (Kd.R_base ho0) hb); replace HO_621003 := aM (Kd.Q_elder' (qQ HO_621003.out) (Kd.R_base ho0) hb); replace BK604 := bB BK604 hb; replace BK612 := bB BK612 hb; replace BK620 := bB BK620 hb; replace HB := bS HB hb; clear hb ho0) | ((with_reducible refine gate_dst (N := 10) rfl ?_); refine bxE (N := 10) (cs := #[.int .i64 0, .int .i64 0, .int .i64 0, .slice none 0 0]) (t := 29) ?_; intro gb630 hg w70 hbox hb; replace HO_4 := aM (Kd.N_below (Kd.N_elderB (by (with_reducible repeat (first | apply Kd.N_alloc | apply Kd.N_drewN | apply Kd.N_drew)); exact HO_4.out) gb630 (Nat.le_of_eq hg.symm)) hb); replace HO_605003 := aM (Kd.Q_below (qQ HO_605003.out) hb); replace HO_613003 := aM (Kd.Q_below (qQ HO_613003.out) hb); replace HO_621003 := aM (Kd.Q_below (qQ HO_621003.out) hb); replace HO628 := aM (Kd.R_below (qR HO628.out) hb); have BK630 := aM (hbox); have GW630 := gW hg HB; have GE630 := gW hg HB; replace HB := bS HB hb; have NB604_630 := nL hg BK604; have NB630_604 := nG hg BK604; replace BK604 := bB BK604 hb; have NB612_630 := nL hg BK612; have NB630_612 := nG hg BK612; replace BK612 := bB BK612 hb; have NB620_630 := nL hg BK620; have NB630_620 := nG hg BK620; replace BK620 := bB BK620 hb; clear hb hbox hg; have hnb71 := NB630_604.out; have hnc71 := NB604_630.out; have hnb72 := NB630_612.out; have hnc72 := NB612_630.out; have hnb73 := NB630_620.out; have hnc73 := NB620_630.out; obtain ⟨⟨hcz74_0, hcz74_1, hcz74_2, hcz74_3⟩, hfz74_0, hfz74_1, hfz74_2, hfz74_3⟩ := cf4 BK630; obtain ⟨Ao75, co75, rfl⟩ := sL HO628) | ((with_reducible refine gate_callee (f := 25) rfl ?_); refine gL (some 68) Try.func25 #[.agg #[.int .i64 t623, .int .i64 t624, .int .i64 t625, .slice Ao75 t626.length co75], .slice Ao11 t600.length co11, .int .i64 t603] ?_; (with_reducible refine (impl_ColorImage.calls t623 t624 t625 _ _ t626 _ _ t600 t603 t631 t632 t633 t634 true _ ?side1 ?side2 ?side3 ?side4 A61.out).mono ?_); (case side1 => refine (Kd.R_reads' (e := 3) (base := w.heap.size) (ok := fun k_ => (((True ∧ some k_ ≠ (.slice Ao10 t597.length co10 : Value).ownBlock) ∧ some k_ ≠ (.slice Ao16 t608.length co16 : Value).ownBlock) ∧ some k_ ≠ (.slice Ao23 t616.length co23 : Value).ownBlock)) (n := t626.length) (c := co75) ?_).2.2; exact (by refine qR ?_; exact (fr4 HO628 BK630))); (case side2 => exact (Kd.R_reads' HO628.out).2.1); (case side3 => refine (Kd.N_reads' (e := 22) (base := w.heap.size) (ok := fun k_ => (((some k_ ≠ (.slice Ao10 t597.length co10 : Value).ownBlock ∧ (some k_ ≠ (.slice Ao16 t608.length co16 : Value).ownBlock ∧ (some k_ ≠ (.slice Ao23 t616.length co23 : Value).ownBlock ∧ (k_ ≠ gb604 ∧ (k_ ≠ gb612 ∧ k_ ≠ gb620))))) ∧ some k_ ≠ (.slice Ao75 t626.length co75 : Value).ownBlock) ∧ k_ ≠ gb630)) (n := t600.length) (c := co11) ?_).2.2; exact (by (with_reducible repeat (first | apply Kd.N_alloc | apply Kd.N_drewN | apply Kd.N_drew)); exact (Kd.N_mono (Kd.N_far (p := ⟨gb630, 3, none⟩) (Kd.N_far (p := ⟨gb630, 2, none⟩) (Kd.N_far (p := ⟨gb630, 1, none⟩) (Kd.N_far (p := ⟨gb630, 0, none⟩) (Kd.N_mono HO_4.out (fun k_ hk => (⟨hk, hk.2⟩ : _ ∧ k_ ≠ gb630))) (fun _ hk => hk.2) (.int .i64 t623)) (fun _ hk => hk.2) (.int .i64 t624)) (fun _ hk => hk.2) (.int .i64 t625)) (fun _ hk => hk.2) (.slice Ao75 t626.length co75)) (fun _ h_ => h_.1)))); (case side4 => exact (Kd.N_reads' HO_4.out).2.1); rintro e w76 ⟨v635, rfl, ho0, hb⟩; refine ⟨_, rfl, ?_⟩; replace HO_4 := aM (Kd.N_elder' (by (with_reducible repeat (first | apply Kd.N_alloc | apply Kd.N_drewN | apply Kd.N_drew)); exact (Kd.N_mono (Kd.N_far (p := ⟨gb630, 3, none⟩) (Kd.N_far (p := ⟨gb630, 2, none⟩) (Kd.N_far (p := ⟨gb630, 1, none⟩) (Kd.N_far (p := ⟨gb630, 0, none⟩) (Kd.N_mono HO_4.out (fun k_ hk => (⟨hk, hk.2⟩ : _ ∧ k_ ≠ gb630))) (fun _ hk => hk.2) (.int .i64 t623)) (fun _ hk => hk.2) (.int .i64 t624)) (fun _ hk => hk.2) (.int .i64 t625)) (fun _ hk => hk.2) (.slice Ao75 t626.length co75)) (fun _ h_ => h_.1))) (Kd.R_base ho0) hb); have HO636 := aM (Kd.R_lower (Kd.R_new' (Kd.R_new' (Kd.R_new' (Kd.R_new' ho0 (Kd.Q_lt (by (with_reducible repeat (first | apply Kd.Q_alloc | apply Kd.Q_drewN | apply Kd.Q_drew)); exact (Kd.Q_mono (qT HO_605003 BK630) (fun _ h_ => h_.1))))) (Kd.Q_lt (by (with_reducible repeat (first | apply Kd.Q_alloc | apply Kd.Q_drewN | apply Kd.Q_drew)); exact (Kd.Q_mono (qT HO_613003 BK630) (fun _ h_ => h_.1))))) (Kd.Q_lt (by (with_reducible repeat (first | apply Kd.Q_alloc | apply Kd.Q_drewN | apply Kd.Q_drew)); exact (Kd.Q_mono (qT HO_621003 BK630) (fun _ h_ => h_.1))))) (Kd.R_lt (by refine qR ?_; exact (fr4 HO628 BK630)))) (below_size (qW HB.out))); replace HO_605003 := aM (Kd.Q_elder' (by (with_reducible repeat (first | apply Kd.Q_alloc | apply Kd.Q_drewN | apply Kd.Q_drew)); exact (Kd.Q_mono (qT HO_605003 BK630) (fun _ h_ => h_.1))) (Kd.R_base ho0) hb); replace HO_613003 := aM (Kd.Q_elder' (by (with_reducible repeat (first | apply Kd.Q_alloc | apply Kd.Q_drewN | apply Kd.Q_drew)); exact (Kd.Q_mono (qT HO_613003 BK630) (fun _ h_ => h_.1))) (Kd.R_base ho0) hb); replace HO_621003 := aM (Kd.Q_elder' (by (with_reducible repeat (first | apply Kd.Q_alloc | apply Kd.Q_drewN | apply Kd.Q_drew)); exact (Kd.Q_mono (qT HO_621003 BK630) (fun _ h_ => h_.1))) (Kd.R_base ho0) hb); replace HO628 := aM (Kd.R_elder' (by refine qR ?_; exact (fr4 HO628 BK630)) (Kd.R_base ho0) hb); replace BK604 := aM (blk_below (g := gb604) (o := .cells #[.int .i64 t594, .int .i64 t595, .int .i64 t596, .slice Ao10 t597.length co10] 29 (0, 0)) (by refine qB ?_; refine blk_far ?_ NB604_630.out _; refine qB ?_; refine blk_far ?_ NB604_630.out _; refine qB ?_; refine blk_far ?_ NB604_630.out _; refine qB ?_; refine blk_far ?_ NB604_630.out _; refine qB ?_; exact BK604.out) hb); replace BK612 := aM (blk_below (g := gb612) (o := .cells #[.int .i64 t605, .int .i64 t606, .int .i64 t607, .slice Ao16 t608.length co16] 29 (0, 0)) (by refine qB ?_; refine blk_far ?_ NB612_630.out _; refine qB ?_; refine blk_far ?_ NB612_630.out _; refine qB ?_; refine blk_far ?_ NB612_630.out _; refine qB ?_; refine blk_far ?_ NB612_630.out _; refine qB ?_; exact BK612.out) hb); replace BK620 := aM (blk_below (g := gb620) (o := .cells #[.int .i64 t613, .int .i64 t614, .int .i64 t615, .slice Ao23 t616.length co23] 29 (0, 0)) (by refine qB ?_; refine blk_far ?_ NB620_630.out _; refine qB ?_; refine blk_far ?_ NB620_630.out _; refine qB ?_; refine blk_far ?_ NB620_630.out _; refine qB ?_; refine blk_far ?_ NB620_630.out _; refine qB ?_; exact BK620.out) hb); replace BK630 := aM (blk_below (g := gb630) (o := .cells #[.int .i64 t623, .int .i64 t624, .int .i64 t625, .slice Ao75 t626.length co75] 29 (0, 0)) (by exact bP BK630.out) hb); replace HB := bS HB hb; clear hb ho0) | ((with_reducible refine gate_dst (N := 12) rfl ?_); refine bxE (N := 12) (cs := #[.int .i64 0, .int .i64 0, .int .i64 0, .slice none 0 0]) (t := 29) ?_; intro gb638 hg w77 hbox hb; replace HO_4 := aM (Kd.N_below (Kd.N_elderB (by (with_reducible repeat (first | apply Kd.N_alloc | apply Kd.N_drewN | apply Kd.N_drew)); exact HO_4.out) gb638 (Nat.le_of_eq hg.symm)) hb); replace HO_605003 := aM (Kd.Q_below (qQ HO_605003.out) hb); replace HO_613003 := aM (Kd.Q_below (qQ HO_613003.out) hb); replace HO_621003 := aM (Kd.Q_below (qQ HO_621003.out) hb); replace HO628 := aM (Kd.R_below (qR HO628.out) hb); replace HO636 := aM (Kd.R_below (qR HO636.out) hb); have BK638 := aM (hbox); have GW638 := gW hg HB; have GE638 := gW hg HB; replace HB := bS HB hb; have NB604_638 := nL hg BK604; have NB638_604 := nG hg BK604; replace BK604 := bB BK604 hb; have NB612_638 := nL hg BK612; have NB638_612 := nG hg BK612; replace BK612 := bB BK612 hb; have NB620_638 := nL hg BK620; have NB638_620 := nG hg BK620; replace BK620 := bB BK620 hb; have NB630_638 := nL hg BK630; have NB638_630 := nG hg BK630; replace BK630 := bB BK630 hb; clear hb hbox hg; have hnb78 := NB638_604.out; have hnc78 := NB604_638.out; have hnb79 := NB638_612.out; have hnc79 := NB612_638.out; have hnb80 := NB638_620.out; have hnc80 := NB620_638.out; have hnb81 := NB638_630.out; have hnc81 := NB630_638.out; obtain ⟨⟨hcz82_0, hcz82_1, hcz82_2, hcz82_3⟩, hfz82_0, hfz82_1, hfz82_2, hfz82_3⟩ := cf4 BK638; obtain ⟨Ao83, co83, rfl⟩ := sL HO636; obtain ⟨⟨hcz84_0, hcz84_1, hcz84_2, hcz84_3⟩, hfz84_0, hfz84_1, hfz84_2, hfz84_3⟩ := cf4 BK612) | (go_at_call 26; (with_reducible refine (laws_equalImage.calls kj5 t631 t632 t633 _ _ t634 t605 t606 t607 _ _ t608 true _ ?side1 ?side2 ?side3 ?side4 A64.out).mono ?_); (case side1 => refine (Kd.R_reads' (e := 3) (base := w.heap.size) (ok := fun k_ => ((((True ∧ some k_ ≠ (.slice Ao10 t597.length co10 : Value).ownBlock) ∧ some k_ ≠ (.slice Ao16 t608.length co16 : Value).ownBlock) ∧ some k_ ≠ (.slice Ao23 t616.length co23 : Value).ownBlock) ∧ some k_ ≠ (.slice Ao75 t626.length co75 : Value).ownBlock)) (n := t634.length) (c := co83) ?_).2.2; exact (by refine qR ?_; exact (fr4 HO636 BK638))); (case side2 => exact (Kd.R_reads' HO636.out).2.1); (case side3 => refine (Kd.Q_reads' (e := 3) (base := w.heap.size) (ok := fun k_ => (((some k_ ≠ (.slice Ao10 t597.length co10 : Value).ownBlock ∧ some k_ ≠ (.slice Ao23 t616.length co23 : Value).ownBlock) ∧ some k_ ≠ (.slice Ao75 t626.length co75 : Value).ownBlock) ∧ some k_ ≠ (.slice Ao83 t634.length co83 : Value).ownBlock)) (n := t608.length) (c := co16) ?_).2.2; exact (by (with_reducible repeat (first | apply Kd.Q_alloc | apply Kd.Q_drewN | apply Kd.Q_drew)); exact (Kd.Q_mono (qT HO_613003 BK638) (fun _ h_ => h_.1)))); (case side4 => exact (Kd.Q_reads' HO_613003.out).2.1); rintro e w85 ⟨rfl, hb⟩; replace HO_4 := aM (Kd.N_below (by (with_reducible repeat (first | apply Kd.N_alloc | apply Kd.N_drewN | apply Kd.N_drew)); exact (Kd.N_mono (Kd.N_far (p := ⟨gb638, 3, none⟩) (Kd.N_far (p := ⟨gb638, 2, none⟩) (Kd.N_far (p := ⟨gb638, 1, none⟩) (Kd.N_far (p := ⟨gb638, 0, none⟩) (Kd.N_mono HO_4.out (fun k_ hk => (⟨hk, hk.2⟩ : _ ∧ k_ ≠ gb638))) (fun _ hk => hk.2) (.int .i64 t631)) (fun _ hk => hk.2) (.int .i64 t632)) (fun _ hk => hk.2) (.int .i64 t633)) (fun _ hk => hk.2) (.slice Ao83 t634.length co83)) (fun _ h_ => h_.1))) hb); replace HO_605003 := aM (Kd.Q_below (by (with_reducible repeat (first | apply Kd.Q_alloc | apply Kd.Q_drewN | apply Kd.Q_drew)); exact (Kd.Q_mono (qT HO_605003 BK638) (fun _ h_ => h_.1))) hb); replace HO_613003 := aM (Kd.Q_below (by (with_reducible repeat (first | apply Kd.Q_alloc | apply Kd.Q_drewN | apply Kd.Q_drew)); exact (Kd.Q_mono (qT HO_613003 BK638) (fun _ h_ => h_.1))) hb); replace HO_621003 := aM (Kd.Q_below (by (with_reducible repeat (first | apply Kd.Q_alloc | apply Kd.Q_drewN | apply Kd.Q_drew)); exact (Kd.Q_mono (qT HO_621003 BK638) (fun _ h_ => h_.1))) hb); replace HO628 := aM (Kd.R_below (by refine qR ?_; exact (fr4 HO628 BK638)) hb); replace HO636 := aM (Kd.R_below (by refine qR ?_; exact (fr4 HO636 BK638)) hb); replace BK604 := aM (blk_below (g := gb604) (o := .cells #[.int .i64 t594, .int .i64 t595, .int .i64 t596, .slice Ao10 t597.length co10] 29 (0, 0)) (by refine qB ?_; refine blk_far ?_ NB604_638.out _; refine qB ?_; refine blk_far ?_ NB604_638.out _; refine qB ?_; refine blk_far ?_ NB604_638.out _; refine qB ?_; refine blk_far ?_ NB604_638.out _; refine qB ?_; exact BK604.out) hb); replace BK612 := aM (blk_below (g := gb612) (o := .cells #[.int .i64 t605, .int .i64 t606, .int .i64 t607, .slice Ao16 t608.length co16] 29 (0, 0)) (by refine qB ?_; refine blk_far ?_ NB612_638.out _; refine qB ?_; refine blk_far ?_ NB612_638.out _; refine qB ?_; refine blk_far ?_ NB612_638.out _; refine qB ?_; refine blk_far ?_ NB612_638.out _; refine qB ?_; exact BK612.out) hb); replace BK620 := aM (blk_below (g := gb620) (o := .cells #[.int .i64 t613, .int .i64 t614, .int .i64 t615, .slice Ao23 t616.length co23] 29 (0, 0)) (by refine qB ?_; refine blk_far ?_ NB620_638.out _; refine qB ?_; refine blk_far ?_ NB620_638.out _; refine qB ?_; refine blk_far ?_ NB620_638.out _; refine qB ?_; refine blk_far ?_ NB620_638.out _; refine qB ?_; exact BK620.out) hb); replace BK630 := aM (blk_below (g := gb630) (o := .cells #[.int .i64 t623, .int .i64 t624, .int .i64 t625, .slice Ao75 t626.length co75] 29 (0, 0)) (by refine qB ?_; refine blk_far ?_ NB630_638.out _; refine qB ?_; refine blk_far ?_ NB630_638.out _; refine qB ?_; refine blk_far ?_ NB630_638.out _; refine qB ?_; refine blk_far ?_ NB630_638.out _; refine qB ?_; exact BK630.out) hb); replace BK638 := aM (blk_below (g := gb638) (o := .cells #[.int .i64 t631, .int .i64 t632, .int .i64 t633, .slice Ao83 t634.length co83] 29 (0, 0)) (by exact bP BK638.out) hb); replace HB := bS HB hb; clear hb; obtain ⟨⟨hcz86_0, hcz86_1, hcz86_2, hcz86_3⟩, hfz86_0, hfz86_1, hfz86_2, hfz86_3⟩ := cf4 BK612))
   go_ret
   exact ⟨qX, by exact qW HB.out⟩
def laws_FnColorImage.Pure : Prop := ∀ (l0 : List Int), l0.length ≤ maxLen → l0.length * 1 ≤ 140737488351232 → (∀ x ∈ l0, (Lit.int .u8 x).wf = true) → ∃ k, laws_FnColorImage.f k l0 = some true
theorem laws_FnColorImage.walk (P : laws_FnColorImage.Pure) (a0 : Option Addr) (len0 cap0 : Nat) (z0 : List Int) (w : World) (w0 : (a0 = none ∧ len0 = 0 ∧ cap0 = 0 ∧ z0 = []) ∨ ∃ x, a0 = some x ∧ len0 ≤ cap0 ∧ cap0 ≤ maxLen ∧ z0.length = cap0 ∧ (∀ i, i < z0.length → w.cell? (x.add i) = some (.int .u8 (z0.getD i 0))) ∧ ∀ n ∈ z0, (Lit.int .u8 n).wf = true) (y0 : len0 * 1 ≤ 140737488351232) :
  Calls Try.prog 6 #[.slice a0 len0 cap0] w fun e w' => e = .returned (.bool true) ∧ Below w.heap.size w w' := by
 obtain ⟨l0, rfl, hr0, hm0, hw0, hc0⟩ := ReadsInt.ofRowC w0
 obtain ⟨k, h⟩ := P l0 hm0 y0 hw0
 refine (laws_FnColorImage.calls k _ _ l0 true w (Kd.C_of_reads (d := (0 : Int)) (h1 := fun _ => rfl) hr0) hc0 h rfl).mono ?_
 rintro e w' ⟨rfl, hd⟩
 exact ⟨rfl, hd⟩
end Go.Proofs.Ytohbpilokmppbaa.P
