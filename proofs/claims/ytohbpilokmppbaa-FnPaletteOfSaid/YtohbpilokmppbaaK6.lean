/- Contracts and row, written by a program of this place out of the translation: the call answers true and its argument reads as before, for every input; no condition. -/
import Derived.Test.YtohbpilokmppbaaK0
import Derived.Test.YtohbpilokmppbaaK1
import Derived.Test.YtohbpilokmppbaaK4
import Derived.Test.YtohbpilokmppbaaK5
namespace Go.Proofs.Ytohbpilokmppbaa.P
open Go.RowKit Go.Proofs.YtohbpilokmppbaaW.PrintWords Go.Proofs.YtohbpilokmppbaaW.PrintLast Go.Proofs.YtohbpilokmppbaaW.PrintMore
attribute [local go_sem] max2_int min2_int max_two min_two max_three min_three max_four min_four   -- for this text's walks alone
set_option linter.unusedVariables false
set_option linter.unusedSimpArgs false
def spec_randomImage.l0 : Nat → Int → Int → Int → List Int → Int → Int → Int → Int → List Int → Option (Int × Int × Int × List Int × Int)
 | 0, _, _, _, _, _, _, _, _, _ => none
 | k + 1, x6, x7, x8, x1000, x1001, x265000, x265001, x265002, x265003 => if x8 < (x265003.length : Int) then (if x6 = 0 then ((spec_reader_pick.f k x1000 x1001 256).bind fun bt269 => (if 0 ≤ x8 then (spec_randomImage.l0 k x6 bt269.1 (wrap64 (x8 + 1)) x1000 bt269.2 x265000 x265001 x265002 (x265003.set (x8 : Int).toNat bt269.1)) else (none))) else (if x6 = 1 then ((spec_reader_pick.f k x1000 x1001 5).bind fun bt272 => (if 0 ≤ x8 then (spec_randomImage.l0 k x6 (Int.tmod (wrap64 ((wrap64 (x7 + bt272.1)) + 254)) 256) (wrap64 (x8 + 1)) x1000 bt272.2 x265000 x265001 x265002 (x265003.set (x8 : Int).toNat (Int.tmod (wrap64 ((wrap64 (x7 + bt272.1)) + 254)) 256))) else (none))) else (if x6 = 2 then ((spec_reader_pick.f k x1000 x1001 4).bind fun bt275 => (if 0 ≤ x8 then (spec_randomImage.l0 k x6 (wrap64 (60 * bt275.1)) (wrap64 (x8 + 1)) x1000 bt275.2 x265000 x265001 x265002 (x265003.set (x8 : Int).toNat (wrap64 (60 * bt275.1)))) else (none))) else (if 0 ≤ x8 then (spec_randomImage.l0 k x6 x7 (wrap64 (x8 + 1)) x1000 x1001 x265000 x265001 x265002 (x265003.set (x8 : Int).toNat x7)) else (none))))) else (some (x265000, x265001, x265002, x265003, x1001))
def spec_randomImage.f (k : Nat) (s0_0 : List Int) (s0_1 : Int) (a1 : Int) : Option (Int × Int × Int × List Int × Int) := (spec_reader_one.f k s0_0 s0_1 (([3, 4, 2, 5, 1, 8, 6] : List Int))).bind fun bt251 => ((spec_reader_one.f k s0_0 bt251.2 (([3, 2, 4, 1, 5, 8] : List Int))).bind fun bt256 => ((spec_newImage.f bt251.1 bt256.1 a1).bind fun bt258 => ((spec_reader_pick.f k s0_0 bt256.2 4).bind fun bt265 => ((spec_reader_pick.f k s0_0 bt265.2 256).bind fun bt267 => (spec_randomImage.l0 k bt265.1 bt267.1 0 s0_0 bt267.2 bt258.1 bt258.2.1 bt258.2.2.1 bt258.2.2.2)))))
theorem spec_randomImage.mono_l : ∀ k, (∀ y0 y1 y2 y3 y4 y5 y6 y7 y8, LeO (spec_randomImage.l0 k y0 y1 y2 y3 y4 y5 y6 y7 y8) (spec_randomImage.l0 (k + 1) y0 y1 y2 y3 y4 y5 y6 y7 y8))
 | 0 => fun _ _ _ _ _ _ _ _ _ r h => by simp [spec_randomImage.l0] at h
 | k + 1 => by
  have ih0 := spec_randomImage.mono_l k
  ·intro y0 y1 y2 y3 y4 y5 y6 y7 y8
   unfold spec_randomImage.l0
   repeat' first | (with_reducible first | exact ih0 _ _ _ _ _ _ _ _ _ | exact spec_reader_one.mono _ _ _ _ | exact spec_reader_pick.mono _ _ _ _ | exact lR | exact lN | refine lI ?_ ?_ | refine lB ?_ fun _ => ?_) | exact ih0 _ _ _ _ _ _ _ _ _ | exact spec_reader_one.mono _ _ _ _ | exact spec_reader_pick.mono _ _ _ _ | exact lN | refine lI ?_ ?_ | refine lB ?_ fun _ => ?_
theorem spec_randomImage.mono : ∀ a0 a1 a2 k, LeO (spec_randomImage.f k a0 a1 a2) (spec_randomImage.f (k + 1) a0 a1 a2) := by
 intro a0 a1 a2 k
 have ih0 := spec_randomImage.mono_l k
 unfold spec_randomImage.f
 repeat' first | (with_reducible first | exact ih0 _ _ _ _ _ _ _ _ _ | exact spec_reader_one.mono _ _ _ _ | exact spec_reader_pick.mono _ _ _ _ | exact lR | exact lN | refine lI ?_ ?_ | refine lB ?_ fun _ => ?_) | exact ih0 _ _ _ _ _ _ _ _ _ | exact spec_reader_one.mono _ _ _ _ | exact spec_reader_pick.mono _ _ _ _ | exact lN | refine lI ?_ ?_ | refine lB ?_ fun _ => ?_
set_option maxHeartbeats 8000000 in
set_option maxRecDepth 100000 in
theorem spec_randomImage.calls (k : Nat) (g : Nat) (s0_0 : List Int) (s0_1 : Int) (a1 : Int) (r1 : Int) (r2 : Int) (r3 : Int) (r4 : List Int) (r5 : Int) (w0 w : World) (hI : IsS83 w0 w g s0_0 s0_1) (hB : Below w0.heap.size w0 w) (h : spec_randomImage.f k s0_0 s0_1 a1 = some (r1, r2, r3, r4, r5)) :
  Calls Try.prog 81 #[.pointer (some ⟨g, 0, none⟩), .int .i64 a1] w fun e w' => ∃ v3_ : Value, e = .returned (.agg #[.int .i64 r1, .int .i64 r2, .int .i64 r3, v3_]) ∧ Kd.R (Kd.int .i64) 3 w' w.heap.size (fun _ => True) v3_ r4 ∧ IsS83 w0 w' g s0_0 r5 ∧ Below w0.heap.size w0 w' ∧ KeepBut w w' g none := by
 have hu29 := Try.underlying29
 have HI0 := aM hI
 have HK := aM (KeepBut.refl w g none)
 have HL := aM hB.size
 clear hI
 have HW0 := aM hB.size
 have HB := aM hB
 clear hB
 unfold spec_randomImage.f at h
 have H := h
 clear h
 obtain ⟨y248, hy248⟩ : ∃ y_ : List Int, y_ = (([3, 4, 2, 5, 1, 8, 6] : List Int)) := ⟨_, rfl⟩
 replace H : ((spec_reader_one.f k s0_0 s0_1 y248).bind fun bt251 => ((spec_reader_one.f k s0_0 bt251.2 (([3, 2, 4, 1, 5, 8] : List Int))).bind fun bt256 => ((spec_newImage.f bt251.1 bt256.1 a1).bind fun bt258 => ((spec_reader_pick.f k s0_0 bt256.2 4).bind fun bt265 => ((spec_reader_pick.f k s0_0 bt265.2 256).bind fun bt267 => (spec_randomImage.l0 k bt265.1 bt267.1 0 s0_0 bt267.2 bt258.1 bt258.2.1 bt258.2.2.1 bt258.2.2.2)))))) = some (r1, r2, r3, r4, r5) := rY hy248 H
 have Ny248 := aM hy248
 clear hy248
 replace H := Option.bind_eq_some_iff.mp H
 obtain ⟨⟨t251, t252⟩, A30, H⟩ := H
 replace H : ((spec_reader_one.f k s0_0 t252 (([3, 2, 4, 1, 5, 8] : List Int))).bind fun bt256 => ((spec_newImage.f t251 bt256.1 a1).bind fun bt258 => ((spec_reader_pick.f k s0_0 bt256.2 4).bind fun bt265 => ((spec_reader_pick.f k s0_0 bt265.2 256).bind fun bt267 => (spec_randomImage.l0 k bt265.1 bt267.1 0 s0_0 bt267.2 bt258.1 bt258.2.1 bt258.2.2.1 bt258.2.2.2))))) = some (r1, r2, r3, r4, r5) := H
 have A3 := aM A30
 clear A30
 obtain ⟨y253, hy253⟩ : ∃ y_ : List Int, y_ = (([3, 2, 4, 1, 5, 8] : List Int)) := ⟨_, rfl⟩
 replace H : ((spec_reader_one.f k s0_0 t252 y253).bind fun bt256 => ((spec_newImage.f t251 bt256.1 a1).bind fun bt258 => ((spec_reader_pick.f k s0_0 bt256.2 4).bind fun bt265 => ((spec_reader_pick.f k s0_0 bt265.2 256).bind fun bt267 => (spec_randomImage.l0 k bt265.1 bt267.1 0 s0_0 bt267.2 bt258.1 bt258.2.1 bt258.2.2.1 bt258.2.2.2))))) = some (r1, r2, r3, r4, r5) := rY hy253 H
 have Ny253 := aM hy253
 clear hy253
 replace H := Option.bind_eq_some_iff.mp H
 obtain ⟨⟨t256, t257⟩, A40, H⟩ := H
 replace H : ((spec_newImage.f t251 t256 a1).bind fun bt258 => ((spec_reader_pick.f k s0_0 t257 4).bind fun bt265 => ((spec_reader_pick.f k s0_0 bt265.2 256).bind fun bt267 => (spec_randomImage.l0 k bt265.1 bt267.1 0 s0_0 bt267.2 bt258.1 bt258.2.1 bt258.2.2.1 bt258.2.2.2)))) = some (r1, r2, r3, r4, r5) := H
 have A4 := aM A40
 clear A40
 replace H := Option.bind_eq_some_iff.mp H
 obtain ⟨⟨t258, t259, t260, t261⟩, A50, H⟩ := H
 replace H : ((spec_reader_pick.f k s0_0 t257 4).bind fun bt265 => ((spec_reader_pick.f k s0_0 bt265.2 256).bind fun bt267 => (spec_randomImage.l0 k bt265.1 bt267.1 0 s0_0 bt267.2 t258 t259 t260 t261))) = some (r1, r2, r3, r4, r5) := H
 have A5 := aM A50
 clear A50
 replace H := Option.bind_eq_some_iff.mp H
 obtain ⟨⟨t265, t266⟩, A60, H⟩ := H
 replace H : ((spec_reader_pick.f k s0_0 t266 256).bind fun bt267 => (spec_randomImage.l0 k t265 bt267.1 0 s0_0 bt267.2 t258 t259 t260 t261)) = some (r1, r2, r3, r4, r5) := H
 have A6 := aM A60
 clear A60
 replace H := Option.bind_eq_some_iff.mp H
 obtain ⟨⟨t267, t268⟩, A70, H⟩ := H
 replace H : (spec_randomImage.l0 k t265 t267 0 s0_0 t268 t258 t259 t260 t261) = some (r1, r2, r3, r4, r5) := H
 have A7 := aM A70
 clear A70
 have H' := aM H
 clear H
 go_enter Try.func81, Try.ntmps81
 go_wp2_with (first | ((with_reducible refine gate_dst (N := 4) rfl ?_); refine bxE (N := 4) (cs := #[.int .i64 0, .int .i64 0, .int .i64 0, .slice none 0 0]) (t := 29) ?_; intro gb247 hg w8 hbox hb; replace HB := aM (below_step (wS83 HB.out) hb); have BK247 := aM (hbox); have GW247 := aM ((by rw [hg]; exact (keep_size (w := w) (g := g) (row := none) (kB HK.out)) : w.heap.size ≤ gb247)); have GE247 := aM ((Nat.le_trans HW0.out (by rw [hg]; exact (keep_size (w := w) (g := g) (row := none) (kB HK.out)) : w.heap.size ≤ gb247) : w0.heap.size ≤ gb247)); replace HK := aM (KeepBut.trans (kB HK.out) (KeepBut.of_below hb g none) (.inl rfl)); have NB0_247 := aM ((by rw [hg]; exact Nat.ne_of_lt (IsS83.lt (show IsS83 w0 _ g s0_0 s0_1 from iS83 HI0.out)) : g ≠ gb247)); have NB247_0 := aM ((by rw [hg]; exact Nat.ne_of_gt (IsS83.lt (show IsS83 w0 _ g s0_0 s0_1 from iS83 HI0.out)) : gb247 ≠ g)); replace HI0 := aM (IsS83.below (iS83 HI0.out) hb); clear hb hbox hg) | ((with_reducible refine gate_dst (N := 10) rfl ?_); refine iL ([3, 4, 2, 5, 1, 8, 6] : List Int) [.int .i64 3, .int .i64 4, .int .i64 2, .int .i64 5, .int .i64 1, .int .i64 8, .int .i64 6] ?_; intro v249 w9 ho10 hb hg_ hnew_; clear hg_ hnew_; (first | rw [← Ny248.out] at ho10 | (simp only [Int.reduceToNat] at ho10; rw [← Ny248.out] at ho10)); have HO250 := lK ho10 HK; replace BK247 := bB BK247 hb; replace HK := aM (KeepBut.trans (kB HK.out) (KeepBut.of_below hb g none) (.inl rfl)); replace HB := aM (below_step (wS83 HB.out) hb); replace HI0 := aM (IsS83.below (iS83 HI0.out) hb); clear hb ho10; obtain ⟨Ao11, co11, rfl⟩ := sL HO250) | ((with_reducible refine gate_callee (f := 74) rfl ?_); refine gL (some 11) Try.func74 #[.pointer (some ⟨g, 0, none⟩), .slice Ao11 y248.length co11] ?_; (with_reducible refine (spec_reader_one.calls k g s0_0 s0_1 _ _ y248 t251 t252 w0 _ ?side1 ?side2 ?side3 ?side4 ?side5 A3.out).mono ?_); (case side1 => exact iS83 HI0.out); (case side2 => exact wS83 HB.out); (case side3 => exact qC (Kd.R_reads' HO250.out).2.2); (case side4 => exact (Kd.R_reads' HO250.out).2.1); (case side5 => exact far_slice (IsS83.own_ne HI0.out HO250.out (by decide))); rintro e w12 ⟨rfl, hi, hb, hk⟩; refine ⟨_, rfl, ?_⟩; replace BK247 := bK hk BK247 NB247_0; replace HO250 := aM (Kd.R_mono (Kd.R_keep (IsS83.apart (show IsS83 w0 _ g s0_0 s0_1 from iS83 HI0.out) (qR HO250.out) (by decide)) hk (fun _ h => h.2)) (fun _ h => h.1)); replace HK := aM (KeepBut.trans (kB HK.out) hk (.inl rfl)); replace HB := aM (hb); replace HI0 := aM (hi); clear hb hk hi) | ((with_reducible refine gate_dst (N := 13) rfl ?_); refine iL ([3, 2, 4, 1, 5, 8] : List Int) [.int .i64 3, .int .i64 2, .int .i64 4, .int .i64 1, .int .i64 5, .int .i64 8] ?_; intro v254 w13 ho14 hb hg_ hnew_; clear hg_ hnew_; (first | rw [← Ny253.out] at ho14 | (simp only [Int.reduceToNat] at ho14; rw [← Ny253.out] at ho14)); have HO255 := aM (Kd.R_lower (Kd.R_new' ho14 (Kd.R_lt (qR HO250.out))) (keep_size (w := w) (g := g) (row := none) (kB HK.out))); replace HO250 := aM (Kd.R_elder' (qR HO250.out) (Kd.R_base ho14) hb); replace BK247 := bB BK247 hb; replace HK := aM (KeepBut.trans (kB HK.out) (KeepBut.of_below hb g none) (.inl rfl)); replace HB := aM (below_step (wS83 HB.out) hb); replace HI0 := aM (IsS83.below (iS83 HI0.out) hb); clear hb ho14; obtain ⟨Ao15, co15, rfl⟩ := sL HO255) | ((with_reducible refine gate_callee (f := 74) rfl ?_); refine gL (some 14) Try.func74 #[.pointer (some ⟨g, 0, none⟩), .slice Ao15 y253.length co15] ?_; (with_reducible refine (spec_reader_one.calls k g s0_0 t252 _ _ y253 t256 t257 w0 _ ?side1 ?side2 ?side3 ?side4 ?side5 A4.out).mono ?_); (case side1 => exact iS83 HI0.out); (case side2 => exact wS83 HB.out); (case side3 => exact qC (Kd.R_reads' HO255.out).2.2); (case side4 => exact (Kd.R_reads' HO255.out).2.1); (case side5 => exact far_slice (IsS83.own_ne HI0.out HO255.out (by decide))); rintro e w16 ⟨rfl, hi, hb, hk⟩; refine ⟨_, rfl, ?_⟩; replace BK247 := bK hk BK247 NB247_0; replace HO250 := aM (Kd.R_mono (Kd.R_keep (IsS83.apart (show IsS83 w0 _ g s0_0 t252 from iS83 HI0.out) (qR HO250.out) (by decide)) hk (fun _ h => h.2)) (fun _ h => h.1)); replace HO255 := aM (Kd.R_mono (Kd.R_keep (IsS83.apart (show IsS83 w0 _ g s0_0 t252 from iS83 HI0.out) (qR HO255.out) (by decide)) hk (fun _ h => h.2)) (fun _ h => h.1)); replace HK := aM (KeepBut.trans (kB HK.out) hk (.inl rfl)); replace HB := aM (hb); replace HI0 := aM (hi); clear hb hk hi) | ((with_reducible refine gate_callee (f := 62) rfl ?_); refine gL (some 16) Try.func62 #[.int .i64 t251, .int .i64 t256, .int .i64 a1] ?_; (with_reducible refine (spec_newImage.calls t251 t256 a1 t258 t259 t260 t261 _ A5.out).mono ?_); rintro e w17 ⟨v262, rfl, ho0, hb⟩; refine ⟨_, rfl, ?_⟩; have HO263 := aM (Kd.R_lower (Kd.R_new' (Kd.R_new' ho0 (Kd.R_lt (qR HO250.out))) (Kd.R_lt (qR HO255.out))) (keep_size (w := w) (g := g) (row := none) (kB HK.out))); replace HO250 := aM (Kd.R_elder' (qR HO250.out) (Kd.R_base ho0) hb); replace HO255 := aM (Kd.R_elder' (qR HO255.out) (Kd.R_base ho0) hb); replace BK247 := bB BK247 hb; replace HK := aM (KeepBut.trans (kB HK.out) (KeepBut.of_below hb g none) (.inl rfl)); replace HB := aM (below_step (wS83 HB.out) hb); replace HI0 := aM (IsS83.below (iS83 HI0.out) hb); clear hb ho0) | ((with_reducible refine gate_dst (N := 5) rfl ?_); refine bxE (N := 5) (cs := #[.int .i64 0, .int .i64 0, .int .i64 0, .slice none 0 0]) (t := 29) ?_; intro gb264 hg w18 hbox hb; replace HO250 := aM (Kd.R_below (qR HO250.out) hb); replace HO255 := aM (Kd.R_below (qR HO255.out) hb); replace HO263 := aM (Kd.R_below (qR HO263.out) hb); replace HB := aM (below_step (wS83 HB.out) hb); have BK264 := aM (hbox); have GW264 := aM ((by rw [hg]; exact (keep_size (w := w) (g := g) (row := none) (kB HK.out)) : w.heap.size ≤ gb264)); have GE264 := aM ((Nat.le_trans HW0.out (by rw [hg]; exact (keep_size (w := w) (g := g) (row := none) (kB HK.out)) : w.heap.size ≤ gb264) : w0.heap.size ≤ gb264)); replace HK := aM (KeepBut.trans (kB HK.out) (KeepBut.of_below hb g none) (.inl rfl)); have NB247_264 := nL hg BK247; have NB264_247 := nG hg BK247; replace BK247 := bB BK247 hb; have NB0_264 := aM ((by rw [hg]; exact Nat.ne_of_lt (IsS83.lt (show IsS83 w0 _ g s0_0 t257 from iS83 HI0.out)) : g ≠ gb264)); have NB264_0 := aM ((by rw [hg]; exact Nat.ne_of_gt (IsS83.lt (show IsS83 w0 _ g s0_0 t257 from iS83 HI0.out)) : gb264 ≠ g)); replace HI0 := aM (IsS83.below (iS83 HI0.out) hb); clear hb hbox hg; have hnb19 := NB264_247.out; have hnc19 := NB247_264.out; have hnb20 := NB264_0.out; have hnc20 := NB0_264.out; obtain ⟨⟨hcz21_0, hcz21_1, hcz21_2, hcz21_3⟩, hfz21_0, hfz21_1, hfz21_2, hfz21_3⟩ := cf4 BK264; obtain ⟨Ao22, co22, rfl⟩ := sL HO263) | ((with_reducible refine gate_callee (f := 66) rfl ?_); refine gL (some 18) Try.func66 #[.pointer (some ⟨g, 0, none⟩), .int .i64 4] ?_; (with_reducible refine (spec_reader_pick.calls k g s0_0 t257 4 t265 t266 w0 _ ?side1 ?side2 A6.out).mono ?_); (case side1 => exact iS83 HI0.out); (case side2 => exact wS83 HB.out); rintro e w23 ⟨rfl, hi, hb, hk⟩; refine ⟨_, rfl, ?_⟩; replace BK247 := aM (KeepBut.blk hk (g' := gb247) (o := .cells #[.int .i64 0, .int .i64 0, .int .i64 0, .slice none 0 0] 29 (0, 0)) (by refine qB ?_; refine blk_far ?_ NB247_264.out _; refine qB ?_; refine blk_far ?_ NB247_264.out _; refine qB ?_; refine blk_far ?_ NB247_264.out _; refine qB ?_; refine blk_far ?_ NB247_264.out _; refine qB ?_; exact BK247.out) NB247_0.out (by simp)); replace HO250 := aM (Kd.R_mono (Kd.R_keep (IsS83.apart (show IsS83 w0 _ g s0_0 t257 from iS83 HI0.out) (by refine qR ?_; exact (fr4 HO250 BK264)) (by decide)) hk (fun _ h => h.2)) (fun _ h => h.1)); replace HO255 := aM (Kd.R_mono (Kd.R_keep (IsS83.apart (show IsS83 w0 _ g s0_0 t257 from iS83 HI0.out) (by refine qR ?_; exact (fr4 HO255 BK264)) (by decide)) hk (fun _ h => h.2)) (fun _ h => h.1)); replace HO263 := aM (Kd.R_mono (Kd.R_keep (IsS83.apart (show IsS83 w0 _ g s0_0 t257 from iS83 HI0.out) (by refine qR ?_; exact (fr4 HO263 BK264)) (by decide)) hk (fun _ h => h.2)) (fun _ h => h.1)); replace BK264 := aM (KeepBut.blk hk (g' := gb264) (o := .cells #[.int .i64 t258, .int .i64 t259, .int .i64 t260, .slice Ao22 t261.length co22] 29 (0, 0)) (by exact bP BK264.out) NB264_0.out (by simp)); replace HK := aM (KeepBut.trans (kB HK.out) hk (.inl rfl)); replace HB := aM (hb); replace HI0 := aM (hi); clear hb hk hi) | ((with_reducible refine gate_callee (f := 66) rfl ?_); refine gL (some 20) Try.func66 #[.pointer (some ⟨g, 0, none⟩), .int .i64 256] ?_; (with_reducible refine (spec_reader_pick.calls k g s0_0 t266 256 t267 t268 w0 _ ?side1 ?side2 A7.out).mono ?_); (case side1 => exact iS83 HI0.out); (case side2 => exact wS83 HB.out); rintro e w24 ⟨rfl, hi, hb, hk⟩; refine ⟨_, rfl, ?_⟩; replace BK247 := bK hk BK247 NB247_0; replace HO250 := aM (Kd.R_mono (Kd.R_keep (IsS83.apart (show IsS83 w0 _ g s0_0 t266 from iS83 HI0.out) (qR HO250.out) (by decide)) hk (fun _ h => h.2)) (fun _ h => h.1)); replace HO255 := aM (Kd.R_mono (Kd.R_keep (IsS83.apart (show IsS83 w0 _ g s0_0 t266 from iS83 HI0.out) (qR HO255.out) (by decide)) hk (fun _ h => h.2)) (fun _ h => h.1)); replace HO263 := aM (Kd.R_mono (Kd.R_keep (IsS83.apart (show IsS83 w0 _ g s0_0 t266 from iS83 HI0.out) (qR HO263.out) (by decide)) hk (fun _ h => h.2)) (fun _ h => h.1)); replace BK264 := bK hk BK264 NB264_0; replace HK := aM (KeepBut.trans (kB HK.out) hk (.inl rfl)); replace HB := aM (hb); replace HI0 := aM (hi); clear hb hk hi))
 go_loopg [7, 8] k (fun kq v7 v8 w' => ∃ (x7_1 : Int) (x8_1 : Int) (x1001_1 : Int) (x265003_1 : List Int) (u265003 : Value), v7 = .int .i64 x7_1 ∧ v8 = .int .i64 x8_1 ∧ Aside0 (spec_randomImage.l0 kq t265 x7_1 x8_1 s0_0 x1001_1 t258 t259 t260 x265003_1 = some (r1, r2, r3, r4, r5)) ∧ Aside0 (kq ≤ k) ∧ Aside0 (Kd.R (Kd.int .i64) 3 w' w.heap.size (fun _ => True) u265003 x265003_1) ∧ Aside0 (w'.heap[gb247]? = some (.cells #[.int .i64 0, .int .i64 0, .int .i64 0, (.slice none 0 0)] 29 (0, 0))) ∧ Aside0 (w'.heap[gb264]? = some (.cells #[.int .i64 t258, .int .i64 t259, .int .i64 t260, u265003] 29 (0, 0))) ∧ Aside0 (IsS83 w0 w' g s0_0 x1001_1) ∧ Aside0 (KeepBut w w' g none) ∧ Aside0 (Below w0.heap.size w0 w'))
 case atStart => exact ⟨(t267), (0), (t268), (t261), (.slice Ao22 t261.length co22), qE, qE, H', ⟨Nat.le_refl _⟩, ⟨by refine qR ?_; exact Kd.R_mono HO263.out (fun _ hk => trivial)⟩, ⟨by refine qB ?_; exact BK247.out⟩, ⟨by refine qB ?_; exact BK264.out⟩, ⟨iS83 HI0.out⟩, ⟨kB HK.out⟩, ⟨wS83 HB.out⟩⟩
 case round =>
  clear H'
  try clear hcz21_0 hcz21_1 hcz21_2 hcz21_3 hfz21_0 hfz21_1 hfz21_2 hfz21_3
  obtain ⟨x7_1, x8_1, x1001_1, x265003_1, u265003, rfl, rfl, HA, HK1, HO_265003, BK247, BK264, HI0, HK, HB⟩ := hrel
  cases gk with
  | zero => exact absurd HA.out (by simp [spec_randomImage.l0])
  | succ k1 =>
   have H := HA.out
   clear HA
   simp only [spec_randomImage.l0] at H
   by_cases c25 : x8_1 < (x265003_1.length : Int)
   rotate_left
   ·rw [if_neg c25] at H
    have c25b0 : decide (x8_1 < (x265003_1.length : Int)) = false := decide_eq_false c25
    clear c25
    simp only [Option.some.injEq, Prod.mk.injEq] at H
    obtain ⟨rfl, rfl, rfl, rfl, rfl⟩ := H
    have hnb70 := NB264_247.out
    have hnc70 := NB247_264.out
    have hnb71 := NB264_0.out
    have hnc71 := NB0_264.out
    obtain ⟨⟨hcz72_0, hcz72_1, hcz72_2, hcz72_3⟩, hfz72_0, hfz72_1, hfz72_2, hfz72_3⟩ := cf4 BK264
    obtain ⟨Ao73, co73, rfl⟩ := sL HO_265003
    have hnb74 := NB247_0.out
    have hnc74 := NB0_247.out
    obtain ⟨⟨hcz75_0, hcz75_1, hcz75_2, hcz75_3⟩, hfz75_0, hfz75_1, hfz75_2, hfz75_3⟩ := cf4 BK247
    go_wp2
    refine bodyPost_ret (results_cell_row rfl _ _ gb247 29 #[.int .i64 t258, .int .i64 t259, .int .i64 t260, .slice Ao73 x265003_1.length co73] (0, 0) _ rfl (by exact bP BK247.out) Try.underlying29 rfl (by kernel_rfl)) rfl ?_
    exact ⟨_, qX, by refine qR ?_; exact Kd.R_mono (rT HO_265003 BK247) (fun _ hk => trivial), iS83 HI0.out, wS83 HB.out, kB HK.out⟩
   rw [if_pos c25] at H
   have c25b0 : decide (x8_1 < (x265003_1.length : Int)) = true := decide_eq_true c25
   clear c25
   by_cases c26 : t265 = 0
   ·rw [if_pos c26] at H
    have c26b0 : (t265 == 0) = true := beq_iff_eq.mpr c26
    have c26b1 : (t265 != 0) = false := bne_eq_false_iff_eq.mpr c26
    clear c26
    replace H := Option.bind_eq_some_iff.mp H
    obtain ⟨⟨t269, t270⟩, A270, H⟩ := H
    replace H : (if 0 ≤ x8_1 then (spec_randomImage.l0 k1 t265 t269 (wrap64 (x8_1 + 1)) s0_0 t270 t258 t259 t260 (x265003_1.set (x8_1 : Int).toNat t269)) else (none)) = some (r1, r2, r3, r4, r5) := H
    have A27 := aM A270
    clear A270
    replace H := iD H
    obtain ⟨c28b0, H⟩ := H
    obtain ⟨y271, hy271⟩ : ∃ y_ : List Int, y_ = (x265003_1.set (x8_1 : Int).toNat t269) := ⟨_, rfl⟩
    replace H : (spec_randomImage.l0 k1 t265 t269 (wrap64 (x8_1 + 1)) s0_0 t270 t258 t259 t260 y271) = some (r1, r2, r3, r4, r5) := rY hy271 H
    have Ny271 := aM hy271
    clear hy271
    have H' := aM H
    clear H
    have hnb30 := NB264_247.out
    have hnc30 := NB247_264.out
    have hnb31 := NB264_0.out
    have hnc31 := NB0_264.out
    obtain ⟨⟨hcz32_0, hcz32_1, hcz32_2, hcz32_3⟩, hfz32_0, hfz32_1, hfz32_2, hfz32_3⟩ := cf4 BK264
    obtain ⟨Ao33, co33, rfl⟩ := sL HO_265003
    go_wp2_with (first | ((with_reducible refine gate_callee (f := 66) rfl ?_); refine gL (some 32) Try.func66 #[.pointer (some ⟨g, 0, none⟩), .int .i64 256] ?_; (with_reducible refine (spec_reader_pick.calls k1 g s0_0 x1001_1 256 t269 t270 w0 _ ?side1 ?side2 A27.out).mono ?_); (case side1 => exact iS83 HI0.out); (case side2 => exact wS83 HB.out); rintro e w34 ⟨rfl, hi, hb, hk⟩; refine ⟨_, rfl, ?_⟩; replace HO_265003 := aM (Kd.R_mono (Kd.R_keep (IsS83.apart (show IsS83 w0 _ g s0_0 x1001_1 from iS83 HI0.out) (qR HO_265003.out) (by decide)) hk (fun _ h => h.2)) (fun _ h => h.1)); replace BK247 := bK hk BK247 NB247_0; replace BK264 := bK hk BK264 NB264_0; replace HK := aM (KeepBut.trans (kB HK.out) hk (.inl rfl)); replace HB := aM (hb); replace HI0 := aM (hi); clear hb hk hi; obtain ⟨⟨hcz35_0, hcz35_1, hcz35_2, hcz35_3⟩, hfz35_0, hfz35_1, hfz35_2, hfz35_3⟩ := cf4 BK264; have p29 : 0 ≤ (x8_1 : Int) := oD; have q29 : (x8_1 : Int) < ((x265003_1.length : Int) : Int) := oD; obtain ⟨go29, co29, eo29, gb29, gl29, cl29, HG29⟩ := Kd.R_form HO_265003.out (by omega); (first | cases eo29 | (injection eo29 with ea_ en_ ec_; (first | subst ea_ | (injection ea_ with ea_; subst ea_)); subst ec_; clear en_)); have GB29 := aM gb29; have GG29 := aM HG29; clear gb29 gl29 HG29; obtain ⟨hx29_0, hf29_0⟩ := Kd.R_celln 0 HO_265003.out (x8_1 : Int) p29 q29; replace p29 := eq_true p29; replace q29 := eq_true q29; obtain ⟨hy36_, hz36_⟩ := Kd.R_celln 0 HO_265003.out (x8_1 : Int) oD oD; have HP36 := Kd.R_putg HO_265003.out (x8_1 : Int) t269) | ((with_reducible refine gate_store (t := 3) (p := 50) rfl ?_); refine store_event (t := 3) (p := 50) (v := ?vo_w37) (w1 := (w34.setCell ⟨go29, (x8_1 : Int).toNat, none⟩ (.int .i64 t269))) ?hg ?ho ?hn ?hr ?_; (case ho => rfl); (case hg => rfl); (case hn => rfl); (case hr => first | (go_simp; done) | (go_simp; rfl)); intro w37 hw; have hg : w34.grownBy w37 (some go29) := (by rw [hw]; exact HP36.2); have hp_ : Kd.R (Kd.int .i64) 3 w37 w.heap.size (fun _ => True) (.slice (some ⟨go29, 0, none⟩) x265003_1.length co33) y271 := (by rw [hw, Ny271.out]; exact HP36.1); clear HP36; replace BK247 := gB BK247 hg (Kd.R_ne HO_265003.out BK247.out (by decide)); replace BK264 := gB BK264 hg (Kd.R_ne HO_265003.out BK264.out (by decide)); replace HI0 := aM (IsS83.grown (iS83 HI0.out) hg (IsS83.own_ne HI0.out HO_265003.out (by decide))); replace HB := aM ((by rw [hw]; exact below_set (HB.out) (Nat.le_trans HL.out GB29.out) : Below w0.heap.size w0 w37)); replace HK := aM (KeepBut.trans (kB HK.out) (KeepBut.of_grown hg g) (Kd.R_base2 HO_265003.out)); replace HO_265003 := aM (hp_); clear hg hw hp_))
    go_roundg k1
    case measure => have := HK1.out; omega
    case rel => exact ⟨(t269), (wrap64 (x8_1 + 1)), (t270), (y271), (.slice (some ⟨go29, 0, none⟩) x265003_1.length co33), qE, qE, H', ⟨by have := HK1.out; omega⟩, ⟨by refine qR ?_; exact HO_265003.out⟩, ⟨by refine qB ?_; exact BK247.out⟩, ⟨by refine qB ?_; exact BK264.out⟩, ⟨iS83 HI0.out⟩, ⟨kB HK.out⟩, ⟨wS83 HB.out⟩⟩
   rw [if_neg c26] at H
   have c26b0 : (t265 == 0) = false := beq_eq_false_iff_ne.mpr c26
   have c26b1 : (t265 != 0) = true := bne_iff_ne.mpr c26
   by_cases c38 : t265 = 1
   ·rw [if_pos c38] at H
    have c38b0 : (t265 == 1) = true := beq_iff_eq.mpr c38
    have c38b1 : (t265 != 1) = false := bne_eq_false_iff_eq.mpr c38
    clear c38
    replace H := Option.bind_eq_some_iff.mp H
    obtain ⟨⟨t272, t273⟩, A390, H⟩ := H
    replace H : (if 0 ≤ x8_1 then (spec_randomImage.l0 k1 t265 (Int.tmod (wrap64 ((wrap64 (x7_1 + t272)) + 254)) 256) (wrap64 (x8_1 + 1)) s0_0 t273 t258 t259 t260 (x265003_1.set (x8_1 : Int).toNat (Int.tmod (wrap64 ((wrap64 (x7_1 + t272)) + 254)) 256))) else (none)) = some (r1, r2, r3, r4, r5) := H
    have A39 := aM A390
    clear A390
    replace H := iD H
    obtain ⟨c40b0, H⟩ := H
    obtain ⟨y274, hy274⟩ : ∃ y_ : List Int, y_ = (x265003_1.set (x8_1 : Int).toNat (Int.tmod (wrap64 ((wrap64 (x7_1 + t272)) + 254)) 256)) := ⟨_, rfl⟩
    replace H : (spec_randomImage.l0 k1 t265 (Int.tmod (wrap64 ((wrap64 (x7_1 + t272)) + 254)) 256) (wrap64 (x8_1 + 1)) s0_0 t273 t258 t259 t260 y274) = some (r1, r2, r3, r4, r5) := rY hy274 H
    have Ny274 := aM hy274
    clear hy274
    have H' := aM H
    clear H
    have hnb42 := NB264_247.out
    have hnc42 := NB247_264.out
    have hnb43 := NB264_0.out
    have hnc43 := NB0_264.out
    obtain ⟨⟨hcz44_0, hcz44_1, hcz44_2, hcz44_3⟩, hfz44_0, hfz44_1, hfz44_2, hfz44_3⟩ := cf4 BK264
    obtain ⟨Ao45, co45, rfl⟩ := sL HO_265003
    go_wp2_with (first | ((with_reducible refine gate_callee (f := 66) rfl ?_); refine gL (some 37) Try.func66 #[.pointer (some ⟨g, 0, none⟩), .int .i64 5] ?_; (with_reducible refine (spec_reader_pick.calls k1 g s0_0 x1001_1 5 t272 t273 w0 _ ?side1 ?side2 A39.out).mono ?_); (case side1 => exact iS83 HI0.out); (case side2 => exact wS83 HB.out); rintro e w46 ⟨rfl, hi, hb, hk⟩; refine ⟨_, rfl, ?_⟩; replace HO_265003 := aM (Kd.R_mono (Kd.R_keep (IsS83.apart (show IsS83 w0 _ g s0_0 x1001_1 from iS83 HI0.out) (qR HO_265003.out) (by decide)) hk (fun _ h => h.2)) (fun _ h => h.1)); replace BK247 := bK hk BK247 NB247_0; replace BK264 := bK hk BK264 NB264_0; replace HK := aM (KeepBut.trans (kB HK.out) hk (.inl rfl)); replace HB := aM (hb); replace HI0 := aM (hi); clear hb hk hi; obtain ⟨⟨hcz47_0, hcz47_1, hcz47_2, hcz47_3⟩, hfz47_0, hfz47_1, hfz47_2, hfz47_3⟩ := cf4 BK264; have p41 : 0 ≤ (x8_1 : Int) := oD; have q41 : (x8_1 : Int) < ((x265003_1.length : Int) : Int) := oD; obtain ⟨go41, co41, eo41, gb41, gl41, cl41, HG41⟩ := Kd.R_form HO_265003.out (by omega); (first | cases eo41 | (injection eo41 with ea_ en_ ec_; (first | subst ea_ | (injection ea_ with ea_; subst ea_)); subst ec_; clear en_)); have GB41 := aM gb41; have GG41 := aM HG41; clear gb41 gl41 HG41; obtain ⟨hx41_0, hf41_0⟩ := Kd.R_celln 0 HO_265003.out (x8_1 : Int) p41 q41; replace p41 := eq_true p41; replace q41 := eq_true q41; obtain ⟨hy48_, hz48_⟩ := Kd.R_celln 0 HO_265003.out (x8_1 : Int) oD oD; have HP48 := Kd.R_putg HO_265003.out (x8_1 : Int) (Int.tmod (wrap64 ((wrap64 (x7_1 + t272)) + 254)) 256)) | ((with_reducible refine gate_store (t := 3) (p := 50) rfl ?_); refine store_event (t := 3) (p := 50) (v := ?vo_w49) (w1 := (w46.setCell ⟨go41, (x8_1 : Int).toNat, none⟩ (.int .i64 (Int.tmod (wrap64 ((wrap64 (x7_1 + t272)) + 254)) 256)))) ?hg ?ho ?hn ?hr ?_; (case ho => rfl); (case hg => rfl); (case hn => rfl); (case hr => first | (go_simp; done) | (go_simp; rfl)); intro w49 hw; have hg : w46.grownBy w49 (some go41) := (by rw [hw]; exact HP48.2); have hp_ : Kd.R (Kd.int .i64) 3 w49 w.heap.size (fun _ => True) (.slice (some ⟨go41, 0, none⟩) x265003_1.length co45) y274 := (by rw [hw, Ny274.out]; exact HP48.1); clear HP48; replace BK247 := gB BK247 hg (Kd.R_ne HO_265003.out BK247.out (by decide)); replace BK264 := gB BK264 hg (Kd.R_ne HO_265003.out BK264.out (by decide)); replace HI0 := aM (IsS83.grown (iS83 HI0.out) hg (IsS83.own_ne HI0.out HO_265003.out (by decide))); replace HB := aM ((by rw [hw]; exact below_set (HB.out) (Nat.le_trans HL.out GB41.out) : Below w0.heap.size w0 w49)); replace HK := aM (KeepBut.trans (kB HK.out) (KeepBut.of_grown hg g) (Kd.R_base2 HO_265003.out)); replace HO_265003 := aM (hp_); clear hg hw hp_))
    go_roundg k1
    case measure => have := HK1.out; omega
    case rel => exact ⟨(Int.tmod (wrap64 ((wrap64 (x7_1 + t272)) + 254)) 256), (wrap64 (x8_1 + 1)), (t273), (y274), (.slice (some ⟨go41, 0, none⟩) x265003_1.length co45), qE, qE, H', ⟨by have := HK1.out; omega⟩, ⟨by refine qR ?_; exact HO_265003.out⟩, ⟨by refine qB ?_; exact BK247.out⟩, ⟨by refine qB ?_; exact BK264.out⟩, ⟨iS83 HI0.out⟩, ⟨kB HK.out⟩, ⟨wS83 HB.out⟩⟩
   rw [if_neg c38] at H
   have c38b0 : (t265 == 1) = false := beq_eq_false_iff_ne.mpr c38
   have c38b1 : (t265 != 1) = true := bne_iff_ne.mpr c38
   by_cases c50 : t265 = 2
   rotate_left
   ·rw [if_neg c50] at H
    have c50b0 : (t265 == 2) = false := beq_eq_false_iff_ne.mpr c50
    have c50b1 : (t265 != 2) = true := bne_iff_ne.mpr c50
    replace H := iD H
    obtain ⟨c62b0, H⟩ := H
    obtain ⟨y278, hy278⟩ : ∃ y_ : List Int, y_ = (x265003_1.set (x8_1 : Int).toNat x7_1) := ⟨_, rfl⟩
    replace H : (spec_randomImage.l0 k1 t265 x7_1 (wrap64 (x8_1 + 1)) s0_0 x1001_1 t258 t259 t260 y278) = some (r1, r2, r3, r4, r5) := rY hy278 H
    have Ny278 := aM hy278
    clear hy278
    have H' := aM H
    clear H
    have hnb64 := NB264_247.out
    have hnc64 := NB247_264.out
    have hnb65 := NB264_0.out
    have hnc65 := NB0_264.out
    obtain ⟨⟨hcz66_0, hcz66_1, hcz66_2, hcz66_3⟩, hfz66_0, hfz66_1, hfz66_2, hfz66_3⟩ := cf4 BK264
    obtain ⟨Ao67, co67, rfl⟩ := sL HO_265003
    have p63 : 0 ≤ (x8_1 : Int) := oD
    have q63 : (x8_1 : Int) < ((x265003_1.length : Int) : Int) := oD
    obtain ⟨go63, co63, eo63, gb63, gl63, cl63, HG63⟩ := Kd.R_form HO_265003.out (by omega)
    (first | cases eo63 | (injection eo63 with ea_ en_ ec_; (first | subst ea_ | (injection ea_ with ea_; subst ea_)); subst ec_; clear en_))
    have GB63 := aM gb63
    have GG63 := aM HG63
    clear gb63 gl63 HG63
    obtain ⟨hx63_0, hf63_0⟩ := Kd.R_celln 0 HO_265003.out (x8_1 : Int) p63 q63
    replace p63 := eq_true p63
    replace q63 := eq_true q63
    have HP68 := Kd.R_putg HO_265003.out (x8_1 : Int) x7_1
    go_wp2_with (first | ((with_reducible refine gate_store (t := 3) (p := 50) rfl ?_); refine store_event (t := 3) (p := 50) (v := ?vo_w69) (w1 := (wr.setCell ⟨go63, (x8_1 : Int).toNat, none⟩ (.int .i64 x7_1))) ?hg ?ho ?hn ?hr ?_; (case ho => rfl); (case hg => rfl); (case hn => rfl); (case hr => first | (go_simp; done) | (go_simp; rfl)); intro w69 hw; have hg : wr.grownBy w69 (some go63) := (by rw [hw]; exact HP68.2); have hp_ : Kd.R (Kd.int .i64) 3 w69 w.heap.size (fun _ => True) (.slice (some ⟨go63, 0, none⟩) x265003_1.length co67) y278 := (by rw [hw, Ny278.out]; exact HP68.1); clear HP68; replace BK247 := gB BK247 hg (Kd.R_ne HO_265003.out BK247.out (by decide)); replace BK264 := gB BK264 hg (Kd.R_ne HO_265003.out BK264.out (by decide)); replace HI0 := aM (IsS83.grown (iS83 HI0.out) hg (IsS83.own_ne HI0.out HO_265003.out (by decide))); replace HB := aM ((by rw [hw]; exact below_set (HB.out) (Nat.le_trans HL.out GB63.out) : Below w0.heap.size w0 w69)); replace HK := aM (KeepBut.trans (kB HK.out) (KeepBut.of_grown hg g) (Kd.R_base2 HO_265003.out)); replace HO_265003 := aM (hp_); clear hg hw hp_))
    go_roundg k1
    case measure => have := HK1.out; omega
    case rel => exact ⟨(x7_1), (wrap64 (x8_1 + 1)), (x1001_1), (y278), (.slice (some ⟨go63, 0, none⟩) x265003_1.length co67), qE, qE, H', ⟨by have := HK1.out; omega⟩, ⟨by refine qR ?_; exact HO_265003.out⟩, ⟨by refine qB ?_; exact BK247.out⟩, ⟨by refine qB ?_; exact BK264.out⟩, ⟨iS83 HI0.out⟩, ⟨kB HK.out⟩, ⟨wS83 HB.out⟩⟩
   rw [if_pos c50] at H
   have c50b0 : (t265 == 2) = true := beq_iff_eq.mpr c50
   have c50b1 : (t265 != 2) = false := bne_eq_false_iff_eq.mpr c50
   clear c50
   replace H := Option.bind_eq_some_iff.mp H
   obtain ⟨⟨t275, t276⟩, A510, H⟩ := H
   replace H : (if 0 ≤ x8_1 then (spec_randomImage.l0 k1 t265 (wrap64 (60 * t275)) (wrap64 (x8_1 + 1)) s0_0 t276 t258 t259 t260 (x265003_1.set (x8_1 : Int).toNat (wrap64 (60 * t275)))) else (none)) = some (r1, r2, r3, r4, r5) := H
   have A51 := aM A510
   clear A510
   replace H := iD H
   obtain ⟨c52b0, H⟩ := H
   obtain ⟨y277, hy277⟩ : ∃ y_ : List Int, y_ = (x265003_1.set (x8_1 : Int).toNat (wrap64 (60 * t275))) := ⟨_, rfl⟩
   replace H : (spec_randomImage.l0 k1 t265 (wrap64 (60 * t275)) (wrap64 (x8_1 + 1)) s0_0 t276 t258 t259 t260 y277) = some (r1, r2, r3, r4, r5) := rY hy277 H
   have Ny277 := aM hy277
   clear hy277
   have H' := aM H
   clear H
   have hnb54 := NB264_247.out
   have hnc54 := NB247_264.out
   have hnb55 := NB264_0.out
   have hnc55 := NB0_264.out
   obtain ⟨⟨hcz56_0, hcz56_1, hcz56_2, hcz56_3⟩, hfz56_0, hfz56_1, hfz56_2, hfz56_3⟩ := cf4 BK264
   obtain ⟨Ao57, co57, rfl⟩ := sL HO_265003
   go_wp2_with (first | ((with_reducible refine gate_callee (f := 66) rfl ?_); refine gL (some 44) Try.func66 #[.pointer (some ⟨g, 0, none⟩), .int .i64 4] ?_; (with_reducible refine (spec_reader_pick.calls k1 g s0_0 x1001_1 4 t275 t276 w0 _ ?side1 ?side2 A51.out).mono ?_); (case side1 => exact iS83 HI0.out); (case side2 => exact wS83 HB.out); rintro e w58 ⟨rfl, hi, hb, hk⟩; refine ⟨_, rfl, ?_⟩; replace HO_265003 := aM (Kd.R_mono (Kd.R_keep (IsS83.apart (show IsS83 w0 _ g s0_0 x1001_1 from iS83 HI0.out) (qR HO_265003.out) (by decide)) hk (fun _ h => h.2)) (fun _ h => h.1)); replace BK247 := bK hk BK247 NB247_0; replace BK264 := bK hk BK264 NB264_0; replace HK := aM (KeepBut.trans (kB HK.out) hk (.inl rfl)); replace HB := aM (hb); replace HI0 := aM (hi); clear hb hk hi; obtain ⟨⟨hcz59_0, hcz59_1, hcz59_2, hcz59_3⟩, hfz59_0, hfz59_1, hfz59_2, hfz59_3⟩ := cf4 BK264; have p53 : 0 ≤ (x8_1 : Int) := oD; have q53 : (x8_1 : Int) < ((x265003_1.length : Int) : Int) := oD; obtain ⟨go53, co53, eo53, gb53, gl53, cl53, HG53⟩ := Kd.R_form HO_265003.out (by omega); (first | cases eo53 | (injection eo53 with ea_ en_ ec_; (first | subst ea_ | (injection ea_ with ea_; subst ea_)); subst ec_; clear en_)); have GB53 := aM gb53; have GG53 := aM HG53; clear gb53 gl53 HG53; obtain ⟨hx53_0, hf53_0⟩ := Kd.R_celln 0 HO_265003.out (x8_1 : Int) p53 q53; replace p53 := eq_true p53; replace q53 := eq_true q53; obtain ⟨hy60_, hz60_⟩ := Kd.R_celln 0 HO_265003.out (x8_1 : Int) oD oD; have HP60 := Kd.R_putg HO_265003.out (x8_1 : Int) (wrap64 (60 * t275))) | ((with_reducible refine gate_store (t := 3) (p := 50) rfl ?_); refine store_event (t := 3) (p := 50) (v := ?vo_w61) (w1 := (w58.setCell ⟨go53, (x8_1 : Int).toNat, none⟩ (.int .i64 (wrap64 (60 * t275))))) ?hg ?ho ?hn ?hr ?_; (case ho => rfl); (case hg => rfl); (case hn => rfl); (case hr => first | (go_simp; done) | (go_simp; rfl)); intro w61 hw; have hg : w58.grownBy w61 (some go53) := (by rw [hw]; exact HP60.2); have hp_ : Kd.R (Kd.int .i64) 3 w61 w.heap.size (fun _ => True) (.slice (some ⟨go53, 0, none⟩) x265003_1.length co57) y277 := (by rw [hw, Ny277.out]; exact HP60.1); clear HP60; replace BK247 := gB BK247 hg (Kd.R_ne HO_265003.out BK247.out (by decide)); replace BK264 := gB BK264 hg (Kd.R_ne HO_265003.out BK264.out (by decide)); replace HI0 := aM (IsS83.grown (iS83 HI0.out) hg (IsS83.own_ne HI0.out HO_265003.out (by decide))); replace HB := aM ((by rw [hw]; exact below_set (HB.out) (Nat.le_trans HL.out GB53.out) : Below w0.heap.size w0 w61)); replace HK := aM (KeepBut.trans (kB HK.out) (KeepBut.of_grown hg g) (Kd.R_base2 HO_265003.out)); replace HO_265003 := aM (hp_); clear hg hw hp_))
   go_roundg k1
   case measure => have := HK1.out; omega
   case rel => exact ⟨(wrap64 (60 * t275)), (wrap64 (x8_1 + 1)), (t276), (y277), (.slice (some ⟨go53, 0, none⟩) x265003_1.length co57), qE, qE, H', ⟨by have := HK1.out; omega⟩, ⟨by refine qR ?_; exact HO_265003.out⟩, ⟨by refine qB ?_; exact BK247.out⟩, ⟨by refine qB ?_; exact BK264.out⟩, ⟨iS83 HI0.out⟩, ⟨kB HK.out⟩, ⟨wS83 HB.out⟩⟩
def spec_anyImage.f (k : Nat) (s0_0 : List Int) (s0_1 : Int) : Option (Int × Int × Int × List Int × Int) := (spec_anyPlanes.f k s0_0 s0_1).bind fun bt280 => ((spec_randomImage.f k s0_0 bt280.2 bt280.1).bind fun bt282 => ((spec_spoilImage.f k s0_0 bt282.2.2.2.2 bt282.1 bt282.2.1 bt282.2.2.1 bt282.2.2.2.1).bind fun bt289 => (some (bt289.1, bt289.2.1, bt289.2.2.1, bt289.2.2.2.1, bt289.2.2.2.2))))
theorem spec_anyImage.mono : ∀ a0 a1 k, LeO (spec_anyImage.f k a0 a1) (spec_anyImage.f (k + 1) a0 a1) := by
 intro a0 a1 k
 unfold spec_anyImage.f
 repeat' first | (with_reducible first | exact spec_anyPlanes.mono _ _ _ | exact spec_randomImage.mono _ _ _ _ | exact spec_spoilImage.mono _ _ _ _ _ _ _ | exact lR | exact lN | refine lI ?_ ?_ | refine lB ?_ fun _ => ?_) | exact spec_anyPlanes.mono _ _ _ | exact spec_randomImage.mono _ _ _ _ | exact spec_spoilImage.mono _ _ _ _ _ _ _ | exact lN | refine lI ?_ ?_ | refine lB ?_ fun _ => ?_
set_option maxHeartbeats 8000000 in
set_option maxRecDepth 100000 in
theorem spec_anyImage.calls (k : Nat) (g : Nat) (s0_0 : List Int) (s0_1 : Int) (r1 : Int) (r2 : Int) (r3 : Int) (r4 : List Int) (r5 : Int) (w0 w : World) (hI : IsS83 w0 w g s0_0 s0_1) (hB : Below w0.heap.size w0 w) (h : spec_anyImage.f k s0_0 s0_1 = some (r1, r2, r3, r4, r5)) :
  Calls Try.prog 51 #[.pointer (some ⟨g, 0, none⟩)] w fun e w' => ∃ v3_ : Value, e = .returned (.agg #[.int .i64 r1, .int .i64 r2, .int .i64 r3, v3_]) ∧ Kd.Q (Kd.int .i64) 3 w' w.heap.size (fun _ => True) v3_ r4 ∧ IsS83 w0 w' g s0_0 r5 ∧ Below w0.heap.size w0 w' ∧ KeepBut w w' g none := by
 have hu29 := Try.underlying29
 have HI0 := aM hI
 have HK := aM (KeepBut.refl w g none)
 have HL := aM hB.size
 clear hI
 have HW0 := aM hB.size
 have HB := aM hB
 clear hB
 unfold spec_anyImage.f at h
 have H := h
 clear h
 replace H := Option.bind_eq_some_iff.mp H
 obtain ⟨⟨t280, t281⟩, A20, H⟩ := H
 replace H : ((spec_randomImage.f k s0_0 t281 t280).bind fun bt282 => ((spec_spoilImage.f k s0_0 bt282.2.2.2.2 bt282.1 bt282.2.1 bt282.2.2.1 bt282.2.2.2.1).bind fun bt289 => (some (bt289.1, bt289.2.1, bt289.2.2.1, bt289.2.2.2.1, bt289.2.2.2.2)))) = some (r1, r2, r3, r4, r5) := H
 have A2 := aM A20
 clear A20
 replace H := Option.bind_eq_some_iff.mp H
 obtain ⟨⟨t282, t283, t284, t285, t288⟩, A30, H⟩ := H
 replace H : ((spec_spoilImage.f k s0_0 t288 t282 t283 t284 t285).bind fun bt289 => (some (bt289.1, bt289.2.1, bt289.2.2.1, bt289.2.2.2.1, bt289.2.2.2.2))) = some (r1, r2, r3, r4, r5) := H
 have A3 := aM A30
 clear A30
 replace H := Option.bind_eq_some_iff.mp H
 obtain ⟨⟨t289, t290, t291, t292, t295⟩, A40, H⟩ := H
 replace H : (some (t289, t290, t291, t292, t295)) = some (r1, r2, r3, r4, r5) := H
 have A4 := aM A40
 clear A40
 simp only [Option.some.injEq, Prod.mk.injEq] at H
 obtain ⟨rfl, rfl, rfl, rfl, rfl⟩ := H
 go_enter Try.func51, Try.ntmps51
 go_wp2_with (first | ((with_reducible refine gate_dst (N := 2) rfl ?_); refine bxE (N := 2) (cs := #[.int .i64 0, .int .i64 0, .int .i64 0, .slice none 0 0]) (t := 29) ?_; intro gb279 hg w5 hbox hb; replace HB := aM (below_step (wS83 HB.out) hb); have BK279 := aM (hbox); have GW279 := aM ((by rw [hg]; exact (keep_size (w := w) (g := g) (row := none) (kB HK.out)) : w.heap.size ≤ gb279)); have GE279 := aM ((Nat.le_trans HW0.out (by rw [hg]; exact (keep_size (w := w) (g := g) (row := none) (kB HK.out)) : w.heap.size ≤ gb279) : w0.heap.size ≤ gb279)); replace HK := aM (KeepBut.trans (kB HK.out) (KeepBut.of_below hb g none) (.inl rfl)); have NB0_279 := aM ((by rw [hg]; exact Nat.ne_of_lt (IsS83.lt (show IsS83 w0 _ g s0_0 s0_1 from iS83 HI0.out)) : g ≠ gb279)); have NB279_0 := aM ((by rw [hg]; exact Nat.ne_of_gt (IsS83.lt (show IsS83 w0 _ g s0_0 s0_1 from iS83 HI0.out)) : gb279 ≠ g)); replace HI0 := aM (IsS83.below (iS83 HI0.out) hb); clear hb hbox hg) | ((with_reducible refine gate_callee (f := 63) rfl ?_); refine gL (some 6) Try.func63 #[.pointer (some ⟨g, 0, none⟩)] ?_; (with_reducible refine (spec_anyPlanes.calls k g s0_0 s0_1 t280 t281 w0 _ ?side1 ?side2 A2.out).mono ?_); (case side1 => exact iS83 HI0.out); (case side2 => exact wS83 HB.out); rintro e w6 ⟨rfl, hi, hb, hk⟩; refine ⟨_, rfl, ?_⟩; replace BK279 := bK hk BK279 NB279_0; replace HK := aM (KeepBut.trans (kB HK.out) hk (.inl rfl)); replace HB := aM (hb); replace HI0 := aM (hi); clear hb hk hi) | ((with_reducible refine gate_callee (f := 81) rfl ?_); refine gL (some 7) Try.func81 #[.pointer (some ⟨g, 0, none⟩), .int .i64 t280] ?_; (with_reducible refine (spec_randomImage.calls k g s0_0 t281 t280 t282 t283 t284 t285 t288 w0 _ ?side1 ?side2 A3.out).mono ?_); (case side1 => exact iS83 HI0.out); (case side2 => exact wS83 HB.out); rintro e w7 ⟨v286, rfl, ho0, hi, hb, hk⟩; refine ⟨_, rfl, ?_⟩; replace BK279 := bK hk BK279 NB279_0; have HO287 := lK ho0 HK; replace HK := aM (KeepBut.trans (kB HK.out) hk (.inl rfl)); replace HB := aM (hb); replace HI0 := aM (hi); clear hb hk hi ho0; obtain ⟨Ao8, co8, rfl⟩ := sL HO287) | ((with_reducible refine gate_callee (f := 80) rfl ?_); refine gL (some 8) Try.func80 #[.pointer (some ⟨g, 0, none⟩), .agg #[.int .i64 t282, .int .i64 t283, .int .i64 t284, .slice Ao8 t285.length co8]] ?_; (with_reducible refine (spec_spoilImage.calls k g s0_0 t288 t282 t283 t284 (fun k_ => some k_ = (.slice Ao8 t285.length co8 : Value).ownBlock) (.slice Ao8 t285.length co8) t285 t289 t290 t291 t292 t295 w0 _ ?side1 ?side2 ?side3 A4.out).mono ?_); (case side1 => exact iS83 HI0.out); (case side2 => exact wS83 HB.out); (case side3 => exact Kd.R_lower (Kd.R_tight rfl HO287.out) HL.out); rintro e w9 ⟨v293, rfl, ho0, hi, hb, hkp⟩; refine ⟨_, rfl, ?_⟩; replace HI0 := aM (hi); replace BK279 := aM (blk_kept (qB BK279.out) hkp (fun hs_ => Or.elim hs_ (fun hs_ => (fun e_ => (Kd.R_ne HO287.out BK279.out (by decide)) e_) hs_) (fun e_ => NB279_0.out e_))); have HO294 := aM (Kd.Q_mono (ok' := fun k_ => True) (Kd.Q_raise (d := (Kd.int .i64)) (b := w0.heap.size) (b' := w.heap.size) (fun _ _ _ _ h_ => h_) ho0 (fun k_ e_ => Or.elim (ho0.1 k_ e_) (fun hs_ => (fun e_ => Kd.R_base HO287.out k_ e_.symm) hs_) (fun hn_ => Nat.le_trans (keep_size (w := w) (g := g) (row := none) (kB HK.out)) hn_))) (fun k_ hk_ => trivial)); replace HK := aM (Kept.keepG (kB HK.out) hkp (fun k_ hs_ => Or.elim hs_ (fun hs_ => (fun e_ => .inr (Kd.R_base HO287.out k_ e_.symm)) hs_) (fun e_ => .inl e_))); replace HB := aM (hb); clear HO287; clear hb hkp ho0; have hnb10 := NB279_0.out; have hnc10 := NB0_279.out; obtain ⟨⟨hcz11_0, hcz11_1, hcz11_2, hcz11_3⟩, hfz11_0, hfz11_1, hfz11_2, hfz11_3⟩ := cf4 BK279; obtain ⟨Ao12, co12, eo12, _⟩ := Kd.Q_slice HO294.out; subst eo12))
 refine bodyPost_ret (results_cell_row rfl _ _ gb279 29 #[.int .i64 t289, .int .i64 t290, .int .i64 t291, .slice Ao12 t292.length co12] (0, 0) _ rfl (by exact bP BK279.out) Try.underlying29 rfl (by kernel_rfl)) rfl ?_
 exact ⟨_, qX, by (with_reducible repeat (first | apply Kd.Q_alloc | apply Kd.Q_drewN | apply Kd.Q_drew)); exact Kd.Q_mono (qT HO294 BK279) (fun _ hk => trivial), iS83 HI0.out, wS83 HB.out, kB HK.out⟩
def laws_equalImage.f (k : Nat) (a0_0 : Int) (a0_1 : Int) (a0_2 : Int) (l0_3 : List Int) (a1_0 : Int) (a1_1 : Int) (a1_2 : Int) (l1_3 : List Int) : Option (Bool) := if a0_0 = a1_0 then (if a0_1 = a1_1 then (if a0_2 = a1_2 then ((laws_equalInts.f k l0_3 l1_3).bind fun t323 => (some t323)) else (some false)) else (some false)) else (some false)
theorem laws_equalImage.mono : ∀ a0 a1 a2 a3 a4 a5 a6 a7 k, LeO (laws_equalImage.f k a0 a1 a2 a3 a4 a5 a6 a7) (laws_equalImage.f (k + 1) a0 a1 a2 a3 a4 a5 a6 a7) := by
 intro a0 a1 a2 a3 a4 a5 a6 a7 k
 unfold laws_equalImage.f
 repeat' first | (with_reducible first | exact laws_equalInts.mono _ _ _ | exact lR | exact lN | refine lI ?_ ?_ | refine lB ?_ fun _ => ?_) | exact laws_equalInts.mono _ _ _ | exact lN | refine lI ?_ ?_ | refine lB ?_ fun _ => ?_
set_option maxHeartbeats 8000000 in
set_option maxRecDepth 100000 in
theorem laws_equalImage.calls (k : Nat) (a0_0 : Int) (a0_1 : Int) (a0_2 : Int) (A0_3 : Option Addr) (c0_3 : Nat) (l0_3 : List Int) (a1_0 : Int) (a1_1 : Int) (a1_2 : Int) (A1_3 : Option Addr) (c1_3 : Nat) (l1_3 : List Int) (r : Bool) (w : World) (hr0_3 : Kd.C (Kd.int .i64) w A0_3 l0_3.length l0_3) (hc0_3 : l0_3.length ≤ c0_3) (hr1_3 : Kd.C (Kd.int .i64) w A1_3 l1_3.length l1_3) (hc1_3 : l1_3.length ≤ c1_3) (h : laws_equalImage.f k a0_0 a0_1 a0_2 l0_3 a1_0 a1_1 a1_2 l1_3 = some r) :
  Calls Try.prog 26 #[.agg #[.int .i64 a0_0, .int .i64 a0_1, .int .i64 a0_2, .slice A0_3 l0_3.length c0_3], .agg #[.int .i64 a1_0, .int .i64 a1_1, .int .i64 a1_2, .slice A1_3 l1_3.length c1_3]] w fun e w' => e = .returned (.bool r) ∧ Below w.heap.size w w' := by
 have hu29 := Try.underlying29
 have HR0_3 := aM hr0_3
 have HC0_3 := aM hc0_3
 clear hr0_3 hc0_3
 have HR1_3 := aM hr1_3
 have HC1_3 := aM hc1_3
 clear hr1_3 hc1_3
 have HB := aM (Below.refl w.heap.size w)
 unfold laws_equalImage.f at h
 have H := h
 clear h
 by_cases c3 : a0_0 = a1_0
 rotate_left
 ·rw [if_neg c3] at H
  have c3b0 : (a0_0 == a1_0) = false := beq_eq_false_iff_ne.mpr c3
  have c3b1 : (a0_0 != a1_0) = true := bne_iff_ne.mpr c3
  obtain rfl := Option.some.inj H
  go_enter Try.func26, Try.ntmps26
  go_wp2_with (first | ((with_reducible refine gate_dst (N := 2) rfl ?_); refine bxE (N := 2) (cs := #[.int .i64 a0_0, .int .i64 a0_1, .int .i64 a0_2, .slice A0_3 l0_3.length c0_3]) (t := 29) ?_; intro gb321 hg w22 hbox hb; have BK321 := aM (hbox); have GW321 := gW hg HB; have GE321 := gW hg HB; replace HB := bS HB hb; clear hb hbox hg) | ((with_reducible refine gate_dst (N := 3) rfl ?_); refine bxE (N := 3) (cs := #[.int .i64 a1_0, .int .i64 a1_1, .int .i64 a1_2, .slice A1_3 l1_3.length c1_3]) (t := 29) ?_; intro gb322 hg w23 hbox hb; have BK322 := aM (hbox); have GW322 := gW hg HB; have GE322 := gW hg HB; replace HB := bS HB hb; have NB321_322 := nL hg BK321; have NB322_321 := nG hg BK321; replace BK321 := bB BK321 hb; clear hb hbox hg; have hnb24 := NB321_322.out; have hnc24 := NB322_321.out; obtain ⟨⟨hcz25_0, hcz25_1, hcz25_2, hcz25_3⟩, hfz25_0, hfz25_1, hfz25_2, hfz25_3⟩ := cf4 BK321; obtain ⟨⟨hcz26_0, hcz26_1, hcz26_2, hcz26_3⟩, hfz26_0, hfz26_1, hfz26_2, hfz26_3⟩ := cf4 BK322))
  go_ret
  exact ⟨qX, by exact qW HB.out⟩
 rw [if_pos c3] at H
 have c3b0 : (a0_0 == a1_0) = true := beq_iff_eq.mpr c3
 have c3b1 : (a0_0 != a1_0) = false := bne_eq_false_iff_eq.mpr c3
 clear c3
 by_cases c4 : a0_1 = a1_1
 rotate_left
 ·rw [if_neg c4] at H
  have c4b0 : (a0_1 == a1_1) = false := beq_eq_false_iff_ne.mpr c4
  have c4b1 : (a0_1 != a1_1) = true := bne_iff_ne.mpr c4
  obtain rfl := Option.some.inj H
  go_enter Try.func26, Try.ntmps26
  go_wp2_with (first | ((with_reducible refine gate_dst (N := 2) rfl ?_); refine bxE (N := 2) (cs := #[.int .i64 a0_0, .int .i64 a0_1, .int .i64 a0_2, .slice A0_3 l0_3.length c0_3]) (t := 29) ?_; intro gb321 hg w17 hbox hb; have BK321 := aM (hbox); have GW321 := gW hg HB; have GE321 := gW hg HB; replace HB := bS HB hb; clear hb hbox hg) | ((with_reducible refine gate_dst (N := 3) rfl ?_); refine bxE (N := 3) (cs := #[.int .i64 a1_0, .int .i64 a1_1, .int .i64 a1_2, .slice A1_3 l1_3.length c1_3]) (t := 29) ?_; intro gb322 hg w18 hbox hb; have BK322 := aM (hbox); have GW322 := gW hg HB; have GE322 := gW hg HB; replace HB := bS HB hb; have NB321_322 := nL hg BK321; have NB322_321 := nG hg BK321; replace BK321 := bB BK321 hb; clear hb hbox hg; have hnb19 := NB321_322.out; have hnc19 := NB322_321.out; obtain ⟨⟨hcz20_0, hcz20_1, hcz20_2, hcz20_3⟩, hfz20_0, hfz20_1, hfz20_2, hfz20_3⟩ := cf4 BK321; obtain ⟨⟨hcz21_0, hcz21_1, hcz21_2, hcz21_3⟩, hfz21_0, hfz21_1, hfz21_2, hfz21_3⟩ := cf4 BK322))
  go_ret
  exact ⟨qX, by exact qW HB.out⟩
 rw [if_pos c4] at H
 have c4b0 : (a0_1 == a1_1) = true := beq_iff_eq.mpr c4
 have c4b1 : (a0_1 != a1_1) = false := bne_eq_false_iff_eq.mpr c4
 clear c4
 by_cases c5 : a0_2 = a1_2
 rotate_left
 ·rw [if_neg c5] at H
  have c5b0 : (a0_2 == a1_2) = false := beq_eq_false_iff_ne.mpr c5
  have c5b1 : (a0_2 != a1_2) = true := bne_iff_ne.mpr c5
  obtain rfl := Option.some.inj H
  go_enter Try.func26, Try.ntmps26
  go_wp2_with (first | ((with_reducible refine gate_dst (N := 2) rfl ?_); refine bxE (N := 2) (cs := #[.int .i64 a0_0, .int .i64 a0_1, .int .i64 a0_2, .slice A0_3 l0_3.length c0_3]) (t := 29) ?_; intro gb321 hg w12 hbox hb; have BK321 := aM (hbox); have GW321 := gW hg HB; have GE321 := gW hg HB; replace HB := bS HB hb; clear hb hbox hg) | ((with_reducible refine gate_dst (N := 3) rfl ?_); refine bxE (N := 3) (cs := #[.int .i64 a1_0, .int .i64 a1_1, .int .i64 a1_2, .slice A1_3 l1_3.length c1_3]) (t := 29) ?_; intro gb322 hg w13 hbox hb; have BK322 := aM (hbox); have GW322 := gW hg HB; have GE322 := gW hg HB; replace HB := bS HB hb; have NB321_322 := nL hg BK321; have NB322_321 := nG hg BK321; replace BK321 := bB BK321 hb; clear hb hbox hg; have hnb14 := NB321_322.out; have hnc14 := NB322_321.out; obtain ⟨⟨hcz15_0, hcz15_1, hcz15_2, hcz15_3⟩, hfz15_0, hfz15_1, hfz15_2, hfz15_3⟩ := cf4 BK321; obtain ⟨⟨hcz16_0, hcz16_1, hcz16_2, hcz16_3⟩, hfz16_0, hfz16_1, hfz16_2, hfz16_3⟩ := cf4 BK322))
  go_ret
  exact ⟨qX, by exact qW HB.out⟩
 rw [if_pos c5] at H
 have c5b0 : (a0_2 == a1_2) = true := beq_iff_eq.mpr c5
 have c5b1 : (a0_2 != a1_2) = false := bne_eq_false_iff_eq.mpr c5
 clear c5
 replace H := Option.bind_eq_some_iff.mp H
 obtain ⟨t323, A60, H⟩ := H
 replace H : (some t323) = some r := H
 have A6 := aM A60
 clear A60
 obtain rfl := Option.some.inj H
 go_enter Try.func26, Try.ntmps26
 go_wp2_with (first | ((with_reducible refine gate_dst (N := 2) rfl ?_); refine bxE (N := 2) (cs := #[.int .i64 a0_0, .int .i64 a0_1, .int .i64 a0_2, .slice A0_3 l0_3.length c0_3]) (t := 29) ?_; intro gb321 hg w7 hbox hb; have BK321 := aM (hbox); have GW321 := gW hg HB; have GE321 := gW hg HB; replace HB := bS HB hb; clear hb hbox hg) | ((with_reducible refine gate_dst (N := 3) rfl ?_); refine bxE (N := 3) (cs := #[.int .i64 a1_0, .int .i64 a1_1, .int .i64 a1_2, .slice A1_3 l1_3.length c1_3]) (t := 29) ?_; intro gb322 hg w8 hbox hb; have BK322 := aM (hbox); have GW322 := gW hg HB; have GE322 := gW hg HB; replace HB := bS HB hb; have NB321_322 := nL hg BK321; have NB322_321 := nG hg BK321; replace BK321 := bB BK321 hb; clear hb hbox hg; have hnb9 := NB321_322.out; have hnc9 := NB322_321.out; obtain ⟨⟨hcz10_0, hcz10_1, hcz10_2, hcz10_3⟩, hfz10_0, hfz10_1, hfz10_2, hfz10_3⟩ := cf4 BK321; obtain ⟨⟨hcz11_0, hcz11_1, hcz11_2, hcz11_3⟩, hfz11_0, hfz11_1, hfz11_2, hfz11_3⟩ := cf4 BK322) | (go_at_call 23; (with_reducible refine (laws_equalInts.calls k _ _ l0_3 _ _ l1_3 t323 _ ?side1 ?side2 ?side3 ?side4 A6.out).mono ?_); (case side1 => exact qC (Kd.C_below HR0_3.out HB.out)); (case side2 => exact HC0_3.out); (case side3 => exact qC (Kd.C_below HR1_3.out HB.out)); (case side4 => exact HC1_3.out); rintro e w' ⟨rfl, ⟨nd, rfl⟩⟩))
 go_ret
 exact ⟨qX, by exact qW HB.out⟩
def spec_DrawPaletteOf.f (k : Nat) (l0 : List Int) : Option (Int × Int × Int × List Int) := (spec_newReader.f l0).bind fun bt300 => ((spec_anyImage.f k bt300.1 bt300.2).bind fun bt303 => (some (bt303.1, bt303.2.1, bt303.2.2.1, bt303.2.2.2.1)))
theorem spec_DrawPaletteOf.mono : ∀ a0 k, LeO (spec_DrawPaletteOf.f k a0) (spec_DrawPaletteOf.f (k + 1) a0) := by
 intro a0 k
 unfold spec_DrawPaletteOf.f
 repeat' first | (with_reducible first | exact spec_anyImage.mono _ _ _ | exact lR | exact lN | refine lI ?_ ?_ | refine lB ?_ fun _ => ?_) | exact spec_anyImage.mono _ _ _ | exact lN | refine lI ?_ ?_ | refine lB ?_ fun _ => ?_
set_option maxHeartbeats 8000000 in
set_option maxRecDepth 100000 in
theorem spec_DrawPaletteOf.calls (k : Nat) (A0 : Option Addr) (c0 : Nat) (l0 : List Int) (r1 : Int) (r2 : Int) (r3 : Int) (r4 : List Int) (w : World) (hr0 : Kd.C (Kd.int .u8) w A0 l0.length l0) (hc0 : l0.length ≤ c0) (h : spec_DrawPaletteOf.f k l0 = some (r1, r2, r3, r4)) :
  Calls Try.prog 21 #[.slice A0 l0.length c0] w fun e w' => ∃ v3_ : Value, e = .returned (.agg #[.int .i64 r1, .int .i64 r2, .int .i64 r3, v3_]) ∧ Kd.Q (Kd.int .i64) 3 w' w.heap.size (fun _ => True) v3_ r4 ∧ Below w.heap.size w w' := by
 have hu29 := Try.underlying29
 have HR0 := aM hr0
 have HC0 := aM hc0
 clear hr0 hc0
 have HB := aM (Below.refl w.heap.size w)
 unfold spec_DrawPaletteOf.f at h
 have H := h
 clear h
 replace H := Option.bind_eq_some_iff.mp H
 obtain ⟨⟨t300, t301⟩, A20, H⟩ := H
 replace H : ((spec_anyImage.f k t300 t301).bind fun bt303 => (some (bt303.1, bt303.2.1, bt303.2.2.1, bt303.2.2.2.1))) = some (r1, r2, r3, r4) := H
 have A2 := aM A20
 clear A20
 replace H := Option.bind_eq_some_iff.mp H
 obtain ⟨⟨t303, t304, t305, t306, t309⟩, A30, H⟩ := H
 replace H : (some (t303, t304, t305, t306)) = some (r1, r2, r3, r4) := H
 have A3 := aM A30
 clear A30
 simp only [Option.some.injEq, Prod.mk.injEq] at H
 obtain ⟨rfl, rfl, rfl, rfl⟩ := H
 go_enter Try.func21, Try.ntmps21
 go_wp2_with (first | ((with_reducible refine gate_dst (N := 2) rfl ?_); refine bxE (N := 2) (cs := #[.int .i64 0, .int .i64 0, .int .i64 0, .slice none 0 0]) (t := 29) ?_; intro gb299 hg w4 hbox hb; have BK299 := aM (hbox); have GW299 := gW hg HB; have GE299 := gW hg HB; replace HB := bS HB hb; clear hb hbox hg) | ((with_reducible refine gate_callee (f := 52) rfl ?_); refine gL (some 4) Try.func52 #[.slice A0 l0.length c0] ?_; (with_reducible refine (spec_newReader.calls _ _ l0 t300 t301 w _ ?side1 ?side2 ?side3 A2.out).mono ?_); (case side1 => exact qW HB.out); (case side2 => exact HR0.out); (case side3 => exact HC0.out); rintro e w5 ⟨g302, rfl, hi, hb, hb2⟩; refine ⟨_, rfl, ?_⟩; replace HB := aM (hb); have HI302 := aM (hi); have NB302_299 := aM (IsS83.ne_blk hi (blk_below (g := gb299) (o := .cells #[.int .i64 0, .int .i64 0, .int .i64 0, .slice none 0 0] 29 (0, 0)) (qB BK299.out) hb2) (by decide)); have NB299_302 := aM (Ne.symm (IsS83.ne_blk hi (blk_below (g := gb299) (o := .cells #[.int .i64 0, .int .i64 0, .int .i64 0, .slice none 0 0] 29 (0, 0)) (qB BK299.out) hb2) (by decide))); replace BK299 := bB BK299 hb2; clear hb hb2 hi) | ((with_reducible refine gate_callee (f := 51) rfl ?_); refine gL (some 5) Try.func51 #[.pointer (some ⟨g302, 0, none⟩)] ?_; (with_reducible refine (spec_anyImage.calls k g302 t300 t301 t303 t304 t305 t306 t309 w _ ?side1 ?side2 A3.out).mono ?_); (case side1 => exact iS83 HI302.out); (case side2 => exact wS83 HB.out); rintro e w6 ⟨v307, rfl, ho0, hi, hb, hk⟩; refine ⟨_, rfl, ?_⟩; replace BK299 := bK hk BK299 NB299_302; have HO308 := aM (Kd.Q_lower ho0 (below_size (wS83 HB.out))); replace HB := aM (hb); replace HI302 := aM (hi); clear hb hk hi ho0; have hnb7 := NB299_302.out; have hnc7 := NB302_299.out; obtain ⟨⟨hcz8_0, hcz8_1, hcz8_2, hcz8_3⟩, hfz8_0, hfz8_1, hfz8_2, hfz8_3⟩ := cf4 BK299; obtain ⟨Ao9, co9, eo9, _⟩ := Kd.Q_slice HO308.out; subst eo9))
 refine bodyPost_ret (results_cell_row rfl _ _ gb299 29 #[.int .i64 t303, .int .i64 t304, .int .i64 t305, .slice Ao9 t306.length co9] (0, 0) _ rfl (by exact bP BK299.out) Try.underlying29 rfl (by kernel_rfl)) rfl ?_
 exact ⟨_, qX, by (with_reducible repeat (first | apply Kd.Q_alloc | apply Kd.Q_drewN | apply Kd.Q_drew)); exact Kd.Q_mono (qT HO308 BK299) (fun _ hk => trivial), wS83 HB.out⟩
def laws_equalLists.l0 : Nat → List (List Int) → List (List Int) → Int → Option (Bool)
 | 0, _, _, _ => none
 | k + 1, x0, x1, x5 => if x5 < (x0.length : Int) then (if 0 ≤ x5 then (if x5 < (x1.length : Int) then ((laws_equalInts.f k (rd_L1 x0 x5) (rd_L1 x1 x5)).bind fun t314 => (if t314 = true then (laws_equalLists.l0 k x0 x1 (wrap64 (x5 + 1))) else (some false))) else (none)) else (none)) else (some true)
def laws_equalLists.f (k : Nat) (l0 : List (List Int)) (l1 : List (List Int)) : Option (Bool) := if (l0.length : Int) = (l1.length : Int) then (laws_equalLists.l0 k l0 l1 0) else (some false)
theorem laws_equalLists.mono_l : ∀ k, (∀ y0 y1 y2, LeO (laws_equalLists.l0 k y0 y1 y2) (laws_equalLists.l0 (k + 1) y0 y1 y2))
 | 0 => fun _ _ _ r h => by simp [laws_equalLists.l0] at h
 | k + 1 => by
  have ih0 := laws_equalLists.mono_l k
  ·intro y0 y1 y2
   unfold laws_equalLists.l0
   repeat' first | (with_reducible first | exact ih0 _ _ _ | exact laws_equalInts.mono _ _ _ | exact lR | exact lN | refine lI ?_ ?_ | refine lB ?_ fun _ => ?_) | exact ih0 _ _ _ | exact laws_equalInts.mono _ _ _ | exact lN | refine lI ?_ ?_ | refine lB ?_ fun _ => ?_
theorem laws_equalLists.mono : ∀ a0 a1 k, LeO (laws_equalLists.f k a0 a1) (laws_equalLists.f (k + 1) a0 a1) := by
 intro a0 a1 k
 have ih0 := laws_equalLists.mono_l k
 unfold laws_equalLists.f
 repeat' first | (with_reducible first | exact ih0 _ _ _ | exact laws_equalInts.mono _ _ _ | exact lR | exact lN | refine lI ?_ ?_ | refine lB ?_ fun _ => ?_) | exact ih0 _ _ _ | exact laws_equalInts.mono _ _ _ | exact lN | refine lI ?_ ?_ | refine lB ?_ fun _ => ?_
set_option maxHeartbeats 8000000 in
set_option maxRecDepth 100000 in
theorem laws_equalLists.calls (k : Nat) (A0 : Option Addr) (c0 : Nat) (l0 : List (List Int)) (A1 : Option Addr) (c1 : Nat) (l1 : List (List Int)) (r : Bool) (w : World) (hr0 : Kd.C (Kd.slice 3 (Kd.int .i64)) w A0 l0.length l0) (hc0 : l0.length ≤ c0) (hr1 : Kd.C (Kd.slice 3 (Kd.int .i64)) w A1 l1.length l1) (hc1 : l1.length ≤ c1) (h : laws_equalLists.f k l0 l1 = some r) :
  Calls Try.prog 22 #[.slice A0 l0.length c0, .slice A1 l1.length c1] w fun e w' => e = .returned (.bool r) ∧ Drawn0 w w' := by
 have HR0 := aM hr0
 have HC0 := aM hc0
 clear hr0 hc0
 have HR1 := aM hr1
 have HC1 := aM hc1
 clear hr1 hc1
 unfold laws_equalLists.f at h
 have H := h
 clear h
 by_cases c3 : (l0.length : Int) = (l1.length : Int)
 ·rw [if_pos c3] at H
  have c3b0 : ((l0.length : Int) == (l1.length : Int)) = true := beq_iff_eq.mpr c3
  have c3b1 : ((l0.length : Int) != (l1.length : Int)) = false := bne_eq_false_iff_eq.mpr c3
  have c3b2 : (l0.length == l1.length) = true := by first | simpa using c3 | (simp at c3 ⊢; omega)
  clear c3
  have H' := aM H
  clear H
  go_enter Try.func22, Try.ntmps22
  go_wp2
  repeat (go_quiet (fail); try go_wp2)
  go_loopg [5] k (fun kq v5 w' => ∃ (x5_1 : Int), v5 = .int .i64 x5_1 ∧ Aside0 (laws_equalLists.l0 kq l0 l1 x5_1 = some r) ∧ Aside0 (kq ≤ k) ∧ Drawn0 w w')
  case atStart => exact ⟨(0), qE, H', ⟨Nat.le_refl _⟩, qD⟩
  case round =>
   clear H'
   try clear c1
   try clear c3
   try clear c3b0
   try clear c3b1
   try clear c3b2
   obtain ⟨x5_1, rfl, HA, HK1, ⟨m1, rfl⟩⟩ := hrel
   cases gk with
   | zero => exact absurd HA.out (by simp [laws_equalLists.l0])
   | succ k1 =>
    have H := HA.out
    clear HA
    simp only [laws_equalLists.l0] at H
    by_cases c4 : x5_1 < (l0.length : Int)
    rotate_left
    ·rw [if_neg c4] at H
     have c4b0 : decide (x5_1 < (l0.length : Int)) = false := decide_eq_false c4
     clear c4
     obtain rfl := Option.some.inj H
     go_wp2
     repeat (go_quiet (fail); try go_wp2)
     go_ret
     exact ⟨qE, qD⟩
    rw [if_pos c4] at H
    have c4b0 : decide (x5_1 < (l0.length : Int)) = true := decide_eq_true c4
    clear c4
    replace H := iD H
    obtain ⟨c5b0, H⟩ := H
    replace H := iD H
    obtain ⟨c6b0, H⟩ := H
    replace H := Option.bind_eq_some_iff.mp H
    obtain ⟨t314, A70, H⟩ := H
    replace H : (if t314 = true then (laws_equalLists.l0 k1 l0 l1 (wrap64 (x5_1 + 1))) else (some false)) = some r := H
    have A7 := aM A70
    clear A70
    by_cases c8 : t314 = true
    rotate_left
    ·replace c8 := Bool.eq_false_iff.mpr c8
     subst c8
     have H1 : (some false) = some r := by rw [if_neg (show ¬ (false = true) by decide)] at H; exact H
     clear H
     have H := H1
     clear H1
     obtain rfl := Option.some.inj H
     have p312 : 0 ≤ (x5_1 : Int) := oD
     have q312 : x5_1 < (l0.length : Int) := oD
     obtain ⟨ad312, A312_0, c312_0, e312, hx312_0, hl312_0, hi312_0⟩ := at_L1 HR0.out x5_1 p312 q312
     cases e312
     have HR312_0 := aM hi312_0
     have HC312_0 := aM hl312_0
     clear hi312_0 hl312_0
     replace p312 := eq_true p312
     replace q312 := eq_true q312
     have p313 : 0 ≤ (x5_1 : Int) := oD
     have q313 : x5_1 < (l1.length : Int) := oD
     obtain ⟨ad313, A313_0, c313_0, e313, hx313_0, hl313_0, hi313_0⟩ := at_L1 HR1.out x5_1 p313 q313
     cases e313
     have HR313_0 := aM hi313_0
     have HC313_0 := aM hl313_0
     clear hi313_0 hl313_0
     replace p313 := eq_true p313
     replace q313 := eq_true q313
     go_wp2_with (first | (go_at_call 23; (with_reducible refine (laws_equalInts.calls k1 _ _ (rd_L1 l0 x5_1) _ _ (rd_L1 l1 x5_1) false _ ?side1 ?side2 ?side3 ?side4 A7.out).mono ?_); (case side1 => exact qC HR312_0.out); (case side2 => exact HC312_0.out); (case side3 => exact qC HR313_0.out); (case side4 => exact HC313_0.out); rintro e w' ⟨rfl, ⟨nd, rfl⟩⟩; (try first | exact ⟨rfl, _, World.drewN_drewN _ _ _⟩ | exact ⟨rfl, _, Eq.trans (World.drewN_drewN _ _ _) (congrArg (World.drewN _) (Nat.add_assoc _ _ _))⟩)))
     repeat (go_quiet (first | (go_at_call 23; (with_reducible refine (laws_equalInts.calls k1 _ _ (rd_L1 l0 x5_1) _ _ (rd_L1 l1 x5_1) false _ ?side1 ?side2 ?side3 ?side4 A7.out).mono ?_); (case side1 => exact qC HR312_0.out); (case side2 => exact HC312_0.out); (case side3 => exact qC HR313_0.out); (case side4 => exact HC313_0.out); rintro e w' ⟨rfl, ⟨nd, rfl⟩⟩; (try first | exact ⟨rfl, _, World.drewN_drewN _ _ _⟩ | exact ⟨rfl, _, Eq.trans (World.drewN_drewN _ _ _) (congrArg (World.drewN _) (Nat.add_assoc _ _ _))⟩))); try go_wp2_with (first | (go_at_call 23; (with_reducible refine (laws_equalInts.calls k1 _ _ (rd_L1 l0 x5_1) _ _ (rd_L1 l1 x5_1) false _ ?side1 ?side2 ?side3 ?side4 A7.out).mono ?_); (case side1 => exact qC HR312_0.out); (case side2 => exact HC312_0.out); (case side3 => exact qC HR313_0.out); (case side4 => exact HC313_0.out); rintro e w' ⟨rfl, ⟨nd, rfl⟩⟩; (try first | exact ⟨rfl, _, World.drewN_drewN _ _ _⟩ | exact ⟨rfl, _, Eq.trans (World.drewN_drewN _ _ _) (congrArg (World.drewN _) (Nat.add_assoc _ _ _))⟩))))
     go_ret
     exact ⟨qE, qD⟩
    subst c8
    have H1 : (laws_equalLists.l0 k1 l0 l1 (wrap64 (x5_1 + 1))) = some r := by rw [if_pos rfl] at H; exact H
    clear H
    have H := H1
    clear H1
    have H' := aM H
    clear H
    have p312 : 0 ≤ (x5_1 : Int) := oD
    have q312 : x5_1 < (l0.length : Int) := oD
    obtain ⟨ad312, A312_0, c312_0, e312, hx312_0, hl312_0, hi312_0⟩ := at_L1 HR0.out x5_1 p312 q312
    cases e312
    have HR312_0 := aM hi312_0
    have HC312_0 := aM hl312_0
    clear hi312_0 hl312_0
    replace p312 := eq_true p312
    replace q312 := eq_true q312
    have p313 : 0 ≤ (x5_1 : Int) := oD
    have q313 : x5_1 < (l1.length : Int) := oD
    obtain ⟨ad313, A313_0, c313_0, e313, hx313_0, hl313_0, hi313_0⟩ := at_L1 HR1.out x5_1 p313 q313
    cases e313
    have HR313_0 := aM hi313_0
    have HC313_0 := aM hl313_0
    clear hi313_0 hl313_0
    replace p313 := eq_true p313
    replace q313 := eq_true q313
    go_wp2_with (first | (go_at_call 23; (with_reducible refine (laws_equalInts.calls k1 _ _ (rd_L1 l0 x5_1) _ _ (rd_L1 l1 x5_1) true _ ?side1 ?side2 ?side3 ?side4 A7.out).mono ?_); (case side1 => exact qC HR312_0.out); (case side2 => exact HC312_0.out); (case side3 => exact qC HR313_0.out); (case side4 => exact HC313_0.out); rintro e w' ⟨rfl, ⟨nd, rfl⟩⟩; (try first | exact ⟨rfl, _, World.drewN_drewN _ _ _⟩ | exact ⟨rfl, _, Eq.trans (World.drewN_drewN _ _ _) (congrArg (World.drewN _) (Nat.add_assoc _ _ _))⟩)))
    repeat (go_quiet (first | (go_at_call 23; (with_reducible refine (laws_equalInts.calls k1 _ _ (rd_L1 l0 x5_1) _ _ (rd_L1 l1 x5_1) true _ ?side1 ?side2 ?side3 ?side4 A7.out).mono ?_); (case side1 => exact qC HR312_0.out); (case side2 => exact HC312_0.out); (case side3 => exact qC HR313_0.out); (case side4 => exact HC313_0.out); rintro e w' ⟨rfl, ⟨nd, rfl⟩⟩; (try first | exact ⟨rfl, _, World.drewN_drewN _ _ _⟩ | exact ⟨rfl, _, Eq.trans (World.drewN_drewN _ _ _) (congrArg (World.drewN _) (Nat.add_assoc _ _ _))⟩))); try go_wp2_with (first | (go_at_call 23; (with_reducible refine (laws_equalInts.calls k1 _ _ (rd_L1 l0 x5_1) _ _ (rd_L1 l1 x5_1) true _ ?side1 ?side2 ?side3 ?side4 A7.out).mono ?_); (case side1 => exact qC HR312_0.out); (case side2 => exact HC312_0.out); (case side3 => exact qC HR313_0.out); (case side4 => exact HC313_0.out); rintro e w' ⟨rfl, ⟨nd, rfl⟩⟩; (try first | exact ⟨rfl, _, World.drewN_drewN _ _ _⟩ | exact ⟨rfl, _, Eq.trans (World.drewN_drewN _ _ _) (congrArg (World.drewN _) (Nat.add_assoc _ _ _))⟩))))
    go_roundg k1
    case measure => have := HK1.out; omega
    case rel => exact ⟨(wrap64 (x5_1 + 1)), qE, H', ⟨by have := HK1.out; omega⟩, qD⟩
 ·rw [if_neg c3] at H
  have c3b0 : ((l0.length : Int) == (l1.length : Int)) = false := beq_eq_false_iff_ne.mpr c3
  have c3b1 : ((l0.length : Int) != (l1.length : Int)) = true := bne_iff_ne.mpr c3
  have c3b2 : (l0.length == l1.length) = false := by first | simpa using c3 | (simp at c3 ⊢; omega)
  obtain rfl := Option.some.inj H
  go_enter Try.func22, Try.ntmps22
  go_wp2
  repeat (go_quiet (fail); try go_wp2)
  go_ret
  exact ⟨qE, qD⟩
end Go.Proofs.Ytohbpilokmppbaa.P
