/- Contracts and row, written by a program of this place out of the translation: the call answers true and its argument reads as before, for every input; no condition. -/
import Derived.Test.YtnamhlcdlbjcfaaK0
import Derived.Test.YtnamhlcdlbjcfaaK1
import Derived.Test.YtnamhlcdlbjcfaaK3
namespace Go.Proofs.Ytnamhlcdlbjcfaa.P
open Go.RowKit Go.Proofs.YtnamhlcdlbjcfaaW.PrintWords Go.Proofs.YtnamhlcdlbjcfaaW.PrintLast Go.Proofs.YtnamhlcdlbjcfaaW.PrintMore
attribute [local go_sem] max2_int min2_int max_two min_two max_three min_three max_four min_four   -- for this text's walks alone
set_option linter.unusedVariables false
set_option linter.unusedSimpArgs false
def spec_randomImage.l0 : Nat → Int → Int → Int → List Int → Int → Int → Int → Int → List Int → Option (Int × Int × Int × List Int × Int)
 | 0, _, _, _, _, _, _, _, _, _ => none
 | k + 1, x6, x7, x8, x1000, x1001, x268000, x268001, x268002, x268003 => if x8 < (x268003.length : Int) then (if x6 = 0 then ((spec_reader_pick.f k x1000 x1001 256).bind fun bt272 => (if 0 ≤ x8 then (spec_randomImage.l0 k x6 bt272.1 (wrap64 (x8 + 1)) x1000 bt272.2 x268000 x268001 x268002 (x268003.set (x8 : Int).toNat bt272.1)) else (none))) else (if x6 = 1 then ((spec_reader_pick.f k x1000 x1001 5).bind fun bt275 => (if 0 ≤ x8 then (spec_randomImage.l0 k x6 (Int.tmod (wrap64 ((wrap64 (x7 + bt275.1)) + 254)) 256) (wrap64 (x8 + 1)) x1000 bt275.2 x268000 x268001 x268002 (x268003.set (x8 : Int).toNat (Int.tmod (wrap64 ((wrap64 (x7 + bt275.1)) + 254)) 256))) else (none))) else (if x6 = 2 then ((spec_reader_pick.f k x1000 x1001 4).bind fun bt278 => (if 0 ≤ x8 then (spec_randomImage.l0 k x6 (wrap64 (60 * bt278.1)) (wrap64 (x8 + 1)) x1000 bt278.2 x268000 x268001 x268002 (x268003.set (x8 : Int).toNat (wrap64 (60 * bt278.1)))) else (none))) else (if 0 ≤ x8 then (spec_randomImage.l0 k x6 x7 (wrap64 (x8 + 1)) x1000 x1001 x268000 x268001 x268002 (x268003.set (x8 : Int).toNat x7)) else (none))))) else (some (x268000, x268001, x268002, x268003, x1001))
def spec_randomImage.f (k : Nat) (s0_0 : List Int) (s0_1 : Int) (a1 : Int) : Option (Int × Int × Int × List Int × Int) := (spec_reader_one.f k s0_0 s0_1 (([3, 4, 2, 5, 1, 8, 6] : List Int))).bind fun bt254 => ((spec_reader_one.f k s0_0 bt254.2 (([3, 2, 4, 1, 5, 8] : List Int))).bind fun bt259 => ((spec_newImage.f bt254.1 bt259.1 a1).bind fun bt261 => ((spec_reader_pick.f k s0_0 bt259.2 4).bind fun bt268 => ((spec_reader_pick.f k s0_0 bt268.2 256).bind fun bt270 => (spec_randomImage.l0 k bt268.1 bt270.1 0 s0_0 bt270.2 bt261.1 bt261.2.1 bt261.2.2.1 bt261.2.2.2)))))
theorem spec_randomImage.mono_l : ∀ k, (∀ y0 y1 y2 y3 y4 y5 y6 y7 y8, LeO (spec_randomImage.l0 k y0 y1 y2 y3 y4 y5 y6 y7 y8) (spec_randomImage.l0 (k + 1) y0 y1 y2 y3 y4 y5 y6 y7 y8))
 | 0 => fun _ _ _ _ _ _ _ _ _ r h => by simp [spec_randomImage.l0] at h
 | k + 1 => by
  have ih0 := spec_randomImage.mono_l k
  ·intro y0 y1 y2 y3 y4 y5 y6 y7 y8
   unfold spec_randomImage.l0
   repeat' first | (with_reducible first | exact ih0 _ _ _ _ _ _ _ _ _ | exact spec_reader_one.mono _ _ _ _ | exact spec_reader_pick.mono _ _ _ _ | exact lR | exact lN | refine lI ?_ ?_ | refine lB ?_ fun _ => ?_) | exact ih0 _ _ _ _ _ _ _ _ _ | exact spec_reader_one.mono _ _ _ _ | exact spec_reader_pick.mono _ _ _ _ | exact lN | refine lI ?_ ?_ | refine lB ?_ fun _ => ?_
theorem spec_randomImage.mono : ∀ a0 a1 a2 k, LeO (spec_randomImage.f k a0 a1 a2) (spec_randomImage.f (k + 1) a0 a1 a2) := by
 intro a0 a1 a2 k
 have ih0 := spec_randomImage.mono_l k
 unfold spec_randomImage.f
 repeat' first | (with_reducible first | exact ih0 _ _ _ _ _ _ _ _ _ | exact spec_reader_one.mono _ _ _ _ | exact spec_reader_pick.mono _ _ _ _ | exact lR | exact lN | refine lI ?_ ?_ | refine lB ?_ fun _ => ?_) | exact ih0 _ _ _ _ _ _ _ _ _ | exact spec_reader_one.mono _ _ _ _ | exact spec_reader_pick.mono _ _ _ _ | exact lN | refine lI ?_ ?_ | refine lB ?_ fun _ => ?_
set_option maxHeartbeats 8000000 in
set_option maxRecDepth 100000 in
theorem spec_randomImage.calls (k : Nat) (g : Nat) (s0_0 : List Int) (s0_1 : Int) (a1 : Int) (r1 : Int) (r2 : Int) (r3 : Int) (r4 : List Int) (r5 : Int) (w0 w : World) (hI : IsS72 w0 w g s0_0 s0_1) (hB : Below w0.heap.size w0 w) (h : spec_randomImage.f k s0_0 s0_1 a1 = some (r1, r2, r3, r4, r5)) :
  Calls Try.prog 60 #[.pointer (some ⟨g, 0, none⟩), .int .i64 a1] w fun e w' => ∃ v3_ : Value, e = .returned (.agg #[.int .i64 r1, .int .i64 r2, .int .i64 r3, v3_]) ∧ Kd.R (Kd.int .i64) 3 w' w.heap.size (fun _ => True) v3_ r4 ∧ IsS72 w0 w' g s0_0 r5 ∧ Below w0.heap.size w0 w' ∧ KeepBut w w' g none := by
 have hu26 := Try.underlying26
 have HI0 := aM hI
 have HK := aM (KeepBut.refl w g none)
 have HL := aM hB.size
 clear hI
 have HW0 := aM hB.size
 have HB := aM hB
 clear hB
 unfold spec_randomImage.f at h
 have H := h
 clear h
 obtain ⟨y251, hy251⟩ : ∃ y_ : List Int, y_ = (([3, 4, 2, 5, 1, 8, 6] : List Int)) := ⟨_, rfl⟩
 replace H : ((spec_reader_one.f k s0_0 s0_1 y251).bind fun bt254 => ((spec_reader_one.f k s0_0 bt254.2 (([3, 2, 4, 1, 5, 8] : List Int))).bind fun bt259 => ((spec_newImage.f bt254.1 bt259.1 a1).bind fun bt261 => ((spec_reader_pick.f k s0_0 bt259.2 4).bind fun bt268 => ((spec_reader_pick.f k s0_0 bt268.2 256).bind fun bt270 => (spec_randomImage.l0 k bt268.1 bt270.1 0 s0_0 bt270.2 bt261.1 bt261.2.1 bt261.2.2.1 bt261.2.2.2)))))) = some (r1, r2, r3, r4, r5) := rY hy251 H
 have Ny251 := aM hy251
 clear hy251
 replace H := Option.bind_eq_some_iff.mp H
 obtain ⟨⟨t254, t255⟩, A30, H⟩ := H
 replace H : ((spec_reader_one.f k s0_0 t255 (([3, 2, 4, 1, 5, 8] : List Int))).bind fun bt259 => ((spec_newImage.f t254 bt259.1 a1).bind fun bt261 => ((spec_reader_pick.f k s0_0 bt259.2 4).bind fun bt268 => ((spec_reader_pick.f k s0_0 bt268.2 256).bind fun bt270 => (spec_randomImage.l0 k bt268.1 bt270.1 0 s0_0 bt270.2 bt261.1 bt261.2.1 bt261.2.2.1 bt261.2.2.2))))) = some (r1, r2, r3, r4, r5) := H
 have A3 := aM A30
 clear A30
 obtain ⟨y256, hy256⟩ : ∃ y_ : List Int, y_ = (([3, 2, 4, 1, 5, 8] : List Int)) := ⟨_, rfl⟩
 replace H : ((spec_reader_one.f k s0_0 t255 y256).bind fun bt259 => ((spec_newImage.f t254 bt259.1 a1).bind fun bt261 => ((spec_reader_pick.f k s0_0 bt259.2 4).bind fun bt268 => ((spec_reader_pick.f k s0_0 bt268.2 256).bind fun bt270 => (spec_randomImage.l0 k bt268.1 bt270.1 0 s0_0 bt270.2 bt261.1 bt261.2.1 bt261.2.2.1 bt261.2.2.2))))) = some (r1, r2, r3, r4, r5) := rY hy256 H
 have Ny256 := aM hy256
 clear hy256
 replace H := Option.bind_eq_some_iff.mp H
 obtain ⟨⟨t259, t260⟩, A40, H⟩ := H
 replace H : ((spec_newImage.f t254 t259 a1).bind fun bt261 => ((spec_reader_pick.f k s0_0 t260 4).bind fun bt268 => ((spec_reader_pick.f k s0_0 bt268.2 256).bind fun bt270 => (spec_randomImage.l0 k bt268.1 bt270.1 0 s0_0 bt270.2 bt261.1 bt261.2.1 bt261.2.2.1 bt261.2.2.2)))) = some (r1, r2, r3, r4, r5) := H
 have A4 := aM A40
 clear A40
 replace H := Option.bind_eq_some_iff.mp H
 obtain ⟨⟨t261, t262, t263, t264⟩, A50, H⟩ := H
 replace H : ((spec_reader_pick.f k s0_0 t260 4).bind fun bt268 => ((spec_reader_pick.f k s0_0 bt268.2 256).bind fun bt270 => (spec_randomImage.l0 k bt268.1 bt270.1 0 s0_0 bt270.2 t261 t262 t263 t264))) = some (r1, r2, r3, r4, r5) := H
 have A5 := aM A50
 clear A50
 replace H := Option.bind_eq_some_iff.mp H
 obtain ⟨⟨t268, t269⟩, A60, H⟩ := H
 replace H : ((spec_reader_pick.f k s0_0 t269 256).bind fun bt270 => (spec_randomImage.l0 k t268 bt270.1 0 s0_0 bt270.2 t261 t262 t263 t264)) = some (r1, r2, r3, r4, r5) := H
 have A6 := aM A60
 clear A60
 replace H := Option.bind_eq_some_iff.mp H
 obtain ⟨⟨t270, t271⟩, A70, H⟩ := H
 replace H : (spec_randomImage.l0 k t268 t270 0 s0_0 t271 t261 t262 t263 t264) = some (r1, r2, r3, r4, r5) := H
 have A7 := aM A70
 clear A70
 have H' := aM H
 clear H
 go_enter Try.func60, Try.ntmps60
 go_wp2_with (first | ((with_reducible refine gate_dst (N := 4) rfl ?_); refine bxE (N := 4) (cs := #[.int .i64 0, .int .i64 0, .int .i64 0, .slice none 0 0]) (t := 26) ?_; intro gb250 hg w8 hbox hb; replace HB := aM (below_step (wS72 HB.out) hb); have BK250 := aM (hbox); have GW250 := aM ((by rw [hg]; exact (keep_size (w := w) (g := g) (row := none) (kB HK.out)) : w.heap.size ≤ gb250)); have GE250 := aM ((Nat.le_trans HW0.out (by rw [hg]; exact (keep_size (w := w) (g := g) (row := none) (kB HK.out)) : w.heap.size ≤ gb250) : w0.heap.size ≤ gb250)); replace HK := aM (KeepBut.trans (kB HK.out) (KeepBut.of_below hb g none) (.inl rfl)); have NB0_250 := aM ((by rw [hg]; exact Nat.ne_of_lt (IsS72.lt (show IsS72 w0 _ g s0_0 s0_1 from iS72 HI0.out)) : g ≠ gb250)); have NB250_0 := aM ((by rw [hg]; exact Nat.ne_of_gt (IsS72.lt (show IsS72 w0 _ g s0_0 s0_1 from iS72 HI0.out)) : gb250 ≠ g)); replace HI0 := aM (IsS72.below (iS72 HI0.out) hb); clear hb hbox hg) | ((with_reducible refine gate_dst (N := 10) rfl ?_); refine iL ([3, 4, 2, 5, 1, 8, 6] : List Int) [.int .i64 3, .int .i64 4, .int .i64 2, .int .i64 5, .int .i64 1, .int .i64 8, .int .i64 6] ?_; intro v252 w9 ho10 hb hg_ hnew_; clear hg_ hnew_; (first | rw [← Ny251.out] at ho10 | (simp only [Int.reduceToNat] at ho10; rw [← Ny251.out] at ho10)); have HO253 := lK ho10 HK; replace BK250 := bB BK250 hb; replace HK := aM (KeepBut.trans (kB HK.out) (KeepBut.of_below hb g none) (.inl rfl)); replace HB := aM (below_step (wS72 HB.out) hb); replace HI0 := aM (IsS72.below (iS72 HI0.out) hb); clear hb ho10; obtain ⟨Ao11, co11, rfl⟩ := sL HO253) | ((with_reducible refine gate_callee (f := 81) rfl ?_); refine gL (some 11) Try.func81 #[.pointer (some ⟨g, 0, none⟩), .slice Ao11 y251.length co11] ?_; (with_reducible refine (spec_reader_one.calls k g s0_0 s0_1 _ _ y251 t254 t255 w0 _ ?side1 ?side2 ?side3 ?side4 ?side5 A3.out).mono ?_); (case side1 => exact iS72 HI0.out); (case side2 => exact wS72 HB.out); (case side3 => exact qC (Kd.R_reads' HO253.out).2.2); (case side4 => exact (Kd.R_reads' HO253.out).2.1); (case side5 => exact far_slice (IsS72.own_ne HI0.out HO253.out (by decide))); rintro e w12 ⟨rfl, hi, hb, hk⟩; refine ⟨_, rfl, ?_⟩; replace BK250 := bK hk BK250 NB250_0; replace HO253 := aM (Kd.R_mono (Kd.R_keep (IsS72.apart (show IsS72 w0 _ g s0_0 s0_1 from iS72 HI0.out) (qR HO253.out) (by decide)) hk (fun _ h => h.2)) (fun _ h => h.1)); replace HK := aM (KeepBut.trans (kB HK.out) hk (.inl rfl)); replace HB := aM (hb); replace HI0 := aM (hi); clear hb hk hi) | ((with_reducible refine gate_dst (N := 13) rfl ?_); refine iL ([3, 2, 4, 1, 5, 8] : List Int) [.int .i64 3, .int .i64 2, .int .i64 4, .int .i64 1, .int .i64 5, .int .i64 8] ?_; intro v257 w13 ho14 hb hg_ hnew_; clear hg_ hnew_; (first | rw [← Ny256.out] at ho14 | (simp only [Int.reduceToNat] at ho14; rw [← Ny256.out] at ho14)); have HO258 := aM (Kd.R_lower (Kd.R_new' ho14 (Kd.R_lt (qR HO253.out))) (keep_size (w := w) (g := g) (row := none) (kB HK.out))); replace HO253 := aM (Kd.R_elder' (qR HO253.out) (Kd.R_base ho14) hb); replace BK250 := bB BK250 hb; replace HK := aM (KeepBut.trans (kB HK.out) (KeepBut.of_below hb g none) (.inl rfl)); replace HB := aM (below_step (wS72 HB.out) hb); replace HI0 := aM (IsS72.below (iS72 HI0.out) hb); clear hb ho14; obtain ⟨Ao15, co15, rfl⟩ := sL HO258) | ((with_reducible refine gate_callee (f := 81) rfl ?_); refine gL (some 14) Try.func81 #[.pointer (some ⟨g, 0, none⟩), .slice Ao15 y256.length co15] ?_; (with_reducible refine (spec_reader_one.calls k g s0_0 t255 _ _ y256 t259 t260 w0 _ ?side1 ?side2 ?side3 ?side4 ?side5 A4.out).mono ?_); (case side1 => exact iS72 HI0.out); (case side2 => exact wS72 HB.out); (case side3 => exact qC (Kd.R_reads' HO258.out).2.2); (case side4 => exact (Kd.R_reads' HO258.out).2.1); (case side5 => exact far_slice (IsS72.own_ne HI0.out HO258.out (by decide))); rintro e w16 ⟨rfl, hi, hb, hk⟩; refine ⟨_, rfl, ?_⟩; replace BK250 := bK hk BK250 NB250_0; replace HO253 := aM (Kd.R_mono (Kd.R_keep (IsS72.apart (show IsS72 w0 _ g s0_0 t255 from iS72 HI0.out) (qR HO253.out) (by decide)) hk (fun _ h => h.2)) (fun _ h => h.1)); replace HO258 := aM (Kd.R_mono (Kd.R_keep (IsS72.apart (show IsS72 w0 _ g s0_0 t255 from iS72 HI0.out) (qR HO258.out) (by decide)) hk (fun _ h => h.2)) (fun _ h => h.1)); replace HK := aM (KeepBut.trans (kB HK.out) hk (.inl rfl)); replace HB := aM (hb); replace HI0 := aM (hi); clear hb hk hi) | ((with_reducible refine gate_callee (f := 45) rfl ?_); refine gL (some 16) Try.func45 #[.int .i64 t254, .int .i64 t259, .int .i64 a1] ?_; (with_reducible refine (spec_newImage.calls t254 t259 a1 t261 t262 t263 t264 _ A5.out).mono ?_); rintro e w17 ⟨v265, rfl, ho0, hb⟩; refine ⟨_, rfl, ?_⟩; have HO266 := aM (Kd.R_lower (Kd.R_new' (Kd.R_new' ho0 (Kd.R_lt (qR HO253.out))) (Kd.R_lt (qR HO258.out))) (keep_size (w := w) (g := g) (row := none) (kB HK.out))); replace HO253 := aM (Kd.R_elder' (qR HO253.out) (Kd.R_base ho0) hb); replace HO258 := aM (Kd.R_elder' (qR HO258.out) (Kd.R_base ho0) hb); replace BK250 := bB BK250 hb; replace HK := aM (KeepBut.trans (kB HK.out) (KeepBut.of_below hb g none) (.inl rfl)); replace HB := aM (below_step (wS72 HB.out) hb); replace HI0 := aM (IsS72.below (iS72 HI0.out) hb); clear hb ho0) | ((with_reducible refine gate_dst (N := 5) rfl ?_); refine bxE (N := 5) (cs := #[.int .i64 0, .int .i64 0, .int .i64 0, .slice none 0 0]) (t := 26) ?_; intro gb267 hg w18 hbox hb; replace HO253 := aM (Kd.R_below (qR HO253.out) hb); replace HO258 := aM (Kd.R_below (qR HO258.out) hb); replace HO266 := aM (Kd.R_below (qR HO266.out) hb); replace HB := aM (below_step (wS72 HB.out) hb); have BK267 := aM (hbox); have GW267 := aM ((by rw [hg]; exact (keep_size (w := w) (g := g) (row := none) (kB HK.out)) : w.heap.size ≤ gb267)); have GE267 := aM ((Nat.le_trans HW0.out (by rw [hg]; exact (keep_size (w := w) (g := g) (row := none) (kB HK.out)) : w.heap.size ≤ gb267) : w0.heap.size ≤ gb267)); replace HK := aM (KeepBut.trans (kB HK.out) (KeepBut.of_below hb g none) (.inl rfl)); have NB250_267 := nL hg BK250; have NB267_250 := nG hg BK250; replace BK250 := bB BK250 hb; have NB0_267 := aM ((by rw [hg]; exact Nat.ne_of_lt (IsS72.lt (show IsS72 w0 _ g s0_0 t260 from iS72 HI0.out)) : g ≠ gb267)); have NB267_0 := aM ((by rw [hg]; exact Nat.ne_of_gt (IsS72.lt (show IsS72 w0 _ g s0_0 t260 from iS72 HI0.out)) : gb267 ≠ g)); replace HI0 := aM (IsS72.below (iS72 HI0.out) hb); clear hb hbox hg; have hnb19 := NB267_250.out; have hnc19 := NB250_267.out; have hnb20 := NB267_0.out; have hnc20 := NB0_267.out; obtain ⟨⟨hcz21_0, hcz21_1, hcz21_2, hcz21_3⟩, hfz21_0, hfz21_1, hfz21_2, hfz21_3⟩ := cf4 BK267; obtain ⟨Ao22, co22, rfl⟩ := sL HO266) | ((with_reducible refine gate_callee (f := 57) rfl ?_); refine gL (some 18) Try.func57 #[.pointer (some ⟨g, 0, none⟩), .int .i64 4] ?_; (with_reducible refine (spec_reader_pick.calls k g s0_0 t260 4 t268 t269 w0 _ ?side1 ?side2 A6.out).mono ?_); (case side1 => exact iS72 HI0.out); (case side2 => exact wS72 HB.out); rintro e w23 ⟨rfl, hi, hb, hk⟩; refine ⟨_, rfl, ?_⟩; replace BK250 := aM (KeepBut.blk hk (g' := gb250) (o := .cells #[.int .i64 0, .int .i64 0, .int .i64 0, .slice none 0 0] 26 (0, 0)) (by refine qB ?_; refine blk_far ?_ NB250_267.out _; refine qB ?_; refine blk_far ?_ NB250_267.out _; refine qB ?_; refine blk_far ?_ NB250_267.out _; refine qB ?_; refine blk_far ?_ NB250_267.out _; refine qB ?_; exact BK250.out) NB250_0.out (by simp)); replace HO253 := aM (Kd.R_mono (Kd.R_keep (IsS72.apart (show IsS72 w0 _ g s0_0 t260 from iS72 HI0.out) (by refine qR ?_; exact (fr4 HO253 BK267)) (by decide)) hk (fun _ h => h.2)) (fun _ h => h.1)); replace HO258 := aM (Kd.R_mono (Kd.R_keep (IsS72.apart (show IsS72 w0 _ g s0_0 t260 from iS72 HI0.out) (by refine qR ?_; exact (fr4 HO258 BK267)) (by decide)) hk (fun _ h => h.2)) (fun _ h => h.1)); replace HO266 := aM (Kd.R_mono (Kd.R_keep (IsS72.apart (show IsS72 w0 _ g s0_0 t260 from iS72 HI0.out) (by refine qR ?_; exact (fr4 HO266 BK267)) (by decide)) hk (fun _ h => h.2)) (fun _ h => h.1)); replace BK267 := aM (KeepBut.blk hk (g' := gb267) (o := .cells #[.int .i64 t261, .int .i64 t262, .int .i64 t263, .slice Ao22 t264.length co22] 26 (0, 0)) (by exact bP BK267.out) NB267_0.out (by simp)); replace HK := aM (KeepBut.trans (kB HK.out) hk (.inl rfl)); replace HB := aM (hb); replace HI0 := aM (hi); clear hb hk hi) | ((with_reducible refine gate_callee (f := 57) rfl ?_); refine gL (some 20) Try.func57 #[.pointer (some ⟨g, 0, none⟩), .int .i64 256] ?_; (with_reducible refine (spec_reader_pick.calls k g s0_0 t269 256 t270 t271 w0 _ ?side1 ?side2 A7.out).mono ?_); (case side1 => exact iS72 HI0.out); (case side2 => exact wS72 HB.out); rintro e w24 ⟨rfl, hi, hb, hk⟩; refine ⟨_, rfl, ?_⟩; replace BK250 := bK hk BK250 NB250_0; replace HO253 := aM (Kd.R_mono (Kd.R_keep (IsS72.apart (show IsS72 w0 _ g s0_0 t269 from iS72 HI0.out) (qR HO253.out) (by decide)) hk (fun _ h => h.2)) (fun _ h => h.1)); replace HO258 := aM (Kd.R_mono (Kd.R_keep (IsS72.apart (show IsS72 w0 _ g s0_0 t269 from iS72 HI0.out) (qR HO258.out) (by decide)) hk (fun _ h => h.2)) (fun _ h => h.1)); replace HO266 := aM (Kd.R_mono (Kd.R_keep (IsS72.apart (show IsS72 w0 _ g s0_0 t269 from iS72 HI0.out) (qR HO266.out) (by decide)) hk (fun _ h => h.2)) (fun _ h => h.1)); replace BK267 := bK hk BK267 NB267_0; replace HK := aM (KeepBut.trans (kB HK.out) hk (.inl rfl)); replace HB := aM (hb); replace HI0 := aM (hi); clear hb hk hi))
 go_loopg [7, 8] k (fun kq v7 v8 w' => ∃ (x7_1 : Int) (x8_1 : Int) (x1001_1 : Int) (x268003_1 : List Int) (u268003 : Value), v7 = .int .i64 x7_1 ∧ v8 = .int .i64 x8_1 ∧ Aside0 (spec_randomImage.l0 kq t268 x7_1 x8_1 s0_0 x1001_1 t261 t262 t263 x268003_1 = some (r1, r2, r3, r4, r5)) ∧ Aside0 (kq ≤ k) ∧ Aside0 (Kd.R (Kd.int .i64) 3 w' w.heap.size (fun _ => True) u268003 x268003_1) ∧ Aside0 (w'.heap[gb250]? = some (.cells #[.int .i64 0, .int .i64 0, .int .i64 0, (.slice none 0 0)] 26 (0, 0))) ∧ Aside0 (w'.heap[gb267]? = some (.cells #[.int .i64 t261, .int .i64 t262, .int .i64 t263, u268003] 26 (0, 0))) ∧ Aside0 (IsS72 w0 w' g s0_0 x1001_1) ∧ Aside0 (KeepBut w w' g none) ∧ Aside0 (Below w0.heap.size w0 w'))
 case atStart => exact ⟨(t270), (0), (t271), (t264), (.slice Ao22 t264.length co22), qE, qE, H', ⟨Nat.le_refl _⟩, ⟨by refine qR ?_; exact Kd.R_mono HO266.out (fun _ hk => trivial)⟩, ⟨by refine qB ?_; exact BK250.out⟩, ⟨by refine qB ?_; exact BK267.out⟩, ⟨iS72 HI0.out⟩, ⟨kB HK.out⟩, ⟨wS72 HB.out⟩⟩
 case round =>
  clear H'
  try clear hcz21_0 hcz21_1 hcz21_2 hcz21_3 hfz21_0 hfz21_1 hfz21_2 hfz21_3
  obtain ⟨x7_1, x8_1, x1001_1, x268003_1, u268003, rfl, rfl, HA, HK1, HO_268003, BK250, BK267, HI0, HK, HB⟩ := hrel
  cases gk with
  | zero => exact absurd HA.out (by simp [spec_randomImage.l0])
  | succ k1 =>
   have H := HA.out
   clear HA
   simp only [spec_randomImage.l0] at H
   by_cases c25 : x8_1 < (x268003_1.length : Int)
   rotate_left
   ·rw [if_neg c25] at H
    have c25b0 : decide (x8_1 < (x268003_1.length : Int)) = false := decide_eq_false c25
    clear c25
    simp only [Option.some.injEq, Prod.mk.injEq] at H
    obtain ⟨rfl, rfl, rfl, rfl, rfl⟩ := H
    have hnb70 := NB267_250.out
    have hnc70 := NB250_267.out
    have hnb71 := NB267_0.out
    have hnc71 := NB0_267.out
    obtain ⟨⟨hcz72_0, hcz72_1, hcz72_2, hcz72_3⟩, hfz72_0, hfz72_1, hfz72_2, hfz72_3⟩ := cf4 BK267
    obtain ⟨Ao73, co73, rfl⟩ := sL HO_268003
    have hnb74 := NB250_0.out
    have hnc74 := NB0_250.out
    obtain ⟨⟨hcz75_0, hcz75_1, hcz75_2, hcz75_3⟩, hfz75_0, hfz75_1, hfz75_2, hfz75_3⟩ := cf4 BK250
    go_wp2
    refine bodyPost_ret (results_cell_row rfl _ _ gb250 26 #[.int .i64 t261, .int .i64 t262, .int .i64 t263, .slice Ao73 x268003_1.length co73] (0, 0) _ rfl (by exact bP BK250.out) Try.underlying26 rfl (by kernel_rfl)) rfl ?_
    exact ⟨_, qX, by refine qR ?_; exact Kd.R_mono (rT HO_268003 BK250) (fun _ hk => trivial), iS72 HI0.out, wS72 HB.out, kB HK.out⟩
   rw [if_pos c25] at H
   have c25b0 : decide (x8_1 < (x268003_1.length : Int)) = true := decide_eq_true c25
   clear c25
   by_cases c26 : t268 = 0
   ·rw [if_pos c26] at H
    have c26b0 : (t268 == 0) = true := beq_iff_eq.mpr c26
    have c26b1 : (t268 != 0) = false := bne_eq_false_iff_eq.mpr c26
    clear c26
    replace H := Option.bind_eq_some_iff.mp H
    obtain ⟨⟨t272, t273⟩, A270, H⟩ := H
    replace H : (if 0 ≤ x8_1 then (spec_randomImage.l0 k1 t268 t272 (wrap64 (x8_1 + 1)) s0_0 t273 t261 t262 t263 (x268003_1.set (x8_1 : Int).toNat t272)) else (none)) = some (r1, r2, r3, r4, r5) := H
    have A27 := aM A270
    clear A270
    replace H := iD H
    obtain ⟨c28b0, H⟩ := H
    obtain ⟨y274, hy274⟩ : ∃ y_ : List Int, y_ = (x268003_1.set (x8_1 : Int).toNat t272) := ⟨_, rfl⟩
    replace H : (spec_randomImage.l0 k1 t268 t272 (wrap64 (x8_1 + 1)) s0_0 t273 t261 t262 t263 y274) = some (r1, r2, r3, r4, r5) := rY hy274 H
    have Ny274 := aM hy274
    clear hy274
    have H' := aM H
    clear H
    have hnb30 := NB267_250.out
    have hnc30 := NB250_267.out
    have hnb31 := NB267_0.out
    have hnc31 := NB0_267.out
    obtain ⟨⟨hcz32_0, hcz32_1, hcz32_2, hcz32_3⟩, hfz32_0, hfz32_1, hfz32_2, hfz32_3⟩ := cf4 BK267
    obtain ⟨Ao33, co33, rfl⟩ := sL HO_268003
    go_wp2_with (first | ((with_reducible refine gate_callee (f := 57) rfl ?_); refine gL (some 32) Try.func57 #[.pointer (some ⟨g, 0, none⟩), .int .i64 256] ?_; (with_reducible refine (spec_reader_pick.calls k1 g s0_0 x1001_1 256 t272 t273 w0 _ ?side1 ?side2 A27.out).mono ?_); (case side1 => exact iS72 HI0.out); (case side2 => exact wS72 HB.out); rintro e w34 ⟨rfl, hi, hb, hk⟩; refine ⟨_, rfl, ?_⟩; replace HO_268003 := aM (Kd.R_mono (Kd.R_keep (IsS72.apart (show IsS72 w0 _ g s0_0 x1001_1 from iS72 HI0.out) (qR HO_268003.out) (by decide)) hk (fun _ h => h.2)) (fun _ h => h.1)); replace BK250 := bK hk BK250 NB250_0; replace BK267 := bK hk BK267 NB267_0; replace HK := aM (KeepBut.trans (kB HK.out) hk (.inl rfl)); replace HB := aM (hb); replace HI0 := aM (hi); clear hb hk hi; obtain ⟨⟨hcz35_0, hcz35_1, hcz35_2, hcz35_3⟩, hfz35_0, hfz35_1, hfz35_2, hfz35_3⟩ := cf4 BK267; have p29 : 0 ≤ (x8_1 : Int) := oD; have q29 : (x8_1 : Int) < ((x268003_1.length : Int) : Int) := oD; obtain ⟨go29, co29, eo29, gb29, gl29, cl29, HG29⟩ := Kd.R_form HO_268003.out (by omega); (first | cases eo29 | (injection eo29 with ea_ en_ ec_; (first | subst ea_ | (injection ea_ with ea_; subst ea_)); subst ec_; clear en_)); have GB29 := aM gb29; have GG29 := aM HG29; clear gb29 gl29 HG29; obtain ⟨hx29_0, hf29_0⟩ := Kd.R_celln 0 HO_268003.out (x8_1 : Int) p29 q29; replace p29 := eq_true p29; replace q29 := eq_true q29; obtain ⟨hy36_, hz36_⟩ := Kd.R_celln 0 HO_268003.out (x8_1 : Int) oD oD; have HP36 := Kd.R_putg HO_268003.out (x8_1 : Int) t272) | ((with_reducible refine gate_store (t := 3) (p := 50) rfl ?_); refine store_event (t := 3) (p := 50) (v := ?vo_w37) (w1 := (w34.setCell ⟨go29, (x8_1 : Int).toNat, none⟩ (.int .i64 t272))) ?hg ?ho ?hn ?hr ?_; (case ho => rfl); (case hg => rfl); (case hn => rfl); (case hr => first | (go_simp; done) | (go_simp; rfl)); intro w37 hw; have hg : w34.grownBy w37 (some go29) := (by rw [hw]; exact HP36.2); have hp_ : Kd.R (Kd.int .i64) 3 w37 w.heap.size (fun _ => True) (.slice (some ⟨go29, 0, none⟩) x268003_1.length co33) y274 := (by rw [hw, Ny274.out]; exact HP36.1); clear HP36; replace BK250 := gB BK250 hg (Kd.R_ne HO_268003.out BK250.out (by decide)); replace BK267 := gB BK267 hg (Kd.R_ne HO_268003.out BK267.out (by decide)); replace HI0 := aM (IsS72.grown (iS72 HI0.out) hg (IsS72.own_ne HI0.out HO_268003.out (by decide))); replace HB := aM ((by rw [hw]; exact below_set (HB.out) (Nat.le_trans HL.out GB29.out) : Below w0.heap.size w0 w37)); replace HK := aM (KeepBut.trans (kB HK.out) (KeepBut.of_grown hg g) (Kd.R_base2 HO_268003.out)); replace HO_268003 := aM (hp_); clear hg hw hp_))
    go_roundg k1
    case measure => have := HK1.out; omega
    case rel => exact ⟨(t272), (wrap64 (x8_1 + 1)), (t273), (y274), (.slice (some ⟨go29, 0, none⟩) x268003_1.length co33), qE, qE, H', ⟨by have := HK1.out; omega⟩, ⟨by refine qR ?_; exact HO_268003.out⟩, ⟨by refine qB ?_; exact BK250.out⟩, ⟨by refine qB ?_; exact BK267.out⟩, ⟨iS72 HI0.out⟩, ⟨kB HK.out⟩, ⟨wS72 HB.out⟩⟩
   rw [if_neg c26] at H
   have c26b0 : (t268 == 0) = false := beq_eq_false_iff_ne.mpr c26
   have c26b1 : (t268 != 0) = true := bne_iff_ne.mpr c26
   by_cases c38 : t268 = 1
   ·rw [if_pos c38] at H
    have c38b0 : (t268 == 1) = true := beq_iff_eq.mpr c38
    have c38b1 : (t268 != 1) = false := bne_eq_false_iff_eq.mpr c38
    clear c38
    replace H := Option.bind_eq_some_iff.mp H
    obtain ⟨⟨t275, t276⟩, A390, H⟩ := H
    replace H : (if 0 ≤ x8_1 then (spec_randomImage.l0 k1 t268 (Int.tmod (wrap64 ((wrap64 (x7_1 + t275)) + 254)) 256) (wrap64 (x8_1 + 1)) s0_0 t276 t261 t262 t263 (x268003_1.set (x8_1 : Int).toNat (Int.tmod (wrap64 ((wrap64 (x7_1 + t275)) + 254)) 256))) else (none)) = some (r1, r2, r3, r4, r5) := H
    have A39 := aM A390
    clear A390
    replace H := iD H
    obtain ⟨c40b0, H⟩ := H
    obtain ⟨y277, hy277⟩ : ∃ y_ : List Int, y_ = (x268003_1.set (x8_1 : Int).toNat (Int.tmod (wrap64 ((wrap64 (x7_1 + t275)) + 254)) 256)) := ⟨_, rfl⟩
    replace H : (spec_randomImage.l0 k1 t268 (Int.tmod (wrap64 ((wrap64 (x7_1 + t275)) + 254)) 256) (wrap64 (x8_1 + 1)) s0_0 t276 t261 t262 t263 y277) = some (r1, r2, r3, r4, r5) := rY hy277 H
    have Ny277 := aM hy277
    clear hy277
    have H' := aM H
    clear H
    have hnb42 := NB267_250.out
    have hnc42 := NB250_267.out
    have hnb43 := NB267_0.out
    have hnc43 := NB0_267.out
    obtain ⟨⟨hcz44_0, hcz44_1, hcz44_2, hcz44_3⟩, hfz44_0, hfz44_1, hfz44_2, hfz44_3⟩ := cf4 BK267
    obtain ⟨Ao45, co45, rfl⟩ := sL HO_268003
    go_wp2_with (first | ((with_reducible refine gate_callee (f := 57) rfl ?_); refine gL (some 37) Try.func57 #[.pointer (some ⟨g, 0, none⟩), .int .i64 5] ?_; (with_reducible refine (spec_reader_pick.calls k1 g s0_0 x1001_1 5 t275 t276 w0 _ ?side1 ?side2 A39.out).mono ?_); (case side1 => exact iS72 HI0.out); (case side2 => exact wS72 HB.out); rintro e w46 ⟨rfl, hi, hb, hk⟩; refine ⟨_, rfl, ?_⟩; replace HO_268003 := aM (Kd.R_mono (Kd.R_keep (IsS72.apart (show IsS72 w0 _ g s0_0 x1001_1 from iS72 HI0.out) (qR HO_268003.out) (by decide)) hk (fun _ h => h.2)) (fun _ h => h.1)); replace BK250 := bK hk BK250 NB250_0; replace BK267 := bK hk BK267 NB267_0; replace HK := aM (KeepBut.trans (kB HK.out) hk (.inl rfl)); replace HB := aM (hb); replace HI0 := aM (hi); clear hb hk hi; obtain ⟨⟨hcz47_0, hcz47_1, hcz47_2, hcz47_3⟩, hfz47_0, hfz47_1, hfz47_2, hfz47_3⟩ := cf4 BK267; have p41 : 0 ≤ (x8_1 : Int) := oD; have q41 : (x8_1 : Int) < ((x268003_1.length : Int) : Int) := oD; obtain ⟨go41, co41, eo41, gb41, gl41, cl41, HG41⟩ := Kd.R_form HO_268003.out (by omega); (first | cases eo41 | (injection eo41 with ea_ en_ ec_; (first | subst ea_ | (injection ea_ with ea_; subst ea_)); subst ec_; clear en_)); have GB41 := aM gb41; have GG41 := aM HG41; clear gb41 gl41 HG41; obtain ⟨hx41_0, hf41_0⟩ := Kd.R_celln 0 HO_268003.out (x8_1 : Int) p41 q41; replace p41 := eq_true p41; replace q41 := eq_true q41; obtain ⟨hy48_, hz48_⟩ := Kd.R_celln 0 HO_268003.out (x8_1 : Int) oD oD; have HP48 := Kd.R_putg HO_268003.out (x8_1 : Int) (Int.tmod (wrap64 ((wrap64 (x7_1 + t275)) + 254)) 256)) | ((with_reducible refine gate_store (t := 3) (p := 50) rfl ?_); refine store_event (t := 3) (p := 50) (v := ?vo_w49) (w1 := (w46.setCell ⟨go41, (x8_1 : Int).toNat, none⟩ (.int .i64 (Int.tmod (wrap64 ((wrap64 (x7_1 + t275)) + 254)) 256)))) ?hg ?ho ?hn ?hr ?_; (case ho => rfl); (case hg => rfl); (case hn => rfl); (case hr => first | (go_simp; done) | (go_simp; rfl)); intro w49 hw; have hg : w46.grownBy w49 (some go41) := (by rw [hw]; exact HP48.2); have hp_ : Kd.R (Kd.int .i64) 3 w49 w.heap.size (fun _ => True) (.slice (some ⟨go41, 0, none⟩) x268003_1.length co45) y277 := (by rw [hw, Ny277.out]; exact HP48.1); clear HP48; replace BK250 := gB BK250 hg (Kd.R_ne HO_268003.out BK250.out (by decide)); replace BK267 := gB BK267 hg (Kd.R_ne HO_268003.out BK267.out (by decide)); replace HI0 := aM (IsS72.grown (iS72 HI0.out) hg (IsS72.own_ne HI0.out HO_268003.out (by decide))); replace HB := aM ((by rw [hw]; exact below_set (HB.out) (Nat.le_trans HL.out GB41.out) : Below w0.heap.size w0 w49)); replace HK := aM (KeepBut.trans (kB HK.out) (KeepBut.of_grown hg g) (Kd.R_base2 HO_268003.out)); replace HO_268003 := aM (hp_); clear hg hw hp_))
    go_roundg k1
    case measure => have := HK1.out; omega
    case rel => exact ⟨(Int.tmod (wrap64 ((wrap64 (x7_1 + t275)) + 254)) 256), (wrap64 (x8_1 + 1)), (t276), (y277), (.slice (some ⟨go41, 0, none⟩) x268003_1.length co45), qE, qE, H', ⟨by have := HK1.out; omega⟩, ⟨by refine qR ?_; exact HO_268003.out⟩, ⟨by refine qB ?_; exact BK250.out⟩, ⟨by refine qB ?_; exact BK267.out⟩, ⟨iS72 HI0.out⟩, ⟨kB HK.out⟩, ⟨wS72 HB.out⟩⟩
   rw [if_neg c38] at H
   have c38b0 : (t268 == 1) = false := beq_eq_false_iff_ne.mpr c38
   have c38b1 : (t268 != 1) = true := bne_iff_ne.mpr c38
   by_cases c50 : t268 = 2
   rotate_left
   ·rw [if_neg c50] at H
    have c50b0 : (t268 == 2) = false := beq_eq_false_iff_ne.mpr c50
    have c50b1 : (t268 != 2) = true := bne_iff_ne.mpr c50
    replace H := iD H
    obtain ⟨c62b0, H⟩ := H
    obtain ⟨y281, hy281⟩ : ∃ y_ : List Int, y_ = (x268003_1.set (x8_1 : Int).toNat x7_1) := ⟨_, rfl⟩
    replace H : (spec_randomImage.l0 k1 t268 x7_1 (wrap64 (x8_1 + 1)) s0_0 x1001_1 t261 t262 t263 y281) = some (r1, r2, r3, r4, r5) := rY hy281 H
    have Ny281 := aM hy281
    clear hy281
    have H' := aM H
    clear H
    have hnb64 := NB267_250.out
    have hnc64 := NB250_267.out
    have hnb65 := NB267_0.out
    have hnc65 := NB0_267.out
    obtain ⟨⟨hcz66_0, hcz66_1, hcz66_2, hcz66_3⟩, hfz66_0, hfz66_1, hfz66_2, hfz66_3⟩ := cf4 BK267
    obtain ⟨Ao67, co67, rfl⟩ := sL HO_268003
    have p63 : 0 ≤ (x8_1 : Int) := oD
    have q63 : (x8_1 : Int) < ((x268003_1.length : Int) : Int) := oD
    obtain ⟨go63, co63, eo63, gb63, gl63, cl63, HG63⟩ := Kd.R_form HO_268003.out (by omega)
    (first | cases eo63 | (injection eo63 with ea_ en_ ec_; (first | subst ea_ | (injection ea_ with ea_; subst ea_)); subst ec_; clear en_))
    have GB63 := aM gb63
    have GG63 := aM HG63
    clear gb63 gl63 HG63
    obtain ⟨hx63_0, hf63_0⟩ := Kd.R_celln 0 HO_268003.out (x8_1 : Int) p63 q63
    replace p63 := eq_true p63
    replace q63 := eq_true q63
    have HP68 := Kd.R_putg HO_268003.out (x8_1 : Int) x7_1
    go_wp2_with (first | ((with_reducible refine gate_store (t := 3) (p := 50) rfl ?_); refine store_event (t := 3) (p := 50) (v := ?vo_w69) (w1 := (wr.setCell ⟨go63, (x8_1 : Int).toNat, none⟩ (.int .i64 x7_1))) ?hg ?ho ?hn ?hr ?_; (case ho => rfl); (case hg => rfl); (case hn => rfl); (case hr => first | (go_simp; done) | (go_simp; rfl)); intro w69 hw; have hg : wr.grownBy w69 (some go63) := (by rw [hw]; exact HP68.2); have hp_ : Kd.R (Kd.int .i64) 3 w69 w.heap.size (fun _ => True) (.slice (some ⟨go63, 0, none⟩) x268003_1.length co67) y281 := (by rw [hw, Ny281.out]; exact HP68.1); clear HP68; replace BK250 := gB BK250 hg (Kd.R_ne HO_268003.out BK250.out (by decide)); replace BK267 := gB BK267 hg (Kd.R_ne HO_268003.out BK267.out (by decide)); replace HI0 := aM (IsS72.grown (iS72 HI0.out) hg (IsS72.own_ne HI0.out HO_268003.out (by decide))); replace HB := aM ((by rw [hw]; exact below_set (HB.out) (Nat.le_trans HL.out GB63.out) : Below w0.heap.size w0 w69)); replace HK := aM (KeepBut.trans (kB HK.out) (KeepBut.of_grown hg g) (Kd.R_base2 HO_268003.out)); replace HO_268003 := aM (hp_); clear hg hw hp_))
    go_roundg k1
    case measure => have := HK1.out; omega
    case rel => exact ⟨(x7_1), (wrap64 (x8_1 + 1)), (x1001_1), (y281), (.slice (some ⟨go63, 0, none⟩) x268003_1.length co67), qE, qE, H', ⟨by have := HK1.out; omega⟩, ⟨by refine qR ?_; exact HO_268003.out⟩, ⟨by refine qB ?_; exact BK250.out⟩, ⟨by refine qB ?_; exact BK267.out⟩, ⟨iS72 HI0.out⟩, ⟨kB HK.out⟩, ⟨wS72 HB.out⟩⟩
   rw [if_pos c50] at H
   have c50b0 : (t268 == 2) = true := beq_iff_eq.mpr c50
   have c50b1 : (t268 != 2) = false := bne_eq_false_iff_eq.mpr c50
   clear c50
   replace H := Option.bind_eq_some_iff.mp H
   obtain ⟨⟨t278, t279⟩, A510, H⟩ := H
   replace H : (if 0 ≤ x8_1 then (spec_randomImage.l0 k1 t268 (wrap64 (60 * t278)) (wrap64 (x8_1 + 1)) s0_0 t279 t261 t262 t263 (x268003_1.set (x8_1 : Int).toNat (wrap64 (60 * t278)))) else (none)) = some (r1, r2, r3, r4, r5) := H
   have A51 := aM A510
   clear A510
   replace H := iD H
   obtain ⟨c52b0, H⟩ := H
   obtain ⟨y280, hy280⟩ : ∃ y_ : List Int, y_ = (x268003_1.set (x8_1 : Int).toNat (wrap64 (60 * t278))) := ⟨_, rfl⟩
   replace H : (spec_randomImage.l0 k1 t268 (wrap64 (60 * t278)) (wrap64 (x8_1 + 1)) s0_0 t279 t261 t262 t263 y280) = some (r1, r2, r3, r4, r5) := rY hy280 H
   have Ny280 := aM hy280
   clear hy280
   have H' := aM H
   clear H
   have hnb54 := NB267_250.out
   have hnc54 := NB250_267.out
   have hnb55 := NB267_0.out
   have hnc55 := NB0_267.out
   obtain ⟨⟨hcz56_0, hcz56_1, hcz56_2, hcz56_3⟩, hfz56_0, hfz56_1, hfz56_2, hfz56_3⟩ := cf4 BK267
   obtain ⟨Ao57, co57, rfl⟩ := sL HO_268003
   go_wp2_with (first | ((with_reducible refine gate_callee (f := 57) rfl ?_); refine gL (some 44) Try.func57 #[.pointer (some ⟨g, 0, none⟩), .int .i64 4] ?_; (with_reducible refine (spec_reader_pick.calls k1 g s0_0 x1001_1 4 t278 t279 w0 _ ?side1 ?side2 A51.out).mono ?_); (case side1 => exact iS72 HI0.out); (case side2 => exact wS72 HB.out); rintro e w58 ⟨rfl, hi, hb, hk⟩; refine ⟨_, rfl, ?_⟩; replace HO_268003 := aM (Kd.R_mono (Kd.R_keep (IsS72.apart (show IsS72 w0 _ g s0_0 x1001_1 from iS72 HI0.out) (qR HO_268003.out) (by decide)) hk (fun _ h => h.2)) (fun _ h => h.1)); replace BK250 := bK hk BK250 NB250_0; replace BK267 := bK hk BK267 NB267_0; replace HK := aM (KeepBut.trans (kB HK.out) hk (.inl rfl)); replace HB := aM (hb); replace HI0 := aM (hi); clear hb hk hi; obtain ⟨⟨hcz59_0, hcz59_1, hcz59_2, hcz59_3⟩, hfz59_0, hfz59_1, hfz59_2, hfz59_3⟩ := cf4 BK267; have p53 : 0 ≤ (x8_1 : Int) := oD; have q53 : (x8_1 : Int) < ((x268003_1.length : Int) : Int) := oD; obtain ⟨go53, co53, eo53, gb53, gl53, cl53, HG53⟩ := Kd.R_form HO_268003.out (by omega); (first | cases eo53 | (injection eo53 with ea_ en_ ec_; (first | subst ea_ | (injection ea_ with ea_; subst ea_)); subst ec_; clear en_)); have GB53 := aM gb53; have GG53 := aM HG53; clear gb53 gl53 HG53; obtain ⟨hx53_0, hf53_0⟩ := Kd.R_celln 0 HO_268003.out (x8_1 : Int) p53 q53; replace p53 := eq_true p53; replace q53 := eq_true q53; obtain ⟨hy60_, hz60_⟩ := Kd.R_celln 0 HO_268003.out (x8_1 : Int) oD oD; have HP60 := Kd.R_putg HO_268003.out (x8_1 : Int) (wrap64 (60 * t278))) | ((with_reducible refine gate_store (t := 3) (p := 50) rfl ?_); refine store_event (t := 3) (p := 50) (v := ?vo_w61) (w1 := (w58.setCell ⟨go53, (x8_1 : Int).toNat, none⟩ (.int .i64 (wrap64 (60 * t278))))) ?hg ?ho ?hn ?hr ?_; (case ho => rfl); (case hg => rfl); (case hn => rfl); (case hr => first | (go_simp; done) | (go_simp; rfl)); intro w61 hw; have hg : w58.grownBy w61 (some go53) := (by rw [hw]; exact HP60.2); have hp_ : Kd.R (Kd.int .i64) 3 w61 w.heap.size (fun _ => True) (.slice (some ⟨go53, 0, none⟩) x268003_1.length co57) y280 := (by rw [hw, Ny280.out]; exact HP60.1); clear HP60; replace BK250 := gB BK250 hg (Kd.R_ne HO_268003.out BK250.out (by decide)); replace BK267 := gB BK267 hg (Kd.R_ne HO_268003.out BK267.out (by decide)); replace HI0 := aM (IsS72.grown (iS72 HI0.out) hg (IsS72.own_ne HI0.out HO_268003.out (by decide))); replace HB := aM ((by rw [hw]; exact below_set (HB.out) (Nat.le_trans HL.out GB53.out) : Below w0.heap.size w0 w61)); replace HK := aM (KeepBut.trans (kB HK.out) (KeepBut.of_grown hg g) (Kd.R_base2 HO_268003.out)); replace HO_268003 := aM (hp_); clear hg hw hp_))
   go_roundg k1
   case measure => have := HK1.out; omega
   case rel => exact ⟨(wrap64 (60 * t278)), (wrap64 (x8_1 + 1)), (t279), (y280), (.slice (some ⟨go53, 0, none⟩) x268003_1.length co57), qE, qE, H', ⟨by have := HK1.out; omega⟩, ⟨by refine qR ?_; exact HO_268003.out⟩, ⟨by refine qB ?_; exact BK250.out⟩, ⟨by refine qB ?_; exact BK267.out⟩, ⟨iS72 HI0.out⟩, ⟨kB HK.out⟩, ⟨wS72 HB.out⟩⟩
def spec_anyPlanes.f (k : Nat) (s0_0 : List Int) (s0_1 : Int) : Option (Int × Int) := (spec_reader_one.f k s0_0 s0_1 (([1, 3, 1, 4, 2] : List Int))).bind fun bt285 => (some (bt285.1, bt285.2))
theorem spec_anyPlanes.mono : ∀ a0 a1 k, LeO (spec_anyPlanes.f k a0 a1) (spec_anyPlanes.f (k + 1) a0 a1) := by
 intro a0 a1 k
 unfold spec_anyPlanes.f
 repeat' first | (with_reducible first | exact spec_reader_one.mono _ _ _ _ | exact lR | exact lN | refine lI ?_ ?_ | refine lB ?_ fun _ => ?_) | exact spec_reader_one.mono _ _ _ _ | exact lN | refine lI ?_ ?_ | refine lB ?_ fun _ => ?_
set_option maxHeartbeats 8000000 in
set_option maxRecDepth 100000 in
theorem spec_anyPlanes.calls (k : Nat) (g : Nat) (s0_0 : List Int) (s0_1 : Int) (r1 : Int) (r2 : Int) (w0 w : World) (hI : IsS72 w0 w g s0_0 s0_1) (hB : Below w0.heap.size w0 w) (h : spec_anyPlanes.f k s0_0 s0_1 = some (r1, r2)) :
  Calls Try.prog 80 #[.pointer (some ⟨g, 0, none⟩)] w fun e w' => e = .returned (.int .i64 r1) ∧ IsS72 w0 w' g s0_0 r2 ∧ Below w0.heap.size w0 w' ∧ KeepBut w w' g none := by
 have HI0 := aM hI
 have HK := aM (KeepBut.refl w g none)
 have HL := aM hB.size
 clear hI
 have HW0 := aM hB.size
 have HB := aM hB
 clear hB
 unfold spec_anyPlanes.f at h
 have H := h
 clear h
 obtain ⟨y282, hy282⟩ : ∃ y_ : List Int, y_ = (([1, 3, 1, 4, 2] : List Int)) := ⟨_, rfl⟩
 replace H : ((spec_reader_one.f k s0_0 s0_1 y282).bind fun bt285 => (some (bt285.1, bt285.2))) = some (r1, r2) := rY hy282 H
 have Ny282 := aM hy282
 clear hy282
 replace H := Option.bind_eq_some_iff.mp H
 obtain ⟨⟨t285, t286⟩, A20, H⟩ := H
 replace H : (some (t285, t286)) = some (r1, r2) := H
 have A2 := aM A20
 clear A20
 simp only [Option.some.injEq, Prod.mk.injEq] at H
 obtain ⟨rfl, rfl⟩ := H
 go_enter Try.func80, Try.ntmps80
 go_wp2_with (first | ((with_reducible refine gate_dst (N := 4) rfl ?_); refine iL ([1, 3, 1, 4, 2] : List Int) [.int .i64 1, .int .i64 3, .int .i64 1, .int .i64 4, .int .i64 2] ?_; intro v283 w3 ho4 hb hg_ hnew_; clear hg_ hnew_; (first | rw [← Ny282.out] at ho4 | (simp only [Int.reduceToNat] at ho4; rw [← Ny282.out] at ho4)); have HO284 := lK ho4 HK; replace HK := aM (KeepBut.trans (kB HK.out) (KeepBut.of_below hb g none) (.inl rfl)); replace HB := aM (below_step (wS72 HB.out) hb); replace HI0 := aM (IsS72.below (iS72 HI0.out) hb); clear hb ho4; obtain ⟨Ao5, co5, rfl⟩ := sL HO284) | ((with_reducible refine gate_callee (f := 81) rfl ?_); refine gL (some 5) Try.func81 #[.pointer (some ⟨g, 0, none⟩), .slice Ao5 y282.length co5] ?_; (with_reducible refine (spec_reader_one.calls k g s0_0 s0_1 _ _ y282 t285 t286 w0 _ ?side1 ?side2 ?side3 ?side4 ?side5 A2.out).mono ?_); (case side1 => exact iS72 HI0.out); (case side2 => exact wS72 HB.out); (case side3 => exact qC (Kd.R_reads' HO284.out).2.2); (case side4 => exact (Kd.R_reads' HO284.out).2.1); (case side5 => exact far_slice (IsS72.own_ne HI0.out HO284.out (by decide))); rintro e w6 ⟨rfl, hi, hb, hk⟩; refine ⟨_, rfl, ?_⟩; replace HO284 := aM (Kd.R_mono (Kd.R_keep (IsS72.apart (show IsS72 w0 _ g s0_0 s0_1 from iS72 HI0.out) (qR HO284.out) (by decide)) hk (fun _ h => h.2)) (fun _ h => h.1)); replace HK := aM (KeepBut.trans (kB HK.out) hk (.inl rfl)); replace HB := aM (hb); replace HI0 := aM (hi); clear hb hk hi))
 go_ret
 exact ⟨qX, iS72 HI0.out, wS72 HB.out, kB HK.out⟩
def spec_anyImage.f (k : Nat) (s0_0 : List Int) (s0_1 : Int) : Option (Int × Int × Int × List Int × Int) := (spec_anyPlanes.f k s0_0 s0_1).bind fun bt288 => ((spec_randomImage.f k s0_0 bt288.2 bt288.1).bind fun bt290 => ((spec_spoilImage.f k s0_0 bt290.2.2.2.2 bt290.1 bt290.2.1 bt290.2.2.1 bt290.2.2.2.1).bind fun bt297 => (some (bt297.1, bt297.2.1, bt297.2.2.1, bt297.2.2.2.1, bt297.2.2.2.2))))
theorem spec_anyImage.mono : ∀ a0 a1 k, LeO (spec_anyImage.f k a0 a1) (spec_anyImage.f (k + 1) a0 a1) := by
 intro a0 a1 k
 unfold spec_anyImage.f
 repeat' first | (with_reducible first | exact spec_anyPlanes.mono _ _ _ | exact spec_randomImage.mono _ _ _ _ | exact spec_spoilImage.mono _ _ _ _ _ _ _ | exact lR | exact lN | refine lI ?_ ?_ | refine lB ?_ fun _ => ?_) | exact spec_anyPlanes.mono _ _ _ | exact spec_randomImage.mono _ _ _ _ | exact spec_spoilImage.mono _ _ _ _ _ _ _ | exact lN | refine lI ?_ ?_ | refine lB ?_ fun _ => ?_
set_option maxHeartbeats 8000000 in
set_option maxRecDepth 100000 in
theorem spec_anyImage.calls (k : Nat) (g : Nat) (s0_0 : List Int) (s0_1 : Int) (r1 : Int) (r2 : Int) (r3 : Int) (r4 : List Int) (r5 : Int) (w0 w : World) (hI : IsS72 w0 w g s0_0 s0_1) (hB : Below w0.heap.size w0 w) (h : spec_anyImage.f k s0_0 s0_1 = some (r1, r2, r3, r4, r5)) :
  Calls Try.prog 58 #[.pointer (some ⟨g, 0, none⟩)] w fun e w' => ∃ v3_ : Value, e = .returned (.agg #[.int .i64 r1, .int .i64 r2, .int .i64 r3, v3_]) ∧ Kd.Q (Kd.int .i64) 3 w' w.heap.size (fun _ => True) v3_ r4 ∧ IsS72 w0 w' g s0_0 r5 ∧ Below w0.heap.size w0 w' ∧ KeepBut w w' g none := by
 have hu26 := Try.underlying26
 have HI0 := aM hI
 have HK := aM (KeepBut.refl w g none)
 have HL := aM hB.size
 clear hI
 have HW0 := aM hB.size
 have HB := aM hB
 clear hB
 unfold spec_anyImage.f at h
 have H := h
 clear h
 replace H := Option.bind_eq_some_iff.mp H
 obtain ⟨⟨t288, t289⟩, A20, H⟩ := H
 replace H : ((spec_randomImage.f k s0_0 t289 t288).bind fun bt290 => ((spec_spoilImage.f k s0_0 bt290.2.2.2.2 bt290.1 bt290.2.1 bt290.2.2.1 bt290.2.2.2.1).bind fun bt297 => (some (bt297.1, bt297.2.1, bt297.2.2.1, bt297.2.2.2.1, bt297.2.2.2.2)))) = some (r1, r2, r3, r4, r5) := H
 have A2 := aM A20
 clear A20
 replace H := Option.bind_eq_some_iff.mp H
 obtain ⟨⟨t290, t291, t292, t293, t296⟩, A30, H⟩ := H
 replace H : ((spec_spoilImage.f k s0_0 t296 t290 t291 t292 t293).bind fun bt297 => (some (bt297.1, bt297.2.1, bt297.2.2.1, bt297.2.2.2.1, bt297.2.2.2.2))) = some (r1, r2, r3, r4, r5) := H
 have A3 := aM A30
 clear A30
 replace H := Option.bind_eq_some_iff.mp H
 obtain ⟨⟨t297, t298, t299, t300, t303⟩, A40, H⟩ := H
 replace H : (some (t297, t298, t299, t300, t303)) = some (r1, r2, r3, r4, r5) := H
 have A4 := aM A40
 clear A40
 simp only [Option.some.injEq, Prod.mk.injEq] at H
 obtain ⟨rfl, rfl, rfl, rfl, rfl⟩ := H
 go_enter Try.func58, Try.ntmps58
 go_wp2_with (first | ((with_reducible refine gate_dst (N := 2) rfl ?_); refine bxE (N := 2) (cs := #[.int .i64 0, .int .i64 0, .int .i64 0, .slice none 0 0]) (t := 26) ?_; intro gb287 hg w5 hbox hb; replace HB := aM (below_step (wS72 HB.out) hb); have BK287 := aM (hbox); have GW287 := aM ((by rw [hg]; exact (keep_size (w := w) (g := g) (row := none) (kB HK.out)) : w.heap.size ≤ gb287)); have GE287 := aM ((Nat.le_trans HW0.out (by rw [hg]; exact (keep_size (w := w) (g := g) (row := none) (kB HK.out)) : w.heap.size ≤ gb287) : w0.heap.size ≤ gb287)); replace HK := aM (KeepBut.trans (kB HK.out) (KeepBut.of_below hb g none) (.inl rfl)); have NB0_287 := aM ((by rw [hg]; exact Nat.ne_of_lt (IsS72.lt (show IsS72 w0 _ g s0_0 s0_1 from iS72 HI0.out)) : g ≠ gb287)); have NB287_0 := aM ((by rw [hg]; exact Nat.ne_of_gt (IsS72.lt (show IsS72 w0 _ g s0_0 s0_1 from iS72 HI0.out)) : gb287 ≠ g)); replace HI0 := aM (IsS72.below (iS72 HI0.out) hb); clear hb hbox hg) | ((with_reducible refine gate_callee (f := 80) rfl ?_); refine gL (some 6) Try.func80 #[.pointer (some ⟨g, 0, none⟩)] ?_; (with_reducible refine (spec_anyPlanes.calls k g s0_0 s0_1 t288 t289 w0 _ ?side1 ?side2 A2.out).mono ?_); (case side1 => exact iS72 HI0.out); (case side2 => exact wS72 HB.out); rintro e w6 ⟨rfl, hi, hb, hk⟩; refine ⟨_, rfl, ?_⟩; replace BK287 := bK hk BK287 NB287_0; replace HK := aM (KeepBut.trans (kB HK.out) hk (.inl rfl)); replace HB := aM (hb); replace HI0 := aM (hi); clear hb hk hi) | ((with_reducible refine gate_callee (f := 60) rfl ?_); refine gL (some 7) Try.func60 #[.pointer (some ⟨g, 0, none⟩), .int .i64 t288] ?_; (with_reducible refine (spec_randomImage.calls k g s0_0 t289 t288 t290 t291 t292 t293 t296 w0 _ ?side1 ?side2 A3.out).mono ?_); (case side1 => exact iS72 HI0.out); (case side2 => exact wS72 HB.out); rintro e w7 ⟨v294, rfl, ho0, hi, hb, hk⟩; refine ⟨_, rfl, ?_⟩; replace BK287 := bK hk BK287 NB287_0; have HO295 := lK ho0 HK; replace HK := aM (KeepBut.trans (kB HK.out) hk (.inl rfl)); replace HB := aM (hb); replace HI0 := aM (hi); clear hb hk hi ho0; obtain ⟨Ao8, co8, rfl⟩ := sL HO295) | ((with_reducible refine gate_callee (f := 59) rfl ?_); refine gL (some 8) Try.func59 #[.pointer (some ⟨g, 0, none⟩), .agg #[.int .i64 t290, .int .i64 t291, .int .i64 t292, .slice Ao8 t293.length co8]] ?_; (with_reducible refine (spec_spoilImage.calls k g s0_0 t296 t290 t291 t292 (fun k_ => some k_ = (.slice Ao8 t293.length co8 : Value).ownBlock) (.slice Ao8 t293.length co8) t293 t297 t298 t299 t300 t303 w0 _ ?side1 ?side2 ?side3 A4.out).mono ?_); (case side1 => exact iS72 HI0.out); (case side2 => exact wS72 HB.out); (case side3 => exact Kd.R_lower (Kd.R_tight rfl HO295.out) HL.out); rintro e w9 ⟨v301, rfl, ho0, hi, hb, hkp⟩; refine ⟨_, rfl, ?_⟩; replace HI0 := aM (hi); replace BK287 := aM (blk_kept (qB BK287.out) hkp (fun hs_ => Or.elim hs_ (fun hs_ => (fun e_ => (Kd.R_ne HO295.out BK287.out (by decide)) e_) hs_) (fun e_ => NB287_0.out e_))); have HO302 := aM (Kd.Q_mono (ok' := fun k_ => True) (Kd.Q_raise (d := (Kd.int .i64)) (b := w0.heap.size) (b' := w.heap.size) (fun _ _ _ _ h_ => h_) ho0 (fun k_ e_ => Or.elim (ho0.1 k_ e_) (fun hs_ => (fun e_ => Kd.R_base HO295.out k_ e_.symm) hs_) (fun hn_ => Nat.le_trans (keep_size (w := w) (g := g) (row := none) (kB HK.out)) hn_))) (fun k_ hk_ => trivial)); replace HK := aM (Kept.keepG (kB HK.out) hkp (fun k_ hs_ => Or.elim hs_ (fun hs_ => (fun e_ => .inr (Kd.R_base HO295.out k_ e_.symm)) hs_) (fun e_ => .inl e_))); replace HB := aM (hb); clear HO295; clear hb hkp ho0; have hnb10 := NB287_0.out; have hnc10 := NB0_287.out; obtain ⟨⟨hcz11_0, hcz11_1, hcz11_2, hcz11_3⟩, hfz11_0, hfz11_1, hfz11_2, hfz11_3⟩ := cf4 BK287; obtain ⟨Ao12, co12, eo12, _⟩ := Kd.Q_slice HO302.out; subst eo12))
 refine bodyPost_ret (results_cell_row rfl _ _ gb287 26 #[.int .i64 t297, .int .i64 t298, .int .i64 t299, .slice Ao12 t300.length co12] (0, 0) _ rfl (by exact bP BK287.out) Try.underlying26 rfl (by kernel_rfl)) rfl ?_
 exact ⟨_, qX, by (with_reducible repeat (first | apply Kd.Q_alloc | apply Kd.Q_drewN | apply Kd.Q_drew)); exact Kd.Q_mono (qT HO302 BK287) (fun _ hk => trivial), iS72 HI0.out, wS72 HB.out, kB HK.out⟩
def spec_anySide.f (k : Nat) (s0_0 : List Int) (s0_1 : Int) : Option (Int × Int) := (spec_reader_one.f k s0_0 s0_1 (([1, 2, 3, 4, 6, 8, 16, 17, 0] : List Int))).bind fun bt537 => (some (bt537.1, bt537.2))
theorem spec_anySide.mono : ∀ a0 a1 k, LeO (spec_anySide.f k a0 a1) (spec_anySide.f (k + 1) a0 a1) := by
 intro a0 a1 k
 unfold spec_anySide.f
 repeat' first | (with_reducible first | exact spec_reader_one.mono _ _ _ _ | exact lR | exact lN | refine lI ?_ ?_ | refine lB ?_ fun _ => ?_) | exact spec_reader_one.mono _ _ _ _ | exact lN | refine lI ?_ ?_ | refine lB ?_ fun _ => ?_
set_option maxHeartbeats 8000000 in
set_option maxRecDepth 100000 in
theorem spec_anySide.calls (k : Nat) (g : Nat) (s0_0 : List Int) (s0_1 : Int) (r1 : Int) (r2 : Int) (w0 w : World) (hI : IsS72 w0 w g s0_0 s0_1) (hB : Below w0.heap.size w0 w) (h : spec_anySide.f k s0_0 s0_1 = some (r1, r2)) :
  Calls Try.prog 68 #[.pointer (some ⟨g, 0, none⟩)] w fun e w' => e = .returned (.int .i64 r1) ∧ IsS72 w0 w' g s0_0 r2 ∧ Below w0.heap.size w0 w' ∧ KeepBut w w' g none := by
 have HI0 := aM hI
 have HK := aM (KeepBut.refl w g none)
 have HL := aM hB.size
 clear hI
 have HW0 := aM hB.size
 have HB := aM hB
 clear hB
 unfold spec_anySide.f at h
 have H := h
 clear h
 obtain ⟨y534, hy534⟩ : ∃ y_ : List Int, y_ = (([1, 2, 3, 4, 6, 8, 16, 17, 0] : List Int)) := ⟨_, rfl⟩
 replace H : ((spec_reader_one.f k s0_0 s0_1 y534).bind fun bt537 => (some (bt537.1, bt537.2))) = some (r1, r2) := rY hy534 H
 have Ny534 := aM hy534
 clear hy534
 replace H := Option.bind_eq_some_iff.mp H
 obtain ⟨⟨t537, t538⟩, A20, H⟩ := H
 replace H : (some (t537, t538)) = some (r1, r2) := H
 have A2 := aM A20
 clear A20
 simp only [Option.some.injEq, Prod.mk.injEq] at H
 obtain ⟨rfl, rfl⟩ := H
 go_enter Try.func68, Try.ntmps68
 go_wp2_with (first | ((with_reducible refine gate_dst (N := 4) rfl ?_); refine iL ([1, 2, 3, 4, 6, 8, 16, 17, 0] : List Int) [.int .i64 1, .int .i64 2, .int .i64 3, .int .i64 4, .int .i64 6, .int .i64 8, .int .i64 16, .int .i64 17, .int .i64 0] ?_; intro v535 w3 ho4 hb hg_ hnew_; clear hg_ hnew_; (first | rw [← Ny534.out] at ho4 | (simp only [Int.reduceToNat] at ho4; rw [← Ny534.out] at ho4)); have HO536 := lK ho4 HK; replace HK := aM (KeepBut.trans (kB HK.out) (KeepBut.of_below hb g none) (.inl rfl)); replace HB := aM (below_step (wS72 HB.out) hb); replace HI0 := aM (IsS72.below (iS72 HI0.out) hb); clear hb ho4; obtain ⟨Ao5, co5, rfl⟩ := sL HO536) | ((with_reducible refine gate_callee (f := 81) rfl ?_); refine gL (some 5) Try.func81 #[.pointer (some ⟨g, 0, none⟩), .slice Ao5 y534.length co5] ?_; (with_reducible refine (spec_reader_one.calls k g s0_0 s0_1 _ _ y534 t537 t538 w0 _ ?side1 ?side2 ?side3 ?side4 ?side5 A2.out).mono ?_); (case side1 => exact iS72 HI0.out); (case side2 => exact wS72 HB.out); (case side3 => exact qC (Kd.R_reads' HO536.out).2.2); (case side4 => exact (Kd.R_reads' HO536.out).2.1); (case side5 => exact far_slice (IsS72.own_ne HI0.out HO536.out (by decide))); rintro e w6 ⟨rfl, hi, hb, hk⟩; refine ⟨_, rfl, ?_⟩; replace HO536 := aM (Kd.R_mono (Kd.R_keep (IsS72.apart (show IsS72 w0 _ g s0_0 s0_1 from iS72 HI0.out) (qR HO536.out) (by decide)) hk (fun _ h => h.2)) (fun _ h => h.1)); replace HK := aM (KeepBut.trans (kB HK.out) hk (.inl rfl)); replace HB := aM (hb); replace HI0 := aM (hi); clear hb hk hi))
 go_ret
 exact ⟨qX, iS72 HI0.out, wS72 HB.out, kB HK.out⟩
def spec_DrawScaleNearest.f (k : Nat) (l0 : List Int) : Option (Int × Int × Int × List Int × Int × Int) := (spec_newReader.f l0).bind fun bt540 => ((spec_anyImage.f k bt540.1 bt540.2).bind fun bt543 => ((spec_anySide.f k bt540.1 bt543.2.2.2.2).bind fun bt551 => ((spec_anySide.f k bt540.1 bt551.2).bind fun bt553 => (some (bt543.1, bt543.2.1, bt543.2.2.1, bt543.2.2.2.1, bt551.1, bt553.1)))))
theorem spec_DrawScaleNearest.mono : ∀ a0 k, LeO (spec_DrawScaleNearest.f k a0) (spec_DrawScaleNearest.f (k + 1) a0) := by
 intro a0 k
 unfold spec_DrawScaleNearest.f
 repeat' first | (with_reducible first | exact spec_anyImage.mono _ _ _ | exact spec_anySide.mono _ _ _ | exact lR | exact lN | refine lI ?_ ?_ | refine lB ?_ fun _ => ?_) | exact spec_anyImage.mono _ _ _ | exact spec_anySide.mono _ _ _ | exact lN | refine lI ?_ ?_ | refine lB ?_ fun _ => ?_
set_option maxHeartbeats 8000000 in
set_option maxRecDepth 100000 in
theorem spec_DrawScaleNearest.calls (k : Nat) (A0 : Option Addr) (c0 : Nat) (l0 : List Int) (r1 : Int) (r2 : Int) (r3 : Int) (r4 : List Int) (r5 : Int) (r6 : Int) (w : World) (hr0 : Kd.C (Kd.int .u8) w A0 l0.length l0) (hc0 : l0.length ≤ c0) (h : spec_DrawScaleNearest.f k l0 = some (r1, r2, r3, r4, r5, r6)) :
  Calls Try.prog 29 #[.slice A0 l0.length c0] w fun e w' => ∃ v3_ : Value, e = .returned (.tuple #[.agg #[.int .i64 r1, .int .i64 r2, .int .i64 r3, v3_], .int .i64 r5, .int .i64 r6]) ∧ Kd.Q (Kd.int .i64) 3 w' w.heap.size (fun _ => True) v3_ r4 ∧ Below w.heap.size w w' := by
 have hu26 := Try.underlying26
 have HR0 := aM hr0
 have HC0 := aM hc0
 clear hr0 hc0
 have HB := aM (Below.refl w.heap.size w)
 unfold spec_DrawScaleNearest.f at h
 have H := h
 clear h
 replace H := Option.bind_eq_some_iff.mp H
 obtain ⟨⟨t540, t541⟩, A20, H⟩ := H
 replace H : ((spec_anyImage.f k t540 t541).bind fun bt543 => ((spec_anySide.f k t540 bt543.2.2.2.2).bind fun bt551 => ((spec_anySide.f k t540 bt551.2).bind fun bt553 => (some (bt543.1, bt543.2.1, bt543.2.2.1, bt543.2.2.2.1, bt551.1, bt553.1))))) = some (r1, r2, r3, r4, r5, r6) := H
 have A2 := aM A20
 clear A20
 replace H := Option.bind_eq_some_iff.mp H
 obtain ⟨⟨t543, t544, t545, t546, t549⟩, A30, H⟩ := H
 replace H : ((spec_anySide.f k t540 t549).bind fun bt551 => ((spec_anySide.f k t540 bt551.2).bind fun bt553 => (some (t543, t544, t545, t546, bt551.1, bt553.1)))) = some (r1, r2, r3, r4, r5, r6) := H
 have A3 := aM A30
 clear A30
 replace H := Option.bind_eq_some_iff.mp H
 obtain ⟨⟨t551, t552⟩, A40, H⟩ := H
 replace H : ((spec_anySide.f k t540 t552).bind fun bt553 => (some (t543, t544, t545, t546, t551, bt553.1))) = some (r1, r2, r3, r4, r5, r6) := H
 have A4 := aM A40
 clear A40
 replace H := Option.bind_eq_some_iff.mp H
 obtain ⟨⟨t553, t554⟩, A50, H⟩ := H
 replace H : (some (t543, t544, t545, t546, t551, t553)) = some (r1, r2, r3, r4, r5, r6) := H
 have A5 := aM A50
 clear A50
 simp only [Option.some.injEq, Prod.mk.injEq] at H
 obtain ⟨rfl, rfl, rfl, rfl, rfl, rfl⟩ := H
 go_enter Try.func29, Try.ntmps29
 try go_wp2_with (first | ((with_reducible refine gate_dst (N := 2) rfl ?_); refine bxE (N := 2) (cs := #[.int .i64 0, .int .i64 0, .int .i64 0, .slice none 0 0]) (t := 26) ?_; intro gb539 hg w6 hbox hb; have BK539 := aM (hbox); have GW539 := gW hg HB; have GE539 := gW hg HB; replace HB := bS HB hb; clear hb hbox hg) | ((with_reducible refine gate_callee (f := 56) rfl ?_); refine gL (some 9) Try.func56 #[.slice A0 l0.length c0] ?_; (with_reducible refine (spec_newReader.calls _ _ l0 t540 t541 w _ ?side1 ?side2 ?side3 A2.out).mono ?_); (case side1 => exact qW HB.out); (case side2 => exact HR0.out); (case side3 => exact HC0.out); rintro e w7 ⟨g542, rfl, hi, hb, hb2⟩; refine ⟨_, rfl, ?_⟩; replace HB := aM (hb); have HI542 := aM (hi); have NB542_539 := aM (IsS72.ne_blk hi (blk_below (g := gb539) (o := .cells #[.int .i64 0, .int .i64 0, .int .i64 0, .slice none 0 0] 26 (0, 0)) (qB BK539.out) hb2) (by decide)); have NB539_542 := aM (Ne.symm (IsS72.ne_blk hi (blk_below (g := gb539) (o := .cells #[.int .i64 0, .int .i64 0, .int .i64 0, .slice none 0 0] 26 (0, 0)) (qB BK539.out) hb2) (by decide))); replace BK539 := bB BK539 hb2; clear hb hb2 hi) | ((with_reducible refine gate_callee (f := 58) rfl ?_); refine gL (some 11) Try.func58 #[.pointer (some ⟨g542, 0, none⟩)] ?_; (with_reducible refine (spec_anyImage.calls k g542 t540 t541 t543 t544 t545 t546 t549 w _ ?side1 ?side2 A3.out).mono ?_); (case side1 => exact iS72 HI542.out); (case side2 => exact wS72 HB.out); rintro e w8 ⟨v547, rfl, ho0, hi, hb, hk⟩; refine ⟨_, rfl, ?_⟩; replace BK539 := bK hk BK539 NB539_542; have HO548 := aM (Kd.Q_lower ho0 (below_size (wS72 HB.out))); replace HB := aM (hb); replace HI542 := aM (hi); clear hb hk hi ho0) | ((with_reducible refine gate_dst (N := 6) rfl ?_); refine bxE (N := 6) (cs := #[.int .i64 0, .int .i64 0, .int .i64 0, .slice none 0 0]) (t := 26) ?_; intro gb550 hg w9 hbox hb; replace HO548 := aM (Kd.Q_below (qQ HO548.out) hb); have BK550 := aM (hbox); have GW550 := aM ((by rw [hg]; exact (below_size (wS72 HB.out)) : w.heap.size ≤ gb550)); have GE550 := aM ((by rw [hg]; exact (below_size (wS72 HB.out)) : w.heap.size ≤ gb550)); replace HB := aM (below_step (wS72 HB.out) hb); have NB539_550 := nL hg BK539; have NB550_539 := nG hg BK539; replace BK539 := bB BK539 hb; have NB542_550 := aM ((by rw [hg]; exact Nat.ne_of_lt (IsS72.lt (show IsS72 w _ g542 t540 t549 from iS72 HI542.out)) : g542 ≠ gb550)); have NB550_542 := aM ((by rw [hg]; exact Nat.ne_of_gt (IsS72.lt (show IsS72 w _ g542 t540 t549 from iS72 HI542.out)) : gb550 ≠ g542)); replace HI542 := aM (IsS72.below (iS72 HI542.out) hb); clear hb hbox hg; have hnb10 := NB550_539.out; have hnc10 := NB539_550.out; have hnb11 := NB550_542.out; have hnc11 := NB542_550.out; obtain ⟨⟨hcz12_0, hcz12_1, hcz12_2, hcz12_3⟩, hfz12_0, hfz12_1, hfz12_2, hfz12_3⟩ := cf4 BK550; obtain ⟨Ao13, co13, eo13, _⟩ := Kd.Q_slice HO548.out; subst eo13) | ((with_reducible refine gate_callee (f := 68) rfl ?_); refine gL (some 13) Try.func68 #[.pointer (some ⟨g542, 0, none⟩)] ?_; (with_reducible refine (spec_anySide.calls k g542 t540 t549 t551 t552 w _ ?side1 ?side2 A4.out).mono ?_); (case side1 => exact iS72 HI542.out); (case side2 => exact wS72 HB.out); rintro e w14 ⟨rfl, hi, hb, hk⟩; refine ⟨_, rfl, ?_⟩; replace BK539 := aM (KeepBut.blk hk (g' := gb539) (o := .cells #[.int .i64 0, .int .i64 0, .int .i64 0, .slice none 0 0] 26 (0, 0)) (by refine qB ?_; refine blk_far ?_ NB539_550.out _; refine qB ?_; refine blk_far ?_ NB539_550.out _; refine qB ?_; refine blk_far ?_ NB539_550.out _; refine qB ?_; refine blk_far ?_ NB539_550.out _; refine qB ?_; exact BK539.out) NB539_542.out (by simp)); replace HO548 := aM (Kd.Q_mono (Kd.Q_keep (IsS72.apartQ (show IsS72 w _ g542 t540 t549 from iS72 HI542.out) (by (with_reducible repeat (first | apply Kd.Q_alloc | apply Kd.Q_drewN | apply Kd.Q_drew)); exact (Kd.Q_mono (qT HO548 BK550) (fun _ h_ => h_.1))) (by decide)) hk (fun _ h => h.2)) (fun _ h => h.1)); replace BK550 := aM (KeepBut.blk hk (g' := gb550) (o := .cells #[.int .i64 t543, .int .i64 t544, .int .i64 t545, .slice Ao13 t546.length co13] 26 (0, 0)) (by exact bP BK550.out) NB550_542.out (by simp)); replace HB := aM (hb); replace HI542 := aM (hi); clear hb hk hi))
 replace HO548 := aM (Kd.Q_drew HO548.out)
 replace BK539 := aM (blk_drew BK539.out)
 replace BK550 := aM (blk_drew BK550.out)
 replace HI542 := aM (IsS72.drew HI542.out)
 replace HB := aM (below_drew1 HB.out)
 refine start_ (n := 7) (S := fun w' => w'.cell? ⟨gb550, 0, none⟩ = some (.int .i64 t543) ∧ w'.cell? ⟨gb550, 1, none⟩ = some (.int .i64 t544) ∧ w'.cell? ⟨gb550, 2, none⟩ = some (.int .i64 t545) ∧ w'.cell? ⟨gb550, 3, none⟩ = some (.slice Ao13 t546.length co13)) (ds := []) (bA 7 0) (by kernel_rfl) rfl rfl ⟨(blk_cell BK550.out 0).trans rfl, (blk_cell BK550.out 1).trans rfl, (blk_cell BK550.out 2).trans rfl, (blk_cell BK550.out 3).trans rfl⟩ (fun hHeld => ?_)
 generalize w14.drew = w15 at HO548 BK539 BK550 HI542 HB hHeld ⊢
 refine pure_ (i := 1) (N := some 15) (v := ?_) (a' := ?_) (bA 7 2) rfl rfl (by kernel_rfl) (fun _ _ _ h => h) (Or.inl ⟨by rfl, ?_⟩) ?_ ?_
 rotate_left
 ·intro w'
  go_simp
  with_reducible rfl
 rotate_left
 ·refine pZ ?_
  rfl
 refine pure_ (i := 2) (N := some 16) (v := ?_) (a' := ?_) (bA 7 6) rfl rfl (by kernel_rfl) (fun _ _ _ h => h) (Or.inl ⟨by rfl, ?_⟩) ?_ ?_
 rotate_left
 ·intro w'
  go_simp
  with_reducible rfl
 rotate_left
 ·refine pZ ?_
  rfl
 refine take_ (i := 0) (N := some 14) (v := ?_) (a' := ?_) (bA 7 7) rfl rfl (by kernel_rfl) (fun _ _ _ h => h) (Or.inl ⟨by rfl, ?_⟩) hHeld ?_ ?_
 rotate_left
 ·rintro w' ⟨s0, s1, s2, s3⟩
  go_simp
  with_reducible rfl
 rotate_left
 ·refine pZ ?_
  rfl
 refine one_ (i := 3) (N := some 17) (bA 7 15) rfl rfl (by kernel_rfl) (by decide) (fun K hK => ?_)
 refine goes_ Try.func68 (by kernel_rfl) rfl #[.pointer (some ⟨g542, 0, none⟩)] (by rfl) rfl rfl qM ?_
 with_reducible refine (spec_anySide.calls k g542 t540 t552 t553 t554 w _ ?side1 ?side2 A5.out).mono ?_
 (case side1 => exact iS72 HI542.out)
 (case side2 => exact wS72 HB.out)
 rintro e w16 ⟨rfl, hi, hb, hk⟩
 refine ⟨_, rfl, ?_⟩
 replace BK539 := bK hk BK539 NB539_542
 replace HO548 := aM (Kd.Q_mono (Kd.Q_keep (IsS72.apartQ (show IsS72 w _ g542 t540 t552 from iS72 HI542.out) (qQ HO548.out) (by decide)) hk (fun _ h => h.2)) (fun _ h => h.1))
 replace BK550 := bK hk BK550 NB550_542
 replace HB := aM (hb)
 replace HI542 := aM (hi)
 (try clear hb)
 (try clear hb2)
 (try clear hk)
 (try clear hi)
 refine hK.out _ _ ⟨(blk_cell BK550.out 0).trans rfl, (blk_cell BK550.out 1).trans rfl, (blk_cell BK550.out 2).trans rfl, (blk_cell BK550.out 3).trans rfl⟩ (fun hHeld => ?_)
 clear hK K
 refine norm_ (a' := ?_) ?_ ?_
 rotate_left
 ·show Act.put _ (some 17) _ = _
  refine pZ ?_
  rfl
 refine one_ (i := 4) (N := none) (bA 7 31) rfl rfl (by kernel_rfl) (by decide) (fun K hK => ?_)
 have hs17 : w16.cell? ⟨gb539, 0, none⟩ = some (.int .i64 0) := (blk_cell BK539.out 0).trans rfl
 have hfs17 := blk_frozen BK539.out 0
 have hns17_1 := NB550_539.out
 have hms17_1 := NB539_550.out
 have hs18 : w16.cell? ⟨gb539, 1, none⟩ = some (.int .i64 0) := (blk_cell BK539.out 1).trans rfl
 have hfs18 := blk_frozen BK539.out 1
 have hns18_1 := NB550_539.out
 have hms18_1 := NB539_550.out
 have hs19 : w16.cell? ⟨gb539, 2, none⟩ = some (.int .i64 0) := (blk_cell BK539.out 2).trans rfl
 have hfs19 := blk_frozen BK539.out 2
 have hns19_1 := NB550_539.out
 have hms19_1 := NB539_550.out
 have hs20 : w16.cell? ⟨gb539, 3, none⟩ = some (.slice none 0 0) := (blk_cell BK539.out 3).trans rfl
 have hfs20 := blk_frozen BK539.out 3
 have hns20_1 := NB550_539.out
 have hms20_1 := NB539_550.out
 refine skip_ (w1 := ?_) (by rfl) rfl ?_ ?_
 rotate_left
 ·go_simp
  rfl
 refine hK.out _ _ ⟨((cell_far (p := ⟨gb539, _, none⟩) NB550_539.out _).trans (((cell_far (p := ⟨gb539, _, none⟩) NB550_539.out _).trans (((cell_far (p := ⟨gb539, _, none⟩) NB550_539.out _).trans (((cell_far (p := ⟨gb539, _, none⟩) NB550_539.out _).trans (hHeld.1)))))))), ((cell_far (p := ⟨gb539, _, none⟩) NB550_539.out _).trans (((cell_far (p := ⟨gb539, _, none⟩) NB550_539.out _).trans (((cell_far (p := ⟨gb539, _, none⟩) NB550_539.out _).trans (((cell_far (p := ⟨gb539, _, none⟩) NB550_539.out _).trans (hHeld.2.1)))))))), ((cell_far (p := ⟨gb539, _, none⟩) NB550_539.out _).trans (((cell_far (p := ⟨gb539, _, none⟩) NB550_539.out _).trans (((cell_far (p := ⟨gb539, _, none⟩) NB550_539.out _).trans (((cell_far (p := ⟨gb539, _, none⟩) NB550_539.out _).trans (hHeld.2.2.1)))))))), ((cell_far (p := ⟨gb539, _, none⟩) NB550_539.out _).trans (((cell_far (p := ⟨gb539, _, none⟩) NB550_539.out _).trans (((cell_far (p := ⟨gb539, _, none⟩) NB550_539.out _).trans (((cell_far (p := ⟨gb539, _, none⟩) NB550_539.out _).trans (hHeld.2.2.2))))))))⟩ (fun hHeld => ?_)
 clear hK K
 refine pure_ (i := 5) (N := some 3) (v := ?_) (a' := ?_) (bA 7 63) rfl rfl (by kernel_rfl) (fun _ _ _ h => h) (Or.inl ⟨by rfl, ?_⟩) ?_ ?_
 rotate_left
 ·intro w'
  go_simp
  with_reducible rfl
 rotate_left
 ·refine pZ ?_
  rfl
 refine pure_ (i := 6) (N := some 4) (v := ?_) (a' := ?_) (bA 7 127) rfl rfl (by kernel_rfl) (fun _ _ _ h => h) (Or.inl ⟨by rfl, ?_⟩) ?_ ?_
 rotate_left
 ·intro w'
  go_simp
  with_reducible rfl
 rotate_left
 ·refine pZ ?_
  rfl
 refine done_ (by kernel_rfl) ?_
 try go_wp2
 refine bodyPost_ret (results_ctt rfl _ _ gb539 26 #[.int .i64 t543, .int .i64 t544, .int .i64 t545, .slice Ao13 t546.length co13] (0, 0) _ rfl (by exact bP BK539.out) Try.underlying26 rfl (by kernel_rfl)) rfl ?_
 exact ⟨_, qX, by (with_reducible repeat (first | apply Kd.Q_alloc | apply Kd.Q_drewN | apply Kd.Q_drew)); exact Kd.Q_mono (qT HO548 BK539) (fun _ hk => trivial), wS72 HB.out⟩
def spec_DrawScaleArea.f (k : Nat) (l0 : List Int) : Option (Int × Int × Int × List Int × Int × Int) := (spec_DrawScaleNearest.f k l0).bind fun bt758 => (some (bt758.1, bt758.2.1, bt758.2.2.1, bt758.2.2.2.1, bt758.2.2.2.2.1, bt758.2.2.2.2.2))
theorem spec_DrawScaleArea.mono : ∀ a0 k, LeO (spec_DrawScaleArea.f k a0) (spec_DrawScaleArea.f (k + 1) a0) := by
 intro a0 k
 unfold spec_DrawScaleArea.f
 repeat' first | (with_reducible first | exact spec_DrawScaleNearest.mono _ _ | exact lR | exact lN | refine lI ?_ ?_ | refine lB ?_ fun _ => ?_) | exact spec_DrawScaleNearest.mono _ _ | exact lN | refine lI ?_ ?_ | refine lB ?_ fun _ => ?_
set_option maxHeartbeats 8000000 in
set_option maxRecDepth 100000 in
theorem spec_DrawScaleArea.calls (k : Nat) (A0 : Option Addr) (c0 : Nat) (l0 : List Int) (r1 : Int) (r2 : Int) (r3 : Int) (r4 : List Int) (r5 : Int) (r6 : Int) (w : World) (hr0 : Kd.C (Kd.int .u8) w A0 l0.length l0) (hc0 : l0.length ≤ c0) (h : spec_DrawScaleArea.f k l0 = some (r1, r2, r3, r4, r5, r6)) :
  Calls Try.prog 33 #[.slice A0 l0.length c0] w fun e w' => ∃ v3_ : Value, e = .returned (.tuple #[.agg #[.int .i64 r1, .int .i64 r2, .int .i64 r3, v3_], .int .i64 r5, .int .i64 r6]) ∧ Kd.Q (Kd.int .i64) 3 w' w.heap.size (fun _ => True) v3_ r4 ∧ Below w.heap.size w w' := by
 have hu26 := Try.underlying26
 have HR0 := aM hr0
 have HC0 := aM hc0
 clear hr0 hc0
 have HB := aM (Below.refl w.heap.size w)
 unfold spec_DrawScaleArea.f at h
 have H := h
 clear h
 replace H := Option.bind_eq_some_iff.mp H
 obtain ⟨⟨t758, t759, t760, t761, t764, t765⟩, A20, H⟩ := H
 replace H : (some (t758, t759, t760, t761, t764, t765)) = some (r1, r2, r3, r4, r5, r6) := H
 have A2 := aM A20
 clear A20
 simp only [Option.some.injEq, Prod.mk.injEq] at H
 obtain ⟨rfl, rfl, rfl, rfl, rfl, rfl⟩ := H
 go_enter Try.func33, Try.ntmps33
 go_wp2_with (first | ((with_reducible refine gate_dst (N := 2) rfl ?_); refine bxE (N := 2) (cs := #[.int .i64 0, .int .i64 0, .int .i64 0, .slice none 0 0]) (t := 26) ?_; intro gb757 hg w3 hbox hb; have BK757 := aM (hbox); have GW757 := gW hg HB; have GE757 := gW hg HB; replace HB := bS HB hb; clear hb hbox hg) | ((with_reducible refine gate_callee (f := 29) rfl ?_); refine gL (some 6) Try.func29 #[.slice A0 l0.length c0] ?_; (with_reducible refine (spec_DrawScaleNearest.calls k _ _ l0 t758 t759 t760 t761 t764 t765 _ ?side1 ?side2 A2.out).mono ?_); (case side1 => exact qC (Kd.C_below HR0.out HB.out)); (case side2 => exact HC0.out); rintro e w4 ⟨v762, rfl, ho0, hb⟩; refine ⟨_, rfl, ?_⟩; have HO763 := aM (Kd.Q_lower ho0 (below_size (qW HB.out))); replace BK757 := bB BK757 hb; replace HB := bS HB hb; clear hb ho0; obtain ⟨⟨hcz5_0, hcz5_1, hcz5_2, hcz5_3⟩, hfz5_0, hfz5_1, hfz5_2, hfz5_3⟩ := cf4 BK757; obtain ⟨Ao6, co6, eo6, _⟩ := Kd.Q_slice HO763.out; subst eo6))
 refine bodyPost_ret (results_ctt rfl _ _ gb757 26 #[.int .i64 t758, .int .i64 t759, .int .i64 t760, .slice Ao6 t761.length co6] (0, 0) _ rfl (by exact bP BK757.out) Try.underlying26 rfl (by kernel_rfl)) rfl ?_
 exact ⟨_, qX, by (with_reducible repeat (first | apply Kd.Q_alloc | apply Kd.Q_drewN | apply Kd.Q_drew)); exact Kd.Q_mono (qT HO763 BK757) (fun _ hk => trivial), by exact qW HB.out⟩
def laws_equalImage.f (k : Nat) (a0_0 : Int) (a0_1 : Int) (a0_2 : Int) (l0_3 : List Int) (a1_0 : Int) (a1_1 : Int) (a1_2 : Int) (l1_3 : List Int) : Option (Bool) := if a0_0 = a1_0 then (if a0_1 = a1_1 then (if a0_2 = a1_2 then ((laws_equalInts.f k l0_3 l1_3).bind fun t335 => (some t335)) else (some false)) else (some false)) else (some false)
theorem laws_equalImage.mono : ∀ a0 a1 a2 a3 a4 a5 a6 a7 k, LeO (laws_equalImage.f k a0 a1 a2 a3 a4 a5 a6 a7) (laws_equalImage.f (k + 1) a0 a1 a2 a3 a4 a5 a6 a7) := by
 intro a0 a1 a2 a3 a4 a5 a6 a7 k
 unfold laws_equalImage.f
 repeat' first | (with_reducible first | exact laws_equalInts.mono _ _ _ | exact lR | exact lN | refine lI ?_ ?_ | refine lB ?_ fun _ => ?_) | exact laws_equalInts.mono _ _ _ | exact lN | refine lI ?_ ?_ | refine lB ?_ fun _ => ?_
set_option maxHeartbeats 8000000 in
set_option maxRecDepth 100000 in
theorem laws_equalImage.calls (k : Nat) (a0_0 : Int) (a0_1 : Int) (a0_2 : Int) (A0_3 : Option Addr) (c0_3 : Nat) (l0_3 : List Int) (a1_0 : Int) (a1_1 : Int) (a1_2 : Int) (A1_3 : Option Addr) (c1_3 : Nat) (l1_3 : List Int) (r : Bool) (w : World) (hr0_3 : Kd.C (Kd.int .i64) w A0_3 l0_3.length l0_3) (hc0_3 : l0_3.length ≤ c0_3) (hr1_3 : Kd.C (Kd.int .i64) w A1_3 l1_3.length l1_3) (hc1_3 : l1_3.length ≤ c1_3) (h : laws_equalImage.f k a0_0 a0_1 a0_2 l0_3 a1_0 a1_1 a1_2 l1_3 = some r) :
  Calls Try.prog 23 #[.agg #[.int .i64 a0_0, .int .i64 a0_1, .int .i64 a0_2, .slice A0_3 l0_3.length c0_3], .agg #[.int .i64 a1_0, .int .i64 a1_1, .int .i64 a1_2, .slice A1_3 l1_3.length c1_3]] w fun e w' => e = .returned (.bool r) ∧ Below w.heap.size w w' := by
 have hu26 := Try.underlying26
 have HR0_3 := aM hr0_3
 have HC0_3 := aM hc0_3
 clear hr0_3 hc0_3
 have HR1_3 := aM hr1_3
 have HC1_3 := aM hc1_3
 clear hr1_3 hc1_3
 have HB := aM (Below.refl w.heap.size w)
 unfold laws_equalImage.f at h
 have H := h
 clear h
 by_cases c3 : a0_0 = a1_0
 rotate_left
 ·rw [if_neg c3] at H
  have c3b0 : (a0_0 == a1_0) = false := beq_eq_false_iff_ne.mpr c3
  have c3b1 : (a0_0 != a1_0) = true := bne_iff_ne.mpr c3
  obtain rfl := Option.some.inj H
  go_enter Try.func23, Try.ntmps23
  go_wp2_with (first | ((with_reducible refine gate_dst (N := 2) rfl ?_); refine bxE (N := 2) (cs := #[.int .i64 a0_0, .int .i64 a0_1, .int .i64 a0_2, .slice A0_3 l0_3.length c0_3]) (t := 26) ?_; intro gb333 hg w22 hbox hb; have BK333 := aM (hbox); have GW333 := gW hg HB; have GE333 := gW hg HB; replace HB := bS HB hb; clear hb hbox hg) | ((with_reducible refine gate_dst (N := 3) rfl ?_); refine bxE (N := 3) (cs := #[.int .i64 a1_0, .int .i64 a1_1, .int .i64 a1_2, .slice A1_3 l1_3.length c1_3]) (t := 26) ?_; intro gb334 hg w23 hbox hb; have BK334 := aM (hbox); have GW334 := gW hg HB; have GE334 := gW hg HB; replace HB := bS HB hb; have NB333_334 := nL hg BK333; have NB334_333 := nG hg BK333; replace BK333 := bB BK333 hb; clear hb hbox hg; have hnb24 := NB333_334.out; have hnc24 := NB334_333.out; obtain ⟨⟨hcz25_0, hcz25_1, hcz25_2, hcz25_3⟩, hfz25_0, hfz25_1, hfz25_2, hfz25_3⟩ := cf4 BK333; obtain ⟨⟨hcz26_0, hcz26_1, hcz26_2, hcz26_3⟩, hfz26_0, hfz26_1, hfz26_2, hfz26_3⟩ := cf4 BK334))
  go_ret
  exact ⟨qX, by exact qW HB.out⟩
 rw [if_pos c3] at H
 have c3b0 : (a0_0 == a1_0) = true := beq_iff_eq.mpr c3
 have c3b1 : (a0_0 != a1_0) = false := bne_eq_false_iff_eq.mpr c3
 clear c3
 by_cases c4 : a0_1 = a1_1
 rotate_left
 ·rw [if_neg c4] at H
  have c4b0 : (a0_1 == a1_1) = false := beq_eq_false_iff_ne.mpr c4
  have c4b1 : (a0_1 != a1_1) = true := bne_iff_ne.mpr c4
  obtain rfl := Option.some.inj H
  go_enter Try.func23, Try.ntmps23
  go_wp2_with (first | ((with_reducible refine gate_dst (N := 2) rfl ?_); refine bxE (N := 2) (cs := #[.int .i64 a0_0, .int .i64 a0_1, .int .i64 a0_2, .slice A0_3 l0_3.length c0_3]) (t := 26) ?_; intro gb333 hg w17 hbox hb; have BK333 := aM (hbox); have GW333 := gW hg HB; have GE333 := gW hg HB; replace HB := bS HB hb; clear hb hbox hg) | ((with_reducible refine gate_dst (N := 3) rfl ?_); refine bxE (N := 3) (cs := #[.int .i64 a1_0, .int .i64 a1_1, .int .i64 a1_2, .slice A1_3 l1_3.length c1_3]) (t := 26) ?_; intro gb334 hg w18 hbox hb; have BK334 := aM (hbox); have GW334 := gW hg HB; have GE334 := gW hg HB; replace HB := bS HB hb; have NB333_334 := nL hg BK333; have NB334_333 := nG hg BK333; replace BK333 := bB BK333 hb; clear hb hbox hg; have hnb19 := NB333_334.out; have hnc19 := NB334_333.out; obtain ⟨⟨hcz20_0, hcz20_1, hcz20_2, hcz20_3⟩, hfz20_0, hfz20_1, hfz20_2, hfz20_3⟩ := cf4 BK333; obtain ⟨⟨hcz21_0, hcz21_1, hcz21_2, hcz21_3⟩, hfz21_0, hfz21_1, hfz21_2, hfz21_3⟩ := cf4 BK334))
  go_ret
  exact ⟨qX, by exact qW HB.out⟩
 rw [if_pos c4] at H
 have c4b0 : (a0_1 == a1_1) = true := beq_iff_eq.mpr c4
 have c4b1 : (a0_1 != a1_1) = false := bne_eq_false_iff_eq.mpr c4
 clear c4
 by_cases c5 : a0_2 = a1_2
 rotate_left
 ·rw [if_neg c5] at H
  have c5b0 : (a0_2 == a1_2) = false := beq_eq_false_iff_ne.mpr c5
  have c5b1 : (a0_2 != a1_2) = true := bne_iff_ne.mpr c5
  obtain rfl := Option.some.inj H
  go_enter Try.func23, Try.ntmps23
  go_wp2_with (first | ((with_reducible refine gate_dst (N := 2) rfl ?_); refine bxE (N := 2) (cs := #[.int .i64 a0_0, .int .i64 a0_1, .int .i64 a0_2, .slice A0_3 l0_3.length c0_3]) (t := 26) ?_; intro gb333 hg w12 hbox hb; have BK333 := aM (hbox); have GW333 := gW hg HB; have GE333 := gW hg HB; replace HB := bS HB hb; clear hb hbox hg) | ((with_reducible refine gate_dst (N := 3) rfl ?_); refine bxE (N := 3) (cs := #[.int .i64 a1_0, .int .i64 a1_1, .int .i64 a1_2, .slice A1_3 l1_3.length c1_3]) (t := 26) ?_; intro gb334 hg w13 hbox hb; have BK334 := aM (hbox); have GW334 := gW hg HB; have GE334 := gW hg HB; replace HB := bS HB hb; have NB333_334 := nL hg BK333; have NB334_333 := nG hg BK333; replace BK333 := bB BK333 hb; clear hb hbox hg; have hnb14 := NB333_334.out; have hnc14 := NB334_333.out; obtain ⟨⟨hcz15_0, hcz15_1, hcz15_2, hcz15_3⟩, hfz15_0, hfz15_1, hfz15_2, hfz15_3⟩ := cf4 BK333; obtain ⟨⟨hcz16_0, hcz16_1, hcz16_2, hcz16_3⟩, hfz16_0, hfz16_1, hfz16_2, hfz16_3⟩ := cf4 BK334))
  go_ret
  exact ⟨qX, by exact qW HB.out⟩
 rw [if_pos c5] at H
 have c5b0 : (a0_2 == a1_2) = true := beq_iff_eq.mpr c5
 have c5b1 : (a0_2 != a1_2) = false := bne_eq_false_iff_eq.mpr c5
 clear c5
 replace H := Option.bind_eq_some_iff.mp H
 obtain ⟨t335, A60, H⟩ := H
 replace H : (some t335) = some r := H
 have A6 := aM A60
 clear A60
 obtain rfl := Option.some.inj H
 go_enter Try.func23, Try.ntmps23
 go_wp2_with (first | ((with_reducible refine gate_dst (N := 2) rfl ?_); refine bxE (N := 2) (cs := #[.int .i64 a0_0, .int .i64 a0_1, .int .i64 a0_2, .slice A0_3 l0_3.length c0_3]) (t := 26) ?_; intro gb333 hg w7 hbox hb; have BK333 := aM (hbox); have GW333 := gW hg HB; have GE333 := gW hg HB; replace HB := bS HB hb; clear hb hbox hg) | ((with_reducible refine gate_dst (N := 3) rfl ?_); refine bxE (N := 3) (cs := #[.int .i64 a1_0, .int .i64 a1_1, .int .i64 a1_2, .slice A1_3 l1_3.length c1_3]) (t := 26) ?_; intro gb334 hg w8 hbox hb; have BK334 := aM (hbox); have GW334 := gW hg HB; have GE334 := gW hg HB; replace HB := bS HB hb; have NB333_334 := nL hg BK333; have NB334_333 := nG hg BK333; replace BK333 := bB BK333 hb; clear hb hbox hg; have hnb9 := NB333_334.out; have hnc9 := NB334_333.out; obtain ⟨⟨hcz10_0, hcz10_1, hcz10_2, hcz10_3⟩, hfz10_0, hfz10_1, hfz10_2, hfz10_3⟩ := cf4 BK333; obtain ⟨⟨hcz11_0, hcz11_1, hcz11_2, hcz11_3⟩, hfz11_0, hfz11_1, hfz11_2, hfz11_3⟩ := cf4 BK334) | (go_at_call 26; (with_reducible refine (laws_equalInts.calls k _ _ l0_3 _ _ l1_3 t335 _ ?side1 ?side2 ?side3 ?side4 A6.out).mono ?_); (case side1 => exact qC (Kd.C_below HR0_3.out HB.out)); (case side2 => exact HC0_3.out); (case side3 => exact qC (Kd.C_below HR1_3.out HB.out)); (case side4 => exact HC1_3.out); rintro e w' ⟨rfl, ⟨nd, rfl⟩⟩))
 go_ret
 exact ⟨qX, by exact qW HB.out⟩
end Go.Proofs.Ytnamhlcdlbjcfaa.P
