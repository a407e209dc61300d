/- Contracts and row, written by a program of this place out of the translation: the call answers true and its argument reads as before, for every input; no condition. -/
import Derived.Test.YteeeedmmcdlhjaaK0
import Derived.Test.YteeeedmmcdlhjaaK1
import Derived.Test.YteeeedmmcdlhjaaK2
import Derived.Test.YteeeedmmcdlhjaaK3
import Derived.Test.YteeeedmmcdlhjaaK4
import Derived.Test.YteeeedmmcdlhjaaK5
namespace Go.Proofs.Yteeeedmmcdlhjaa.P
open Go.RowKit Go.Proofs.YteeeedmmcdlhjaaW.PrintWords Go.Proofs.YteeeedmmcdlhjaaW.PrintLast Go.Proofs.YteeeedmmcdlhjaaW.PrintMore
attribute [local go_sem] max2_int min2_int max_two min_two max_three min_three max_four min_four   -- for this text's walks alone
set_option linter.unusedVariables false
set_option linter.unusedSimpArgs false
def spec_grayImage.f (k : Nat) (s0_0 : List Int) (s0_1 : Int) : Option (Int × Int × Int × List Int × Int) := (spec_reader_pick.f k s0_0 s0_1 20).bind fun bt217 => (if bt217.1 = 0 then ((spec_anyImage.f k s0_0 bt217.2).bind fun bt219 => (some (bt219.1, bt219.2.1, bt219.2.2.1, bt219.2.2.2.1, bt219.2.2.2.2))) else ((spec_randomImage.f k s0_0 bt217.2 1).bind fun bt226 => ((spec_spoilImage.f k s0_0 bt226.2.2.2.2 bt226.1 bt226.2.1 bt226.2.2.1 bt226.2.2.2.1).bind fun bt233 => (some (bt233.1, bt233.2.1, bt233.2.2.1, bt233.2.2.2.1, bt233.2.2.2.2)))))
theorem spec_grayImage.mono : ∀ a0 a1 k, LeO (spec_grayImage.f k a0 a1) (spec_grayImage.f (k + 1) a0 a1) := by
 intro a0 a1 k
 unfold spec_grayImage.f
 repeat' first | (with_reducible first | exact spec_anyImage.mono _ _ _ | exact spec_randomImage.mono _ _ _ _ | exact spec_reader_pick.mono _ _ _ _ | exact spec_spoilImage.mono _ _ _ _ _ _ _ | exact lR | exact lN | refine lI ?_ ?_ | refine lB ?_ fun _ => ?_) | exact spec_anyImage.mono _ _ _ | exact spec_randomImage.mono _ _ _ _ | exact spec_reader_pick.mono _ _ _ _ | exact spec_spoilImage.mono _ _ _ _ _ _ _ | exact lN | refine lI ?_ ?_ | refine lB ?_ fun _ => ?_
set_option maxHeartbeats 8000000 in
set_option maxRecDepth 100000 in
theorem spec_grayImage.calls (k : Nat) (g : Nat) (s0_0 : List Int) (s0_1 : Int) (r1 : Int) (r2 : Int) (r3 : Int) (r4 : List Int) (r5 : Int) (w0 w : World) (hI : IsS85 w0 w g s0_0 s0_1) (hB : Below w0.heap.size w0 w) (h : spec_grayImage.f k s0_0 s0_1 = some (r1, r2, r3, r4, r5)) :
  Calls Try.prog 46 #[.pointer (some ⟨g, 0, none⟩)] w fun e w' => ∃ v3_ : Value, e = .returned (.agg #[.int .i64 r1, .int .i64 r2, .int .i64 r3, v3_]) ∧ Kd.Q (Kd.int .i64) 3 w' w.heap.size (fun _ => True) v3_ r4 ∧ IsS85 w0 w' g s0_0 r5 ∧ Below w0.heap.size w0 w' ∧ KeepBut w w' g none := by
 have hu27 := Try.underlying27
 have HI0 := aM hI
 have HK := aM (KeepBut.refl w g none)
 have HL := aM hB.size
 clear hI
 have HW0 := aM hB.size
 have HB := aM hB
 clear hB
 unfold spec_grayImage.f at h
 have H := h
 clear h
 replace H := Option.bind_eq_some_iff.mp H
 obtain ⟨⟨t217, t218⟩, A20, H⟩ := H
 replace H : (if t217 = 0 then ((spec_anyImage.f k s0_0 t218).bind fun bt219 => (some (bt219.1, bt219.2.1, bt219.2.2.1, bt219.2.2.2.1, bt219.2.2.2.2))) else ((spec_randomImage.f k s0_0 t218 1).bind fun bt226 => ((spec_spoilImage.f k s0_0 bt226.2.2.2.2 bt226.1 bt226.2.1 bt226.2.2.1 bt226.2.2.2.1).bind fun bt233 => (some (bt233.1, bt233.2.1, bt233.2.2.1, bt233.2.2.2.1, bt233.2.2.2.2))))) = some (r1, r2, r3, r4, r5) := H
 have A2 := aM A20
 clear A20
 by_cases c3 : t217 = 0
 ·rw [if_pos c3] at H
  have c3b0 : (t217 == 0) = true := beq_iff_eq.mpr c3
  have c3b1 : (t217 != 0) = false := bne_eq_false_iff_eq.mpr c3
  clear c3
  replace H := Option.bind_eq_some_iff.mp H
  obtain ⟨⟨t219, t220, t221, t222, t225⟩, A40, H⟩ := H
  replace H : (some (t219, t220, t221, t222, t225)) = some (r1, r2, r3, r4, r5) := H
  have A4 := aM A40
  clear A40
  simp only [Option.some.injEq, Prod.mk.injEq] at H
  obtain ⟨rfl, rfl, rfl, rfl, rfl⟩ := H
  go_enter Try.func46, Try.ntmps46
  go_wp2_with (first | ((with_reducible refine gate_dst (N := 2) rfl ?_); refine bxE (N := 2) (cs := #[.int .i64 0, .int .i64 0, .int .i64 0, .slice none 0 0]) (t := 27) ?_; intro gb216 hg w5 hbox hb; replace HB := aM (below_step (wS85 HB.out) hb); have BK216 := aM (hbox); have GW216 := aM ((by rw [hg]; exact (keep_size (w := w) (g := g) (row := none) (kB HK.out)) : w.heap.size ≤ gb216)); have GE216 := aM ((Nat.le_trans HW0.out (by rw [hg]; exact (keep_size (w := w) (g := g) (row := none) (kB HK.out)) : w.heap.size ≤ gb216) : w0.heap.size ≤ gb216)); replace HK := aM (KeepBut.trans (kB HK.out) (KeepBut.of_below hb g none) (.inl rfl)); have NB0_216 := aM ((by rw [hg]; exact Nat.ne_of_lt (IsS85.lt (show IsS85 w0 _ g s0_0 s0_1 from iS85 HI0.out)) : g ≠ gb216)); have NB216_0 := aM ((by rw [hg]; exact Nat.ne_of_gt (IsS85.lt (show IsS85 w0 _ g s0_0 s0_1 from iS85 HI0.out)) : gb216 ≠ g)); replace HI0 := aM (IsS85.below (iS85 HI0.out) hb); clear hb hbox hg) | ((with_reducible refine gate_callee (f := 45) rfl ?_); refine gL (some 4) Try.func45 #[.pointer (some ⟨g, 0, none⟩), .int .i64 20] ?_; (with_reducible refine (spec_reader_pick.calls k g s0_0 s0_1 20 t217 t218 w0 _ ?side1 ?side2 A2.out).mono ?_); (case side1 => exact iS85 HI0.out); (case side2 => exact wS85 HB.out); rintro e w6 ⟨rfl, hi, hb, hk⟩; refine ⟨_, rfl, ?_⟩; replace BK216 := bK hk BK216 NB216_0; replace HK := aM (KeepBut.trans (kB HK.out) hk (.inl rfl)); replace HB := aM (hb); replace HI0 := aM (hi); clear hb hk hi) | ((with_reducible refine gate_callee (f := 44) rfl ?_); refine gL (some 7) Try.func44 #[.pointer (some ⟨g, 0, none⟩)] ?_; (with_reducible refine (spec_anyImage.calls k g s0_0 t218 t219 t220 t221 t222 t225 w0 _ ?side1 ?side2 A4.out).mono ?_); (case side1 => exact iS85 HI0.out); (case side2 => exact wS85 HB.out); rintro e w7 ⟨v223, rfl, ho0, hi, hb, hk⟩; refine ⟨_, rfl, ?_⟩; replace BK216 := bK hk BK216 NB216_0; have HO224 := aM (Kd.Q_lower ho0 (keep_size (w := w) (g := g) (row := none) (kB HK.out))); replace HK := aM (KeepBut.trans (kB HK.out) hk (.inl rfl)); replace HB := aM (hb); replace HI0 := aM (hi); clear hb hk hi ho0; have hnb8 := NB216_0.out; have hnc8 := NB0_216.out; obtain ⟨⟨hcz9_0, hcz9_1, hcz9_2, hcz9_3⟩, hfz9_0, hfz9_1, hfz9_2, hfz9_3⟩ := cf4 BK216; obtain ⟨Ao10, co10, eo10, _⟩ := Kd.Q_slice HO224.out; subst eo10))
  refine bodyPost_ret (results_cell_row rfl _ _ gb216 27 #[.int .i64 t219, .int .i64 t220, .int .i64 t221, .slice Ao10 t222.length co10] (0, 0) _ rfl (by exact bP BK216.out) Try.underlying27 rfl (by kernel_rfl)) rfl ?_
  exact ⟨_, qX, by (with_reducible repeat (first | apply Kd.Q_alloc | apply Kd.Q_drewN | apply Kd.Q_drew)); exact Kd.Q_mono (qT HO224 BK216) (fun _ hk => trivial), iS85 HI0.out, wS85 HB.out, kB HK.out⟩
 rw [if_neg c3] at H
 have c3b0 : (t217 == 0) = false := beq_eq_false_iff_ne.mpr c3
 have c3b1 : (t217 != 0) = true := bne_iff_ne.mpr c3
 replace H := Option.bind_eq_some_iff.mp H
 obtain ⟨⟨t226, t227, t228, t229, t232⟩, A110, H⟩ := H
 replace H : ((spec_spoilImage.f k s0_0 t232 t226 t227 t228 t229).bind fun bt233 => (some (bt233.1, bt233.2.1, bt233.2.2.1, bt233.2.2.2.1, bt233.2.2.2.2))) = some (r1, r2, r3, r4, r5) := H
 have A11 := aM A110
 clear A110
 replace H := Option.bind_eq_some_iff.mp H
 obtain ⟨⟨t233, t234, t235, t236, t239⟩, A120, H⟩ := H
 replace H : (some (t233, t234, t235, t236, t239)) = some (r1, r2, r3, r4, r5) := H
 have A12 := aM A120
 clear A120
 simp only [Option.some.injEq, Prod.mk.injEq] at H
 obtain ⟨rfl, rfl, rfl, rfl, rfl⟩ := H
 go_enter Try.func46, Try.ntmps46
 go_wp2_with (first | ((with_reducible refine gate_dst (N := 2) rfl ?_); refine bxE (N := 2) (cs := #[.int .i64 0, .int .i64 0, .int .i64 0, .slice none 0 0]) (t := 27) ?_; intro gb216 hg w13 hbox hb; replace HB := aM (below_step (wS85 HB.out) hb); have BK216 := aM (hbox); have GW216 := aM ((by rw [hg]; exact (keep_size (w := w) (g := g) (row := none) (kB HK.out)) : w.heap.size ≤ gb216)); have GE216 := aM ((Nat.le_trans HW0.out (by rw [hg]; exact (keep_size (w := w) (g := g) (row := none) (kB HK.out)) : w.heap.size ≤ gb216) : w0.heap.size ≤ gb216)); replace HK := aM (KeepBut.trans (kB HK.out) (KeepBut.of_below hb g none) (.inl rfl)); have NB0_216 := aM ((by rw [hg]; exact Nat.ne_of_lt (IsS85.lt (show IsS85 w0 _ g s0_0 s0_1 from iS85 HI0.out)) : g ≠ gb216)); have NB216_0 := aM ((by rw [hg]; exact Nat.ne_of_gt (IsS85.lt (show IsS85 w0 _ g s0_0 s0_1 from iS85 HI0.out)) : gb216 ≠ g)); replace HI0 := aM (IsS85.below (iS85 HI0.out) hb); clear hb hbox hg) | ((with_reducible refine gate_callee (f := 45) rfl ?_); refine gL (some 4) Try.func45 #[.pointer (some ⟨g, 0, none⟩), .int .i64 20] ?_; (with_reducible refine (spec_reader_pick.calls k g s0_0 s0_1 20 t217 t218 w0 _ ?side1 ?side2 A2.out).mono ?_); (case side1 => exact iS85 HI0.out); (case side2 => exact wS85 HB.out); rintro e w14 ⟨rfl, hi, hb, hk⟩; refine ⟨_, rfl, ?_⟩; replace BK216 := bK hk BK216 NB216_0; replace HK := aM (KeepBut.trans (kB HK.out) hk (.inl rfl)); replace HB := aM (hb); replace HI0 := aM (hi); clear hb hk hi) | ((with_reducible refine gate_callee (f := 89) rfl ?_); refine gL (some 10) Try.func89 #[.pointer (some ⟨g, 0, none⟩), .int .i64 1] ?_; (with_reducible refine (spec_randomImage.calls k g s0_0 t218 1 t226 t227 t228 t229 t232 w0 _ ?side1 ?side2 A11.out).mono ?_); (case side1 => exact iS85 HI0.out); (case side2 => exact wS85 HB.out); rintro e w15 ⟨v230, rfl, ho0, hi, hb, hk⟩; refine ⟨_, rfl, ?_⟩; replace BK216 := bK hk BK216 NB216_0; have HO231 := lK ho0 HK; replace HK := aM (KeepBut.trans (kB HK.out) hk (.inl rfl)); replace HB := aM (hb); replace HI0 := aM (hi); clear hb hk hi ho0; obtain ⟨Ao16, co16, rfl⟩ := sL HO231) | ((with_reducible refine gate_callee (f := 88) rfl ?_); refine gL (some 11) Try.func88 #[.pointer (some ⟨g, 0, none⟩), .agg #[.int .i64 t226, .int .i64 t227, .int .i64 t228, .slice Ao16 t229.length co16]] ?_; (with_reducible refine (spec_spoilImage.calls k g s0_0 t232 t226 t227 t228 (fun k_ => some k_ = (.slice Ao16 t229.length co16 : Value).ownBlock) (.slice Ao16 t229.length co16) t229 t233 t234 t235 t236 t239 w0 _ ?side1 ?side2 ?side3 A12.out).mono ?_); (case side1 => exact iS85 HI0.out); (case side2 => exact wS85 HB.out); (case side3 => exact Kd.R_lower (Kd.R_tight rfl HO231.out) HL.out); rintro e w17 ⟨v237, rfl, ho0, hi, hb, hkp⟩; refine ⟨_, rfl, ?_⟩; replace HI0 := aM (hi); replace BK216 := aM (blk_kept (qB BK216.out) hkp (fun hs_ => Or.elim hs_ (fun hs_ => (fun e_ => (Kd.R_ne HO231.out BK216.out (by decide)) e_) hs_) (fun e_ => NB216_0.out e_))); have HO238 := aM (Kd.Q_mono (ok' := fun k_ => True) (Kd.Q_raise (d := (Kd.int .i64)) (b := w0.heap.size) (b' := w.heap.size) (fun _ _ _ _ h_ => h_) ho0 (fun k_ e_ => Or.elim (ho0.1 k_ e_) (fun hs_ => (fun e_ => Kd.R_base HO231.out k_ e_.symm) hs_) (fun hn_ => Nat.le_trans (keep_size (w := w) (g := g) (row := none) (kB HK.out)) hn_))) (fun k_ hk_ => trivial)); replace HK := aM (Kept.keepG (kB HK.out) hkp (fun k_ hs_ => Or.elim hs_ (fun hs_ => (fun e_ => .inr (Kd.R_base HO231.out k_ e_.symm)) hs_) (fun e_ => .inl e_))); replace HB := aM (hb); clear HO231; clear hb hkp ho0; have hnb18 := NB216_0.out; have hnc18 := NB0_216.out; obtain ⟨⟨hcz19_0, hcz19_1, hcz19_2, hcz19_3⟩, hfz19_0, hfz19_1, hfz19_2, hfz19_3⟩ := cf4 BK216; obtain ⟨Ao20, co20, eo20, _⟩ := Kd.Q_slice HO238.out; subst eo20))
 refine bodyPost_ret (results_cell_row rfl _ _ gb216 27 #[.int .i64 t233, .int .i64 t234, .int .i64 t235, .slice Ao20 t236.length co20] (0, 0) _ rfl (by exact bP BK216.out) Try.underlying27 rfl (by kernel_rfl)) rfl ?_
 exact ⟨_, qX, by (with_reducible repeat (first | apply Kd.Q_alloc | apply Kd.Q_drewN | apply Kd.Q_drew)); exact Kd.Q_mono (qT HO238 BK216) (fun _ hk => trivial), iS85 HI0.out, wS85 HB.out, kB HK.out⟩
def spec_anyLevels.f (k : Nat) (s0_0 : List Int) (s0_1 : Int) : Option (Int × Int) := (spec_reader_one.f k s0_0 s0_1 (([2, 3, 4, 8, 16, 17, 1, 2] : List Int))).bind fun bt444 => (some (bt444.1, bt444.2))
theorem spec_anyLevels.mono : ∀ a0 a1 k, LeO (spec_anyLevels.f k a0 a1) (spec_anyLevels.f (k + 1) a0 a1) := by
 intro a0 a1 k
 unfold spec_anyLevels.f
 repeat' first | (with_reducible first | exact spec_reader_one.mono _ _ _ _ | exact lR | exact lN | refine lI ?_ ?_ | refine lB ?_ fun _ => ?_) | exact spec_reader_one.mono _ _ _ _ | exact lN | refine lI ?_ ?_ | refine lB ?_ fun _ => ?_
set_option maxHeartbeats 8000000 in
set_option maxRecDepth 100000 in
theorem spec_anyLevels.calls (k : Nat) (g : Nat) (s0_0 : List Int) (s0_1 : Int) (r1 : Int) (r2 : Int) (w0 w : World) (hI : IsS85 w0 w g s0_0 s0_1) (hB : Below w0.heap.size w0 w) (h : spec_anyLevels.f k s0_0 s0_1 = some (r1, r2)) :
  Calls Try.prog 75 #[.pointer (some ⟨g, 0, none⟩)] w fun e w' => e = .returned (.int .i64 r1) ∧ IsS85 w0 w' g s0_0 r2 ∧ Below w0.heap.size w0 w' ∧ KeepBut w w' g none := by
 have HI0 := aM hI
 have HK := aM (KeepBut.refl w g none)
 have HL := aM hB.size
 clear hI
 have HW0 := aM hB.size
 have HB := aM hB
 clear hB
 unfold spec_anyLevels.f at h
 have H := h
 clear h
 obtain ⟨y441, hy441⟩ : ∃ y_ : List Int, y_ = (([2, 3, 4, 8, 16, 17, 1, 2] : List Int)) := ⟨_, rfl⟩
 replace H : ((spec_reader_one.f k s0_0 s0_1 y441).bind fun bt444 => (some (bt444.1, bt444.2))) = some (r1, r2) := rY hy441 H
 have Ny441 := aM hy441
 clear hy441
 replace H := Option.bind_eq_some_iff.mp H
 obtain ⟨⟨t444, t445⟩, A20, H⟩ := H
 replace H : (some (t444, t445)) = some (r1, r2) := H
 have A2 := aM A20
 clear A20
 simp only [Option.some.injEq, Prod.mk.injEq] at H
 obtain ⟨rfl, rfl⟩ := H
 go_enter Try.func75, Try.ntmps75
 go_wp2_with (first | ((with_reducible refine gate_dst (N := 4) rfl ?_); refine iL ([2, 3, 4, 8, 16, 17, 1, 2] : List Int) [.int .i64 2, .int .i64 3, .int .i64 4, .int .i64 8, .int .i64 16, .int .i64 17, .int .i64 1, .int .i64 2] ?_; intro v442 w3 ho4 hb hg_ hnew_; clear hg_ hnew_; (first | rw [← Ny441.out] at ho4 | (simp only [Int.reduceToNat] at ho4; rw [← Ny441.out] at ho4)); have HO443 := lK ho4 HK; replace HK := aM (KeepBut.trans (kB HK.out) (KeepBut.of_below hb g none) (.inl rfl)); replace HB := aM (below_step (wS85 HB.out) hb); replace HI0 := aM (IsS85.below (iS85 HI0.out) hb); clear hb ho4; obtain ⟨Ao5, co5, rfl⟩ := sL HO443) | ((with_reducible refine gate_callee (f := 98) rfl ?_); refine gL (some 5) Try.func98 #[.pointer (some ⟨g, 0, none⟩), .slice Ao5 y441.length co5] ?_; (with_reducible refine (spec_reader_one.calls k g s0_0 s0_1 _ _ y441 t444 t445 w0 _ ?side1 ?side2 ?side3 ?side4 ?side5 A2.out).mono ?_); (case side1 => exact iS85 HI0.out); (case side2 => exact wS85 HB.out); (case side3 => exact qC (Kd.R_reads' HO443.out).2.2); (case side4 => exact (Kd.R_reads' HO443.out).2.1); (case side5 => exact far_slice (IsS85.own_ne HI0.out HO443.out (by decide))); rintro e w6 ⟨rfl, hi, hb, hk⟩; refine ⟨_, rfl, ?_⟩; replace HO443 := aM (Kd.R_mono (Kd.R_keep (IsS85.apart (show IsS85 w0 _ g s0_0 s0_1 from iS85 HI0.out) (qR HO443.out) (by decide)) hk (fun _ h => h.2)) (fun _ h => h.1)); replace HK := aM (KeepBut.trans (kB HK.out) hk (.inl rfl)); replace HB := aM (hb); replace HI0 := aM (hi); clear hb hk hi))
 go_ret
 exact ⟨qX, iS85 HI0.out, wS85 HB.out, kB HK.out⟩
def spec_DrawDiffuseImage.f (k : Nat) (l0 : List Int) : Option (Int × Int × Int × List Int × Int) := (spec_newReader.f l0).bind fun bt447 => ((spec_grayImage.f k bt447.1 bt447.2).bind fun bt450 => ((spec_anyLevels.f k bt447.1 bt450.2.2.2.2).bind fun bt458 => (some (bt450.1, bt450.2.1, bt450.2.2.1, bt450.2.2.2.1, bt458.1))))
theorem spec_DrawDiffuseImage.mono : ∀ a0 k, LeO (spec_DrawDiffuseImage.f k a0) (spec_DrawDiffuseImage.f (k + 1) a0) := by
 intro a0 k
 unfold spec_DrawDiffuseImage.f
 repeat' first | (with_reducible first | exact spec_anyLevels.mono _ _ _ | exact spec_grayImage.mono _ _ _ | exact lR | exact lN | refine lI ?_ ?_ | refine lB ?_ fun _ => ?_) | exact spec_anyLevels.mono _ _ _ | exact spec_grayImage.mono _ _ _ | exact lN | refine lI ?_ ?_ | refine lB ?_ fun _ => ?_
set_option maxHeartbeats 8000000 in
set_option maxRecDepth 100000 in
theorem spec_DrawDiffuseImage.calls (k : Nat) (A0 : Option Addr) (c0 : Nat) (l0 : List Int) (r1 : Int) (r2 : Int) (r3 : Int) (r4 : List Int) (r5 : Int) (w : World) (hr0 : Kd.C (Kd.int .u8) w A0 l0.length l0) (hc0 : l0.length ≤ c0) (h : spec_DrawDiffuseImage.f k l0 = some (r1, r2, r3, r4, r5)) :
  Calls Try.prog 29 #[.slice A0 l0.length c0] w fun e w' => ∃ v3_ : Value, e = .returned (.tuple #[.agg #[.int .i64 r1, .int .i64 r2, .int .i64 r3, v3_], .int .i64 r5]) ∧ Kd.Q (Kd.int .i64) 3 w' w.heap.size (fun _ => True) v3_ r4 ∧ Below w.heap.size w w' := by
 have hu27 := Try.underlying27
 have HR0 := aM hr0
 have HC0 := aM hc0
 clear hr0 hc0
 have HB := aM (Below.refl w.heap.size w)
 unfold spec_DrawDiffuseImage.f at h
 have H := h
 clear h
 replace H := Option.bind_eq_some_iff.mp H
 obtain ⟨⟨t447, t448⟩, A20, H⟩ := H
 replace H : ((spec_grayImage.f k t447 t448).bind fun bt450 => ((spec_anyLevels.f k t447 bt450.2.2.2.2).bind fun bt458 => (some (bt450.1, bt450.2.1, bt450.2.2.1, bt450.2.2.2.1, bt458.1)))) = some (r1, r2, r3, r4, r5) := H
 have A2 := aM A20
 clear A20
 replace H := Option.bind_eq_some_iff.mp H
 obtain ⟨⟨t450, t451, t452, t453, t456⟩, A30, H⟩ := H
 replace H : ((spec_anyLevels.f k t447 t456).bind fun bt458 => (some (t450, t451, t452, t453, bt458.1))) = some (r1, r2, r3, r4, r5) := H
 have A3 := aM A30
 clear A30
 replace H := Option.bind_eq_some_iff.mp H
 obtain ⟨⟨t458, t459⟩, A40, H⟩ := H
 replace H : (some (t450, t451, t452, t453, t458)) = some (r1, r2, r3, r4, r5) := H
 have A4 := aM A40
 clear A40
 simp only [Option.some.injEq, Prod.mk.injEq] at H
 obtain ⟨rfl, rfl, rfl, rfl, rfl⟩ := H
 go_enter Try.func29, Try.ntmps29
 try go_wp2_with (first | ((with_reducible refine gate_dst (N := 2) rfl ?_); refine bxE (N := 2) (cs := #[.int .i64 0, .int .i64 0, .int .i64 0, .slice none 0 0]) (t := 27) ?_; intro gb446 hg w5 hbox hb; have BK446 := aM (hbox); have GW446 := gW hg HB; have GE446 := gW hg HB; replace HB := bS HB hb; clear hb hbox hg) | ((with_reducible refine gate_callee (f := 42) rfl ?_); refine gL (some 7) Try.func42 #[.slice A0 l0.length c0] ?_; (with_reducible refine (spec_newReader.calls _ _ l0 t447 t448 w _ ?side1 ?side2 ?side3 A2.out).mono ?_); (case side1 => exact qW HB.out); (case side2 => exact HR0.out); (case side3 => exact HC0.out); rintro e w6 ⟨g449, rfl, hi, hb, hb2⟩; refine ⟨_, rfl, ?_⟩; replace HB := aM (hb); have HI449 := aM (hi); have NB449_446 := aM (IsS85.ne_blk hi (blk_below (g := gb446) (o := .cells #[.int .i64 0, .int .i64 0, .int .i64 0, .slice none 0 0] 27 (0, 0)) (qB BK446.out) hb2) (by decide)); have NB446_449 := aM (Ne.symm (IsS85.ne_blk hi (blk_below (g := gb446) (o := .cells #[.int .i64 0, .int .i64 0, .int .i64 0, .slice none 0 0] 27 (0, 0)) (qB BK446.out) hb2) (by decide))); replace BK446 := bB BK446 hb2; clear hb hb2 hi) | ((with_reducible refine gate_callee (f := 46) rfl ?_); refine gL (some 9) Try.func46 #[.pointer (some ⟨g449, 0, none⟩)] ?_; (with_reducible refine (spec_grayImage.calls k g449 t447 t448 t450 t451 t452 t453 t456 w _ ?side1 ?side2 A3.out).mono ?_); (case side1 => exact iS85 HI449.out); (case side2 => exact wS85 HB.out); rintro e w7 ⟨v454, rfl, ho0, hi, hb, hk⟩; refine ⟨_, rfl, ?_⟩; replace BK446 := bK hk BK446 NB446_449; have HO455 := aM (Kd.Q_lower ho0 (below_size (wS85 HB.out))); replace HB := aM (hb); replace HI449 := aM (hi); clear hb hk hi ho0) | ((with_reducible refine gate_dst (N := 5) rfl ?_); refine bxE (N := 5) (cs := #[.int .i64 0, .int .i64 0, .int .i64 0, .slice none 0 0]) (t := 27) ?_; intro gb457 hg w8 hbox hb; replace HO455 := aM (Kd.Q_below (qQ HO455.out) hb); have BK457 := aM (hbox); have GW457 := aM ((by rw [hg]; exact (below_size (wS85 HB.out)) : w.heap.size ≤ gb457)); have GE457 := aM ((by rw [hg]; exact (below_size (wS85 HB.out)) : w.heap.size ≤ gb457)); replace HB := aM (below_step (wS85 HB.out) hb); have NB446_457 := nL hg BK446; have NB457_446 := nG hg BK446; replace BK446 := bB BK446 hb; have NB449_457 := aM ((by rw [hg]; exact Nat.ne_of_lt (IsS85.lt (show IsS85 w _ g449 t447 t456 from iS85 HI449.out)) : g449 ≠ gb457)); have NB457_449 := aM ((by rw [hg]; exact Nat.ne_of_gt (IsS85.lt (show IsS85 w _ g449 t447 t456 from iS85 HI449.out)) : gb457 ≠ g449)); replace HI449 := aM (IsS85.below (iS85 HI449.out) hb); clear hb hbox hg; have hnb9 := NB457_446.out; have hnc9 := NB446_457.out; have hnb10 := NB457_449.out; have hnc10 := NB449_457.out; obtain ⟨⟨hcz11_0, hcz11_1, hcz11_2, hcz11_3⟩, hfz11_0, hfz11_1, hfz11_2, hfz11_3⟩ := cf4 BK457; obtain ⟨Ao12, co12, eo12, _⟩ := Kd.Q_slice HO455.out; subst eo12))
 have n0_ : Aside0 (Kd.Q (Kd.int .i64) 3 ((((w8.setCell ⟨gb457, 0, none⟩ (.int .i64 t450)).setCell ⟨gb457, 1, none⟩ (.int .i64 t451)).setCell ⟨gb457, 2, none⟩ (.int .i64 t452)).setCell ⟨gb457, 3, none⟩ (.slice Ao12 t453.length co12)) w.heap.size (fun _ => True) (.slice Ao12 t453.length co12) t453) := ⟨by (with_reducible repeat (first | apply Kd.Q_alloc | apply Kd.Q_drewN | apply Kd.Q_drew)); exact Kd.Q_mono (qT HO455 BK457) (fun _ hk => trivial)⟩
 have n1_ : Aside0 (((((w8.setCell ⟨gb457, 0, none⟩ (.int .i64 t450)).setCell ⟨gb457, 1, none⟩ (.int .i64 t451)).setCell ⟨gb457, 2, none⟩ (.int .i64 t452)).setCell ⟨gb457, 3, none⟩ (.slice Ao12 t453.length co12)).heap[gb446]? = some (.cells #[.int .i64 0, .int .i64 0, .int .i64 0, .slice none 0 0] 27 (0, 0))) := ⟨by refine qB ?_; refine blk_far ?_ NB446_457.out _; refine qB ?_; refine blk_far ?_ NB446_457.out _; refine qB ?_; refine blk_far ?_ NB446_457.out _; refine qB ?_; refine blk_far ?_ NB446_457.out _; refine qB ?_; exact BK446.out⟩
 have n2_ : Aside0 (((((w8.setCell ⟨gb457, 0, none⟩ (.int .i64 t450)).setCell ⟨gb457, 1, none⟩ (.int .i64 t451)).setCell ⟨gb457, 2, none⟩ (.int .i64 t452)).setCell ⟨gb457, 3, none⟩ (.slice Ao12 t453.length co12)).heap[gb457]? = some (.cells #[.int .i64 t450, .int .i64 t451, .int .i64 t452, .slice Ao12 t453.length co12] 27 (0, 0))) := ⟨by exact bP BK457.out⟩
 have n3_ : Aside0 (IsS85 w ((((w8.setCell ⟨gb457, 0, none⟩ (.int .i64 t450)).setCell ⟨gb457, 1, none⟩ (.int .i64 t451)).setCell ⟨gb457, 2, none⟩ (.int .i64 t452)).setCell ⟨gb457, 3, none⟩ (.slice Ao12 t453.length co12)) g449 t447 t456) := ⟨iS85 HI449.out⟩
 have n4_ : Aside0 (Below w.heap.size w ((((w8.setCell ⟨gb457, 0, none⟩ (.int .i64 t450)).setCell ⟨gb457, 1, none⟩ (.int .i64 t451)).setCell ⟨gb457, 2, none⟩ (.int .i64 t452)).setCell ⟨gb457, 3, none⟩ (.slice Ao12 t453.length co12))) := ⟨wS85 HB.out⟩
 (try clear HO455)
 (try clear BK446)
 (try clear BK457)
 (try clear HI449)
 (try clear HB)
 generalize ((((w8.setCell ⟨gb457, 0, none⟩ (.int .i64 t450)).setCell ⟨gb457, 1, none⟩ (.int .i64 t451)).setCell ⟨gb457, 2, none⟩ (.int .i64 t452)).setCell ⟨gb457, 3, none⟩ (.slice Ao12 t453.length co12)) = w13 at n0_ n1_ n2_ n3_ n4_ ⊢
 have HO455 := n0_
 have BK446 := n1_
 have BK457 := n2_
 have HI449 := n3_
 have HB := n4_
 clear n0_ n1_ n2_ n3_ n4_
 replace HO455 := aM (Kd.Q_drew HO455.out)
 replace BK446 := aM (blk_drew BK446.out)
 replace BK457 := aM (blk_drew BK457.out)
 replace HI449 := aM (IsS85.drew HI449.out)
 replace HB := aM (below_drew1 HB.out)
 refine start_ (n := 5) (S := fun w' => w'.cell? ⟨gb457, 0, none⟩ = some (.int .i64 t450) ∧ w'.cell? ⟨gb457, 1, none⟩ = some (.int .i64 t451) ∧ w'.cell? ⟨gb457, 2, none⟩ = some (.int .i64 t452) ∧ w'.cell? ⟨gb457, 3, none⟩ = some (.slice Ao12 t453.length co12)) (ds := []) (bA 5 0) (by kernel_rfl) rfl rfl ⟨(blk_cell BK457.out 0).trans rfl, (blk_cell BK457.out 1).trans rfl, (blk_cell BK457.out 2).trans rfl, (blk_cell BK457.out 3).trans rfl⟩ (fun hHeld => ?_)
 generalize w13.drew = w14 at HO455 BK446 BK457 HI449 HB hHeld ⊢
 refine pure_ (i := 1) (N := some 11) (v := ?_) (a' := ?_) (bA 5 2) rfl rfl (by kernel_rfl) (fun _ _ _ h => h) (Or.inl ⟨by rfl, ?_⟩) ?_ ?_
 rotate_left
 ·intro w'
  go_simp
  with_reducible rfl
 rotate_left
 ·refine pZ ?_
  rfl
 refine take_ (i := 0) (N := some 10) (v := ?_) (a' := ?_) (bA 5 3) rfl rfl (by kernel_rfl) (fun _ _ _ h => h) (Or.inl ⟨by rfl, ?_⟩) hHeld ?_ ?_
 rotate_left
 ·rintro w' ⟨s0, s1, s2, s3⟩
  go_simp
  with_reducible rfl
 rotate_left
 ·refine pZ ?_
  rfl
 refine one_ (i := 2) (N := some 12) (bA 5 7) rfl rfl (by kernel_rfl) (by decide) (fun K hK => ?_)
 refine goes_ Try.func75 (by kernel_rfl) rfl #[.pointer (some ⟨g449, 0, none⟩)] (by rfl) rfl rfl qM ?_
 with_reducible refine (spec_anyLevels.calls k g449 t447 t456 t458 t459 w _ ?side1 ?side2 A4.out).mono ?_
 (case side1 => exact iS85 HI449.out)
 (case side2 => exact wS85 HB.out)
 rintro e w15 ⟨rfl, hi, hb, hk⟩
 refine ⟨_, rfl, ?_⟩
 replace BK446 := bK hk BK446 NB446_449
 replace HO455 := aM (Kd.Q_mono (Kd.Q_keep (IsS85.apartQ (show IsS85 w _ g449 t447 t456 from iS85 HI449.out) (qQ HO455.out) (by decide)) hk (fun _ h => h.2)) (fun _ h => h.1))
 replace BK457 := bK hk BK457 NB457_449
 replace HB := aM (hb)
 replace HI449 := aM (hi)
 (try clear hb)
 (try clear hb2)
 (try clear hk)
 (try clear hi)
 refine hK.out _ _ ⟨(blk_cell BK457.out 0).trans rfl, (blk_cell BK457.out 1).trans rfl, (blk_cell BK457.out 2).trans rfl, (blk_cell BK457.out 3).trans rfl⟩ (fun hHeld => ?_)
 clear hK K
 refine norm_ (a' := ?_) ?_ ?_
 rotate_left
 ·show Act.put _ (some 12) _ = _
  refine pZ ?_
  rfl
 refine one_ (i := 3) (N := none) (bA 5 15) rfl rfl (by kernel_rfl) (by decide) (fun K hK => ?_)
 have hs16 : w15.cell? ⟨gb446, 0, none⟩ = some (.int .i64 0) := (blk_cell BK446.out 0).trans rfl
 have hfs16 := blk_frozen BK446.out 0
 have hns16_1 := NB457_446.out
 have hms16_1 := NB446_457.out
 have hs17 : w15.cell? ⟨gb446, 1, none⟩ = some (.int .i64 0) := (blk_cell BK446.out 1).trans rfl
 have hfs17 := blk_frozen BK446.out 1
 have hns17_1 := NB457_446.out
 have hms17_1 := NB446_457.out
 have hs18 : w15.cell? ⟨gb446, 2, none⟩ = some (.int .i64 0) := (blk_cell BK446.out 2).trans rfl
 have hfs18 := blk_frozen BK446.out 2
 have hns18_1 := NB457_446.out
 have hms18_1 := NB446_457.out
 have hs19 : w15.cell? ⟨gb446, 3, none⟩ = some (.slice none 0 0) := (blk_cell BK446.out 3).trans rfl
 have hfs19 := blk_frozen BK446.out 3
 have hns19_1 := NB457_446.out
 have hms19_1 := NB446_457.out
 refine skip_ (w1 := ?_) (by rfl) rfl ?_ ?_
 rotate_left
 ·go_simp
  rfl
 refine hK.out _ _ ⟨((cell_far (p := ⟨gb446, _, none⟩) NB457_446.out _).trans (((cell_far (p := ⟨gb446, _, none⟩) NB457_446.out _).trans (((cell_far (p := ⟨gb446, _, none⟩) NB457_446.out _).trans (((cell_far (p := ⟨gb446, _, none⟩) NB457_446.out _).trans (hHeld.1)))))))), ((cell_far (p := ⟨gb446, _, none⟩) NB457_446.out _).trans (((cell_far (p := ⟨gb446, _, none⟩) NB457_446.out _).trans (((cell_far (p := ⟨gb446, _, none⟩) NB457_446.out _).trans (((cell_far (p := ⟨gb446, _, none⟩) NB457_446.out _).trans (hHeld.2.1)))))))), ((cell_far (p := ⟨gb446, _, none⟩) NB457_446.out _).trans (((cell_far (p := ⟨gb446, _, none⟩) NB457_446.out _).trans (((cell_far (p := ⟨gb446, _, none⟩) NB457_446.out _).trans (((cell_far (p := ⟨gb446, _, none⟩) NB457_446.out _).trans (hHeld.2.2.1)))))))), ((cell_far (p := ⟨gb446, _, none⟩) NB457_446.out _).trans (((cell_far (p := ⟨gb446, _, none⟩) NB457_446.out _).trans (((cell_far (p := ⟨gb446, _, none⟩) NB457_446.out _).trans (((cell_far (p := ⟨gb446, _, none⟩) NB457_446.out _).trans (hHeld.2.2.2))))))))⟩ (fun hHeld => ?_)
 clear hK K
 refine pure_ (i := 4) (N := some 3) (v := ?_) (a' := ?_) (bA 5 31) rfl rfl (by kernel_rfl) (fun _ _ _ h => h) (Or.inl ⟨by rfl, ?_⟩) ?_ ?_
 rotate_left
 ·intro w'
  go_simp
  with_reducible rfl
 rotate_left
 ·refine pZ ?_
  rfl
 refine done_ (by kernel_rfl) ?_
 try go_wp2
 refine bodyPost_ret (results_ct rfl _ _ gb446 27 #[.int .i64 t450, .int .i64 t451, .int .i64 t452, .slice Ao12 t453.length co12] (0, 0) _ rfl (by exact bP BK446.out) Try.underlying27 rfl (by kernel_rfl)) rfl ?_
 exact ⟨_, qX, by (with_reducible repeat (first | apply Kd.Q_alloc | apply Kd.Q_drewN | apply Kd.Q_drew)); exact Kd.Q_mono (qT HO455 BK446) (fun _ hk => trivial), wS85 HB.out⟩
def spec_DrawOrderImage.f (k : Nat) (l0 : List Int) : Option (Int × Int × Int × List Int × Int) := (spec_DrawDiffuseImage.f k l0).bind fun bt461 => (some (bt461.1, bt461.2.1, bt461.2.2.1, bt461.2.2.2.1, bt461.2.2.2.2))
theorem spec_DrawOrderImage.mono : ∀ a0 k, LeO (spec_DrawOrderImage.f k a0) (spec_DrawOrderImage.f (k + 1) a0) := by
 intro a0 k
 unfold spec_DrawOrderImage.f
 repeat' first | (with_reducible first | exact spec_DrawDiffuseImage.mono _ _ | exact lR | exact lN | refine lI ?_ ?_ | refine lB ?_ fun _ => ?_) | exact spec_DrawDiffuseImage.mono _ _ | exact lN | refine lI ?_ ?_ | refine lB ?_ fun _ => ?_
set_option maxHeartbeats 8000000 in
set_option maxRecDepth 100000 in
theorem spec_DrawOrderImage.calls (k : Nat) (A0 : Option Addr) (c0 : Nat) (l0 : List Int) (r1 : Int) (r2 : Int) (r3 : Int) (r4 : List Int) (r5 : Int) (w : World) (hr0 : Kd.C (Kd.int .u8) w A0 l0.length l0) (hc0 : l0.length ≤ c0) (h : spec_DrawOrderImage.f k l0 = some (r1, r2, r3, r4, r5)) :
  Calls Try.prog 25 #[.slice A0 l0.length c0] w fun e w' => ∃ v3_ : Value, e = .returned (.tuple #[.agg #[.int .i64 r1, .int .i64 r2, .int .i64 r3, v3_], .int .i64 r5]) ∧ Kd.Q (Kd.int .i64) 3 w' w.heap.size (fun _ => True) v3_ r4 ∧ Below w.heap.size w w' := by
 have hu27 := Try.underlying27
 have HR0 := aM hr0
 have HC0 := aM hc0
 clear hr0 hc0
 have HB := aM (Below.refl w.heap.size w)
 unfold spec_DrawOrderImage.f at h
 have H := h
 clear h
 replace H := Option.bind_eq_some_iff.mp H
 obtain ⟨⟨t461, t462, t463, t464, t467⟩, A20, H⟩ := H
 replace H : (some (t461, t462, t463, t464, t467)) = some (r1, r2, r3, r4, r5) := H
 have A2 := aM A20
 clear A20
 simp only [Option.some.injEq, Prod.mk.injEq] at H
 obtain ⟨rfl, rfl, rfl, rfl, rfl⟩ := H
 go_enter Try.func25, Try.ntmps25
 go_wp2_with (first | ((with_reducible refine gate_dst (N := 2) rfl ?_); refine bxE (N := 2) (cs := #[.int .i64 0, .int .i64 0, .int .i64 0, .slice none 0 0]) (t := 27) ?_; intro gb460 hg w3 hbox hb; have BK460 := aM (hbox); have GW460 := gW hg HB; have GE460 := gW hg HB; replace HB := bS HB hb; clear hb hbox hg) | ((with_reducible refine gate_callee (f := 29) rfl ?_); refine gL (some 5) Try.func29 #[.slice A0 l0.length c0] ?_; (with_reducible refine (spec_DrawDiffuseImage.calls k _ _ l0 t461 t462 t463 t464 t467 _ ?side1 ?side2 A2.out).mono ?_); (case side1 => exact qC (Kd.C_below HR0.out HB.out)); (case side2 => exact HC0.out); rintro e w4 ⟨v465, rfl, ho0, hb⟩; refine ⟨_, rfl, ?_⟩; have HO466 := aM (Kd.Q_lower ho0 (below_size (qW HB.out))); replace BK460 := bB BK460 hb; replace HB := bS HB hb; clear hb ho0; obtain ⟨⟨hcz5_0, hcz5_1, hcz5_2, hcz5_3⟩, hfz5_0, hfz5_1, hfz5_2, hfz5_3⟩ := cf4 BK460; obtain ⟨Ao6, co6, eo6, _⟩ := Kd.Q_slice HO466.out; subst eo6))
 refine bodyPost_ret (results_ct rfl _ _ gb460 27 #[.int .i64 t461, .int .i64 t462, .int .i64 t463, .slice Ao6 t464.length co6] (0, 0) _ rfl (by exact bP BK460.out) Try.underlying27 rfl (by kernel_rfl)) rfl ?_
 exact ⟨_, qX, by (with_reducible repeat (first | apply Kd.Q_alloc | apply Kd.Q_drewN | apply Kd.Q_drew)); exact Kd.Q_mono (qT HO466 BK460) (fun _ hk => trivial), by exact qW HB.out⟩
def laws_equalImage.f (k : Nat) (a0_0 : Int) (a0_1 : Int) (a0_2 : Int) (l0_3 : List Int) (a1_0 : Int) (a1_1 : Int) (a1_2 : Int) (l1_3 : List Int) : Option (Bool) := if a0_0 = a1_0 then (if a0_1 = a1_1 then (if a0_2 = a1_2 then ((laws_equalInts.f k l0_3 l1_3).bind fun t295 => (some t295)) else (some false)) else (some false)) else (some false)
theorem laws_equalImage.mono : ∀ a0 a1 a2 a3 a4 a5 a6 a7 k, LeO (laws_equalImage.f k a0 a1 a2 a3 a4 a5 a6 a7) (laws_equalImage.f (k + 1) a0 a1 a2 a3 a4 a5 a6 a7) := by
 intro a0 a1 a2 a3 a4 a5 a6 a7 k
 unfold laws_equalImage.f
 repeat' first | (with_reducible first | exact laws_equalInts.mono _ _ _ | exact lR | exact lN | refine lI ?_ ?_ | refine lB ?_ fun _ => ?_) | exact laws_equalInts.mono _ _ _ | exact lN | refine lI ?_ ?_ | refine lB ?_ fun _ => ?_
set_option maxHeartbeats 8000000 in
set_option maxRecDepth 100000 in
theorem laws_equalImage.calls (k : Nat) (a0_0 : Int) (a0_1 : Int) (a0_2 : Int) (A0_3 : Option Addr) (c0_3 : Nat) (l0_3 : List Int) (a1_0 : Int) (a1_1 : Int) (a1_2 : Int) (A1_3 : Option Addr) (c1_3 : Nat) (l1_3 : List Int) (r : Bool) (w : World) (hr0_3 : Kd.C (Kd.int .i64) w A0_3 l0_3.length l0_3) (hc0_3 : l0_3.length ≤ c0_3) (hr1_3 : Kd.C (Kd.int .i64) w A1_3 l1_3.length l1_3) (hc1_3 : l1_3.length ≤ c1_3) (h : laws_equalImage.f k a0_0 a0_1 a0_2 l0_3 a1_0 a1_1 a1_2 l1_3 = some r) :
  Calls Try.prog 15 #[.agg #[.int .i64 a0_0, .int .i64 a0_1, .int .i64 a0_2, .slice A0_3 l0_3.length c0_3], .agg #[.int .i64 a1_0, .int .i64 a1_1, .int .i64 a1_2, .slice A1_3 l1_3.length c1_3]] w fun e w' => e = .returned (.bool r) ∧ Below w.heap.size w w' := by
 have hu27 := Try.underlying27
 have HR0_3 := aM hr0_3
 have HC0_3 := aM hc0_3
 clear hr0_3 hc0_3
 have HR1_3 := aM hr1_3
 have HC1_3 := aM hc1_3
 clear hr1_3 hc1_3
 have HB := aM (Below.refl w.heap.size w)
 unfold laws_equalImage.f at h
 have H := h
 clear h
 by_cases c3 : a0_0 = a1_0
 rotate_left
 ·rw [if_neg c3] at H
  have c3b0 : (a0_0 == a1_0) = false := beq_eq_false_iff_ne.mpr c3
  have c3b1 : (a0_0 != a1_0) = true := bne_iff_ne.mpr c3
  obtain rfl := Option.some.inj H
  go_enter Try.func15, Try.ntmps15
  go_wp2_with (first | ((with_reducible refine gate_dst (N := 2) rfl ?_); refine bxE (N := 2) (cs := #[.int .i64 a0_0, .int .i64 a0_1, .int .i64 a0_2, .slice A0_3 l0_3.length c0_3]) (t := 27) ?_; intro gb293 hg w22 hbox hb; have BK293 := aM (hbox); have GW293 := gW hg HB; have GE293 := gW hg HB; replace HB := bS HB hb; clear hb hbox hg) | ((with_reducible refine gate_dst (N := 3) rfl ?_); refine bxE (N := 3) (cs := #[.int .i64 a1_0, .int .i64 a1_1, .int .i64 a1_2, .slice A1_3 l1_3.length c1_3]) (t := 27) ?_; intro gb294 hg w23 hbox hb; have BK294 := aM (hbox); have GW294 := gW hg HB; have GE294 := gW hg HB; replace HB := bS HB hb; have NB293_294 := nL hg BK293; have NB294_293 := nG hg BK293; replace BK293 := bB BK293 hb; clear hb hbox hg; have hnb24 := NB293_294.out; have hnc24 := NB294_293.out; obtain ⟨⟨hcz25_0, hcz25_1, hcz25_2, hcz25_3⟩, hfz25_0, hfz25_1, hfz25_2, hfz25_3⟩ := cf4 BK293; obtain ⟨⟨hcz26_0, hcz26_1, hcz26_2, hcz26_3⟩, hfz26_0, hfz26_1, hfz26_2, hfz26_3⟩ := cf4 BK294))
  go_ret
  exact ⟨qX, by exact qW HB.out⟩
 rw [if_pos c3] at H
 have c3b0 : (a0_0 == a1_0) = true := beq_iff_eq.mpr c3
 have c3b1 : (a0_0 != a1_0) = false := bne_eq_false_iff_eq.mpr c3
 clear c3
 by_cases c4 : a0_1 = a1_1
 rotate_left
 ·rw [if_neg c4] at H
  have c4b0 : (a0_1 == a1_1) = false := beq_eq_false_iff_ne.mpr c4
  have c4b1 : (a0_1 != a1_1) = true := bne_iff_ne.mpr c4
  obtain rfl := Option.some.inj H
  go_enter Try.func15, Try.ntmps15
  go_wp2_with (first | ((with_reducible refine gate_dst (N := 2) rfl ?_); refine bxE (N := 2) (cs := #[.int .i64 a0_0, .int .i64 a0_1, .int .i64 a0_2, .slice A0_3 l0_3.length c0_3]) (t := 27) ?_; intro gb293 hg w17 hbox hb; have BK293 := aM (hbox); have GW293 := gW hg HB; have GE293 := gW hg HB; replace HB := bS HB hb; clear hb hbox hg) | ((with_reducible refine gate_dst (N := 3) rfl ?_); refine bxE (N := 3) (cs := #[.int .i64 a1_0, .int .i64 a1_1, .int .i64 a1_2, .slice A1_3 l1_3.length c1_3]) (t := 27) ?_; intro gb294 hg w18 hbox hb; have BK294 := aM (hbox); have GW294 := gW hg HB; have GE294 := gW hg HB; replace HB := bS HB hb; have NB293_294 := nL hg BK293; have NB294_293 := nG hg BK293; replace BK293 := bB BK293 hb; clear hb hbox hg; have hnb19 := NB293_294.out; have hnc19 := NB294_293.out; obtain ⟨⟨hcz20_0, hcz20_1, hcz20_2, hcz20_3⟩, hfz20_0, hfz20_1, hfz20_2, hfz20_3⟩ := cf4 BK293; obtain ⟨⟨hcz21_0, hcz21_1, hcz21_2, hcz21_3⟩, hfz21_0, hfz21_1, hfz21_2, hfz21_3⟩ := cf4 BK294))
  go_ret
  exact ⟨qX, by exact qW HB.out⟩
 rw [if_pos c4] at H
 have c4b0 : (a0_1 == a1_1) = true := beq_iff_eq.mpr c4
 have c4b1 : (a0_1 != a1_1) = false := bne_eq_false_iff_eq.mpr c4
 clear c4
 by_cases c5 : a0_2 = a1_2
 rotate_left
 ·rw [if_neg c5] at H
  have c5b0 : (a0_2 == a1_2) = false := beq_eq_false_iff_ne.mpr c5
  have c5b1 : (a0_2 != a1_2) = true := bne_iff_ne.mpr c5
  obtain rfl := Option.some.inj H
  go_enter Try.func15, Try.ntmps15
  go_wp2_with (first | ((with_reducible refine gate_dst (N := 2) rfl ?_); refine bxE (N := 2) (cs := #[.int .i64 a0_0, .int .i64 a0_1, .int .i64 a0_2, .slice A0_3 l0_3.length c0_3]) (t := 27) ?_; intro gb293 hg w12 hbox hb; have BK293 := aM (hbox); have GW293 := gW hg HB; have GE293 := gW hg HB; replace HB := bS HB hb; clear hb hbox hg) | ((with_reducible refine gate_dst (N := 3) rfl ?_); refine bxE (N := 3) (cs := #[.int .i64 a1_0, .int .i64 a1_1, .int .i64 a1_2, .slice A1_3 l1_3.length c1_3]) (t := 27) ?_; intro gb294 hg w13 hbox hb; have BK294 := aM (hbox); have GW294 := gW hg HB; have GE294 := gW hg HB; replace HB := bS HB hb; have NB293_294 := nL hg BK293; have NB294_293 := nG hg BK293; replace BK293 := bB BK293 hb; clear hb hbox hg; have hnb14 := NB293_294.out; have hnc14 := NB294_293.out; obtain ⟨⟨hcz15_0, hcz15_1, hcz15_2, hcz15_3⟩, hfz15_0, hfz15_1, hfz15_2, hfz15_3⟩ := cf4 BK293; obtain ⟨⟨hcz16_0, hcz16_1, hcz16_2, hcz16_3⟩, hfz16_0, hfz16_1, hfz16_2, hfz16_3⟩ := cf4 BK294))
  go_ret
  exact ⟨qX, by exact qW HB.out⟩
 rw [if_pos c5] at H
 have c5b0 : (a0_2 == a1_2) = true := beq_iff_eq.mpr c5
 have c5b1 : (a0_2 != a1_2) = false := bne_eq_false_iff_eq.mpr c5
 clear c5
 replace H := Option.bind_eq_some_iff.mp H
 obtain ⟨t295, A60, H⟩ := H
 replace H : (some t295) = some r := H
 have A6 := aM A60
 clear A60
 obtain rfl := Option.some.inj H
 go_enter Try.func15, Try.ntmps15
 go_wp2_with (first | ((with_reducible refine gate_dst (N := 2) rfl ?_); refine bxE (N := 2) (cs := #[.int .i64 a0_0, .int .i64 a0_1, .int .i64 a0_2, .slice A0_3 l0_3.length c0_3]) (t := 27) ?_; intro gb293 hg w7 hbox hb; have BK293 := aM (hbox); have GW293 := gW hg HB; have GE293 := gW hg HB; replace HB := bS HB hb; clear hb hbox hg) | ((with_reducible refine gate_dst (N := 3) rfl ?_); refine bxE (N := 3) (cs := #[.int .i64 a1_0, .int .i64 a1_1, .int .i64 a1_2, .slice A1_3 l1_3.length c1_3]) (t := 27) ?_; intro gb294 hg w8 hbox hb; have BK294 := aM (hbox); have GW294 := gW hg HB; have GE294 := gW hg HB; replace HB := bS HB hb; have NB293_294 := nL hg BK293; have NB294_293 := nG hg BK293; replace BK293 := bB BK293 hb; clear hb hbox hg; have hnb9 := NB293_294.out; have hnc9 := NB294_293.out; obtain ⟨⟨hcz10_0, hcz10_1, hcz10_2, hcz10_3⟩, hfz10_0, hfz10_1, hfz10_2, hfz10_3⟩ := cf4 BK293; obtain ⟨⟨hcz11_0, hcz11_1, hcz11_2, hcz11_3⟩, hfz11_0, hfz11_1, hfz11_2, hfz11_3⟩ := cf4 BK294) | (go_at_call 54; (with_reducible refine (laws_equalInts.calls k _ _ l0_3 _ _ l1_3 t295 _ ?side1 ?side2 ?side3 ?side4 A6.out).mono ?_); (case side1 => exact qC (Kd.C_below HR0_3.out HB.out)); (case side2 => exact HC0_3.out); (case side3 => exact qC (Kd.C_below HR1_3.out HB.out)); (case side4 => exact HC1_3.out); rintro e w' ⟨rfl, ⟨nd, rfl⟩⟩))
 go_ret
 exact ⟨qX, by exact qW HB.out⟩
mutual
def laws_FnDiffuseFlat.j0 : Nat → Int → Bool → Bool → Bool → Int → Int → Int → List Int → Int → Int → Int → List Int → Int → Int → Int → List Int → Option (Bool)
 | 0, _, _, _, _, _, _, _, _, _, _, _, _, _, _, _, _ => none
 | k + 1, x4, x6, x8, x47, x692000, x692001, x692002, x692003, x700000, x700001, x700002, x700003, x708000, x708001, x708002, x708003 => if x47 = true then ((laws_equalImage.f k x700000 x700001 x700002 x700003 x708000 x708001 x708002 x708003).bind fun t709 => (if t709 = true then (some (x6 == x8)) else (some false))) else (laws_FnDiffuseFlat.l0 k x4 0 x692000 x692001 x692002 x692003)
def laws_FnDiffuseFlat.l0 : Nat → Int → Int → Int → Int → Int → List Int → Option (Bool)
 | 0, _, _, _, _, _, _ => none
 | k + 1, x4, x9, x692000, x692001, x692002, x692003 => if x9 ≤ 255 then ((impl_FillImage.f k x692000 x692001 (([x9] : List Int))).bind fun bt713 => ((impl_DiffuseImage.f k bt713.1 bt713.2.1 bt713.2.2.1 bt713.2.2.2 x4).bind fun bt720 => ((impl_OrderImage.f bt713.1 bt713.2.1 bt713.2.2.1 bt713.2.2.2 x4).bind fun bt728 => (if bt720.2.2.2.2 = true then (if bt728.2.2.2.2 = true then ((laws_equalImage.f k bt720.1 bt720.2.1 bt720.2.2.1 bt720.2.2.2.1 bt713.1 bt713.2.1 bt713.2.2.1 bt713.2.2.2).bind fun t736 => (if t736 = true then ((laws_equalImage.f k bt728.1 bt728.2.1 bt728.2.2.1 bt728.2.2.2.1 bt713.1 bt713.2.1 bt713.2.2.1 bt713.2.2.2).bind fun t737 => (if t737 = true then (laws_FnDiffuseFlat.l0 k x4 (wrap64 (x9 + 255)) x692000 x692001 x692002 x692003) else (some false))) else (some false))) else (some false)) else (some false))))) else (some true)
end
def laws_FnDiffuseFlat.f (k : Nat) (l0 : List Int) : Option (Bool) := if (l0.length : Int) > 1048576 then (some true) else ((spec_DrawDiffuseImage.f k l0).bind fun bt684 => ((impl_DiffuseImage.f k bt684.1 bt684.2.1 bt684.2.2.1 bt684.2.2.2.1 bt684.2.2.2.2).bind fun bt692 => ((spec_DiffuseImage.f k bt684.1 bt684.2.1 bt684.2.2.1 bt684.2.2.2.1 bt684.2.2.2.2).bind fun bt700 => ((laws_equalImage.f k bt692.1 bt692.2.1 bt692.2.2.1 bt692.2.2.2.1 bt700.1 bt700.2.1 bt700.2.2.1 bt700.2.2.2.1).bind fun t708 => (if t708 = true then (if (bt692.2.2.2.2 != bt700.2.2.2.2) = true then (laws_FnDiffuseFlat.j0 k bt684.2.2.2.2 bt692.2.2.2.2 bt700.2.2.2.2 true bt684.1 bt684.2.1 bt684.2.2.1 bt684.2.2.2.1 bt692.1 bt692.2.1 bt692.2.2.1 bt692.2.2.2.1 bt700.1 bt700.2.1 bt700.2.2.1 bt700.2.2.2.1) else (laws_FnDiffuseFlat.j0 k bt684.2.2.2.2 bt692.2.2.2.2 bt700.2.2.2.2 (!bt692.2.2.2.2) bt684.1 bt684.2.1 bt684.2.2.1 bt684.2.2.2.1 bt692.1 bt692.2.1 bt692.2.2.1 bt692.2.2.2.1 bt700.1 bt700.2.1 bt700.2.2.1 bt700.2.2.2.1)) else (laws_FnDiffuseFlat.j0 k bt684.2.2.2.2 bt692.2.2.2.2 bt700.2.2.2.2 true bt684.1 bt684.2.1 bt684.2.2.1 bt684.2.2.2.1 bt692.1 bt692.2.1 bt692.2.2.1 bt692.2.2.2.1 bt700.1 bt700.2.1 bt700.2.2.1 bt700.2.2.2.1))))))
theorem laws_FnDiffuseFlat.mono_l : ∀ k, (∀ y0 y1 y2 y3 y4 y5 y6 y7 y8 y9 y10 y11 y12 y13 y14 y15, LeO (laws_FnDiffuseFlat.j0 k y0 y1 y2 y3 y4 y5 y6 y7 y8 y9 y10 y11 y12 y13 y14 y15) (laws_FnDiffuseFlat.j0 (k + 1) y0 y1 y2 y3 y4 y5 y6 y7 y8 y9 y10 y11 y12 y13 y14 y15)) ∧ (∀ y0 y1 y2 y3 y4 y5, LeO (laws_FnDiffuseFlat.l0 k y0 y1 y2 y3 y4 y5) (laws_FnDiffuseFlat.l0 (k + 1) y0 y1 y2 y3 y4 y5))
 | 0 => ⟨fun _ _ _ _ _ _ _ _ _ _ _ _ _ _ _ _ r h => by simp [laws_FnDiffuseFlat.j0] at h, fun _ _ _ _ _ _ r h => by simp [laws_FnDiffuseFlat.l0] at h⟩
 | k + 1 => by
  obtain ⟨ih0, ih1⟩ := laws_FnDiffuseFlat.mono_l k
  refine ⟨?_, ?_⟩
  all_goals intros
  all_goals first | unfold laws_FnDiffuseFlat.j0 | unfold laws_FnDiffuseFlat.l0
  all_goals repeat' first | (with_reducible first | exact ih0 _ _ _ _ _ _ _ _ _ _ _ _ _ _ _ _ | exact ih1 _ _ _ _ _ _ | exact impl_DiffuseImage.mono _ _ _ _ _ _ | exact impl_FillImage.mono _ _ _ _ | exact laws_equalImage.mono _ _ _ _ _ _ _ _ _ | exact spec_DiffuseImage.mono _ _ _ _ _ _ | exact spec_DrawDiffuseImage.mono _ _ | exact lR | exact lN | refine lI ?_ ?_ | refine lB ?_ fun _ => ?_) | exact ih0 _ _ _ _ _ _ _ _ _ _ _ _ _ _ _ _ | exact ih1 _ _ _ _ _ _ | exact impl_DiffuseImage.mono _ _ _ _ _ _ | exact impl_FillImage.mono _ _ _ _ | exact laws_equalImage.mono _ _ _ _ _ _ _ _ _ | exact spec_DiffuseImage.mono _ _ _ _ _ _ | exact spec_DrawDiffuseImage.mono _ _ | exact lN | refine lI ?_ ?_ | refine lB ?_ fun _ => ?_
theorem laws_FnDiffuseFlat.mono : ∀ a0 k, LeO (laws_FnDiffuseFlat.f k a0) (laws_FnDiffuseFlat.f (k + 1) a0) := by
 intro a0 k
 obtain ⟨ih0, ih1⟩ := laws_FnDiffuseFlat.mono_l k
 unfold laws_FnDiffuseFlat.f
 repeat' first | (with_reducible first | exact ih0 _ _ _ _ _ _ _ _ _ _ _ _ _ _ _ _ | exact ih1 _ _ _ _ _ _ | exact impl_DiffuseImage.mono _ _ _ _ _ _ | exact impl_FillImage.mono _ _ _ _ | exact laws_equalImage.mono _ _ _ _ _ _ _ _ _ | exact spec_DiffuseImage.mono _ _ _ _ _ _ | exact spec_DrawDiffuseImage.mono _ _ | exact lR | exact lN | refine lI ?_ ?_ | refine lB ?_ fun _ => ?_) | exact ih0 _ _ _ _ _ _ _ _ _ _ _ _ _ _ _ _ | exact ih1 _ _ _ _ _ _ | exact impl_DiffuseImage.mono _ _ _ _ _ _ | exact impl_FillImage.mono _ _ _ _ | exact laws_equalImage.mono _ _ _ _ _ _ _ _ _ | exact spec_DiffuseImage.mono _ _ _ _ _ _ | exact spec_DrawDiffuseImage.mono _ _ | exact lN | refine lI ?_ ?_ | refine lB ?_ fun _ => ?_
set_option maxHeartbeats 8000000 in
set_option maxRecDepth 100000 in
theorem laws_FnDiffuseFlat.calls (k : Nat) (A0 : Option Addr) (c0 : Nat) (l0 : List Int) (r : Bool) (w : World) (hr0 : Kd.C (Kd.int .u8) w A0 l0.length l0) (hc0 : l0.length ≤ c0) (h : laws_FnDiffuseFlat.f k l0 = some r) (hrt : r = true) :
  Calls Try.prog 8 #[.slice A0 l0.length c0] w fun e w' => e = .returned (.bool r) ∧ Below w.heap.size w w' := by
 have hu27 := Try.underlying27
 have HR0 := aM hr0
 have HC0 := aM hc0
 clear hr0 hc0
 have HB := aM (Below.refl w.heap.size w)
 unfold laws_FnDiffuseFlat.f at h
 have H := h
 clear h
 by_cases c2 : (l0.length : Int) > 1048576
 ·rw [if_pos c2] at H
  have c2b0 : decide (1048576 < (l0.length : Int)) = true := decide_eq_true c2
  have c2b1 : decide (1048576 < l0.length) = true := decide_eq_true (by omega)
  clear c2
  obtain rfl := Option.some.inj H
  go_enter Try.func8, Try.ntmps8
  go_wp2
  go_ret
  exact ⟨qX, by exact qW HB.out⟩
 rw [if_neg c2] at H
 have c2b0 : decide (1048576 < (l0.length : Int)) = false := decide_eq_false c2
 have c2b1 : decide (1048576 < l0.length) = false := decide_eq_false (by omega)
 clear c2
 replace H := Option.bind_eq_some_iff.mp H
 obtain ⟨⟨t684, t685, t686, t687, t690⟩, A30, H⟩ := H
 replace H : ((impl_DiffuseImage.f k t684 t685 t686 t687 t690).bind fun bt692 => ((spec_DiffuseImage.f k t684 t685 t686 t687 t690).bind fun bt700 => ((laws_equalImage.f k bt692.1 bt692.2.1 bt692.2.2.1 bt692.2.2.2.1 bt700.1 bt700.2.1 bt700.2.2.1 bt700.2.2.2.1).bind fun t708 => (if t708 = true then (if (bt692.2.2.2.2 != bt700.2.2.2.2) = true then (laws_FnDiffuseFlat.j0 k t690 bt692.2.2.2.2 bt700.2.2.2.2 true t684 t685 t686 t687 bt692.1 bt692.2.1 bt692.2.2.1 bt692.2.2.2.1 bt700.1 bt700.2.1 bt700.2.2.1 bt700.2.2.2.1) else (laws_FnDiffuseFlat.j0 k t690 bt692.2.2.2.2 bt700.2.2.2.2 (!bt692.2.2.2.2) t684 t685 t686 t687 bt692.1 bt692.2.1 bt692.2.2.1 bt692.2.2.2.1 bt700.1 bt700.2.1 bt700.2.2.1 bt700.2.2.2.1)) else (laws_FnDiffuseFlat.j0 k t690 bt692.2.2.2.2 bt700.2.2.2.2 true t684 t685 t686 t687 bt692.1 bt692.2.1 bt692.2.2.1 bt692.2.2.2.1 bt700.1 bt700.2.1 bt700.2.2.1 bt700.2.2.2.1))))) = some r := H
 have A3 := aM A30
 clear A30
 replace H := Option.bind_eq_some_iff.mp H
 obtain ⟨⟨t692, t693, t694, t695, t698⟩, A40, H⟩ := H
 replace H : ((spec_DiffuseImage.f k t684 t685 t686 t687 t690).bind fun bt700 => ((laws_equalImage.f k t692 t693 t694 t695 bt700.1 bt700.2.1 bt700.2.2.1 bt700.2.2.2.1).bind fun t708 => (if t708 = true then (if (t698 != bt700.2.2.2.2) = true then (laws_FnDiffuseFlat.j0 k t690 t698 bt700.2.2.2.2 true t684 t685 t686 t687 t692 t693 t694 t695 bt700.1 bt700.2.1 bt700.2.2.1 bt700.2.2.2.1) else (laws_FnDiffuseFlat.j0 k t690 t698 bt700.2.2.2.2 (!t698) t684 t685 t686 t687 t692 t693 t694 t695 bt700.1 bt700.2.1 bt700.2.2.1 bt700.2.2.2.1)) else (laws_FnDiffuseFlat.j0 k t690 t698 bt700.2.2.2.2 true t684 t685 t686 t687 t692 t693 t694 t695 bt700.1 bt700.2.1 bt700.2.2.1 bt700.2.2.2.1)))) = some r := H
 have A4 := aM A40
 clear A40
 replace H := Option.bind_eq_some_iff.mp H
 obtain ⟨⟨t700, t701, t702, t703, t706⟩, A50, H⟩ := H
 replace H : ((laws_equalImage.f k t692 t693 t694 t695 t700 t701 t702 t703).bind fun t708 => (if t708 = true then (if (t698 != t706) = true then (laws_FnDiffuseFlat.j0 k t690 t698 t706 true t684 t685 t686 t687 t692 t693 t694 t695 t700 t701 t702 t703) else (laws_FnDiffuseFlat.j0 k t690 t698 t706 (!t698) t684 t685 t686 t687 t692 t693 t694 t695 t700 t701 t702 t703)) else (laws_FnDiffuseFlat.j0 k t690 t698 t706 true t684 t685 t686 t687 t692 t693 t694 t695 t700 t701 t702 t703))) = some r := H
 have A5 := aM A50
 clear A50
 have HC6 := aM H
 clear H
 go_enter Try.func8, Try.ntmps8
 go_upto_region 6 with (first | ((with_reducible refine gate_callee (f := 29) rfl ?_); refine gL (some 20) Try.func29 #[.slice A0 l0.length c0] ?_; (with_reducible refine (spec_DrawDiffuseImage.calls k _ _ l0 t684 t685 t686 t687 t690 _ ?side1 ?side2 A3.out).mono ?_); (case side1 => exact qC HR0.out); (case side2 => exact HC0.out); rintro e w7 ⟨v688, rfl, ho0, hb⟩; refine ⟨_, rfl, ?_⟩; have HO689 := aM (Kd.Q_lower ho0 (below_size (qW HB.out))); replace HB := bS HB hb; clear hb ho0) | ((with_reducible refine gate_dst (N := 3) rfl ?_); refine bxE (N := 3) (cs := #[.int .i64 0, .int .i64 0, .int .i64 0, .slice none 0 0]) (t := 27) ?_; intro gb691 hg w8 hbox hb; replace HO689 := aM (Kd.Q_below (qQ HO689.out) hb); have BK691 := aM (hbox); have GW691 := gW hg HB; have GE691 := gW hg HB; replace HB := bS HB hb; clear hb hbox hg; obtain ⟨⟨hcz9_0, hcz9_1, hcz9_2, hcz9_3⟩, hfz9_0, hfz9_1, hfz9_2, hfz9_3⟩ := cf4 BK691; obtain ⟨Ao10, co10, eo10, _⟩ := Kd.Q_slice HO689.out; subst eo10) | ((with_reducible refine gate_callee (f := 28) rfl ?_); refine gL (some 26) Try.func28 #[.agg #[.int .i64 t684, .int .i64 t685, .int .i64 t686, .slice Ao10 t687.length co10], .int .i64 t690] ?_; (with_reducible refine (impl_DiffuseImage.calls k t684 t685 t686 _ _ t687 t690 t692 t693 t694 t695 t698 _ ?side1 ?side2 A4.out).mono ?_); (case side1 => refine (Kd.Q_reads' (e := 3) (base := w.heap.size) (ok := fun k_ => True) (n := t687.length) (c := co10) ?_).2.2; exact (by (with_reducible repeat (first | apply Kd.Q_alloc | apply Kd.Q_drewN | apply Kd.Q_drew)); exact (Kd.Q_mono (qT HO689 BK691) (fun _ h_ => h_.1)))); (case side2 => exact (Kd.Q_reads' HO689.out).2.1); rintro e w11 ⟨v696, rfl, ho0, hb⟩; refine ⟨_, rfl, ?_⟩; have HO697 := aM (Kd.R_lower (Kd.R_new' ho0 (Kd.Q_lt (by (with_reducible repeat (first | apply Kd.Q_alloc | apply Kd.Q_drewN | apply Kd.Q_drew)); exact (Kd.Q_mono (qT HO689 BK691) (fun _ h_ => h_.1))))) (below_size (qW HB.out))); replace HO689 := aM (Kd.Q_elder' (by (with_reducible repeat (first | apply Kd.Q_alloc | apply Kd.Q_drewN | apply Kd.Q_drew)); exact (Kd.Q_mono (qT HO689 BK691) (fun _ h_ => h_.1))) (Kd.R_base ho0) hb); replace BK691 := aM (blk_below (g := gb691) (o := .cells #[.int .i64 t684, .int .i64 t685, .int .i64 t686, .slice Ao10 t687.length co10] 27 (0, 0)) (by exact bP BK691.out) hb); replace HB := bS HB hb; clear hb ho0) | ((with_reducible refine gate_dst (N := 5) rfl ?_); refine bxE (N := 5) (cs := #[.int .i64 0, .int .i64 0, .int .i64 0, .slice none 0 0]) (t := 27) ?_; intro gb699 hg w12 hbox hb; replace HO689 := aM (Kd.Q_below (qQ HO689.out) hb); replace HO697 := aM (Kd.R_below (qR HO697.out) hb); have BK699 := aM (hbox); have GW699 := gW hg HB; have GE699 := gW hg HB; replace HB := bS HB hb; have NB691_699 := nL hg BK691; have NB699_691 := nG hg BK691; replace BK691 := bB BK691 hb; clear hb hbox hg; have hnb13 := NB699_691.out; have hnc13 := NB691_699.out; obtain ⟨⟨hcz14_0, hcz14_1, hcz14_2, hcz14_3⟩, hfz14_0, hfz14_1, hfz14_2, hfz14_3⟩ := cf4 BK699; obtain ⟨Ao15, co15, rfl⟩ := sL HO697; obtain ⟨⟨hcz16_0, hcz16_1, hcz16_2, hcz16_3⟩, hfz16_0, hfz16_1, hfz16_2, hfz16_3⟩ := cf4 BK691) | ((with_reducible refine gate_callee (f := 27) rfl ?_); refine gL (some 32) Try.func27 #[.agg #[.int .i64 t684, .int .i64 t685, .int .i64 t686, .slice Ao10 t687.length co10], .int .i64 t690] ?_; (with_reducible refine (spec_DiffuseImage.calls k t684 t685 t686 _ _ t687 t690 t700 t701 t702 t703 t706 _ ?side1 ?side2 A5.out).mono ?_); (case side1 => refine (Kd.Q_reads' (e := 3) (base := w.heap.size) (ok := fun k_ => (True ∧ some k_ ≠ (.slice Ao15 t695.length co15 : Value).ownBlock)) (n := t687.length) (c := co10) ?_).2.2; exact (by (with_reducible repeat (first | apply Kd.Q_alloc | apply Kd.Q_drewN | apply Kd.Q_drew)); exact (Kd.Q_mono (qT HO689 BK699) (fun _ h_ => h_.1)))); (case side2 => exact (Kd.Q_reads' HO689.out).2.1); rintro e w17 ⟨v704, rfl, ho0, hb⟩; refine ⟨_, rfl, ?_⟩; have HO705 := aM (Kd.R_lower (Kd.R_new' (Kd.R_new' ho0 (Kd.Q_lt (by (with_reducible repeat (first | apply Kd.Q_alloc | apply Kd.Q_drewN | apply Kd.Q_drew)); exact (Kd.Q_mono (qT HO689 BK699) (fun _ h_ => h_.1))))) (Kd.R_lt (by refine qR ?_; exact (fr4 HO697 BK699)))) (below_size (qW HB.out))); replace HO689 := aM (Kd.Q_elder' (by (with_reducible repeat (first | apply Kd.Q_alloc | apply Kd.Q_drewN | apply Kd.Q_drew)); exact (Kd.Q_mono (qT HO689 BK699) (fun _ h_ => h_.1))) (Kd.R_base ho0) hb); replace HO697 := aM (Kd.R_elder' (by refine qR ?_; exact (fr4 HO697 BK699)) (Kd.R_base ho0) hb); replace BK691 := aM (blk_below (g := gb691) (o := .cells #[.int .i64 t684, .int .i64 t685, .int .i64 t686, .slice Ao10 t687.length co10] 27 (0, 0)) (by refine qB ?_; refine blk_far ?_ NB691_699.out _; refine qB ?_; refine blk_far ?_ NB691_699.out _; refine qB ?_; refine blk_far ?_ NB691_699.out _; refine qB ?_; refine blk_far ?_ NB691_699.out _; refine qB ?_; exact BK691.out) hb); replace BK699 := aM (blk_below (g := gb699) (o := .cells #[.int .i64 t692, .int .i64 t693, .int .i64 t694, .slice Ao15 t695.length co15] 27 (0, 0)) (by exact bP BK699.out) hb); replace HB := bS HB hb; clear hb ho0) | ((with_reducible refine gate_dst (N := 7) rfl ?_); refine bxE (N := 7) (cs := #[.int .i64 0, .int .i64 0, .int .i64 0, .slice none 0 0]) (t := 27) ?_; intro gb707 hg w18 hbox hb; replace HO689 := aM (Kd.Q_below (qQ HO689.out) hb); replace HO697 := aM (Kd.R_below (qR HO697.out) hb); replace HO705 := aM (Kd.R_below (qR HO705.out) hb); have BK707 := aM (hbox); have GW707 := gW hg HB; have GE707 := gW hg HB; replace HB := bS HB hb; have NB691_707 := nL hg BK691; have NB707_691 := nG hg BK691; replace BK691 := bB BK691 hb; have NB699_707 := nL hg BK699; have NB707_699 := nG hg BK699; replace BK699 := bB BK699 hb; clear hb hbox hg; have hnb19 := NB707_691.out; have hnc19 := NB691_707.out; have hnb20 := NB707_699.out; have hnc20 := NB699_707.out; obtain ⟨⟨hcz21_0, hcz21_1, hcz21_2, hcz21_3⟩, hfz21_0, hfz21_1, hfz21_2, hfz21_3⟩ := cf4 BK707; obtain ⟨Ao22, co22, rfl⟩ := sL HO705))
 (try simp only [Act.put, List.setIfInBounds_toArray, List.set_cons_zero, List.set_cons_succ])
 go_cut [47] (fun v47 wc => ∃ (kq : Nat) (x47_5 : Bool), v47 = .bool x47_5 ∧ Aside0 (laws_FnDiffuseFlat.j0 kq t690 t698 t706 x47_5 t684 t685 t686 t687 t692 t693 t694 t695 t700 t701 t702 t703 = some r) ∧ Aside0 (kq ≤ k) ∧ Aside0 (Kd.Q (Kd.int .i64) 3 wc w.heap.size (fun k_ => some k_ ≠ ((.slice Ao15 t695.length co15) : Value).ownBlock ∧ some k_ ≠ ((.slice Ao22 t703.length co22) : Value).ownBlock) (.slice Ao10 t687.length co10) t687) ∧ Aside0 (Kd.Q (Kd.int .i64) 3 wc w.heap.size (fun k_ => some k_ ≠ ((.slice Ao10 t687.length co10) : Value).ownBlock ∧ some k_ ≠ ((.slice Ao22 t703.length co22) : Value).ownBlock) (.slice Ao15 t695.length co15) t695) ∧ Aside0 (Kd.Q (Kd.int .i64) 3 wc w.heap.size (fun k_ => some k_ ≠ ((.slice Ao10 t687.length co10) : Value).ownBlock ∧ some k_ ≠ ((.slice Ao15 t695.length co15) : Value).ownBlock) (.slice Ao22 t703.length co22) t703) ∧ Aside0 (wc.heap[gb691]? = some (.cells #[.int .i64 t684, .int .i64 t685, .int .i64 t686, (.slice Ao10 t687.length co10)] 27 (0, 0))) ∧ Aside0 (wc.heap[gb699]? = some (.cells #[.int .i64 t692, .int .i64 t693, .int .i64 t694, (.slice Ao15 t695.length co15)] 27 (0, 0))) ∧ Aside0 (wc.heap[gb707]? = some (.cells #[.int .i64 t700, .int .i64 t701, .int .i64 t702, (.slice Ao22 t703.length co22)] 27 (0, 0))) ∧ Aside0 (Below w.heap.size w wc))
 case first =>
  have H := HC6.out
  clear HC6
  replace H := Option.bind_eq_some_iff.mp H
  obtain ⟨t708, A230, H⟩ := H
  replace H : (if t708 = true then (if (t698 != t706) = true then (laws_FnDiffuseFlat.j0 k t690 t698 t706 true t684 t685 t686 t687 t692 t693 t694 t695 t700 t701 t702 t703) else (laws_FnDiffuseFlat.j0 k t690 t698 t706 (!t698) t684 t685 t686 t687 t692 t693 t694 t695 t700 t701 t702 t703)) else (laws_FnDiffuseFlat.j0 k t690 t698 t706 true t684 t685 t686 t687 t692 t693 t694 t695 t700 t701 t702 t703)) = some r := H
  have A23 := aM A230
  clear A230
  by_cases c24 : t708 = true
  rotate_left
  ·replace c24 := Bool.eq_false_iff.mpr c24
   subst c24
   have H1 : (laws_FnDiffuseFlat.j0 k t690 t698 t706 true t684 t685 t686 t687 t692 t693 t694 t695 t700 t701 t702 t703) = some r := by rw [if_neg (show ¬ (false = true) by decide)] at H; exact H
   clear H
   have H := H1
   clear H1
   have H' := aM H
   clear H
   have hnb38 := NB699_691.out
   have hnc38 := NB691_699.out
   have hnb39 := NB699_707.out
   have hnc39 := NB707_699.out
   obtain ⟨⟨hcz40_0, hcz40_1, hcz40_2, hcz40_3⟩, hfz40_0, hfz40_1, hfz40_2, hfz40_3⟩ := cf4 BK699
   have hnb41 := NB707_691.out
   have hnc41 := NB691_707.out
   obtain ⟨⟨hcz42_0, hcz42_1, hcz42_2, hcz42_3⟩, hfz42_0, hfz42_1, hfz42_2, hfz42_3⟩ := cf4 BK707
   go_wp2_with (first | ((with_reducible refine gate_callee (f := 15) rfl ?_); refine gL (some 37) Try.func15 #[.agg #[.int .i64 t692, .int .i64 t693, .int .i64 t694, .slice Ao15 t695.length co15], .agg #[.int .i64 t700, .int .i64 t701, .int .i64 t702, .slice Ao22 t703.length co22]] ?_; (with_reducible refine (laws_equalImage.calls k t692 t693 t694 _ _ t695 t700 t701 t702 _ _ t703 false _ ?side1 ?side2 ?side3 ?side4 A23.out).mono ?_); (case side1 => refine (Kd.R_reads' (e := 3) (base := w.heap.size) (ok := fun k_ => ((True ∧ some k_ ≠ (.slice Ao10 t687.length co10 : Value).ownBlock) ∧ some k_ ≠ (.slice Ao22 t703.length co22 : Value).ownBlock)) (n := t695.length) (c := co15) ?_).2.2; exact (by refine qR ?_; exact (fr4 HO697 BK707))); (case side2 => exact (Kd.R_reads' HO697.out).2.1); (case side3 => refine (Kd.R_reads' (e := 3) (base := w.heap.size) (ok := fun k_ => ((True ∧ some k_ ≠ (.slice Ao10 t687.length co10 : Value).ownBlock) ∧ some k_ ≠ (.slice Ao15 t695.length co15 : Value).ownBlock)) (n := t703.length) (c := co22) ?_).2.2; exact (by refine qR ?_; exact (fr4 HO705 BK707))); (case side4 => exact (Kd.R_reads' HO705.out).2.1); rintro e w43 ⟨rfl, hb⟩; refine ⟨_, rfl, ?_⟩; replace HO689 := aM (Kd.Q_below (by (with_reducible repeat (first | apply Kd.Q_alloc | apply Kd.Q_drewN | apply Kd.Q_drew)); exact (Kd.Q_mono (qT HO689 BK707) (fun _ h_ => h_.1))) hb); replace HO697 := aM (Kd.R_below (by refine qR ?_; exact (fr4 HO697 BK707)) hb); replace HO705 := aM (Kd.R_below (by refine qR ?_; exact (fr4 HO705 BK707)) hb); replace BK691 := aM (blk_below (g := gb691) (o := .cells #[.int .i64 t684, .int .i64 t685, .int .i64 t686, .slice Ao10 t687.length co10] 27 (0, 0)) (by refine qB ?_; refine blk_far ?_ NB691_707.out _; refine qB ?_; refine blk_far ?_ NB691_707.out _; refine qB ?_; refine blk_far ?_ NB691_707.out _; refine qB ?_; refine blk_far ?_ NB691_707.out _; refine qB ?_; exact BK691.out) hb); replace BK699 := aM (blk_below (g := gb699) (o := .cells #[.int .i64 t692, .int .i64 t693, .int .i64 t694, .slice Ao15 t695.length co15] 27 (0, 0)) (by refine qB ?_; refine blk_far ?_ NB699_707.out _; refine qB ?_; refine blk_far ?_ NB699_707.out _; refine qB ?_; refine blk_far ?_ NB699_707.out _; refine qB ?_; refine blk_far ?_ NB699_707.out _; refine qB ?_; exact BK699.out) hb); replace BK707 := aM (blk_below (g := gb707) (o := .cells #[.int .i64 t700, .int .i64 t701, .int .i64 t702, .slice Ao22 t703.length co22] 27 (0, 0)) (by exact bP BK707.out) hb); replace HB := bS HB hb; clear hb))
   go_meet
   case rel => exact ⟨_, (true), qE, H', ⟨by first | omega | exact Nat.le_refl _⟩, ⟨by (with_reducible repeat (first | apply Kd.Q_alloc | apply Kd.Q_drewN | apply Kd.Q_drew)); exact Kd.Q_mono HO689.out (fun _ hk => ⟨hk.1.2, hk.2⟩)⟩, ⟨Kd.Q_of_R (by refine qR ?_; exact Kd.R_mono HO697.out (fun _ hk => ⟨hk.1.2, hk.2⟩))⟩, ⟨Kd.Q_of_R (by refine qR ?_; exact Kd.R_mono HO705.out (fun _ hk => ⟨hk.1.2, hk.2⟩))⟩, ⟨by refine qB ?_; exact BK691.out⟩, ⟨by refine qB ?_; exact BK699.out⟩, ⟨by refine qB ?_; exact BK707.out⟩, ⟨by exact qW HB.out⟩⟩
  subst c24
  have H1 : (if (t698 != t706) = true then (laws_FnDiffuseFlat.j0 k t690 t698 t706 true t684 t685 t686 t687 t692 t693 t694 t695 t700 t701 t702 t703) else (laws_FnDiffuseFlat.j0 k t690 t698 t706 (!t698) t684 t685 t686 t687 t692 t693 t694 t695 t700 t701 t702 t703)) = some r := by rw [if_pos rfl] at H; exact H
  clear H
  have H := H1
  clear H1
  by_cases c25 : (t698 != t706) = true
  rotate_left
  ·rw [if_neg c25] at H
   have c25b0 : (t698 != t706) = false := by simpa using c25
   (try (have c25b1 : decide (t698 = t706) = true := by simpa using c25))
   (try (have c25b2 : (t698 == t706) = true := by simpa using c25))
   clear c25
   (first | rw [c25b0] | (simp only [i64_w, i32_w]; rw [c25b0]) | skip)
   have H' := aM H
   clear H
   have hnb32 := NB699_691.out
   have hnc32 := NB691_699.out
   have hnb33 := NB699_707.out
   have hnc33 := NB707_699.out
   obtain ⟨⟨hcz34_0, hcz34_1, hcz34_2, hcz34_3⟩, hfz34_0, hfz34_1, hfz34_2, hfz34_3⟩ := cf4 BK699
   have hnb35 := NB707_691.out
   have hnc35 := NB691_707.out
   obtain ⟨⟨hcz36_0, hcz36_1, hcz36_2, hcz36_3⟩, hfz36_0, hfz36_1, hfz36_2, hfz36_3⟩ := cf4 BK707
   go_wp2_with (first | ((with_reducible refine gate_callee (f := 15) rfl ?_); refine gL (some 37) Try.func15 #[.agg #[.int .i64 t692, .int .i64 t693, .int .i64 t694, .slice Ao15 t695.length co15], .agg #[.int .i64 t700, .int .i64 t701, .int .i64 t702, .slice Ao22 t703.length co22]] ?_; (with_reducible refine (laws_equalImage.calls k t692 t693 t694 _ _ t695 t700 t701 t702 _ _ t703 true _ ?side1 ?side2 ?side3 ?side4 A23.out).mono ?_); (case side1 => refine (Kd.R_reads' (e := 3) (base := w.heap.size) (ok := fun k_ => ((True ∧ some k_ ≠ (.slice Ao10 t687.length co10 : Value).ownBlock) ∧ some k_ ≠ (.slice Ao22 t703.length co22 : Value).ownBlock)) (n := t695.length) (c := co15) ?_).2.2; exact (by refine qR ?_; exact (fr4 HO697 BK707))); (case side2 => exact (Kd.R_reads' HO697.out).2.1); (case side3 => refine (Kd.R_reads' (e := 3) (base := w.heap.size) (ok := fun k_ => ((True ∧ some k_ ≠ (.slice Ao10 t687.length co10 : Value).ownBlock) ∧ some k_ ≠ (.slice Ao15 t695.length co15 : Value).ownBlock)) (n := t703.length) (c := co22) ?_).2.2; exact (by refine qR ?_; exact (fr4 HO705 BK707))); (case side4 => exact (Kd.R_reads' HO705.out).2.1); rintro e w37 ⟨rfl, hb⟩; refine ⟨_, rfl, ?_⟩; replace HO689 := aM (Kd.Q_below (by (with_reducible repeat (first | apply Kd.Q_alloc | apply Kd.Q_drewN | apply Kd.Q_drew)); exact (Kd.Q_mono (qT HO689 BK707) (fun _ h_ => h_.1))) hb); replace HO697 := aM (Kd.R_below (by refine qR ?_; exact (fr4 HO697 BK707)) hb); replace HO705 := aM (Kd.R_below (by refine qR ?_; exact (fr4 HO705 BK707)) hb); replace BK691 := aM (blk_below (g := gb691) (o := .cells #[.int .i64 t684, .int .i64 t685, .int .i64 t686, .slice Ao10 t687.length co10] 27 (0, 0)) (by refine qB ?_; refine blk_far ?_ NB691_707.out _; refine qB ?_; refine blk_far ?_ NB691_707.out _; refine qB ?_; refine blk_far ?_ NB691_707.out _; refine qB ?_; refine blk_far ?_ NB691_707.out _; refine qB ?_; exact BK691.out) hb); replace BK699 := aM (blk_below (g := gb699) (o := .cells #[.int .i64 t692, .int .i64 t693, .int .i64 t694, .slice Ao15 t695.length co15] 27 (0, 0)) (by refine qB ?_; refine blk_far ?_ NB699_707.out _; refine qB ?_; refine blk_far ?_ NB699_707.out _; refine qB ?_; refine blk_far ?_ NB699_707.out _; refine qB ?_; refine blk_far ?_ NB699_707.out _; refine qB ?_; exact BK699.out) hb); replace BK707 := aM (blk_below (g := gb707) (o := .cells #[.int .i64 t700, .int .i64 t701, .int .i64 t702, .slice Ao22 t703.length co22] 27 (0, 0)) (by exact bP BK707.out) hb); replace HB := bS HB hb; clear hb))
   go_meet
   case rel => exact ⟨_, (!t698), qE, H', ⟨by first | omega | exact Nat.le_refl _⟩, ⟨by (with_reducible repeat (first | apply Kd.Q_alloc | apply Kd.Q_drewN | apply Kd.Q_drew)); exact Kd.Q_mono HO689.out (fun _ hk => ⟨hk.1.2, hk.2⟩)⟩, ⟨Kd.Q_of_R (by refine qR ?_; exact Kd.R_mono HO697.out (fun _ hk => ⟨hk.1.2, hk.2⟩))⟩, ⟨Kd.Q_of_R (by refine qR ?_; exact Kd.R_mono HO705.out (fun _ hk => ⟨hk.1.2, hk.2⟩))⟩, ⟨by refine qB ?_; exact BK691.out⟩, ⟨by refine qB ?_; exact BK699.out⟩, ⟨by refine qB ?_; exact BK707.out⟩, ⟨by exact qW HB.out⟩⟩
  rw [if_pos c25] at H
  have c25b0 : (t698 != t706) = true := c25
  (try (have c25b1 : decide (t698 = t706) = false := by simpa using c25))
  (try (have c25b2 : (t698 == t706) = false := by simpa using c25))
  (try (have c25b3 : ¬ (t698 = t706) := by simpa using c25))
  clear c25
  (first | rw [c25b0] | (simp only [i64_w, i32_w]; rw [c25b0]) | skip)
  have H' := aM H
  clear H
  have hnb26 := NB699_691.out
  have hnc26 := NB691_699.out
  have hnb27 := NB699_707.out
  have hnc27 := NB707_699.out
  obtain ⟨⟨hcz28_0, hcz28_1, hcz28_2, hcz28_3⟩, hfz28_0, hfz28_1, hfz28_2, hfz28_3⟩ := cf4 BK699
  have hnb29 := NB707_691.out
  have hnc29 := NB691_707.out
  obtain ⟨⟨hcz30_0, hcz30_1, hcz30_2, hcz30_3⟩, hfz30_0, hfz30_1, hfz30_2, hfz30_3⟩ := cf4 BK707
  go_wp2_with (first | ((with_reducible refine gate_callee (f := 15) rfl ?_); refine gL (some 37) Try.func15 #[.agg #[.int .i64 t692, .int .i64 t693, .int .i64 t694, .slice Ao15 t695.length co15], .agg #[.int .i64 t700, .int .i64 t701, .int .i64 t702, .slice Ao22 t703.length co22]] ?_; (with_reducible refine (laws_equalImage.calls k t692 t693 t694 _ _ t695 t700 t701 t702 _ _ t703 true _ ?side1 ?side2 ?side3 ?side4 A23.out).mono ?_); (case side1 => refine (Kd.R_reads' (e := 3) (base := w.heap.size) (ok := fun k_ => ((True ∧ some k_ ≠ (.slice Ao10 t687.length co10 : Value).ownBlock) ∧ some k_ ≠ (.slice Ao22 t703.length co22 : Value).ownBlock)) (n := t695.length) (c := co15) ?_).2.2; exact (by refine qR ?_; exact (fr4 HO697 BK707))); (case side2 => exact (Kd.R_reads' HO697.out).2.1); (case side3 => refine (Kd.R_reads' (e := 3) (base := w.heap.size) (ok := fun k_ => ((True ∧ some k_ ≠ (.slice Ao10 t687.length co10 : Value).ownBlock) ∧ some k_ ≠ (.slice Ao15 t695.length co15 : Value).ownBlock)) (n := t703.length) (c := co22) ?_).2.2; exact (by refine qR ?_; exact (fr4 HO705 BK707))); (case side4 => exact (Kd.R_reads' HO705.out).2.1); rintro e w31 ⟨rfl, hb⟩; refine ⟨_, rfl, ?_⟩; replace HO689 := aM (Kd.Q_below (by (with_reducible repeat (first | apply Kd.Q_alloc | apply Kd.Q_drewN | apply Kd.Q_drew)); exact (Kd.Q_mono (qT HO689 BK707) (fun _ h_ => h_.1))) hb); replace HO697 := aM (Kd.R_below (by refine qR ?_; exact (fr4 HO697 BK707)) hb); replace HO705 := aM (Kd.R_below (by refine qR ?_; exact (fr4 HO705 BK707)) hb); replace BK691 := aM (blk_below (g := gb691) (o := .cells #[.int .i64 t684, .int .i64 t685, .int .i64 t686, .slice Ao10 t687.length co10] 27 (0, 0)) (by refine qB ?_; refine blk_far ?_ NB691_707.out _; refine qB ?_; refine blk_far ?_ NB691_707.out _; refine qB ?_; refine blk_far ?_ NB691_707.out _; refine qB ?_; refine blk_far ?_ NB691_707.out _; refine qB ?_; exact BK691.out) hb); replace BK699 := aM (blk_below (g := gb699) (o := .cells #[.int .i64 t692, .int .i64 t693, .int .i64 t694, .slice Ao15 t695.length co15] 27 (0, 0)) (by refine qB ?_; refine blk_far ?_ NB699_707.out _; refine qB ?_; refine blk_far ?_ NB699_707.out _; refine qB ?_; refine blk_far ?_ NB699_707.out _; refine qB ?_; refine blk_far ?_ NB699_707.out _; refine qB ?_; exact BK699.out) hb); replace BK707 := aM (blk_below (g := gb707) (o := .cells #[.int .i64 t700, .int .i64 t701, .int .i64 t702, .slice Ao22 t703.length co22] 27 (0, 0)) (by exact bP BK707.out) hb); replace HB := bS HB hb; clear hb))
  go_meet
  case rel => exact ⟨_, (true), qE, H', ⟨by first | omega | exact Nat.le_refl _⟩, ⟨by (with_reducible repeat (first | apply Kd.Q_alloc | apply Kd.Q_drewN | apply Kd.Q_drew)); exact Kd.Q_mono HO689.out (fun _ hk => ⟨hk.1.2, hk.2⟩)⟩, ⟨Kd.Q_of_R (by refine qR ?_; exact Kd.R_mono HO697.out (fun _ hk => ⟨hk.1.2, hk.2⟩))⟩, ⟨Kd.Q_of_R (by refine qR ?_; exact Kd.R_mono HO705.out (fun _ hk => ⟨hk.1.2, hk.2⟩))⟩, ⟨by refine qB ?_; exact BK691.out⟩, ⟨by refine qB ?_; exact BK699.out⟩, ⟨by refine qB ?_; exact BK707.out⟩, ⟨by exact qW HB.out⟩⟩
 case rest =>
  clear HC6
  try clear c2
  try clear c2b0
  try clear c2b1
  try clear c24
  try clear c25
  try clear c25b0
  try clear c25b1
  try clear c25b2
  try clear hcz14_0 hcz14_1 hcz14_2 hcz14_3 hfz14_0 hfz14_1 hfz14_2 hfz14_3
  try clear hcz16_0 hcz16_1 hcz16_2 hcz16_3 hfz16_0 hfz16_1 hfz16_2 hfz16_3
  try clear hcz21_0 hcz21_1 hcz21_2 hcz21_3 hfz21_0 hfz21_1 hfz21_2 hfz21_3
  try clear hcz28_0 hcz28_1 hcz28_2 hcz28_3 hfz28_0 hfz28_1 hfz28_2 hfz28_3
  try clear hcz30_0 hcz30_1 hcz30_2 hcz30_3 hfz30_0 hfz30_1 hfz30_2 hfz30_3
  try clear hcz34_0 hcz34_1 hcz34_2 hcz34_3 hfz34_0 hfz34_1 hfz34_2 hfz34_3
  try clear hcz36_0 hcz36_1 hcz36_2 hcz36_3 hfz36_0 hfz36_1 hfz36_2 hfz36_3
  try clear hcz40_0 hcz40_1 hcz40_2 hcz40_3 hfz40_0 hfz40_1 hfz40_2 hfz40_3
  try clear hcz42_0 hcz42_1 hcz42_2 hcz42_3 hfz42_0 hfz42_1 hfz42_2 hfz42_3
  try clear hcz9_0 hcz9_1 hcz9_2 hcz9_3 hfz9_0 hfz9_1 hfz9_2 hfz9_3
  obtain ⟨kq, x47_5, rfl, HA, HJ5, HO_692003, HO_700003, HO_708003, BK691, BK699, BK707, HB⟩ := hcut
  cases kq with
  | zero => exact absurd HA.out (by simp [laws_FnDiffuseFlat.j0])
  | succ kj5 =>
   have H := HA.out
   clear HA
   simp only [laws_FnDiffuseFlat.j0] at H
   by_cases c44 : x47_5 = true
   ·subst c44
    have H1 : ((laws_equalImage.f kj5 t692 t693 t694 t695 t700 t701 t702 t703).bind fun t709 => (if t709 = true then (some (t698 == t706)) else (some false))) = some r := by rw [if_pos rfl] at H; exact H
    clear H
    have H := H1
    clear H1
    replace H := Option.bind_eq_some_iff.mp H
    obtain ⟨t709, A450, H⟩ := H
    replace H : (if t709 = true then (some (t698 == t706)) else (some false)) = some r := H
    have A45 := aM A450
    clear A450
    by_cases c46 : t709 = true
    rotate_left
    ·replace c46 := Bool.eq_false_iff.mpr c46
     subst c46
     have H1 : (some false) = some r := by rw [if_neg (show ¬ (false = true) by decide)] at H; exact H
     clear H
     have H := H1
     clear H1
     obtain rfl := Option.some.inj H
     exact absurd hrt (by decide)
    subst c46
    have H1 : (some (t698 == t706)) = some r := by rw [if_pos rfl] at H; exact H
    clear H
    have H := H1
    clear H1
    obtain rfl := Option.some.inj H
    have hnb47 := NB699_691.out
    have hnc47 := NB691_699.out
    have hnb48 := NB699_707.out
    have hnc48 := NB707_699.out
    obtain ⟨⟨hcz49_0, hcz49_1, hcz49_2, hcz49_3⟩, hfz49_0, hfz49_1, hfz49_2, hfz49_3⟩ := cf4 BK699
    have hnb50 := NB707_691.out
    have hnc50 := NB691_707.out
    obtain ⟨⟨hcz51_0, hcz51_1, hcz51_2, hcz51_3⟩, hfz51_0, hfz51_1, hfz51_2, hfz51_3⟩ := cf4 BK707
    go_wp2_with (first | ((with_reducible refine gate_callee (f := 15) rfl ?_); refine gL (some 50) Try.func15 #[.agg #[.int .i64 t692, .int .i64 t693, .int .i64 t694, .slice Ao15 t695.length co15], .agg #[.int .i64 t700, .int .i64 t701, .int .i64 t702, .slice Ao22 t703.length co22]] ?_; (with_reducible refine (laws_equalImage.calls kj5 t692 t693 t694 _ _ t695 t700 t701 t702 _ _ t703 true _ ?side1 ?side2 ?side3 ?side4 A45.out).mono ?_); (case side1 => exact qC (Kd.Q_reads' HO_700003.out).2.2); (case side2 => exact (Kd.Q_reads' HO_700003.out).2.1); (case side3 => exact qC (Kd.Q_reads' HO_708003.out).2.2); (case side4 => exact (Kd.Q_reads' HO_708003.out).2.1); rintro e w52 ⟨rfl, hb⟩; refine ⟨_, rfl, ?_⟩; replace HO_692003 := aM (Kd.Q_below (qQ HO_692003.out) hb); replace HO_700003 := aM (Kd.Q_below (qQ HO_700003.out) hb); replace HO_708003 := aM (Kd.Q_below (qQ HO_708003.out) hb); replace BK691 := bB BK691 hb; replace BK699 := bB BK699 hb; replace BK707 := bB BK707 hb; replace HB := bS HB hb; clear hb))
    go_ret
    exact ⟨qX, by exact qW HB.out⟩
   replace c44 := Bool.eq_false_iff.mpr c44
   subst c44
   have H1 : (laws_FnDiffuseFlat.l0 kj5 t690 0 t684 t685 t686 t687) = some r := by rw [if_neg (show ¬ (false = true) by decide)] at H; exact H
   clear H
   have H := H1
   clear H1
   have H' := aM H
   clear H
   go_wp2
   go_loopg [9] kj5 (fun kq v9 w' => ∃ (x9_2 : Int), v9 = .int .i64 x9_2 ∧ Aside0 (laws_FnDiffuseFlat.l0 kq t690 x9_2 t684 t685 t686 t687 = some r) ∧ Aside0 (kq ≤ kj5) ∧ Aside0 (Kd.Q (Kd.int .i64) 3 w' w.heap.size (fun k_ => some k_ ≠ ((.slice Ao15 t695.length co15) : Value).ownBlock ∧ some k_ ≠ ((.slice Ao22 t703.length co22) : Value).ownBlock) (.slice Ao10 t687.length co10) t687) ∧ Aside0 (Kd.Q (Kd.int .i64) 3 w' w.heap.size (fun k_ => some k_ ≠ ((.slice Ao10 t687.length co10) : Value).ownBlock ∧ some k_ ≠ ((.slice Ao22 t703.length co22) : Value).ownBlock) (.slice Ao15 t695.length co15) t695) ∧ Aside0 (Kd.Q (Kd.int .i64) 3 w' w.heap.size (fun k_ => some k_ ≠ ((.slice Ao10 t687.length co10) : Value).ownBlock ∧ some k_ ≠ ((.slice Ao15 t695.length co15) : Value).ownBlock) (.slice Ao22 t703.length co22) t703) ∧ Aside0 (w'.heap[gb691]? = some (.cells #[.int .i64 t684, .int .i64 t685, .int .i64 t686, (.slice Ao10 t687.length co10)] 27 (0, 0))) ∧ Aside0 (w'.heap[gb699]? = some (.cells #[.int .i64 t692, .int .i64 t693, .int .i64 t694, (.slice Ao15 t695.length co15)] 27 (0, 0))) ∧ Aside0 (w'.heap[gb707]? = some (.cells #[.int .i64 t700, .int .i64 t701, .int .i64 t702, (.slice Ao22 t703.length co22)] 27 (0, 0))) ∧ Aside0 (Below w.heap.size w w'))
   case atStart => exact ⟨(0), qE, H', ⟨Nat.le_refl _⟩, ⟨by (with_reducible repeat (first | apply Kd.Q_alloc | apply Kd.Q_drewN | apply Kd.Q_drew)); exact HO_692003.out⟩, ⟨by (with_reducible repeat (first | apply Kd.Q_alloc | apply Kd.Q_drewN | apply Kd.Q_drew)); exact HO_700003.out⟩, ⟨by (with_reducible repeat (first | apply Kd.Q_alloc | apply Kd.Q_drewN | apply Kd.Q_drew)); exact HO_708003.out⟩, ⟨by refine qB ?_; exact BK691.out⟩, ⟨by refine qB ?_; exact BK699.out⟩, ⟨by refine qB ?_; exact BK707.out⟩, ⟨by exact qW HB.out⟩⟩
   case round =>
    clear H'
    try clear c2
    try clear c2b0
    try clear c2b1
    try clear c24
    try clear c25
    try clear c25b0
    try clear c25b1
    try clear c25b2
    try clear c44
    try clear c46
    try clear hcz14_0 hcz14_1 hcz14_2 hcz14_3 hfz14_0 hfz14_1 hfz14_2 hfz14_3
    try clear hcz16_0 hcz16_1 hcz16_2 hcz16_3 hfz16_0 hfz16_1 hfz16_2 hfz16_3
    try clear hcz21_0 hcz21_1 hcz21_2 hcz21_3 hfz21_0 hfz21_1 hfz21_2 hfz21_3
    try clear hcz28_0 hcz28_1 hcz28_2 hcz28_3 hfz28_0 hfz28_1 hfz28_2 hfz28_3
    try clear hcz30_0 hcz30_1 hcz30_2 hcz30_3 hfz30_0 hfz30_1 hfz30_2 hfz30_3
    try clear hcz34_0 hcz34_1 hcz34_2 hcz34_3 hfz34_0 hfz34_1 hfz34_2 hfz34_3
    try clear hcz36_0 hcz36_1 hcz36_2 hcz36_3 hfz36_0 hfz36_1 hfz36_2 hfz36_3
    try clear hcz40_0 hcz40_1 hcz40_2 hcz40_3 hfz40_0 hfz40_1 hfz40_2 hfz40_3
    try clear hcz42_0 hcz42_1 hcz42_2 hcz42_3 hfz42_0 hfz42_1 hfz42_2 hfz42_3
    try clear hcz49_0 hcz49_1 hcz49_2 hcz49_3 hfz49_0 hfz49_1 hfz49_2 hfz49_3
    try clear hcz51_0 hcz51_1 hcz51_2 hcz51_3 hfz51_0 hfz51_1 hfz51_2 hfz51_3
    try clear hcz9_0 hcz9_1 hcz9_2 hcz9_3 hfz9_0 hfz9_1 hfz9_2 hfz9_3
    obtain ⟨x9_2, rfl, HA, HK2, HO_692003, HO_700003, HO_708003, BK691, BK699, BK707, HB⟩ := hrel
    cases gk with
    | zero => exact absurd HA.out (by simp [laws_FnDiffuseFlat.l0])
    | succ k2 =>
     have H := HA.out
     clear HA
     simp only [laws_FnDiffuseFlat.l0] at H
     by_cases c59 : x9_2 ≤ 255
     rotate_left
     ·rw [if_neg c59] at H
      have c59b0 : decide (x9_2 ≤ 255) = false := decide_eq_false c59
      clear c59
      obtain rfl := Option.some.inj H
      go_wp2
      go_ret
      exact ⟨qX, by exact qW HB.out⟩
     rw [if_pos c59] at H
     have c59b0 : decide (x9_2 ≤ 255) = true := decide_eq_true c59
     clear c59
     obtain ⟨y710, hy710⟩ : ∃ y_ : List Int, y_ = (([x9_2] : List Int)) := ⟨_, rfl⟩
     replace H : ((impl_FillImage.f k2 t684 t685 y710).bind fun bt713 => ((impl_DiffuseImage.f k2 bt713.1 bt713.2.1 bt713.2.2.1 bt713.2.2.2 t690).bind fun bt720 => ((impl_OrderImage.f bt713.1 bt713.2.1 bt713.2.2.1 bt713.2.2.2 t690).bind fun bt728 => (if bt720.2.2.2.2 = true then (if bt728.2.2.2.2 = true then ((laws_equalImage.f k2 bt720.1 bt720.2.1 bt720.2.2.1 bt720.2.2.2.1 bt713.1 bt713.2.1 bt713.2.2.1 bt713.2.2.2).bind fun t736 => (if t736 = true then ((laws_equalImage.f k2 bt728.1 bt728.2.1 bt728.2.2.1 bt728.2.2.2.1 bt713.1 bt713.2.1 bt713.2.2.1 bt713.2.2.2).bind fun t737 => (if t737 = true then (laws_FnDiffuseFlat.l0 k2 t690 (wrap64 (x9_2 + 255)) t684 t685 t686 t687) else (some false))) else (some false))) else (some false)) else (some false))))) = some r := rY hy710 H
     have Ny710 := aM hy710
     clear hy710
     replace H := Option.bind_eq_some_iff.mp H
     obtain ⟨⟨t713, t714, t715, t716⟩, A600, H⟩ := H
     replace H : ((impl_DiffuseImage.f k2 t713 t714 t715 t716 t690).bind fun bt720 => ((impl_OrderImage.f t713 t714 t715 t716 t690).bind fun bt728 => (if bt720.2.2.2.2 = true then (if bt728.2.2.2.2 = true then ((laws_equalImage.f k2 bt720.1 bt720.2.1 bt720.2.2.1 bt720.2.2.2.1 t713 t714 t715 t716).bind fun t736 => (if t736 = true then ((laws_equalImage.f k2 bt728.1 bt728.2.1 bt728.2.2.1 bt728.2.2.2.1 t713 t714 t715 t716).bind fun t737 => (if t737 = true then (laws_FnDiffuseFlat.l0 k2 t690 (wrap64 (x9_2 + 255)) t684 t685 t686 t687) else (some false))) else (some false))) else (some false)) else (some false)))) = some r := H
     have A60 := aM A600
     clear A600
     replace H := Option.bind_eq_some_iff.mp H
     obtain ⟨⟨t720, t721, t722, t723, t726⟩, A610, H⟩ := H
     replace H : ((impl_OrderImage.f t713 t714 t715 t716 t690).bind fun bt728 => (if t726 = true then (if bt728.2.2.2.2 = true then ((laws_equalImage.f k2 t720 t721 t722 t723 t713 t714 t715 t716).bind fun t736 => (if t736 = true then ((laws_equalImage.f k2 bt728.1 bt728.2.1 bt728.2.2.1 bt728.2.2.2.1 t713 t714 t715 t716).bind fun t737 => (if t737 = true then (laws_FnDiffuseFlat.l0 k2 t690 (wrap64 (x9_2 + 255)) t684 t685 t686 t687) else (some false))) else (some false))) else (some false)) else (some false))) = some r := H
     have A61 := aM A610
     clear A610
     replace H := Option.bind_eq_some_iff.mp H
     obtain ⟨⟨t728, t729, t730, t731, t734⟩, A620, H⟩ := H
     replace H : (if t726 = true then (if t734 = true then ((laws_equalImage.f k2 t720 t721 t722 t723 t713 t714 t715 t716).bind fun t736 => (if t736 = true then ((laws_equalImage.f k2 t728 t729 t730 t731 t713 t714 t715 t716).bind fun t737 => (if t737 = true then (laws_FnDiffuseFlat.l0 k2 t690 (wrap64 (x9_2 + 255)) t684 t685 t686 t687) else (some false))) else (some false))) else (some false)) else (some false)) = some r := H
     have A62 := aM A620
     clear A620
     by_cases c63 : t726 = true
     rotate_left
     ·replace c63 := Bool.eq_false_iff.mpr c63
      subst c63
      have H1 : (some false) = some r := by rw [if_neg (show ¬ (false = true) by decide)] at H; exact H
      clear H
      have H := H1
      clear H1
      obtain rfl := Option.some.inj H
      exact absurd hrt (by decide)
     subst c63
     have H1 : (if t734 = true then ((laws_equalImage.f k2 t720 t721 t722 t723 t713 t714 t715 t716).bind fun t736 => (if t736 = true then ((laws_equalImage.f k2 t728 t729 t730 t731 t713 t714 t715 t716).bind fun t737 => (if t737 = true then (laws_FnDiffuseFlat.l0 k2 t690 (wrap64 (x9_2 + 255)) t684 t685 t686 t687) else (some false))) else (some false))) else (some false)) = some r := by rw [if_pos rfl] at H; exact H
     clear H
     have H := H1
     clear H1
     by_cases c64 : t734 = true
     rotate_left
     ·replace c64 := Bool.eq_false_iff.mpr c64
      subst c64
      have H1 : (some false) = some r := by rw [if_neg (show ¬ (false = true) by decide)] at H; exact H
      clear H
      have H := H1
      clear H1
      obtain rfl := Option.some.inj H
      exact absurd hrt (by decide)
     subst c64
     have H1 : ((laws_equalImage.f k2 t720 t721 t722 t723 t713 t714 t715 t716).bind fun t736 => (if t736 = true then ((laws_equalImage.f k2 t728 t729 t730 t731 t713 t714 t715 t716).bind fun t737 => (if t737 = true then (laws_FnDiffuseFlat.l0 k2 t690 (wrap64 (x9_2 + 255)) t684 t685 t686 t687) else (some false))) else (some false))) = some r := by rw [if_pos rfl] at H; exact H
     clear H
     have H := H1
     clear H1
     replace H := Option.bind_eq_some_iff.mp H
     obtain ⟨t736, A650, H⟩ := H
     replace H : (if t736 = true then ((laws_equalImage.f k2 t728 t729 t730 t731 t713 t714 t715 t716).bind fun t737 => (if t737 = true then (laws_FnDiffuseFlat.l0 k2 t690 (wrap64 (x9_2 + 255)) t684 t685 t686 t687) else (some false))) else (some false)) = some r := H
     have A65 := aM A650
     clear A650
     by_cases c66 : t736 = true
     rotate_left
     ·replace c66 := Bool.eq_false_iff.mpr c66
      subst c66
      have H1 : (some false) = some r := by rw [if_neg (show ¬ (false = true) by decide)] at H; exact H
      clear H
      have H := H1
      clear H1
      obtain rfl := Option.some.inj H
      exact absurd hrt (by decide)
     subst c66
     have H1 : ((laws_equalImage.f k2 t728 t729 t730 t731 t713 t714 t715 t716).bind fun t737 => (if t737 = true then (laws_FnDiffuseFlat.l0 k2 t690 (wrap64 (x9_2 + 255)) t684 t685 t686 t687) else (some false))) = some r := by rw [if_pos rfl] at H; exact H
     clear H
     have H := H1
     clear H1
     replace H := Option.bind_eq_some_iff.mp H
     obtain ⟨t737, A670, H⟩ := H
     replace H : (if t737 = true then (laws_FnDiffuseFlat.l0 k2 t690 (wrap64 (x9_2 + 255)) t684 t685 t686 t687) else (some false)) = some r := H
     have A67 := aM A670
     clear A670
     by_cases c68 : t737 = true
     rotate_left
     ·replace c68 := Bool.eq_false_iff.mpr c68
      subst c68
      have H1 : (some false) = some r := by rw [if_neg (show ¬ (false = true) by decide)] at H; exact H
      clear H
      have H := H1
      clear H1
      obtain rfl := Option.some.inj H
      exact absurd hrt (by decide)
     subst c68
     have H1 : (laws_FnDiffuseFlat.l0 k2 t690 (wrap64 (x9_2 + 255)) t684 t685 t686 t687) = some r := by rw [if_pos rfl] at H; exact H
     clear H
     have H := H1
     clear H1
     have H' := aM H
     clear H
     have hnb69 := NB691_699.out
     have hnc69 := NB699_691.out
     have hnb70 := NB691_707.out
     have hnc70 := NB707_691.out
     obtain ⟨⟨hcz71_0, hcz71_1, hcz71_2, hcz71_3⟩, hfz71_0, hfz71_1, hfz71_2, hfz71_3⟩ := cf4 BK691
     go_wp2_with (first | ((with_reducible refine gate_dst (N := 65) rfl ?_); refine iL ([x9_2] : List Int) [.int .i64 x9_2] ?_; intro v711 w72 ho73 hb hg_ hnew_; clear hg_ hnew_; (first | rw [← Ny710.out] at ho73 | (simp only [Int.reduceToNat] at ho73; rw [← Ny710.out] at ho73)); have HO712 := aM (Kd.R_lower (Kd.R_new' (Kd.R_new' (Kd.R_new' ho73 (Kd.Q_lt (qQ HO_692003.out))) (Kd.Q_lt (qQ HO_700003.out))) (Kd.Q_lt (qQ HO_708003.out))) (below_size (qW HB.out))); replace HO_692003 := aM (Kd.Q_elder' (qQ HO_692003.out) (Kd.R_base ho73) hb); replace HO_700003 := aM (Kd.Q_elder' (qQ HO_700003.out) (Kd.R_base ho73) hb); replace HO_708003 := aM (Kd.Q_elder' (qQ HO_708003.out) (Kd.R_base ho73) hb); replace BK691 := bB BK691 hb; replace BK699 := bB BK699 hb; replace BK707 := bB BK707 hb; replace HB := bS HB hb; clear hb ho73; obtain ⟨Ao74, co74, rfl⟩ := sL HO712) | ((with_reducible refine gate_callee (f := 31) rfl ?_); refine gL (some 66) Try.func31 #[.int .i64 t684, .int .i64 t685, .slice Ao74 y710.length co74] ?_; (with_reducible refine (impl_FillImage.calls k2 t684 t685 _ _ y710 t713 t714 t715 t716 _ ?side1 ?side2 A60.out).mono ?_); (case side1 => exact qC (Kd.R_reads' HO712.out).2.2); (case side2 => exact (Kd.R_reads' HO712.out).2.1); rintro e w75 ⟨v717, rfl, ho0, hb⟩; refine ⟨_, rfl, ?_⟩; have HO718 := aM (Kd.R_lower (Kd.R_new' (Kd.R_new' (Kd.R_new' (Kd.R_new' ho0 (Kd.Q_lt (qQ HO_692003.out))) (Kd.Q_lt (qQ HO_700003.out))) (Kd.Q_lt (qQ HO_708003.out))) (Kd.R_lt (qR HO712.out))) (below_size (qW HB.out))); replace HO_692003 := aM (Kd.Q_elder' (qQ HO_692003.out) (Kd.R_base ho0) hb); replace HO_700003 := aM (Kd.Q_elder' (qQ HO_700003.out) (Kd.R_base ho0) hb); replace HO_708003 := aM (Kd.Q_elder' (qQ HO_708003.out) (Kd.R_base ho0) hb); replace HO712 := aM (Kd.R_elder' (qR HO712.out) (Kd.R_base ho0) hb); replace BK691 := bB BK691 hb; replace BK699 := bB BK699 hb; replace BK707 := bB BK707 hb; replace HB := bS HB hb; clear hb ho0) | ((with_reducible refine gate_dst (N := 10) rfl ?_); refine bxE (N := 10) (cs := #[.int .i64 0, .int .i64 0, .int .i64 0, .slice none 0 0]) (t := 27) ?_; intro gb719 hg w76 hbox hb; replace HO_692003 := aM (Kd.Q_below (qQ HO_692003.out) hb); replace HO_700003 := aM (Kd.Q_below (qQ HO_700003.out) hb); replace HO_708003 := aM (Kd.Q_below (qQ HO_708003.out) hb); replace HO712 := aM (Kd.R_below (qR HO712.out) hb); replace HO718 := aM (Kd.R_below (qR HO718.out) hb); have BK719 := aM (hbox); have GW719 := gW hg HB; have GE719 := gW hg HB; replace HB := bS HB hb; have NB691_719 := nL hg BK691; have NB719_691 := nG hg BK691; replace BK691 := bB BK691 hb; have NB699_719 := nL hg BK699; have NB719_699 := nG hg BK699; replace BK699 := bB BK699 hb; have NB707_719 := nL hg BK707; have NB719_707 := nG hg BK707; replace BK707 := bB BK707 hb; clear hb hbox hg; have hnb77 := NB719_691.out; have hnc77 := NB691_719.out; have hnb78 := NB719_699.out; have hnc78 := NB699_719.out; have hnb79 := NB719_707.out; have hnc79 := NB707_719.out; obtain ⟨⟨hcz80_0, hcz80_1, hcz80_2, hcz80_3⟩, hfz80_0, hfz80_1, hfz80_2, hfz80_3⟩ := cf4 BK719; obtain ⟨Ao81, co81, rfl⟩ := sL HO718) | ((with_reducible refine gate_callee (f := 28) rfl ?_); refine gL (some 70) Try.func28 #[.agg #[.int .i64 t713, .int .i64 t714, .int .i64 t715, .slice Ao81 t716.length co81], .int .i64 t690] ?_; (with_reducible refine (impl_DiffuseImage.calls k2 t713 t714 t715 _ _ t716 t690 t720 t721 t722 t723 true _ ?side1 ?side2 A61.out).mono ?_); (case side1 => refine (Kd.R_reads' (e := 3) (base := w.heap.size) (ok := fun k_ => ((((True ∧ some k_ ≠ (.slice Ao10 t687.length co10 : Value).ownBlock) ∧ some k_ ≠ (.slice Ao15 t695.length co15 : Value).ownBlock) ∧ some k_ ≠ (.slice Ao22 t703.length co22 : Value).ownBlock) ∧ some k_ ≠ (.slice Ao74 y710.length co74 : Value).ownBlock)) (n := t716.length) (c := co81) ?_).2.2; exact (by refine qR ?_; exact (fr4 HO718 BK719))); (case side2 => exact (Kd.R_reads' HO718.out).2.1); rintro e w82 ⟨v724, rfl, ho0, hb⟩; refine ⟨_, rfl, ?_⟩; have HO725 := aM (Kd.R_lower (Kd.R_new' (Kd.R_new' (Kd.R_new' (Kd.R_new' (Kd.R_new' ho0 (Kd.Q_lt (by (with_reducible repeat (first | apply Kd.Q_alloc | apply Kd.Q_drewN | apply Kd.Q_drew)); exact (Kd.Q_mono (qT HO_692003 BK719) (fun _ h_ => h_.1))))) (Kd.Q_lt (by (with_reducible repeat (first | apply Kd.Q_alloc | apply Kd.Q_drewN | apply Kd.Q_drew)); exact (Kd.Q_mono (qT HO_700003 BK719) (fun _ h_ => h_.1))))) (Kd.Q_lt (by (with_reducible repeat (first | apply Kd.Q_alloc | apply Kd.Q_drewN | apply Kd.Q_drew)); exact (Kd.Q_mono (qT HO_708003 BK719) (fun _ h_ => h_.1))))) (Kd.R_lt (by refine qR ?_; exact (fr4 HO712 BK719)))) (Kd.R_lt (by refine qR ?_; exact (fr4 HO718 BK719)))) (below_size (qW HB.out))); replace HO_692003 := aM (Kd.Q_elder' (by (with_reducible repeat (first | apply Kd.Q_alloc | apply Kd.Q_drewN | apply Kd.Q_drew)); exact (Kd.Q_mono (qT HO_692003 BK719) (fun _ h_ => h_.1))) (Kd.R_base ho0) hb); replace HO_700003 := aM (Kd.Q_elder' (by (with_reducible repeat (first | apply Kd.Q_alloc | apply Kd.Q_drewN | apply Kd.Q_drew)); exact (Kd.Q_mono (qT HO_700003 BK719) (fun _ h_ => h_.1))) (Kd.R_base ho0) hb); replace HO_708003 := aM (Kd.Q_elder' (by (with_reducible repeat (first | apply Kd.Q_alloc | apply Kd.Q_drewN | apply Kd.Q_drew)); exact (Kd.Q_mono (qT HO_708003 BK719) (fun _ h_ => h_.1))) (Kd.R_base ho0) hb); replace HO712 := aM (Kd.R_elder' (by refine qR ?_; exact (fr4 HO712 BK719)) (Kd.R_base ho0) hb); replace HO718 := aM (Kd.R_elder' (by refine qR ?_; exact (fr4 HO718 BK719)) (Kd.R_base ho0) hb); replace BK691 := aM (blk_below (g := gb691) (o := .cells #[.int .i64 t684, .int .i64 t685, .int .i64 t686, .slice Ao10 t687.length co10] 27 (0, 0)) (by refine qB ?_; refine blk_far ?_ NB691_719.out _; refine qB ?_; refine blk_far ?_ NB691_719.out _; refine qB ?_; refine blk_far ?_ NB691_719.out _; refine qB ?_; refine blk_far ?_ NB691_719.out _; refine qB ?_; exact BK691.out) hb); replace BK699 := aM (blk_below (g := gb699) (o := .cells #[.int .i64 t692, .int .i64 t693, .int .i64 t694, .slice Ao15 t695.length co15] 27 (0, 0)) (by refine qB ?_; refine blk_far ?_ NB699_719.out _; refine qB ?_; refine blk_far ?_ NB699_719.out _; refine qB ?_; refine blk_far ?_ NB699_719.out _; refine qB ?_; refine blk_far ?_ NB699_719.out _; refine qB ?_; exact BK699.out) hb); replace BK707 := aM (blk_below (g := gb707) (o := .cells #[.int .i64 t700, .int .i64 t701, .int .i64 t702, .slice Ao22 t703.length co22] 27 (0, 0)) (by refine qB ?_; refine blk_far ?_ NB707_719.out _; refine qB ?_; refine blk_far ?_ NB707_719.out _; refine qB ?_; refine blk_far ?_ NB707_719.out _; refine qB ?_; refine blk_far ?_ NB707_719.out _; refine qB ?_; exact BK707.out) hb); replace BK719 := aM (blk_below (g := gb719) (o := .cells #[.int .i64 t713, .int .i64 t714, .int .i64 t715, .slice Ao81 t716.length co81] 27 (0, 0)) (by exact bP BK719.out) hb); replace HB := bS HB hb; clear hb ho0) | ((with_reducible refine gate_dst (N := 11) rfl ?_); refine bxE (N := 11) (cs := #[.int .i64 0, .int .i64 0, .int .i64 0, .slice none 0 0]) (t := 27) ?_; intro gb727 hg w83 hbox hb; replace HO_692003 := aM (Kd.Q_below (qQ HO_692003.out) hb); replace HO_700003 := aM (Kd.Q_below (qQ HO_700003.out) hb); replace HO_708003 := aM (Kd.Q_below (qQ HO_708003.out) hb); replace HO712 := aM (Kd.R_below (qR HO712.out) hb); replace HO718 := aM (Kd.R_below (qR HO718.out) hb); replace HO725 := aM (Kd.R_below (qR HO725.out) hb); have BK727 := aM (hbox); have GW727 := gW hg HB; have GE727 := gW hg HB; replace HB := bS HB hb; have NB691_727 := nL hg BK691; have NB727_691 := nG hg BK691; replace BK691 := bB BK691 hb; have NB699_727 := nL hg BK699; have NB727_699 := nG hg BK699; replace BK699 := bB BK699 hb; have NB707_727 := nL hg BK707; have NB727_707 := nG hg BK707; replace BK707 := bB BK707 hb; have NB719_727 := nL hg BK719; have NB727_719 := nG hg BK719; replace BK719 := bB BK719 hb; clear hb hbox hg; have hnb84 := NB727_691.out; have hnc84 := NB691_727.out; have hnb85 := NB727_699.out; have hnc85 := NB699_727.out; have hnb86 := NB727_707.out; have hnc86 := NB707_727.out; have hnb87 := NB727_719.out; have hnc87 := NB719_727.out; obtain ⟨⟨hcz88_0, hcz88_1, hcz88_2, hcz88_3⟩, hfz88_0, hfz88_1, hfz88_2, hfz88_3⟩ := cf4 BK727; obtain ⟨Ao89, co89, rfl⟩ := sL HO725; obtain ⟨⟨hcz90_0, hcz90_1, hcz90_2, hcz90_3⟩, hfz90_0, hfz90_1, hfz90_2, hfz90_3⟩ := cf4 BK719) | ((with_reducible refine gate_callee (f := 21) rfl ?_); refine gL (some 76) Try.func21 #[.agg #[.int .i64 t713, .int .i64 t714, .int .i64 t715, .slice Ao81 t716.length co81], .int .i64 t690] ?_; (with_reducible refine (impl_OrderImage.calls t713 t714 t715 _ _ t716 t690 t728 t729 t730 t731 true _ ?side1 ?side2 A62.out).mono ?_); (case side1 => refine (Kd.R_reads' (e := 3) (base := w.heap.size) (ok := fun k_ => (((((True ∧ some k_ ≠ (.slice Ao10 t687.length co10 : Value).ownBlock) ∧ some k_ ≠ (.slice Ao15 t695.length co15 : Value).ownBlock) ∧ some k_ ≠ (.slice Ao22 t703.length co22 : Value).ownBlock) ∧ some k_ ≠ (.slice Ao74 y710.length co74 : Value).ownBlock) ∧ some k_ ≠ (.slice Ao89 t723.length co89 : Value).ownBlock)) (n := t716.length) (c := co81) ?_).2.2; exact (by refine qR ?_; exact (fr4 HO718 BK727))); (case side2 => exact (Kd.R_reads' HO718.out).2.1); rintro e w91 ⟨v732, rfl, ho0, hb⟩; refine ⟨_, rfl, ?_⟩; have HO733 := aM (Kd.R_lower (Kd.R_new' (Kd.R_new' (Kd.R_new' (Kd.R_new' (Kd.R_new' (Kd.R_new' ho0 (Kd.Q_lt (by (with_reducible repeat (first | apply Kd.Q_alloc | apply Kd.Q_drewN | apply Kd.Q_drew)); exact (Kd.Q_mono (qT HO_692003 BK727) (fun _ h_ => h_.1))))) (Kd.Q_lt (by (with_reducible repeat (first | apply Kd.Q_alloc | apply Kd.Q_drewN | apply Kd.Q_drew)); exact (Kd.Q_mono (qT HO_700003 BK727) (fun _ h_ => h_.1))))) (Kd.Q_lt (by (with_reducible repeat (first | apply Kd.Q_alloc | apply Kd.Q_drewN | apply Kd.Q_drew)); exact (Kd.Q_mono (qT HO_708003 BK727) (fun _ h_ => h_.1))))) (Kd.R_lt (by refine qR ?_; exact (fr4 HO712 BK727)))) (Kd.R_lt (by refine qR ?_; exact (fr4 HO718 BK727)))) (Kd.R_lt (by refine qR ?_; exact (fr4 HO725 BK727)))) (below_size (qW HB.out))); replace HO_692003 := aM (Kd.Q_elder' (by (with_reducible repeat (first | apply Kd.Q_alloc | apply Kd.Q_drewN | apply Kd.Q_drew)); exact (Kd.Q_mono (qT HO_692003 BK727) (fun _ h_ => h_.1))) (Kd.R_base ho0) hb); replace HO_700003 := aM (Kd.Q_elder' (by (with_reducible repeat (first | apply Kd.Q_alloc | apply Kd.Q_drewN | apply Kd.Q_drew)); exact (Kd.Q_mono (qT HO_700003 BK727) (fun _ h_ => h_.1))) (Kd.R_base ho0) hb); replace HO_708003 := aM (Kd.Q_elder' (by (with_reducible repeat (first | apply Kd.Q_alloc | apply Kd.Q_drewN | apply Kd.Q_drew)); exact (Kd.Q_mono (qT HO_708003 BK727) (fun _ h_ => h_.1))) (Kd.R_base ho0) hb); replace HO712 := aM (Kd.R_elder' (by refine qR ?_; exact (fr4 HO712 BK727)) (Kd.R_base ho0) hb); replace HO718 := aM (Kd.R_elder' (by refine qR ?_; exact (fr4 HO718 BK727)) (Kd.R_base ho0) hb); replace HO725 := aM (Kd.R_elder' (by refine qR ?_; exact (fr4 HO725 BK727)) (Kd.R_base ho0) hb); replace BK691 := aM (blk_below (g := gb691) (o := .cells #[.int .i64 t684, .int .i64 t685, .int .i64 t686, .slice Ao10 t687.length co10] 27 (0, 0)) (by refine qB ?_; refine blk_far ?_ NB691_727.out _; refine qB ?_; refine blk_far ?_ NB691_727.out _; refine qB ?_; refine blk_far ?_ NB691_727.out _; refine qB ?_; refine blk_far ?_ NB691_727.out _; refine qB ?_; exact BK691.out) hb); replace BK699 := aM (blk_below (g := gb699) (o := .cells #[.int .i64 t692, .int .i64 t693, .int .i64 t694, .slice Ao15 t695.length co15] 27 (0, 0)) (by refine qB ?_; refine blk_far ?_ NB699_727.out _; refine qB ?_; refine blk_far ?_ NB699_727.out _; refine qB ?_; refine blk_far ?_ NB699_727.out _; refine qB ?_; refine blk_far ?_ NB699_727.out _; refine qB ?_; exact BK699.out) hb); replace BK707 := aM (blk_below (g := gb707) (o := .cells #[.int .i64 t700, .int .i64 t701, .int .i64 t702, .slice Ao22 t703.length co22] 27 (0, 0)) (by refine qB ?_; refine blk_far ?_ NB707_727.out _; refine qB ?_; refine blk_far ?_ NB707_727.out _; refine qB ?_; refine blk_far ?_ NB707_727.out _; refine qB ?_; refine blk_far ?_ NB707_727.out _; refine qB ?_; exact BK707.out) hb); replace BK719 := aM (blk_below (g := gb719) (o := .cells #[.int .i64 t713, .int .i64 t714, .int .i64 t715, .slice Ao81 t716.length co81] 27 (0, 0)) (by refine qB ?_; refine blk_far ?_ NB719_727.out _; refine qB ?_; refine blk_far ?_ NB719_727.out _; refine qB ?_; refine blk_far ?_ NB719_727.out _; refine qB ?_; refine blk_far ?_ NB719_727.out _; refine qB ?_; exact BK719.out) hb); replace BK727 := aM (blk_below (g := gb727) (o := .cells #[.int .i64 t720, .int .i64 t721, .int .i64 t722, .slice Ao89 t723.length co89] 27 (0, 0)) (by exact bP BK727.out) hb); replace HB := bS HB hb; clear hb ho0) | ((with_reducible refine gate_dst (N := 13) rfl ?_); refine bxE (N := 13) (cs := #[.int .i64 0, .int .i64 0, .int .i64 0, .slice none 0 0]) (t := 27) ?_; intro gb735 hg w92 hbox hb; replace HO_692003 := aM (Kd.Q_below (qQ HO_692003.out) hb); replace HO_700003 := aM (Kd.Q_below (qQ HO_700003.out) hb); replace HO_708003 := aM (Kd.Q_below (qQ HO_708003.out) hb); replace HO712 := aM (Kd.R_below (qR HO712.out) hb); replace HO718 := aM (Kd.R_below (qR HO718.out) hb); replace HO725 := aM (Kd.R_below (qR HO725.out) hb); replace HO733 := aM (Kd.R_below (qR HO733.out) hb); have BK735 := aM (hbox); have GW735 := gW hg HB; have GE735 := gW hg HB; replace HB := bS HB hb; have NB691_735 := nL hg BK691; have NB735_691 := nG hg BK691; replace BK691 := bB BK691 hb; have NB699_735 := nL hg BK699; have NB735_699 := nG hg BK699; replace BK699 := bB BK699 hb; have NB707_735 := nL hg BK707; have NB735_707 := nG hg BK707; replace BK707 := bB BK707 hb; have NB719_735 := nL hg BK719; have NB735_719 := nG hg BK719; replace BK719 := bB BK719 hb; have NB727_735 := nL hg BK727; have NB735_727 := nG hg BK727; replace BK727 := bB BK727 hb; clear hb hbox hg; have hnb93 := NB735_691.out; have hnc93 := NB691_735.out; have hnb94 := NB735_699.out; have hnc94 := NB699_735.out; have hnb95 := NB735_707.out; have hnc95 := NB707_735.out; have hnb96 := NB735_719.out; have hnc96 := NB719_735.out; have hnb97 := NB735_727.out; have hnc97 := NB727_735.out; obtain ⟨⟨hcz98_0, hcz98_1, hcz98_2, hcz98_3⟩, hfz98_0, hfz98_1, hfz98_2, hfz98_3⟩ := cf4 BK735; obtain ⟨Ao99, co99, rfl⟩ := sL HO733; obtain ⟨⟨hcz100_0, hcz100_1, hcz100_2, hcz100_3⟩, hfz100_0, hfz100_1, hfz100_2, hfz100_3⟩ := cf4 BK727; obtain ⟨⟨hcz101_0, hcz101_1, hcz101_2, hcz101_3⟩, hfz101_0, hfz101_1, hfz101_2, hfz101_3⟩ := cf4 BK719) | (go_at_call 15; (with_reducible refine (laws_equalImage.calls k2 t720 t721 t722 _ _ t723 t713 t714 t715 _ _ t716 true _ ?side1 ?side2 ?side3 ?side4 A65.out).mono ?_); (case side1 => refine (Kd.R_reads' (e := 3) (base := w.heap.size) (ok := fun k_ => ((((((True ∧ some k_ ≠ (.slice Ao10 t687.length co10 : Value).ownBlock) ∧ some k_ ≠ (.slice Ao15 t695.length co15 : Value).ownBlock) ∧ some k_ ≠ (.slice Ao22 t703.length co22 : Value).ownBlock) ∧ some k_ ≠ (.slice Ao74 y710.length co74 : Value).ownBlock) ∧ some k_ ≠ (.slice Ao81 t716.length co81 : Value).ownBlock) ∧ some k_ ≠ (.slice Ao99 t731.length co99 : Value).ownBlock)) (n := t723.length) (c := co89) ?_).2.2; exact (by refine qR ?_; exact (fr4 HO725 BK735))); (case side2 => exact (Kd.R_reads' HO725.out).2.1); (case side3 => refine (Kd.R_reads' (e := 3) (base := w.heap.size) (ok := fun k_ => ((((((True ∧ some k_ ≠ (.slice Ao10 t687.length co10 : Value).ownBlock) ∧ some k_ ≠ (.slice Ao15 t695.length co15 : Value).ownBlock) ∧ some k_ ≠ (.slice Ao22 t703.length co22 : Value).ownBlock) ∧ some k_ ≠ (.slice Ao74 y710.length co74 : Value).ownBlock) ∧ some k_ ≠ (.slice Ao89 t723.length co89 : Value).ownBlock) ∧ some k_ ≠ (.slice Ao99 t731.length co99 : Value).ownBlock)) (n := t716.length) (c := co81) ?_).2.2; exact (by refine qR ?_; exact (fr4 HO718 BK735))); (case side4 => exact (Kd.R_reads' HO718.out).2.1); rintro e w102 ⟨rfl, hb⟩; replace HO_692003 := aM (Kd.Q_below (by (with_reducible repeat (first | apply Kd.Q_alloc | apply Kd.Q_drewN | apply Kd.Q_drew)); exact (Kd.Q_mono (qT HO_692003 BK735) (fun _ h_ => h_.1))) hb); replace HO_700003 := aM (Kd.Q_below (by (with_reducible repeat (first | apply Kd.Q_alloc | apply Kd.Q_drewN | apply Kd.Q_drew)); exact (Kd.Q_mono (qT HO_700003 BK735) (fun _ h_ => h_.1))) hb); replace HO_708003 := aM (Kd.Q_below (by (with_reducible repeat (first | apply Kd.Q_alloc | apply Kd.Q_drewN | apply Kd.Q_drew)); exact (Kd.Q_mono (qT HO_708003 BK735) (fun _ h_ => h_.1))) hb); replace HO712 := aM (Kd.R_below (by refine qR ?_; exact (fr4 HO712 BK735)) hb); replace HO718 := aM (Kd.R_below (by refine qR ?_; exact (fr4 HO718 BK735)) hb); replace HO725 := aM (Kd.R_below (by refine qR ?_; exact (fr4 HO725 BK735)) hb); replace HO733 := aM (Kd.R_below (by refine qR ?_; exact (fr4 HO733 BK735)) hb); replace BK691 := aM (blk_below (g := gb691) (o := .cells #[.int .i64 t684, .int .i64 t685, .int .i64 t686, .slice Ao10 t687.length co10] 27 (0, 0)) (by refine qB ?_; refine blk_far ?_ NB691_735.out _; refine qB ?_; refine blk_far ?_ NB691_735.out _; refine qB ?_; refine blk_far ?_ NB691_735.out _; refine qB ?_; refine blk_far ?_ NB691_735.out _; refine qB ?_; exact BK691.out) hb); replace BK699 := aM (blk_below (g := gb699) (o := .cells #[.int .i64 t692, .int .i64 t693, .int .i64 t694, .slice Ao15 t695.length co15] 27 (0, 0)) (by refine qB ?_; refine blk_far ?_ NB699_735.out _; refine qB ?_; refine blk_far ?_ NB699_735.out _; refine qB ?_; refine blk_far ?_ NB699_735.out _; refine qB ?_; refine blk_far ?_ NB699_735.out _; refine qB ?_; exact BK699.out) hb); replace BK707 := aM (blk_below (g := gb707) (o := .cells #[.int .i64 t700, .int .i64 t701, .int .i64 t702, .slice Ao22 t703.length co22] 27 (0, 0)) (by refine qB ?_; refine blk_far ?_ NB707_735.out _; refine qB ?_; refine blk_far ?_ NB707_735.out _; refine qB ?_; refine blk_far ?_ NB707_735.out _; refine qB ?_; refine blk_far ?_ NB707_735.out _; refine qB ?_; exact BK707.out) hb); replace BK719 := aM (blk_below (g := gb719) (o := .cells #[.int .i64 t713, .int .i64 t714, .int .i64 t715, .slice Ao81 t716.length co81] 27 (0, 0)) (by refine qB ?_; refine blk_far ?_ NB719_735.out _; refine qB ?_; refine blk_far ?_ NB719_735.out _; refine qB ?_; refine blk_far ?_ NB719_735.out _; refine qB ?_; refine blk_far ?_ NB719_735.out _; refine qB ?_; exact BK719.out) hb); replace BK727 := aM (blk_below (g := gb727) (o := .cells #[.int .i64 t720, .int .i64 t721, .int .i64 t722, .slice Ao89 t723.length co89] 27 (0, 0)) (by refine qB ?_; refine blk_far ?_ NB727_735.out _; refine qB ?_; refine blk_far ?_ NB727_735.out _; refine qB ?_; refine blk_far ?_ NB727_735.out _; refine qB ?_; refine blk_far ?_ NB727_735.out _; refine qB ?_; exact BK727.out) hb); replace BK735 := aM (blk_below (g := gb735) (o := .cells #[.int .i64 t728, .int .i64 t729, .int .i64 t730, .slice Ao99 t731.length co99] 27 (0, 0)) (by exact bP BK735.out) hb); replace HB := bS HB hb; clear hb; obtain ⟨⟨hcz103_0, hcz103_1, hcz103_2, hcz103_3⟩, hfz103_0, hfz103_1, hfz103_2, hfz103_3⟩ := cf4 BK735; obtain ⟨⟨hcz104_0, hcz104_1, hcz104_2, hcz104_3⟩, hfz104_0, hfz104_1, hfz104_2, hfz104_3⟩ := cf4 BK719) | (go_at_call 15; (with_reducible refine (laws_equalImage.calls k2 t728 t729 t730 _ _ t731 t713 t714 t715 _ _ t716 true _ ?side1 ?side2 ?side3 ?side4 A67.out).mono ?_); (case side1 => exact qC (Kd.R_reads' HO733.out).2.2); (case side2 => exact (Kd.R_reads' HO733.out).2.1); (case side3 => exact qC (Kd.R_reads' HO718.out).2.2); (case side4 => exact (Kd.R_reads' HO718.out).2.1); rintro e w105 ⟨rfl, hb⟩; replace HO_692003 := aM (Kd.Q_below (qQ HO_692003.out) hb); replace HO_700003 := aM (Kd.Q_below (qQ HO_700003.out) hb); replace HO_708003 := aM (Kd.Q_below (qQ HO_708003.out) hb); replace HO712 := aM (Kd.R_below (qR HO712.out) hb); replace HO718 := aM (Kd.R_below (qR HO718.out) hb); replace HO725 := aM (Kd.R_below (qR HO725.out) hb); replace HO733 := aM (Kd.R_below (qR HO733.out) hb); replace BK691 := bB BK691 hb; replace BK699 := bB BK699 hb; replace BK707 := bB BK707 hb; replace BK719 := bB BK719 hb; replace BK727 := bB BK727 hb; replace BK735 := bB BK735 hb; replace HB := bS HB hb; clear hb))
     go_roundg k2
     case measure => have := HJ5.out; have := HK2.out; omega
     case rel => exact ⟨(wrap64 (x9_2 + 255)), qE, H', ⟨by have := HJ5.out; have := HK2.out; omega⟩, ⟨by (with_reducible repeat (first | apply Kd.Q_alloc | apply Kd.Q_drewN | apply Kd.Q_drew)); exact Kd.Q_mono HO_692003.out (fun _ hk => by first | exact ⟨hk.1.1.1.1.1, hk.1.1.1.1.2⟩ | (revert hk; simp only [and_imp]; intros; and_intros <;> assumption))⟩, ⟨by (with_reducible repeat (first | apply Kd.Q_alloc | apply Kd.Q_drewN | apply Kd.Q_drew)); exact Kd.Q_mono HO_700003.out (fun _ hk => by first | exact ⟨hk.1.1.1.1.1, hk.1.1.1.1.2⟩ | (revert hk; simp only [and_imp]; intros; and_intros <;> assumption))⟩, ⟨by (with_reducible repeat (first | apply Kd.Q_alloc | apply Kd.Q_drewN | apply Kd.Q_drew)); exact Kd.Q_mono HO_708003.out (fun _ hk => by first | exact ⟨hk.1.1.1.1.1, hk.1.1.1.1.2⟩ | (revert hk; simp only [and_imp]; intros; and_intros <;> assumption))⟩, ⟨by refine qB ?_; exact BK691.out⟩, ⟨by refine qB ?_; exact BK699.out⟩, ⟨by refine qB ?_; exact BK707.out⟩, ⟨by exact qW HB.out⟩⟩
def laws_FnDiffuseFlat.Pure : Prop := ∀ (l0 : List Int), l0.length ≤ maxLen → l0.length * 1 ≤ 140737488351232 → (∀ x ∈ l0, (Lit.int .u8 x).wf = true) → ∃ k, laws_FnDiffuseFlat.f k l0 = some true
theorem laws_FnDiffuseFlat.walk (P : laws_FnDiffuseFlat.Pure) (a0 : Option Addr) (len0 cap0 : Nat) (z0 : List Int) (w : World) (w0 : (a0 = none ∧ len0 = 0 ∧ cap0 = 0 ∧ z0 = []) ∨ ∃ x, a0 = some x ∧ len0 ≤ cap0 ∧ cap0 ≤ maxLen ∧ z0.length = cap0 ∧ (∀ i, i < z0.length → w.cell? (x.add i) = some (.int .u8 (z0.getD i 0))) ∧ ∀ n ∈ z0, (Lit.int .u8 n).wf = true) (y0 : len0 * 1 ≤ 140737488351232) :
  Calls Try.prog 8 #[.slice a0 len0 cap0] w fun e w' => e = .returned (.bool true) ∧ Below w.heap.size w w' := by
 obtain ⟨l0, rfl, hr0, hm0, hw0, hc0⟩ := ReadsInt.ofRowC w0
 obtain ⟨k, h⟩ := P l0 hm0 y0 hw0
 refine (laws_FnDiffuseFlat.calls k _ _ l0 true w (Kd.C_of_reads (d := (0 : Int)) (h1 := fun _ => rfl) hr0) hc0 h rfl).mono ?_
 rintro e w' ⟨rfl, hd⟩
 exact ⟨rfl, hd⟩
end Go.Proofs.Yteeeedmmcdlhjaa.P
