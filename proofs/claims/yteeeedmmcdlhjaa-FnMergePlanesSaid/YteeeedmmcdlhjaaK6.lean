/- Contracts and row, written by a program of this place out of the translation: the call answers true and its argument reads as before, for every input; no condition. -/
import Derived.Test.YteeeedmmcdlhjaaK0
import Derived.Test.YteeeedmmcdlhjaaK1
import Derived.Test.YteeeedmmcdlhjaaK2
import Derived.Test.YteeeedmmcdlhjaaK3
import Derived.Test.YteeeedmmcdlhjaaK4
import Derived.Test.YteeeedmmcdlhjaaK5
namespace Go.Proofs.Yteeeedmmcdlhjaa.P
open Go.RowKit Go.Proofs.YteeeedmmcdlhjaaW.PrintWords Go.Proofs.YteeeedmmcdlhjaaW.PrintLast Go.Proofs.YteeeedmmcdlhjaaW.PrintMore
attribute [local go_sem] max2_int min2_int max_two min_two max_three min_three max_four min_four   -- for this text's walks alone
set_option linter.unusedVariables false
set_option linter.unusedSimpArgs false
def spec_anyPlanes.f (k : Nat) (s0_0 : List Int) (s0_1 : Int) : Option (Int × Int) := (spec_reader_one.f k s0_0 s0_1 (([1, 3, 1, 4, 2] : List Int))).bind fun bt197 => (some (bt197.1, bt197.2))
theorem spec_anyPlanes.mono : ∀ a0 a1 k, LeO (spec_anyPlanes.f k a0 a1) (spec_anyPlanes.f (k + 1) a0 a1) := by
 intro a0 a1 k
 unfold spec_anyPlanes.f
 repeat' first | (with_reducible first | exact spec_reader_one.mono _ _ _ _ | exact lR | exact lN | refine lI ?_ ?_ | refine lB ?_ fun _ => ?_) | exact spec_reader_one.mono _ _ _ _ | exact lN | refine lI ?_ ?_ | refine lB ?_ fun _ => ?_
set_option maxHeartbeats 8000000 in
set_option maxRecDepth 100000 in
theorem spec_anyPlanes.calls (k : Nat) (g : Nat) (s0_0 : List Int) (s0_1 : Int) (r1 : Int) (r2 : Int) (w0 w : World) (hI : IsS85 w0 w g s0_0 s0_1) (hB : Below w0.heap.size w0 w) (h : spec_anyPlanes.f k s0_0 s0_1 = some (r1, r2)) :
  Calls Try.prog 90 #[.pointer (some ⟨g, 0, none⟩)] w fun e w' => e = .returned (.int .i64 r1) ∧ IsS85 w0 w' g s0_0 r2 ∧ Below w0.heap.size w0 w' ∧ KeepBut w w' g none := by
 have HI0 := aM hI
 have HK := aM (KeepBut.refl w g none)
 have HL := aM hB.size
 clear hI
 have HW0 := aM hB.size
 have HB := aM hB
 clear hB
 unfold spec_anyPlanes.f at h
 have H := h
 clear h
 obtain ⟨y194, hy194⟩ : ∃ y_ : List Int, y_ = (([1, 3, 1, 4, 2] : List Int)) := ⟨_, rfl⟩
 replace H : ((spec_reader_one.f k s0_0 s0_1 y194).bind fun bt197 => (some (bt197.1, bt197.2))) = some (r1, r2) := rY hy194 H
 have Ny194 := aM hy194
 clear hy194
 replace H := Option.bind_eq_some_iff.mp H
 obtain ⟨⟨t197, t198⟩, A20, H⟩ := H
 replace H : (some (t197, t198)) = some (r1, r2) := H
 have A2 := aM A20
 clear A20
 simp only [Option.some.injEq, Prod.mk.injEq] at H
 obtain ⟨rfl, rfl⟩ := H
 go_enter Try.func90, Try.ntmps90
 go_wp2_with (first | ((with_reducible refine gate_dst (N := 4) rfl ?_); refine iL ([1, 3, 1, 4, 2] : List Int) [.int .i64 1, .int .i64 3, .int .i64 1, .int .i64 4, .int .i64 2] ?_; intro v195 w3 ho4 hb hg_ hnew_; clear hg_ hnew_; (first | rw [← Ny194.out] at ho4 | (simp only [Int.reduceToNat] at ho4; rw [← Ny194.out] at ho4)); have HO196 := lK ho4 HK; replace HK := aM (KeepBut.trans (kB HK.out) (KeepBut.of_below hb g none) (.inl rfl)); replace HB := aM (below_step (wS85 HB.out) hb); replace HI0 := aM (IsS85.below (iS85 HI0.out) hb); clear hb ho4; obtain ⟨Ao5, co5, rfl⟩ := sL HO196) | ((with_reducible refine gate_callee (f := 98) rfl ?_); refine gL (some 5) Try.func98 #[.pointer (some ⟨g, 0, none⟩), .slice Ao5 y194.length co5] ?_; (with_reducible refine (spec_reader_one.calls k g s0_0 s0_1 _ _ y194 t197 t198 w0 _ ?side1 ?side2 ?side3 ?side4 ?side5 A2.out).mono ?_); (case side1 => exact iS85 HI0.out); (case side2 => exact wS85 HB.out); (case side3 => exact qC (Kd.R_reads' HO196.out).2.2); (case side4 => exact (Kd.R_reads' HO196.out).2.1); (case side5 => exact far_slice (IsS85.own_ne HI0.out HO196.out (by decide))); rintro e w6 ⟨rfl, hi, hb, hk⟩; refine ⟨_, rfl, ?_⟩; replace HO196 := aM (Kd.R_mono (Kd.R_keep (IsS85.apart (show IsS85 w0 _ g s0_0 s0_1 from iS85 HI0.out) (qR HO196.out) (by decide)) hk (fun _ h => h.2)) (fun _ h => h.1)); replace HK := aM (KeepBut.trans (kB HK.out) hk (.inl rfl)); replace HB := aM (hb); replace HI0 := aM (hi); clear hb hk hi))
 go_ret
 exact ⟨qX, iS85 HI0.out, wS85 HB.out, kB HK.out⟩
def spec_anyImage.f (k : Nat) (s0_0 : List Int) (s0_1 : Int) : Option (Int × Int × Int × List Int × Int) := (spec_anyPlanes.f k s0_0 s0_1).bind fun bt200 => ((spec_randomImage.f k s0_0 bt200.2 bt200.1).bind fun bt202 => ((spec_spoilImage.f k s0_0 bt202.2.2.2.2 bt202.1 bt202.2.1 bt202.2.2.1 bt202.2.2.2.1).bind fun bt209 => (some (bt209.1, bt209.2.1, bt209.2.2.1, bt209.2.2.2.1, bt209.2.2.2.2))))
theorem spec_anyImage.mono : ∀ a0 a1 k, LeO (spec_anyImage.f k a0 a1) (spec_anyImage.f (k + 1) a0 a1) := by
 intro a0 a1 k
 unfold spec_anyImage.f
 repeat' first | (with_reducible first | exact spec_anyPlanes.mono _ _ _ | exact spec_randomImage.mono _ _ _ _ | exact spec_spoilImage.mono _ _ _ _ _ _ _ | exact lR | exact lN | refine lI ?_ ?_ | refine lB ?_ fun _ => ?_) | exact spec_anyPlanes.mono _ _ _ | exact spec_randomImage.mono _ _ _ _ | exact spec_spoilImage.mono _ _ _ _ _ _ _ | exact lN | refine lI ?_ ?_ | refine lB ?_ fun _ => ?_
set_option maxHeartbeats 8000000 in
set_option maxRecDepth 100000 in
theorem spec_anyImage.calls (k : Nat) (g : Nat) (s0_0 : List Int) (s0_1 : Int) (r1 : Int) (r2 : Int) (r3 : Int) (r4 : List Int) (r5 : Int) (w0 w : World) (hI : IsS85 w0 w g s0_0 s0_1) (hB : Below w0.heap.size w0 w) (h : spec_anyImage.f k s0_0 s0_1 = some (r1, r2, r3, r4, r5)) :
  Calls Try.prog 44 #[.pointer (some ⟨g, 0, none⟩)] w fun e w' => ∃ v3_ : Value, e = .returned (.agg #[.int .i64 r1, .int .i64 r2, .int .i64 r3, v3_]) ∧ Kd.Q (Kd.int .i64) 3 w' w.heap.size (fun _ => True) v3_ r4 ∧ IsS85 w0 w' g s0_0 r5 ∧ Below w0.heap.size w0 w' ∧ KeepBut w w' g none := by
 have hu27 := Try.underlying27
 have HI0 := aM hI
 have HK := aM (KeepBut.refl w g none)
 have HL := aM hB.size
 clear hI
 have HW0 := aM hB.size
 have HB := aM hB
 clear hB
 unfold spec_anyImage.f at h
 have H := h
 clear h
 replace H := Option.bind_eq_some_iff.mp H
 obtain ⟨⟨t200, t201⟩, A20, H⟩ := H
 replace H : ((spec_randomImage.f k s0_0 t201 t200).bind fun bt202 => ((spec_spoilImage.f k s0_0 bt202.2.2.2.2 bt202.1 bt202.2.1 bt202.2.2.1 bt202.2.2.2.1).bind fun bt209 => (some (bt209.1, bt209.2.1, bt209.2.2.1, bt209.2.2.2.1, bt209.2.2.2.2)))) = some (r1, r2, r3, r4, r5) := H
 have A2 := aM A20
 clear A20
 replace H := Option.bind_eq_some_iff.mp H
 obtain ⟨⟨t202, t203, t204, t205, t208⟩, A30, H⟩ := H
 replace H : ((spec_spoilImage.f k s0_0 t208 t202 t203 t204 t205).bind fun bt209 => (some (bt209.1, bt209.2.1, bt209.2.2.1, bt209.2.2.2.1, bt209.2.2.2.2))) = some (r1, r2, r3, r4, r5) := H
 have A3 := aM A30
 clear A30
 replace H := Option.bind_eq_some_iff.mp H
 obtain ⟨⟨t209, t210, t211, t212, t215⟩, A40, H⟩ := H
 replace H : (some (t209, t210, t211, t212, t215)) = some (r1, r2, r3, r4, r5) := H
 have A4 := aM A40
 clear A40
 simp only [Option.some.injEq, Prod.mk.injEq] at H
 obtain ⟨rfl, rfl, rfl, rfl, rfl⟩ := H
 go_enter Try.func44, Try.ntmps44
 go_wp2_with (first | ((with_reducible refine gate_dst (N := 2) rfl ?_); refine bxE (N := 2) (cs := #[.int .i64 0, .int .i64 0, .int .i64 0, .slice none 0 0]) (t := 27) ?_; intro gb199 hg w5 hbox hb; replace HB := aM (below_step (wS85 HB.out) hb); have BK199 := aM (hbox); have GW199 := aM ((by rw [hg]; exact (keep_size (w := w) (g := g) (row := none) (kB HK.out)) : w.heap.size ≤ gb199)); have GE199 := aM ((Nat.le_trans HW0.out (by rw [hg]; exact (keep_size (w := w) (g := g) (row := none) (kB HK.out)) : w.heap.size ≤ gb199) : w0.heap.size ≤ gb199)); replace HK := aM (KeepBut.trans (kB HK.out) (KeepBut.of_below hb g none) (.inl rfl)); have NB0_199 := aM ((by rw [hg]; exact Nat.ne_of_lt (IsS85.lt (show IsS85 w0 _ g s0_0 s0_1 from iS85 HI0.out)) : g ≠ gb199)); have NB199_0 := aM ((by rw [hg]; exact Nat.ne_of_gt (IsS85.lt (show IsS85 w0 _ g s0_0 s0_1 from iS85 HI0.out)) : gb199 ≠ g)); replace HI0 := aM (IsS85.below (iS85 HI0.out) hb); clear hb hbox hg) | ((with_reducible refine gate_callee (f := 90) rfl ?_); refine gL (some 6) Try.func90 #[.pointer (some ⟨g, 0, none⟩)] ?_; (with_reducible refine (spec_anyPlanes.calls k g s0_0 s0_1 t200 t201 w0 _ ?side1 ?side2 A2.out).mono ?_); (case side1 => exact iS85 HI0.out); (case side2 => exact wS85 HB.out); rintro e w6 ⟨rfl, hi, hb, hk⟩; refine ⟨_, rfl, ?_⟩; replace BK199 := bK hk BK199 NB199_0; replace HK := aM (KeepBut.trans (kB HK.out) hk (.inl rfl)); replace HB := aM (hb); replace HI0 := aM (hi); clear hb hk hi) | ((with_reducible refine gate_callee (f := 89) rfl ?_); refine gL (some 7) Try.func89 #[.pointer (some ⟨g, 0, none⟩), .int .i64 t200] ?_; (with_reducible refine (spec_randomImage.calls k g s0_0 t201 t200 t202 t203 t204 t205 t208 w0 _ ?side1 ?side2 A3.out).mono ?_); (case side1 => exact iS85 HI0.out); (case side2 => exact wS85 HB.out); rintro e w7 ⟨v206, rfl, ho0, hi, hb, hk⟩; refine ⟨_, rfl, ?_⟩; replace BK199 := bK hk BK199 NB199_0; have HO207 := lK ho0 HK; replace HK := aM (KeepBut.trans (kB HK.out) hk (.inl rfl)); replace HB := aM (hb); replace HI0 := aM (hi); clear hb hk hi ho0; obtain ⟨Ao8, co8, rfl⟩ := sL HO207) | ((with_reducible refine gate_callee (f := 88) rfl ?_); refine gL (some 8) Try.func88 #[.pointer (some ⟨g, 0, none⟩), .agg #[.int .i64 t202, .int .i64 t203, .int .i64 t204, .slice Ao8 t205.length co8]] ?_; (with_reducible refine (spec_spoilImage.calls k g s0_0 t208 t202 t203 t204 (fun k_ => some k_ = (.slice Ao8 t205.length co8 : Value).ownBlock) (.slice Ao8 t205.length co8) t205 t209 t210 t211 t212 t215 w0 _ ?side1 ?side2 ?side3 A4.out).mono ?_); (case side1 => exact iS85 HI0.out); (case side2 => exact wS85 HB.out); (case side3 => exact Kd.R_lower (Kd.R_tight rfl HO207.out) HL.out); rintro e w9 ⟨v213, rfl, ho0, hi, hb, hkp⟩; refine ⟨_, rfl, ?_⟩; replace HI0 := aM (hi); replace BK199 := aM (blk_kept (qB BK199.out) hkp (fun hs_ => Or.elim hs_ (fun hs_ => (fun e_ => (Kd.R_ne HO207.out BK199.out (by decide)) e_) hs_) (fun e_ => NB199_0.out e_))); have HO214 := aM (Kd.Q_mono (ok' := fun k_ => True) (Kd.Q_raise (d := (Kd.int .i64)) (b := w0.heap.size) (b' := w.heap.size) (fun _ _ _ _ h_ => h_) ho0 (fun k_ e_ => Or.elim (ho0.1 k_ e_) (fun hs_ => (fun e_ => Kd.R_base HO207.out k_ e_.symm) hs_) (fun hn_ => Nat.le_trans (keep_size (w := w) (g := g) (row := none) (kB HK.out)) hn_))) (fun k_ hk_ => trivial)); replace HK := aM (Kept.keepG (kB HK.out) hkp (fun k_ hs_ => Or.elim hs_ (fun hs_ => (fun e_ => .inr (Kd.R_base HO207.out k_ e_.symm)) hs_) (fun e_ => .inl e_))); replace HB := aM (hb); clear HO207; clear hb hkp ho0; have hnb10 := NB199_0.out; have hnc10 := NB0_199.out; obtain ⟨⟨hcz11_0, hcz11_1, hcz11_2, hcz11_3⟩, hfz11_0, hfz11_1, hfz11_2, hfz11_3⟩ := cf4 BK199; obtain ⟨Ao12, co12, eo12, _⟩ := Kd.Q_slice HO214.out; subst eo12))
 refine bodyPost_ret (results_cell_row rfl _ _ gb199 27 #[.int .i64 t209, .int .i64 t210, .int .i64 t211, .slice Ao12 t212.length co12] (0, 0) _ rfl (by exact bP BK199.out) Try.underlying27 rfl (by kernel_rfl)) rfl ?_
 exact ⟨_, qX, by (with_reducible repeat (first | apply Kd.Q_alloc | apply Kd.Q_drewN | apply Kd.Q_drew)); exact Kd.Q_mono (qT HO214 BK199) (fun _ hk => trivial), iS85 HI0.out, wS85 HB.out, kB HK.out⟩
def spec_grayImage.f (k : Nat) (s0_0 : List Int) (s0_1 : Int) : Option (Int × Int × Int × List Int × Int) := (spec_reader_pick.f k s0_0 s0_1 20).bind fun bt217 => (if bt217.1 = 0 then ((spec_anyImage.f k s0_0 bt217.2).bind fun bt219 => (some (bt219.1, bt219.2.1, bt219.2.2.1, bt219.2.2.2.1, bt219.2.2.2.2))) else ((spec_randomImage.f k s0_0 bt217.2 1).bind fun bt226 => ((spec_spoilImage.f k s0_0 bt226.2.2.2.2 bt226.1 bt226.2.1 bt226.2.2.1 bt226.2.2.2.1).bind fun bt233 => (some (bt233.1, bt233.2.1, bt233.2.2.1, bt233.2.2.2.1, bt233.2.2.2.2)))))
theorem spec_grayImage.mono : ∀ a0 a1 k, LeO (spec_grayImage.f k a0 a1) (spec_grayImage.f (k + 1) a0 a1) := by
 intro a0 a1 k
 unfold spec_grayImage.f
 repeat' first | (with_reducible first | exact spec_anyImage.mono _ _ _ | exact spec_randomImage.mono _ _ _ _ | exact spec_reader_pick.mono _ _ _ _ | exact spec_spoilImage.mono _ _ _ _ _ _ _ | exact lR | exact lN | refine lI ?_ ?_ | refine lB ?_ fun _ => ?_) | exact spec_anyImage.mono _ _ _ | exact spec_randomImage.mono _ _ _ _ | exact spec_reader_pick.mono _ _ _ _ | exact spec_spoilImage.mono _ _ _ _ _ _ _ | exact lN | refine lI ?_ ?_ | refine lB ?_ fun _ => ?_
set_option maxHeartbeats 8000000 in
set_option maxRecDepth 100000 in
theorem spec_grayImage.calls (k : Nat) (g : Nat) (s0_0 : List Int) (s0_1 : Int) (r1 : Int) (r2 : Int) (r3 : Int) (r4 : List Int) (r5 : Int) (w0 w : World) (hI : IsS85 w0 w g s0_0 s0_1) (hB : Below w0.heap.size w0 w) (h : spec_grayImage.f k s0_0 s0_1 = some (r1, r2, r3, r4, r5)) :
  Calls Try.prog 46 #[.pointer (some ⟨g, 0, none⟩)] w fun e w' => ∃ v3_ : Value, e = .returned (.agg #[.int .i64 r1, .int .i64 r2, .int .i64 r3, v3_]) ∧ Kd.Q (Kd.int .i64) 3 w' w.heap.size (fun _ => True) v3_ r4 ∧ IsS85 w0 w' g s0_0 r5 ∧ Below w0.heap.size w0 w' ∧ KeepBut w w' g none := by
 have hu27 := Try.underlying27
 have HI0 := aM hI
 have HK := aM (KeepBut.refl w g none)
 have HL := aM hB.size
 clear hI
 have HW0 := aM hB.size
 have HB := aM hB
 clear hB
 unfold spec_grayImage.f at h
 have H := h
 clear h
 replace H := Option.bind_eq_some_iff.mp H
 obtain ⟨⟨t217, t218⟩, A20, H⟩ := H
 replace H : (if t217 = 0 then ((spec_anyImage.f k s0_0 t218).bind fun bt219 => (some (bt219.1, bt219.2.1, bt219.2.2.1, bt219.2.2.2.1, bt219.2.2.2.2))) else ((spec_randomImage.f k s0_0 t218 1).bind fun bt226 => ((spec_spoilImage.f k s0_0 bt226.2.2.2.2 bt226.1 bt226.2.1 bt226.2.2.1 bt226.2.2.2.1).bind fun bt233 => (some (bt233.1, bt233.2.1, bt233.2.2.1, bt233.2.2.2.1, bt233.2.2.2.2))))) = some (r1, r2, r3, r4, r5) := H
 have A2 := aM A20
 clear A20
 by_cases c3 : t217 = 0
 ·rw [if_pos c3] at H
  have c3b0 : (t217 == 0) = true := beq_iff_eq.mpr c3
  have c3b1 : (t217 != 0) = false := bne_eq_false_iff_eq.mpr c3
  clear c3
  replace H := Option.bind_eq_some_iff.mp H
  obtain ⟨⟨t219, t220, t221, t222, t225⟩, A40, H⟩ := H
  replace H : (some (t219, t220, t221, t222, t225)) = some (r1, r2, r3, r4, r5) := H
  have A4 := aM A40
  clear A40
  simp only [Option.some.injEq, Prod.mk.injEq] at H
  obtain ⟨rfl, rfl, rfl, rfl, rfl⟩ := H
  go_enter Try.func46, Try.ntmps46
  go_wp2_with (first | ((with_reducible refine gate_dst (N := 2) rfl ?_); refine bxE (N := 2) (cs := #[.int .i64 0, .int .i64 0, .int .i64 0, .slice none 0 0]) (t := 27) ?_; intro gb216 hg w5 hbox hb; replace HB := aM (below_step (wS85 HB.out) hb); have BK216 := aM (hbox); have GW216 := aM ((by rw [hg]; exact (keep_size (w := w) (g := g) (row := none) (kB HK.out)) : w.heap.size ≤ gb216)); have GE216 := aM ((Nat.le_trans HW0.out (by rw [hg]; exact (keep_size (w := w) (g := g) (row := none) (kB HK.out)) : w.heap.size ≤ gb216) : w0.heap.size ≤ gb216)); replace HK := aM (KeepBut.trans (kB HK.out) (KeepBut.of_below hb g none) (.inl rfl)); have NB0_216 := aM ((by rw [hg]; exact Nat.ne_of_lt (IsS85.lt (show IsS85 w0 _ g s0_0 s0_1 from iS85 HI0.out)) : g ≠ gb216)); have NB216_0 := aM ((by rw [hg]; exact Nat.ne_of_gt (IsS85.lt (show IsS85 w0 _ g s0_0 s0_1 from iS85 HI0.out)) : gb216 ≠ g)); replace HI0 := aM (IsS85.below (iS85 HI0.out) hb); clear hb hbox hg) | ((with_reducible refine gate_callee (f := 45) rfl ?_); refine gL (some 4) Try.func45 #[.pointer (some ⟨g, 0, none⟩), .int .i64 20] ?_; (with_reducible refine (spec_reader_pick.calls k g s0_0 s0_1 20 t217 t218 w0 _ ?side1 ?side2 A2.out).mono ?_); (case side1 => exact iS85 HI0.out); (case side2 => exact wS85 HB.out); rintro e w6 ⟨rfl, hi, hb, hk⟩; refine ⟨_, rfl, ?_⟩; replace BK216 := bK hk BK216 NB216_0; replace HK := aM (KeepBut.trans (kB HK.out) hk (.inl rfl)); replace HB := aM (hb); replace HI0 := aM (hi); clear hb hk hi) | ((with_reducible refine gate_callee (f := 44) rfl ?_); refine gL (some 7) Try.func44 #[.pointer (some ⟨g, 0, none⟩)] ?_; (with_reducible refine (spec_anyImage.calls k g s0_0 t218 t219 t220 t221 t222 t225 w0 _ ?side1 ?side2 A4.out).mono ?_); (case side1 => exact iS85 HI0.out); (case side2 => exact wS85 HB.out); rintro e w7 ⟨v223, rfl, ho0, hi, hb, hk⟩; refine ⟨_, rfl, ?_⟩; replace BK216 := bK hk BK216 NB216_0; have HO224 := aM (Kd.Q_lower ho0 (keep_size (w := w) (g := g) (row := none) (kB HK.out))); replace HK := aM (KeepBut.trans (kB HK.out) hk (.inl rfl)); replace HB := aM (hb); replace HI0 := aM (hi); clear hb hk hi ho0; have hnb8 := NB216_0.out; have hnc8 := NB0_216.out; obtain ⟨⟨hcz9_0, hcz9_1, hcz9_2, hcz9_3⟩, hfz9_0, hfz9_1, hfz9_2, hfz9_3⟩ := cf4 BK216; obtain ⟨Ao10, co10, eo10, _⟩ := Kd.Q_slice HO224.out; subst eo10))
  refine bodyPost_ret (results_cell_row rfl _ _ gb216 27 #[.int .i64 t219, .int .i64 t220, .int .i64 t221, .slice Ao10 t222.length co10] (0, 0) _ rfl (by exact bP BK216.out) Try.underlying27 rfl (by kernel_rfl)) rfl ?_
  exact ⟨_, qX, by (with_reducible repeat (first | apply Kd.Q_alloc | apply Kd.Q_drewN | apply Kd.Q_drew)); exact Kd.Q_mono (qT HO224 BK216) (fun _ hk => trivial), iS85 HI0.out, wS85 HB.out, kB HK.out⟩
 rw [if_neg c3] at H
 have c3b0 : (t217 == 0) = false := beq_eq_false_iff_ne.mpr c3
 have c3b1 : (t217 != 0) = true := bne_iff_ne.mpr c3
 replace H := Option.bind_eq_some_iff.mp H
 obtain ⟨⟨t226, t227, t228, t229, t232⟩, A110, H⟩ := H
 replace H : ((spec_spoilImage.f k s0_0 t232 t226 t227 t228 t229).bind fun bt233 => (some (bt233.1, bt233.2.1, bt233.2.2.1, bt233.2.2.2.1, bt233.2.2.2.2))) = some (r1, r2, r3, r4, r5) := H
 have A11 := aM A110
 clear A110
 replace H := Option.bind_eq_some_iff.mp H
 obtain ⟨⟨t233, t234, t235, t236, t239⟩, A120, H⟩ := H
 replace H : (some (t233, t234, t235, t236, t239)) = some (r1, r2, r3, r4, r5) := H
 have A12 := aM A120
 clear A120
 simp only [Option.some.injEq, Prod.mk.injEq] at H
 obtain ⟨rfl, rfl, rfl, rfl, rfl⟩ := H
 go_enter Try.func46, Try.ntmps46
 go_wp2_with (first | ((with_reducible refine gate_dst (N := 2) rfl ?_); refine bxE (N := 2) (cs := #[.int .i64 0, .int .i64 0, .int .i64 0, .slice none 0 0]) (t := 27) ?_; intro gb216 hg w13 hbox hb; replace HB := aM (below_step (wS85 HB.out) hb); have BK216 := aM (hbox); have GW216 := aM ((by rw [hg]; exact (keep_size (w := w) (g := g) (row := none) (kB HK.out)) : w.heap.size ≤ gb216)); have GE216 := aM ((Nat.le_trans HW0.out (by rw [hg]; exact (keep_size (w := w) (g := g) (row := none) (kB HK.out)) : w.heap.size ≤ gb216) : w0.heap.size ≤ gb216)); replace HK := aM (KeepBut.trans (kB HK.out) (KeepBut.of_below hb g none) (.inl rfl)); have NB0_216 := aM ((by rw [hg]; exact Nat.ne_of_lt (IsS85.lt (show IsS85 w0 _ g s0_0 s0_1 from iS85 HI0.out)) : g ≠ gb216)); have NB216_0 := aM ((by rw [hg]; exact Nat.ne_of_gt (IsS85.lt (show IsS85 w0 _ g s0_0 s0_1 from iS85 HI0.out)) : gb216 ≠ g)); replace HI0 := aM (IsS85.below (iS85 HI0.out) hb); clear hb hbox hg) | ((with_reducible refine gate_callee (f := 45) rfl ?_); refine gL (some 4) Try.func45 #[.pointer (some ⟨g, 0, none⟩), .int .i64 20] ?_; (with_reducible refine (spec_reader_pick.calls k g s0_0 s0_1 20 t217 t218 w0 _ ?side1 ?side2 A2.out).mono ?_); (case side1 => exact iS85 HI0.out); (case side2 => exact wS85 HB.out); rintro e w14 ⟨rfl, hi, hb, hk⟩; refine ⟨_, rfl, ?_⟩; replace BK216 := bK hk BK216 NB216_0; replace HK := aM (KeepBut.trans (kB HK.out) hk (.inl rfl)); replace HB := aM (hb); replace HI0 := aM (hi); clear hb hk hi) | ((with_reducible refine gate_callee (f := 89) rfl ?_); refine gL (some 10) Try.func89 #[.pointer (some ⟨g, 0, none⟩), .int .i64 1] ?_; (with_reducible refine (spec_randomImage.calls k g s0_0 t218 1 t226 t227 t228 t229 t232 w0 _ ?side1 ?side2 A11.out).mono ?_); (case side1 => exact iS85 HI0.out); (case side2 => exact wS85 HB.out); rintro e w15 ⟨v230, rfl, ho0, hi, hb, hk⟩; refine ⟨_, rfl, ?_⟩; replace BK216 := bK hk BK216 NB216_0; have HO231 := lK ho0 HK; replace HK := aM (KeepBut.trans (kB HK.out) hk (.inl rfl)); replace HB := aM (hb); replace HI0 := aM (hi); clear hb hk hi ho0; obtain ⟨Ao16, co16, rfl⟩ := sL HO231) | ((with_reducible refine gate_callee (f := 88) rfl ?_); refine gL (some 11) Try.func88 #[.pointer (some ⟨g, 0, none⟩), .agg #[.int .i64 t226, .int .i64 t227, .int .i64 t228, .slice Ao16 t229.length co16]] ?_; (with_reducible refine (spec_spoilImage.calls k g s0_0 t232 t226 t227 t228 (fun k_ => some k_ = (.slice Ao16 t229.length co16 : Value).ownBlock) (.slice Ao16 t229.length co16) t229 t233 t234 t235 t236 t239 w0 _ ?side1 ?side2 ?side3 A12.out).mono ?_); (case side1 => exact iS85 HI0.out); (case side2 => exact wS85 HB.out); (case side3 => exact Kd.R_lower (Kd.R_tight rfl HO231.out) HL.out); rintro e w17 ⟨v237, rfl, ho0, hi, hb, hkp⟩; refine ⟨_, rfl, ?_⟩; replace HI0 := aM (hi); replace BK216 := aM (blk_kept (qB BK216.out) hkp (fun hs_ => Or.elim hs_ (fun hs_ => (fun e_ => (Kd.R_ne HO231.out BK216.out (by decide)) e_) hs_) (fun e_ => NB216_0.out e_))); have HO238 := aM (Kd.Q_mono (ok' := fun k_ => True) (Kd.Q_raise (d := (Kd.int .i64)) (b := w0.heap.size) (b' := w.heap.size) (fun _ _ _ _ h_ => h_) ho0 (fun k_ e_ => Or.elim (ho0.1 k_ e_) (fun hs_ => (fun e_ => Kd.R_base HO231.out k_ e_.symm) hs_) (fun hn_ => Nat.le_trans (keep_size (w := w) (g := g) (row := none) (kB HK.out)) hn_))) (fun k_ hk_ => trivial)); replace HK := aM (Kept.keepG (kB HK.out) hkp (fun k_ hs_ => Or.elim hs_ (fun hs_ => (fun e_ => .inr (Kd.R_base HO231.out k_ e_.symm)) hs_) (fun e_ => .inl e_))); replace HB := aM (hb); clear HO231; clear hb hkp ho0; have hnb18 := NB216_0.out; have hnc18 := NB0_216.out; obtain ⟨⟨hcz19_0, hcz19_1, hcz19_2, hcz19_3⟩, hfz19_0, hfz19_1, hfz19_2, hfz19_3⟩ := cf4 BK216; obtain ⟨Ao20, co20, eo20, _⟩ := Kd.Q_slice HO238.out; subst eo20))
 refine bodyPost_ret (results_cell_row rfl _ _ gb216 27 #[.int .i64 t233, .int .i64 t234, .int .i64 t235, .slice Ao20 t236.length co20] (0, 0) _ rfl (by exact bP BK216.out) Try.underlying27 rfl (by kernel_rfl)) rfl ?_
 exact ⟨_, qX, by (with_reducible repeat (first | apply Kd.Q_alloc | apply Kd.Q_drewN | apply Kd.Q_drew)); exact Kd.Q_mono (qT HO238 BK216) (fun _ hk => trivial), iS85 HI0.out, wS85 HB.out, kB HK.out⟩
def spec_anyLevels.f (k : Nat) (s0_0 : List Int) (s0_1 : Int) : Option (Int × Int) := (spec_reader_one.f k s0_0 s0_1 (([2, 3, 4, 8, 16, 17, 1, 2] : List Int))).bind fun bt444 => (some (bt444.1, bt444.2))
theorem spec_anyLevels.mono : ∀ a0 a1 k, LeO (spec_anyLevels.f k a0 a1) (spec_anyLevels.f (k + 1) a0 a1) := by
 intro a0 a1 k
 unfold spec_anyLevels.f
 repeat' first | (with_reducible first | exact spec_reader_one.mono _ _ _ _ | exact lR | exact lN | refine lI ?_ ?_ | refine lB ?_ fun _ => ?_) | exact spec_reader_one.mono _ _ _ _ | exact lN | refine lI ?_ ?_ | refine lB ?_ fun _ => ?_
set_option maxHeartbeats 8000000 in
set_option maxRecDepth 100000 in
theorem spec_anyLevels.calls (k : Nat) (g : Nat) (s0_0 : List Int) (s0_1 : Int) (r1 : Int) (r2 : Int) (w0 w : World) (hI : IsS85 w0 w g s0_0 s0_1) (hB : Below w0.heap.size w0 w) (h : spec_anyLevels.f k s0_0 s0_1 = some (r1, r2)) :
  Calls Try.prog 75 #[.pointer (some ⟨g, 0, none⟩)] w fun e w' => e = .returned (.int .i64 r1) ∧ IsS85 w0 w' g s0_0 r2 ∧ Below w0.heap.size w0 w' ∧ KeepBut w w' g none := by
 have HI0 := aM hI
 have HK := aM (KeepBut.refl w g none)
 have HL := aM hB.size
 clear hI
 have HW0 := aM hB.size
 have HB := aM hB
 clear hB
 unfold spec_anyLevels.f at h
 have H := h
 clear h
 obtain ⟨y441, hy441⟩ : ∃ y_ : List Int, y_ = (([2, 3, 4, 8, 16, 17, 1, 2] : List Int)) := ⟨_, rfl⟩
 replace H : ((spec_reader_one.f k s0_0 s0_1 y441).bind fun bt444 => (some (bt444.1, bt444.2))) = some (r1, r2) := rY hy441 H
 have Ny441 := aM hy441
 clear hy441
 replace H := Option.bind_eq_some_iff.mp H
 obtain ⟨⟨t444, t445⟩, A20, H⟩ := H
 replace H : (some (t444, t445)) = some (r1, r2) := H
 have A2 := aM A20
 clear A20
 simp only [Option.some.injEq, Prod.mk.injEq] at H
 obtain ⟨rfl, rfl⟩ := H
 go_enter Try.func75, Try.ntmps75
 go_wp2_with (first | ((with_reducible refine gate_dst (N := 4) rfl ?_); refine iL ([2, 3, 4, 8, 16, 17, 1, 2] : List Int) [.int .i64 2, .int .i64 3, .int .i64 4, .int .i64 8, .int .i64 16, .int .i64 17, .int .i64 1, .int .i64 2] ?_; intro v442 w3 ho4 hb hg_ hnew_; clear hg_ hnew_; (first | rw [← Ny441.out] at ho4 | (simp only [Int.reduceToNat] at ho4; rw [← Ny441.out] at ho4)); have HO443 := lK ho4 HK; replace HK := aM (KeepBut.trans (kB HK.out) (KeepBut.of_below hb g none) (.inl rfl)); replace HB := aM (below_step (wS85 HB.out) hb); replace HI0 := aM (IsS85.below (iS85 HI0.out) hb); clear hb ho4; obtain ⟨Ao5, co5, rfl⟩ := sL HO443) | ((with_reducible refine gate_callee (f := 98) rfl ?_); refine gL (some 5) Try.func98 #[.pointer (some ⟨g, 0, none⟩), .slice Ao5 y441.length co5] ?_; (with_reducible refine (spec_reader_one.calls k g s0_0 s0_1 _ _ y441 t444 t445 w0 _ ?side1 ?side2 ?side3 ?side4 ?side5 A2.out).mono ?_); (case side1 => exact iS85 HI0.out); (case side2 => exact wS85 HB.out); (case side3 => exact qC (Kd.R_reads' HO443.out).2.2); (case side4 => exact (Kd.R_reads' HO443.out).2.1); (case side5 => exact far_slice (IsS85.own_ne HI0.out HO443.out (by decide))); rintro e w6 ⟨rfl, hi, hb, hk⟩; refine ⟨_, rfl, ?_⟩; replace HO443 := aM (Kd.R_mono (Kd.R_keep (IsS85.apart (show IsS85 w0 _ g s0_0 s0_1 from iS85 HI0.out) (qR HO443.out) (by decide)) hk (fun _ h => h.2)) (fun _ h => h.1)); replace HK := aM (KeepBut.trans (kB HK.out) hk (.inl rfl)); replace HB := aM (hb); replace HI0 := aM (hi); clear hb hk hi))
 go_ret
 exact ⟨qX, iS85 HI0.out, wS85 HB.out, kB HK.out⟩
def spec_DrawDiffuseImage.f (k : Nat) (l0 : List Int) : Option (Int × Int × Int × List Int × Int) := (spec_newReader.f l0).bind fun bt447 => ((spec_grayImage.f k bt447.1 bt447.2).bind fun bt450 => ((spec_anyLevels.f k bt447.1 bt450.2.2.2.2).bind fun bt458 => (some (bt450.1, bt450.2.1, bt450.2.2.1, bt450.2.2.2.1, bt458.1))))
theorem spec_DrawDiffuseImage.mono : ∀ a0 k, LeO (spec_DrawDiffuseImage.f k a0) (spec_DrawDiffuseImage.f (k + 1) a0) := by
 intro a0 k
 unfold spec_DrawDiffuseImage.f
 repeat' first | (with_reducible first | exact spec_anyLevels.mono _ _ _ | exact spec_grayImage.mono _ _ _ | exact lR | exact lN | refine lI ?_ ?_ | refine lB ?_ fun _ => ?_) | exact spec_anyLevels.mono _ _ _ | exact spec_grayImage.mono _ _ _ | exact lN | refine lI ?_ ?_ | refine lB ?_ fun _ => ?_
set_option maxHeartbeats 8000000 in
set_option maxRecDepth 100000 in
theorem spec_DrawDiffuseImage.calls (k : Nat) (A0 : Option Addr) (c0 : Nat) (l0 : List Int) (r1 : Int) (r2 : Int) (r3 : Int) (r4 : List Int) (r5 : Int) (w : World) (hr0 : Kd.C (Kd.int .u8) w A0 l0.length l0) (hc0 : l0.length ≤ c0) (h : spec_DrawDiffuseImage.f k l0 = some (r1, r2, r3, r4, r5)) :
  Calls Try.prog 29 #[.slice A0 l0.length c0] w fun e w' => ∃ v3_ : Value, e = .returned (.tuple #[.agg #[.int .i64 r1, .int .i64 r2, .int .i64 r3, v3_], .int .i64 r5]) ∧ Kd.Q (Kd.int .i64) 3 w' w.heap.size (fun _ => True) v3_ r4 ∧ Below w.heap.size w w' := by
 have hu27 := Try.underlying27
 have HR0 := aM hr0
 have HC0 := aM hc0
 clear hr0 hc0
 have HB := aM (Below.refl w.heap.size w)
 unfold spec_DrawDiffuseImage.f at h
 have H := h
 clear h
 replace H := Option.bind_eq_some_iff.mp H
 obtain ⟨⟨t447, t448⟩, A20, H⟩ := H
 replace H : ((spec_grayImage.f k t447 t448).bind fun bt450 => ((spec_anyLevels.f k t447 bt450.2.2.2.2).bind fun bt458 => (some (bt450.1, bt450.2.1, bt450.2.2.1, bt450.2.2.2.1, bt458.1)))) = some (r1, r2, r3, r4, r5) := H
 have A2 := aM A20
 clear A20
 replace H := Option.bind_eq_some_iff.mp H
 obtain ⟨⟨t450, t451, t452, t453, t456⟩, A30, H⟩ := H
 replace H : ((spec_anyLevels.f k t447 t456).bind fun bt458 => (some (t450, t451, t452, t453, bt458.1))) = some (r1, r2, r3, r4, r5) := H
 have A3 := aM A30
 clear A30
 replace H := Option.bind_eq_some_iff.mp H
 obtain ⟨⟨t458, t459⟩, A40, H⟩ := H
 replace H : (some (t450, t451, t452, t453, t458)) = some (r1, r2, r3, r4, r5) := H
 have A4 := aM A40
 clear A40
 simp only [Option.some.injEq, Prod.mk.injEq] at H
 obtain ⟨rfl, rfl, rfl, rfl, rfl⟩ := H
 go_enter Try.func29, Try.ntmps29
 try go_wp2_with (first | ((with_reducible refine gate_dst (N := 2) rfl ?_); refine bxE (N := 2) (cs := #[.int .i64 0, .int .i64 0, .int .i64 0, .slice none 0 0]) (t := 27) ?_; intro gb446 hg w5 hbox hb; have BK446 := aM (hbox); have GW446 := gW hg HB; have GE446 := gW hg HB; replace HB := bS HB hb; clear hb hbox hg) | ((with_reducible refine gate_callee (f := 42) rfl ?_); refine gL (some 7) Try.func42 #[.slice A0 l0.length c0] ?_; (with_reducible refine (spec_newReader.calls _ _ l0 t447 t448 w _ ?side1 ?side2 ?side3 A2.out).mono ?_); (case side1 => exact qW HB.out); (case side2 => exact HR0.out); (case side3 => exact HC0.out); rintro e w6 ⟨g449, rfl, hi, hb, hb2⟩; refine ⟨_, rfl, ?_⟩; replace HB := aM (hb); have HI449 := aM (hi); have NB449_446 := aM (IsS85.ne_blk hi (blk_below (g := gb446) (o := .cells #[.int .i64 0, .int .i64 0, .int .i64 0, .slice none 0 0] 27 (0, 0)) (qB BK446.out) hb2) (by decide)); have NB446_449 := aM (Ne.symm (IsS85.ne_blk hi (blk_below (g := gb446) (o := .cells #[.int .i64 0, .int .i64 0, .int .i64 0, .slice none 0 0] 27 (0, 0)) (qB BK446.out) hb2) (by decide))); replace BK446 := bB BK446 hb2; clear hb hb2 hi) | ((with_reducible refine gate_callee (f := 46) rfl ?_); refine gL (some 9) Try.func46 #[.pointer (some ⟨g449, 0, none⟩)] ?_; (with_reducible refine (spec_grayImage.calls k g449 t447 t448 t450 t451 t452 t453 t456 w _ ?side1 ?side2 A3.out).mono ?_); (case side1 => exact iS85 HI449.out); (case side2 => exact wS85 HB.out); rintro e w7 ⟨v454, rfl, ho0, hi, hb, hk⟩; refine ⟨_, rfl, ?_⟩; replace BK446 := bK hk BK446 NB446_449; have HO455 := aM (Kd.Q_lower ho0 (below_size (wS85 HB.out))); replace HB := aM (hb); replace HI449 := aM (hi); clear hb hk hi ho0) | ((with_reducible refine gate_dst (N := 5) rfl ?_); refine bxE (N := 5) (cs := #[.int .i64 0, .int .i64 0, .int .i64 0, .slice none 0 0]) (t := 27) ?_; intro gb457 hg w8 hbox hb; replace HO455 := aM (Kd.Q_below (qQ HO455.out) hb); have BK457 := aM (hbox); have GW457 := aM ((by rw [hg]; exact (below_size (wS85 HB.out)) : w.heap.size ≤ gb457)); have GE457 := aM ((by rw [hg]; exact (below_size (wS85 HB.out)) : w.heap.size ≤ gb457)); replace HB := aM (below_step (wS85 HB.out) hb); have NB446_457 := nL hg BK446; have NB457_446 := nG hg BK446; replace BK446 := bB BK446 hb; have NB449_457 := aM ((by rw [hg]; exact Nat.ne_of_lt (IsS85.lt (show IsS85 w _ g449 t447 t456 from iS85 HI449.out)) : g449 ≠ gb457)); have NB457_449 := aM ((by rw [hg]; exact Nat.ne_of_gt (IsS85.lt (show IsS85 w _ g449 t447 t456 from iS85 HI449.out)) : gb457 ≠ g449)); replace HI449 := aM (IsS85.below (iS85 HI449.out) hb); clear hb hbox hg; have hnb9 := NB457_446.out; have hnc9 := NB446_457.out; have hnb10 := NB457_449.out; have hnc10 := NB449_457.out; obtain ⟨⟨hcz11_0, hcz11_1, hcz11_2, hcz11_3⟩, hfz11_0, hfz11_1, hfz11_2, hfz11_3⟩ := cf4 BK457; obtain ⟨Ao12, co12, eo12, _⟩ := Kd.Q_slice HO455.out; subst eo12))
 have n0_ : Aside0 (Kd.Q (Kd.int .i64) 3 ((((w8.setCell ⟨gb457, 0, none⟩ (.int .i64 t450)).setCell ⟨gb457, 1, none⟩ (.int .i64 t451)).setCell ⟨gb457, 2, none⟩ (.int .i64 t452)).setCell ⟨gb457, 3, none⟩ (.slice Ao12 t453.length co12)) w.heap.size (fun _ => True) (.slice Ao12 t453.length co12) t453) := ⟨by (with_reducible repeat (first | apply Kd.Q_alloc | apply Kd.Q_drewN | apply Kd.Q_drew)); exact Kd.Q_mono (qT HO455 BK457) (fun _ hk => trivial)⟩
 have n1_ : Aside0 (((((w8.setCell ⟨gb457, 0, none⟩ (.int .i64 t450)).setCell ⟨gb457, 1, none⟩ (.int .i64 t451)).setCell ⟨gb457, 2, none⟩ (.int .i64 t452)).setCell ⟨gb457, 3, none⟩ (.slice Ao12 t453.length co12)).heap[gb446]? = some (.cells #[.int .i64 0, .int .i64 0, .int .i64 0, .slice none 0 0] 27 (0, 0))) := ⟨by refine qB ?_; refine blk_far ?_ NB446_457.out _; refine qB ?_; refine blk_far ?_ NB446_457.out _; refine qB ?_; refine blk_far ?_ NB446_457.out _; refine qB ?_; refine blk_far ?_ NB446_457.out _; refine qB ?_; exact BK446.out⟩
 have n2_ : Aside0 (((((w8.setCell ⟨gb457, 0, none⟩ (.int .i64 t450)).setCell ⟨gb457, 1, none⟩ (.int .i64 t451)).setCell ⟨gb457, 2, none⟩ (.int .i64 t452)).setCell ⟨gb457, 3, none⟩ (.slice Ao12 t453.length co12)).heap[gb457]? = some (.cells #[.int .i64 t450, .int .i64 t451, .int .i64 t452, .slice Ao12 t453.length co12] 27 (0, 0))) := ⟨by exact bP BK457.out⟩
 have n3_ : Aside0 (IsS85 w ((((w8.setCell ⟨gb457, 0, none⟩ (.int .i64 t450)).setCell ⟨gb457, 1, none⟩ (.int .i64 t451)).setCell ⟨gb457, 2, none⟩ (.int .i64 t452)).setCell ⟨gb457, 3, none⟩ (.slice Ao12 t453.length co12)) g449 t447 t456) := ⟨iS85 HI449.out⟩
 have n4_ : Aside0 (Below w.heap.size w ((((w8.setCell ⟨gb457, 0, none⟩ (.int .i64 t450)).setCell ⟨gb457, 1, none⟩ (.int .i64 t451)).setCell ⟨gb457, 2, none⟩ (.int .i64 t452)).setCell ⟨gb457, 3, none⟩ (.slice Ao12 t453.length co12))) := ⟨wS85 HB.out⟩
 (try clear HO455)
 (try clear BK446)
 (try clear BK457)
 (try clear HI449)
 (try clear HB)
 generalize ((((w8.setCell ⟨gb457, 0, none⟩ (.int .i64 t450)).setCell ⟨gb457, 1, none⟩ (.int .i64 t451)).setCell ⟨gb457, 2, none⟩ (.int .i64 t452)).setCell ⟨gb457, 3, none⟩ (.slice Ao12 t453.length co12)) = w13 at n0_ n1_ n2_ n3_ n4_ ⊢
 have HO455 := n0_
 have BK446 := n1_
 have BK457 := n2_
 have HI449 := n3_
 have HB := n4_
 clear n0_ n1_ n2_ n3_ n4_
 replace HO455 := aM (Kd.Q_drew HO455.out)
 replace BK446 := aM (blk_drew BK446.out)
 replace BK457 := aM (blk_drew BK457.out)
 replace HI449 := aM (IsS85.drew HI449.out)
 replace HB := aM (below_drew1 HB.out)
 refine start_ (n := 5) (S := fun w' => w'.cell? ⟨gb457, 0, none⟩ = some (.int .i64 t450) ∧ w'.cell? ⟨gb457, 1, none⟩ = some (.int .i64 t451) ∧ w'.cell? ⟨gb457, 2, none⟩ = some (.int .i64 t452) ∧ w'.cell? ⟨gb457, 3, none⟩ = some (.slice Ao12 t453.length co12)) (ds := []) (bA 5 0) (by kernel_rfl) rfl rfl ⟨(blk_cell BK457.out 0).trans rfl, (blk_cell BK457.out 1).trans rfl, (blk_cell BK457.out 2).trans rfl, (blk_cell BK457.out 3).trans rfl⟩ (fun hHeld => ?_)
 generalize w13.drew = w14 at HO455 BK446 BK457 HI449 HB hHeld ⊢
 refine pure_ (i := 1) (N := some 11) (v := ?_) (a' := ?_) (bA 5 2) rfl rfl (by kernel_rfl) (fun _ _ _ h => h) (Or.inl ⟨by rfl, ?_⟩) ?_ ?_
 rotate_left
 ·intro w'
  go_simp
  with_reducible rfl
 rotate_left
 ·refine pZ ?_
  rfl
 refine take_ (i := 0) (N := some 10) (v := ?_) (a' := ?_) (bA 5 3) rfl rfl (by kernel_rfl) (fun _ _ _ h => h) (Or.inl ⟨by rfl, ?_⟩) hHeld ?_ ?_
 rotate_left
 ·rintro w' ⟨s0, s1, s2, s3⟩
  go_simp
  with_reducible rfl
 rotate_left
 ·refine pZ ?_
  rfl
 refine one_ (i := 2) (N := some 12) (bA 5 7) rfl rfl (by kernel_rfl) (by decide) (fun K hK => ?_)
 refine goes_ Try.func75 (by kernel_rfl) rfl #[.pointer (some ⟨g449, 0, none⟩)] (by rfl) rfl rfl qM ?_
 with_reducible refine (spec_anyLevels.calls k g449 t447 t456 t458 t459 w _ ?side1 ?side2 A4.out).mono ?_
 (case side1 => exact iS85 HI449.out)
 (case side2 => exact wS85 HB.out)
 rintro e w15 ⟨rfl, hi, hb, hk⟩
 refine ⟨_, rfl, ?_⟩
 replace BK446 := bK hk BK446 NB446_449
 replace HO455 := aM (Kd.Q_mono (Kd.Q_keep (IsS85.apartQ (show IsS85 w _ g449 t447 t456 from iS85 HI449.out) (qQ HO455.out) (by decide)) hk (fun _ h => h.2)) (fun _ h => h.1))
 replace BK457 := bK hk BK457 NB457_449
 replace HB := aM (hb)
 replace HI449 := aM (hi)
 (try clear hb)
 (try clear hb2)
 (try clear hk)
 (try clear hi)
 refine hK.out _ _ ⟨(blk_cell BK457.out 0).trans rfl, (blk_cell BK457.out 1).trans rfl, (blk_cell BK457.out 2).trans rfl, (blk_cell BK457.out 3).trans rfl⟩ (fun hHeld => ?_)
 clear hK K
 refine norm_ (a' := ?_) ?_ ?_
 rotate_left
 ·show Act.put _ (some 12) _ = _
  refine pZ ?_
  rfl
 refine one_ (i := 3) (N := none) (bA 5 15) rfl rfl (by kernel_rfl) (by decide) (fun K hK => ?_)
 have hs16 : w15.cell? ⟨gb446, 0, none⟩ = some (.int .i64 0) := (blk_cell BK446.out 0).trans rfl
 have hfs16 := blk_frozen BK446.out 0
 have hns16_1 := NB457_446.out
 have hms16_1 := NB446_457.out
 have hs17 : w15.cell? ⟨gb446, 1, none⟩ = some (.int .i64 0) := (blk_cell BK446.out 1).trans rfl
 have hfs17 := blk_frozen BK446.out 1
 have hns17_1 := NB457_446.out
 have hms17_1 := NB446_457.out
 have hs18 : w15.cell? ⟨gb446, 2, none⟩ = some (.int .i64 0) := (blk_cell BK446.out 2).trans rfl
 have hfs18 := blk_frozen BK446.out 2
 have hns18_1 := NB457_446.out
 have hms18_1 := NB446_457.out
 have hs19 : w15.cell? ⟨gb446, 3, none⟩ = some (.slice none 0 0) := (blk_cell BK446.out 3).trans rfl
 have hfs19 := blk_frozen BK446.out 3
 have hns19_1 := NB457_446.out
 have hms19_1 := NB446_457.out
 refine skip_ (w1 := ?_) (by rfl) rfl ?_ ?_
 rotate_left
 ·go_simp
  rfl
 refine hK.out _ _ ⟨((cell_far (p := ⟨gb446, _, none⟩) NB457_446.out _).trans (((cell_far (p := ⟨gb446, _, none⟩) NB457_446.out _).trans (((cell_far (p := ⟨gb446, _, none⟩) NB457_446.out _).trans (((cell_far (p := ⟨gb446, _, none⟩) NB457_446.out _).trans (hHeld.1)))))))), ((cell_far (p := ⟨gb446, _, none⟩) NB457_446.out _).trans (((cell_far (p := ⟨gb446, _, none⟩) NB457_446.out _).trans (((cell_far (p := ⟨gb446, _, none⟩) NB457_446.out _).trans (((cell_far (p := ⟨gb446, _, none⟩) NB457_446.out _).trans (hHeld.2.1)))))))), ((cell_far (p := ⟨gb446, _, none⟩) NB457_446.out _).trans (((cell_far (p := ⟨gb446, _, none⟩) NB457_446.out _).trans (((cell_far (p := ⟨gb446, _, none⟩) NB457_446.out _).trans (((cell_far (p := ⟨gb446, _, none⟩) NB457_446.out _).trans (hHeld.2.2.1)))))))), ((cell_far (p := ⟨gb446, _, none⟩) NB457_446.out _).trans (((cell_far (p := ⟨gb446, _, none⟩) NB457_446.out _).trans (((cell_far (p := ⟨gb446, _, none⟩) NB457_446.out _).trans (((cell_far (p := ⟨gb446, _, none⟩) NB457_446.out _).trans (hHeld.2.2.2))))))))⟩ (fun hHeld => ?_)
 clear hK K
 refine pure_ (i := 4) (N := some 3) (v := ?_) (a' := ?_) (bA 5 31) rfl rfl (by kernel_rfl) (fun _ _ _ h => h) (Or.inl ⟨by rfl, ?_⟩) ?_ ?_
 rotate_left
 ·intro w'
  go_simp
  with_reducible rfl
 rotate_left
 ·refine pZ ?_
  rfl
 refine done_ (by kernel_rfl) ?_
 try go_wp2
 refine bodyPost_ret (results_ct rfl _ _ gb446 27 #[.int .i64 t450, .int .i64 t451, .int .i64 t452, .slice Ao12 t453.length co12] (0, 0) _ rfl (by exact bP BK446.out) Try.underlying27 rfl (by kernel_rfl)) rfl ?_
 exact ⟨_, qX, by (with_reducible repeat (first | apply Kd.Q_alloc | apply Kd.Q_drewN | apply Kd.Q_drew)); exact Kd.Q_mono (qT HO455 BK446) (fun _ hk => trivial), wS85 HB.out⟩
def spec_DrawOrderImage.f (k : Nat) (l0 : List Int) : Option (Int × Int × Int × List Int × Int) := (spec_DrawDiffuseImage.f k l0).bind fun bt461 => (some (bt461.1, bt461.2.1, bt461.2.2.1, bt461.2.2.2.1, bt461.2.2.2.2))
theorem spec_DrawOrderImage.mono : ∀ a0 k, LeO (spec_DrawOrderImage.f k a0) (spec_DrawOrderImage.f (k + 1) a0) := by
 intro a0 k
 unfold spec_DrawOrderImage.f
 repeat' first | (with_reducible first | exact spec_DrawDiffuseImage.mono _ _ | exact lR | exact lN | refine lI ?_ ?_ | refine lB ?_ fun _ => ?_) | exact spec_DrawDiffuseImage.mono _ _ | exact lN | refine lI ?_ ?_ | refine lB ?_ fun _ => ?_
set_option maxHeartbeats 8000000 in
set_option maxRecDepth 100000 in
theorem spec_DrawOrderImage.calls (k : Nat) (A0 : Option Addr) (c0 : Nat) (l0 : List Int) (r1 : Int) (r2 : Int) (r3 : Int) (r4 : List Int) (r5 : Int) (w : World) (hr0 : Kd.C (Kd.int .u8) w A0 l0.length l0) (hc0 : l0.length ≤ c0) (h : spec_DrawOrderImage.f k l0 = some (r1, r2, r3, r4, r5)) :
  Calls Try.prog 25 #[.slice A0 l0.length c0] w fun e w' => ∃ v3_ : Value, e = .returned (.tuple #[.agg #[.int .i64 r1, .int .i64 r2, .int .i64 r3, v3_], .int .i64 r5]) ∧ Kd.Q (Kd.int .i64) 3 w' w.heap.size (fun _ => True) v3_ r4 ∧ Below w.heap.size w w' := by
 have hu27 := Try.underlying27
 have HR0 := aM hr0
 have HC0 := aM hc0
 clear hr0 hc0
 have HB := aM (Below.refl w.heap.size w)
 unfold spec_DrawOrderImage.f at h
 have H := h
 clear h
 replace H := Option.bind_eq_some_iff.mp H
 obtain ⟨⟨t461, t462, t463, t464, t467⟩, A20, H⟩ := H
 replace H : (some (t461, t462, t463, t464, t467)) = some (r1, r2, r3, r4, r5) := H
 have A2 := aM A20
 clear A20
 simp only [Option.some.injEq, Prod.mk.injEq] at H
 obtain ⟨rfl, rfl, rfl, rfl, rfl⟩ := H
 go_enter Try.func25, Try.ntmps25
 go_wp2_with (first | ((with_reducible refine gate_dst (N := 2) rfl ?_); refine bxE (N := 2) (cs := #[.int .i64 0, .int .i64 0, .int .i64 0, .slice none 0 0]) (t := 27) ?_; intro gb460 hg w3 hbox hb; have BK460 := aM (hbox); have GW460 := gW hg HB; have GE460 := gW hg HB; replace HB := bS HB hb; clear hb hbox hg) | ((with_reducible refine gate_callee (f := 29) rfl ?_); refine gL (some 5) Try.func29 #[.slice A0 l0.length c0] ?_; (with_reducible refine (spec_DrawDiffuseImage.calls k _ _ l0 t461 t462 t463 t464 t467 _ ?side1 ?side2 A2.out).mono ?_); (case side1 => exact qC (Kd.C_below HR0.out HB.out)); (case side2 => exact HC0.out); rintro e w4 ⟨v465, rfl, ho0, hb⟩; refine ⟨_, rfl, ?_⟩; have HO466 := aM (Kd.Q_lower ho0 (below_size (qW HB.out))); replace BK460 := bB BK460 hb; replace HB := bS HB hb; clear hb ho0; obtain ⟨⟨hcz5_0, hcz5_1, hcz5_2, hcz5_3⟩, hfz5_0, hfz5_1, hfz5_2, hfz5_3⟩ := cf4 BK460; obtain ⟨Ao6, co6, eo6, _⟩ := Kd.Q_slice HO466.out; subst eo6))
 refine bodyPost_ret (results_ct rfl _ _ gb460 27 #[.int .i64 t461, .int .i64 t462, .int .i64 t463, .slice Ao6 t464.length co6] (0, 0) _ rfl (by exact bP BK460.out) Try.underlying27 rfl (by kernel_rfl)) rfl ?_
 exact ⟨_, qX, by (with_reducible repeat (first | apply Kd.Q_alloc | apply Kd.Q_drewN | apply Kd.Q_drew)); exact Kd.Q_mono (qT HO466 BK460) (fun _ hk => trivial), by exact qW HB.out⟩
def spec_DrawMergePlanes.f (k : Nat) (l0 : List Int) : Option ((List (S27))) := (spec_newReader.f l0).bind fun bt240 => ((spec_anyImage.f k bt240.1 bt240.2).bind fun bt243 => ((spec_SplitPlanes.f k bt243.1 bt243.2.1 bt243.2.2.1 bt243.2.2.2.1).bind fun t250 => ((spec_reader_pick.f k bt240.1 bt243.2.2.2.2 8).bind fun bt253 => (if bt253.1 = 0 then ((spec_grayImage.f k bt240.1 bt253.2).bind fun bt255 => (if t250.length < 2932031007402 then (some (t250 ++ [(⟨bt255.1, bt255.2.1, bt255.2.2.1, bt255.2.2.2.1⟩ : S27)])) else (none))) else (some t250)))))
theorem spec_DrawMergePlanes.mono : ∀ a0 k, LeO (spec_DrawMergePlanes.f k a0) (spec_DrawMergePlanes.f (k + 1) a0) := by
 intro a0 k
 unfold spec_DrawMergePlanes.f
 repeat' first | (with_reducible first | exact spec_SplitPlanes.mono _ _ _ _ _ | exact spec_anyImage.mono _ _ _ | exact spec_grayImage.mono _ _ _ | exact spec_reader_pick.mono _ _ _ _ | exact lR | exact lN | refine lI ?_ ?_ | refine lB ?_ fun _ => ?_) | exact spec_SplitPlanes.mono _ _ _ _ _ | exact spec_anyImage.mono _ _ _ | exact spec_grayImage.mono _ _ _ | exact spec_reader_pick.mono _ _ _ _ | exact lN | refine lI ?_ ?_ | refine lB ?_ fun _ => ?_
set_option maxHeartbeats 8000000 in
set_option maxRecDepth 100000 in
theorem spec_DrawMergePlanes.calls (k : Nat) (A0 : Option Addr) (c0 : Nat) (l0 : List Int) (r : List (S27)) (w : World) (hr0 : Kd.C (Kd.int .u8) w A0 l0.length l0) (hc0 : l0.length ≤ c0) (h : spec_DrawMergePlanes.f k l0 = some r) :
  Calls Try.prog 12 #[.slice A0 l0.length c0] w fun e w' => ∃ v0_ : Value, e = .returned (v0_) ∧ Kd.N k27 27 w' w.heap.size (fun k_ => (w.heap.size ≤ k_)) v0_ r ∧ Below w.heap.size w w' := by
 have HR0 := aM hr0
 have HC0 := aM hc0
 clear hr0 hc0
 have HB := aM (Below.refl w.heap.size w)
 unfold spec_DrawMergePlanes.f at h
 have H := h
 clear h
 replace H := Option.bind_eq_some_iff.mp H
 obtain ⟨⟨t240, t241⟩, A20, H⟩ := H
 replace H : ((spec_anyImage.f k t240 t241).bind fun bt243 => ((spec_SplitPlanes.f k bt243.1 bt243.2.1 bt243.2.2.1 bt243.2.2.2.1).bind fun t250 => ((spec_reader_pick.f k t240 bt243.2.2.2.2 8).bind fun bt253 => (if bt253.1 = 0 then ((spec_grayImage.f k t240 bt253.2).bind fun bt255 => (if t250.length < 2932031007402 then (some (t250 ++ [(⟨bt255.1, bt255.2.1, bt255.2.2.1, bt255.2.2.2.1⟩ : S27)])) else (none))) else (some t250))))) = some r := H
 have A2 := aM A20
 clear A20
 replace H := Option.bind_eq_some_iff.mp H
 obtain ⟨⟨t243, t244, t245, t246, t249⟩, A30, H⟩ := H
 replace H : ((spec_SplitPlanes.f k t243 t244 t245 t246).bind fun t250 => ((spec_reader_pick.f k t240 t249 8).bind fun bt253 => (if bt253.1 = 0 then ((spec_grayImage.f k t240 bt253.2).bind fun bt255 => (if t250.length < 2932031007402 then (some (t250 ++ [(⟨bt255.1, bt255.2.1, bt255.2.2.1, bt255.2.2.2.1⟩ : S27)])) else (none))) else (some t250)))) = some r := H
 have A3 := aM A30
 clear A30
 replace H := Option.bind_eq_some_iff.mp H
 obtain ⟨t250, A40, H⟩ := H
 replace H : ((spec_reader_pick.f k t240 t249 8).bind fun bt253 => (if bt253.1 = 0 then ((spec_grayImage.f k t240 bt253.2).bind fun bt255 => (if t250.length < 2932031007402 then (some (t250 ++ [(⟨bt255.1, bt255.2.1, bt255.2.2.1, bt255.2.2.2.1⟩ : S27)])) else (none))) else (some t250))) = some r := H
 have A4 := aM A40
 clear A40
 replace H := Option.bind_eq_some_iff.mp H
 obtain ⟨⟨t253, t254⟩, A50, H⟩ := H
 replace H : (if t253 = 0 then ((spec_grayImage.f k t240 t254).bind fun bt255 => (if t250.length < 2932031007402 then (some (t250 ++ [(⟨bt255.1, bt255.2.1, bt255.2.2.1, bt255.2.2.2.1⟩ : S27)])) else (none))) else (some t250)) = some r := H
 have A5 := aM A50
 clear A50
 by_cases c6 : t253 = 0
 rotate_left
 ·rw [if_neg c6] at H
  have c6b0 : (t253 == 0) = false := beq_eq_false_iff_ne.mpr c6
  have c6b1 : (t253 != 0) = true := bne_iff_ne.mpr c6
  obtain rfl := Option.some.inj H
  go_enter Try.func12, Try.ntmps12
  go_wp2_with (first | ((with_reducible refine gate_callee (f := 42) rfl ?_); refine gL (some 6) Try.func42 #[.slice A0 l0.length c0] ?_; (with_reducible refine (spec_newReader.calls _ _ l0 t240 t241 w _ ?side1 ?side2 ?side3 A2.out).mono ?_); (case side1 => exact qW HB.out); (case side2 => exact HR0.out); (case side3 => exact HC0.out); rintro e w17 ⟨g242, rfl, hi, hb, hb2⟩; refine ⟨_, rfl, ?_⟩; replace HB := aM (hb); have HI242 := aM (hi); clear hb hb2 hi) | ((with_reducible refine gate_callee (f := 44) rfl ?_); refine gL (some 8) Try.func44 #[.pointer (some ⟨g242, 0, none⟩)] ?_; (with_reducible refine (spec_anyImage.calls k g242 t240 t241 t243 t244 t245 t246 t249 w _ ?side1 ?side2 A3.out).mono ?_); (case side1 => exact iS85 HI242.out); (case side2 => exact wS85 HB.out); rintro e w18 ⟨v247, rfl, ho0, hi, hb, hk⟩; refine ⟨_, rfl, ?_⟩; have HO248 := aM (Kd.Q_lower (Kd.Q_newM (M := fun k_ => (w.heap.size ≤ k_)) ho0 (below_size (wS85 HB.out)) (fun k_ h_ => h_)) (below_size (wS85 HB.out))); replace HB := aM (hb); replace HI242 := aM (hi); clear hb hk hi ho0; obtain ⟨Ao19, co19, eo19, _⟩ := Kd.Q_slice HO248.out; subst eo19) | ((with_reducible refine gate_callee (f := 43) rfl ?_); refine gL (some 9) Try.func43 #[.agg #[.int .i64 t243, .int .i64 t244, .int .i64 t245, .slice Ao19 t246.length co19]] ?_; (with_reducible refine (spec_SplitPlanes.calls k t243 t244 t245 _ _ t246 t250 _ ?side1 ?side2 A4.out).mono ?_); (case side1 => exact qC (Kd.Q_reads' HO248.out).2.2); (case side2 => exact (Kd.Q_reads' HO248.out).2.1); rintro e w20 ⟨v251, rfl, ho0, hb⟩; refine ⟨_, rfl, ?_⟩; have HO252 := aM (Kd.N_lower (Kd.N_mono (ok' := fun k_ => (w.heap.size ≤ k_) ∧ some k_ ≠ (.slice Ao19 t246.length co19 : Value).ownBlock ∧ k_ ≠ g242) (Kd.S_N (Kd.S_bound ho0)) (fun k_ hk_ => ⟨(Nat.le_trans (below_size (wS85 HB.out)) hk_.2.1), (Kd.fresh' (Kd.Q_lt (qQ HO248.out)) k_ hk_.2.1), (IsS85.fresh (iS85 HI242.out) k_ hk_.2.1)⟩)) (below_size (wS85 HB.out))); replace HO248 := aM (Kd.Q_below (qQ HO248.out) hb); replace HB := aM (below_step (wS85 HB.out) hb); replace HI242 := aM (IsS85.below (iS85 HI242.out) hb); clear hb ho0) | ((with_reducible refine gate_callee (f := 45) rfl ?_); refine gL (some 11) Try.func45 #[.pointer (some ⟨g242, 0, none⟩), .int .i64 8] ?_; (with_reducible refine (spec_reader_pick.calls k g242 t240 t249 8 t253 t254 w _ ?side1 ?side2 A5.out).mono ?_); (case side1 => exact iS85 HI242.out); (case side2 => exact wS85 HB.out); rintro e w21 ⟨rfl, hi, hb, hk⟩; refine ⟨_, rfl, ?_⟩; replace HO248 := aM (Kd.Q_mono (Kd.Q_keep (IsS85.apartQ (show IsS85 w _ g242 t240 t249 from iS85 HI242.out) (qQ HO248.out) (by decide)) hk (fun _ h => h.2)) (fun _ h => h.1)); replace HO252 := aM (Kd.N_mono (Kd.N_keep (Kd.N_mono (ok := fun k_ => (((w.heap.size ≤ k_)) ∧ (some k_ ≠ (.slice Ao19 t246.length co19 : Value).ownBlock ∧ k_ ≠ g242))) (by (with_reducible repeat (first | apply Kd.N_alloc | apply Kd.N_drewN | apply Kd.N_drew)); exact HO252.out) (fun k_ hk_ => (⟨hk_, hk_.2.2⟩ : _ ∧ k_ ≠ g242))) hk (fun _ h => h.2)) (fun _ h => h.1)); replace HB := aM (hb); replace HI242 := aM (hi); clear hb hk hi))
  go_ret
  exact ⟨_, qX, by (with_reducible repeat (first | apply Kd.N_alloc | apply Kd.N_drewN | apply Kd.N_drew)); exact Kd.N_mono HO252.out (fun _ hk => hk.1), wS85 HB.out⟩
 rw [if_pos c6] at H
 have c6b0 : (t253 == 0) = true := beq_iff_eq.mpr c6
 have c6b1 : (t253 != 0) = false := bne_eq_false_iff_eq.mpr c6
 clear c6
 replace H := Option.bind_eq_some_iff.mp H
 obtain ⟨⟨t255, t256, t257, t258, t261⟩, A70, H⟩ := H
 replace H : (if t250.length < 2932031007402 then (some (t250 ++ [(⟨t255, t256, t257, t258⟩ : S27)])) else (none)) = some r := H
 have A7 := aM A70
 clear A70
 replace H := iS H
 obtain ⟨c8, H⟩ := H
 have LMc8 := aM c8
 clear c8
 obtain ⟨y262, hy262⟩ : ∃ y_ : List (S27), y_ = (t250 ++ [(⟨t255, t256, t257, t258⟩ : S27)]) := ⟨_, rfl⟩
 replace H : (some y262) = some r := rY hy262 H
 have Ny262 := aM hy262
 clear hy262
 obtain rfl := Option.some.inj H
 go_enter Try.func12, Try.ntmps12
 go_wp2_with (first | ((with_reducible refine gate_callee (f := 42) rfl ?_); refine gL (some 6) Try.func42 #[.slice A0 l0.length c0] ?_; (with_reducible refine (spec_newReader.calls _ _ l0 t240 t241 w _ ?side1 ?side2 ?side3 A2.out).mono ?_); (case side1 => exact qW HB.out); (case side2 => exact HR0.out); (case side3 => exact HC0.out); rintro e w9 ⟨g242, rfl, hi, hb, hb2⟩; refine ⟨_, rfl, ?_⟩; replace HB := aM (hb); have HI242 := aM (hi); clear hb hb2 hi) | ((with_reducible refine gate_callee (f := 44) rfl ?_); refine gL (some 8) Try.func44 #[.pointer (some ⟨g242, 0, none⟩)] ?_; (with_reducible refine (spec_anyImage.calls k g242 t240 t241 t243 t244 t245 t246 t249 w _ ?side1 ?side2 A3.out).mono ?_); (case side1 => exact iS85 HI242.out); (case side2 => exact wS85 HB.out); rintro e w10 ⟨v247, rfl, ho0, hi, hb, hk⟩; refine ⟨_, rfl, ?_⟩; have HO248 := aM (Kd.Q_lower (Kd.Q_newM (M := fun k_ => (w.heap.size ≤ k_)) ho0 (below_size (wS85 HB.out)) (fun k_ h_ => h_)) (below_size (wS85 HB.out))); replace HB := aM (hb); replace HI242 := aM (hi); clear hb hk hi ho0; obtain ⟨Ao11, co11, eo11, _⟩ := Kd.Q_slice HO248.out; subst eo11) | ((with_reducible refine gate_callee (f := 43) rfl ?_); refine gL (some 9) Try.func43 #[.agg #[.int .i64 t243, .int .i64 t244, .int .i64 t245, .slice Ao11 t246.length co11]] ?_; (with_reducible refine (spec_SplitPlanes.calls k t243 t244 t245 _ _ t246 t250 _ ?side1 ?side2 A4.out).mono ?_); (case side1 => exact qC (Kd.Q_reads' HO248.out).2.2); (case side2 => exact (Kd.Q_reads' HO248.out).2.1); rintro e w12 ⟨v251, rfl, ho0, hb⟩; refine ⟨_, rfl, ?_⟩; have HO252 := aM (Kd.N_lower (Kd.N_mono (ok' := fun k_ => (w.heap.size ≤ k_) ∧ some k_ ≠ (.slice Ao11 t246.length co11 : Value).ownBlock ∧ k_ ≠ g242) (Kd.S_N (Kd.S_bound ho0)) (fun k_ hk_ => ⟨(Nat.le_trans (below_size (wS85 HB.out)) hk_.2.1), (Kd.fresh' (Kd.Q_lt (qQ HO248.out)) k_ hk_.2.1), (IsS85.fresh (iS85 HI242.out) k_ hk_.2.1)⟩)) (below_size (wS85 HB.out))); replace HO248 := aM (Kd.Q_below (qQ HO248.out) hb); replace HB := aM (below_step (wS85 HB.out) hb); replace HI242 := aM (IsS85.below (iS85 HI242.out) hb); clear hb ho0) | ((with_reducible refine gate_callee (f := 45) rfl ?_); refine gL (some 11) Try.func45 #[.pointer (some ⟨g242, 0, none⟩), .int .i64 8] ?_; (with_reducible refine (spec_reader_pick.calls k g242 t240 t249 8 t253 t254 w _ ?side1 ?side2 A5.out).mono ?_); (case side1 => exact iS85 HI242.out); (case side2 => exact wS85 HB.out); rintro e w13 ⟨rfl, hi, hb, hk⟩; refine ⟨_, rfl, ?_⟩; replace HO248 := aM (Kd.Q_mono (Kd.Q_keep (IsS85.apartQ (show IsS85 w _ g242 t240 t249 from iS85 HI242.out) (qQ HO248.out) (by decide)) hk (fun _ h => h.2)) (fun _ h => h.1)); replace HO252 := aM (Kd.N_mono (Kd.N_keep (Kd.N_mono (ok := fun k_ => (((w.heap.size ≤ k_)) ∧ (some k_ ≠ (.slice Ao11 t246.length co11 : Value).ownBlock ∧ k_ ≠ g242))) (by (with_reducible repeat (first | apply Kd.N_alloc | apply Kd.N_drewN | apply Kd.N_drew)); exact HO252.out) (fun k_ hk_ => (⟨hk_, hk_.2.2⟩ : _ ∧ k_ ≠ g242))) hk (fun _ h => h.2)) (fun _ h => h.1)); replace HB := aM (hb); replace HI242 := aM (hi); clear hb hk hi) | ((with_reducible refine gate_callee (f := 46) rfl ?_); refine gL (some 15) Try.func46 #[.pointer (some ⟨g242, 0, none⟩)] ?_; (with_reducible refine (spec_grayImage.calls k g242 t240 t254 t255 t256 t257 t258 t261 w _ ?side1 ?side2 A7.out).mono ?_); (case side1 => exact iS85 HI242.out); (case side2 => exact wS85 HB.out); rintro e w14 ⟨v259, rfl, ho0, hi, hb, hk⟩; refine ⟨_, rfl, ?_⟩; replace HO252 := aM (Kd.N_mono (Kd.N_told (Kd.N_oldK (Kd.N_mono (ok := fun k_ => (((w.heap.size ≤ k_)) ∧ (some k_ ≠ (.slice Ao11 t246.length co11 : Value).ownBlock ∧ k_ ≠ g242))) (by (with_reducible repeat (first | apply Kd.N_alloc | apply Kd.N_drewN | apply Kd.N_drew)); exact HO252.out) (fun k_ hk_ => (⟨hk_, hk_.2.2⟩ : _ ∧ k_ ≠ g242))) hk) (Kd.Q_base ho0)) (fun _ h_ => h_.1)); have HO260 := aM (Kd.Q_lower (Kd.Q_new' (Kd.Q_newM (M := fun k_ => (w.heap.size ≤ k_)) ho0 (below_size (wS85 HB.out)) (fun k_ h_ => h_)) (Kd.Q_lt (qQ HO248.out))) (below_size (wS85 HB.out))); replace HO248 := aM (Kd.Q_mono (Kd.Q_told (Kd.Q_oldK (IsS85.apartQ (show IsS85 w _ g242 t240 t254 from iS85 HI242.out) (qQ HO248.out) (by decide)) hk) (Kd.Q_base ho0)) (fun _ h_ => h_.1)); replace HB := aM (hb); replace HI242 := aM (hi); clear hb hk hi ho0; obtain ⟨Ao16, co16, eo16, _⟩ := Kd.Q_slice HO260.out; subst eo16) | ((with_reducible refine gate_builtin (b := .append) (xs := #[.tmp 13, .tmp 16]) rfl ?_); at_builtin; refine Kd.N_append k27 (w0 := w) w.heap.size rfl (.tmp 13) (.tmp 16) 23 27 (.agg #[(.int .i64 0), (.int .i64 0), (.int .i64 0), (.slice none 0 0)]) 48 rfl Try.underlying23 info27 rfl (by decide) (by omega) v251 t250 (⟨t255, t256, t257, t258⟩ : S27) [.int .i64 t255, .int .i64 t256, .int .i64 t257, .slice Ao16 t258.length co16] (fun k_ => (w.heap.size ≤ k_) ∧ some k_ ≠ (.slice Ao11 t246.length co11 : Value).ownBlock ∧ k_ ≠ g242) (fun k_ => ((fun k_ => (w.heap.size ≤ k_) ∧ some k_ ≠ (.slice Ao11 t246.length co11 : Value).ownBlock ∧ k_ ≠ g242)) k_ ∧ some k_ ≠ (v251 : Value).ownBlock) rfl rfl ?aP (fun _ hk => hk) ?aF ?aO ?aB ?aS ?aL ?_; (case aP => exact (k27_mkF _ _ (⟨t255, t256, t257, t258⟩ : S27) (Kd.Q_reads' (Kd.Q_mono (ok' := (fun k_ => ((fun k_ => (w.heap.size ≤ k_) ∧ some k_ ≠ (.slice Ao11 t246.length co11 : Value).ownBlock ∧ k_ ≠ g242)) k_ ∧ some k_ ≠ (v251 : Value).ownBlock)) (IsS85.apartQ HI242.out (Kd.Q_apart' (HO260.out) (Kd.N_typed HO252.out) (by decide)) (by decide)) (fun k_ hk => ⟨⟨hk.1.1.1.1, ⟨hk.1.1.2, hk.2⟩⟩, hk.1.2⟩))).2.1 (Kd.Q_F (Kd.Q_mono (ok' := (fun k_ => ((fun k_ => (w.heap.size ≤ k_) ∧ some k_ ≠ (.slice Ao11 t246.length co11 : Value).ownBlock ∧ k_ ≠ g242)) k_ ∧ some k_ ≠ (v251 : Value).ownBlock)) (IsS85.apartQ HI242.out (Kd.Q_apart' (HO260.out) (Kd.N_typed HO252.out) (by decide)) (by decide)) (fun k_ hk => ⟨⟨hk.1.1.1.1, ⟨hk.1.1.2, hk.2⟩⟩, hk.1.2⟩))))); (case aB => exact (wS85 HB.out)); (case aF => exact (fun k_ hk => ⟨(Nat.le_trans (below_size (wS85 HB.out)) hk), Kd.fresh' (Kd.Q_lt (qQ HO248.out)) k_ hk, IsS85.fresh (iS85 HI242.out) k_ hk⟩)); (case aO => exact (by (with_reducible repeat (first | apply Kd.N_alloc | apply Kd.N_drewN | apply Kd.N_drew)); exact Kd.N_mono HO252.out (fun _ hk => ⟨hk.1.1, ⟨hk.1.2.1, hk.1.2.2⟩⟩))); (case aS => exact (below_size (wS85 HB.out))); (case aL => have := LMc8.out; omega); intro v263 w15 ho hb hg hat; rw [← Ny262.out] at ho; replace HI242 := aM (IsS85.grown (iS85 HI242.out) hg (IsS85.own_neN HI242.out HO252.out (by decide))); replace HO248 := aM (Kd.Q_over' (qQ HO248.out) (Kd.N_typed (by (with_reducible repeat (first | apply Kd.N_alloc | apply Kd.N_drewN | apply Kd.N_drew)); exact HO252.out)) (by decide) hg); replace HB := aM (hb); have HO264 := aM (ho); clear HO252 HO260; clear ho hb hg hat))
 go_ret
 exact ⟨_, qX, by (with_reducible repeat (first | apply Kd.N_alloc | apply Kd.N_drewN | apply Kd.N_drew)); exact Kd.N_mono HO264.out (fun _ hk => hk.1), wS85 HB.out⟩
def laws_FnMergePlanes.j0 : Nat → List (S27) → Bool → Bool → Bool → Int → Int → Int → List Int → Int → Int → Int → List Int → Option (Bool)
 | 0, _, _, _, _, _, _, _, _, _, _, _, _ => none
 | k + 1, x3, x5, x7, x35, x310000, x310001, x310002, x310003, x318000, x318001, x318002, x318003 => if x35 = true then ((laws_equalImage.f k x310000 x310001 x310002 x310003 x318000 x318001 x318002 x318003).bind fun t319 => (if t319 = true then (some (x5 == x7)) else (some false))) else ((impl_SplitPlanes.f x310000 x310001 x310002 x310003).bind fun t320 => ((laws_equalImages.f k t320 x3).bind fun t323 => (some t323)))
def laws_FnMergePlanes.f (k : Nat) (l0 : List Int) : Option (Bool) := if (l0.length : Int) > 1048576 then (some true) else ((spec_DrawMergePlanes.f k l0).bind fun t299 => ((impl_MergePlanes.f t299).bind fun bt302 => ((spec_MergePlanes.f k t299).bind fun bt310 => ((laws_equalImage.f k bt302.1 bt302.2.1 bt302.2.2.1 bt302.2.2.2.1 bt310.1 bt310.2.1 bt310.2.2.1 bt310.2.2.2.1).bind fun t318 => (if t318 = true then (if (bt302.2.2.2.2 != bt310.2.2.2.2) = true then (laws_FnMergePlanes.j0 k t299 bt302.2.2.2.2 bt310.2.2.2.2 true bt302.1 bt302.2.1 bt302.2.2.1 bt302.2.2.2.1 bt310.1 bt310.2.1 bt310.2.2.1 bt310.2.2.2.1) else (laws_FnMergePlanes.j0 k t299 bt302.2.2.2.2 bt310.2.2.2.2 (!bt302.2.2.2.2) bt302.1 bt302.2.1 bt302.2.2.1 bt302.2.2.2.1 bt310.1 bt310.2.1 bt310.2.2.1 bt310.2.2.2.1)) else (laws_FnMergePlanes.j0 k t299 bt302.2.2.2.2 bt310.2.2.2.2 true bt302.1 bt302.2.1 bt302.2.2.1 bt302.2.2.2.1 bt310.1 bt310.2.1 bt310.2.2.1 bt310.2.2.2.1))))))
theorem laws_FnMergePlanes.mono_l : ∀ k, (∀ y0 y1 y2 y3 y4 y5 y6 y7 y8 y9 y10 y11, LeO (laws_FnMergePlanes.j0 k y0 y1 y2 y3 y4 y5 y6 y7 y8 y9 y10 y11) (laws_FnMergePlanes.j0 (k + 1) y0 y1 y2 y3 y4 y5 y6 y7 y8 y9 y10 y11))
 | 0 => fun _ _ _ _ _ _ _ _ _ _ _ _ r h => by simp [laws_FnMergePlanes.j0] at h
 | k + 1 => by
  have ih0 := laws_FnMergePlanes.mono_l k
  ·intro y0 y1 y2 y3 y4 y5 y6 y7 y8 y9 y10 y11
   unfold laws_FnMergePlanes.j0
   repeat' first | (with_reducible first | exact ih0 _ _ _ _ _ _ _ _ _ _ _ _ | exact laws_equalImage.mono _ _ _ _ _ _ _ _ _ | exact laws_equalImages.mono _ _ _ | exact spec_DrawMergePlanes.mono _ _ | exact spec_MergePlanes.mono _ _ | exact lR | exact lN | refine lI ?_ ?_ | refine lB ?_ fun _ => ?_) | exact ih0 _ _ _ _ _ _ _ _ _ _ _ _ | exact laws_equalImage.mono _ _ _ _ _ _ _ _ _ | exact laws_equalImages.mono _ _ _ | exact spec_DrawMergePlanes.mono _ _ | exact spec_MergePlanes.mono _ _ | exact lN | refine lI ?_ ?_ | refine lB ?_ fun _ => ?_
theorem laws_FnMergePlanes.mono : ∀ a0 k, LeO (laws_FnMergePlanes.f k a0) (laws_FnMergePlanes.f (k + 1) a0) := by
 intro a0 k
 have ih0 := laws_FnMergePlanes.mono_l k
 unfold laws_FnMergePlanes.f
 repeat' first | (with_reducible first | exact ih0 _ _ _ _ _ _ _ _ _ _ _ _ | exact laws_equalImage.mono _ _ _ _ _ _ _ _ _ | exact laws_equalImages.mono _ _ _ | exact spec_DrawMergePlanes.mono _ _ | exact spec_MergePlanes.mono _ _ | exact lR | exact lN | refine lI ?_ ?_ | refine lB ?_ fun _ => ?_) | exact ih0 _ _ _ _ _ _ _ _ _ _ _ _ | exact laws_equalImage.mono _ _ _ _ _ _ _ _ _ | exact laws_equalImages.mono _ _ _ | exact spec_DrawMergePlanes.mono _ _ | exact spec_MergePlanes.mono _ _ | exact lN | refine lI ?_ ?_ | refine lB ?_ fun _ => ?_
set_option maxHeartbeats 8000000 in
set_option maxRecDepth 100000 in
theorem laws_FnMergePlanes.calls (k : Nat) (A0 : Option Addr) (c0 : Nat) (l0 : List Int) (r : Bool) (w : World) (hr0 : Kd.C (Kd.int .u8) w A0 l0.length l0) (hc0 : l0.length ≤ c0) (h : laws_FnMergePlanes.f k l0 = some r) (hrt : r = true) :
  Calls Try.prog 3 #[.slice A0 l0.length c0] w fun e w' => e = .returned (.bool r) ∧ Below w.heap.size w w' := by
 have hu27 := Try.underlying27
 have HR0 := aM hr0
 have HC0 := aM hc0
 clear hr0 hc0
 have HB := aM (Below.refl w.heap.size w)
 unfold laws_FnMergePlanes.f at h
 have H := h
 clear h
 by_cases c2 : (l0.length : Int) > 1048576
 ·rw [if_pos c2] at H
  have c2b0 : decide (1048576 < (l0.length : Int)) = true := decide_eq_true c2
  have c2b1 : decide (1048576 < l0.length) = true := decide_eq_true (by omega)
  clear c2
  obtain rfl := Option.some.inj H
  go_enter Try.func3, Try.ntmps3
  go_wp2
  go_ret
  exact ⟨qX, by exact qW HB.out⟩
 rw [if_neg c2] at H
 have c2b0 : decide (1048576 < (l0.length : Int)) = false := decide_eq_false c2
 have c2b1 : decide (1048576 < l0.length) = false := decide_eq_false (by omega)
 clear c2
 replace H := Option.bind_eq_some_iff.mp H
 obtain ⟨t299, A30, H⟩ := H
 replace H : ((impl_MergePlanes.f t299).bind fun bt302 => ((spec_MergePlanes.f k t299).bind fun bt310 => ((laws_equalImage.f k bt302.1 bt302.2.1 bt302.2.2.1 bt302.2.2.2.1 bt310.1 bt310.2.1 bt310.2.2.1 bt310.2.2.2.1).bind fun t318 => (if t318 = true then (if (bt302.2.2.2.2 != bt310.2.2.2.2) = true then (laws_FnMergePlanes.j0 k t299 bt302.2.2.2.2 bt310.2.2.2.2 true bt302.1 bt302.2.1 bt302.2.2.1 bt302.2.2.2.1 bt310.1 bt310.2.1 bt310.2.2.1 bt310.2.2.2.1) else (laws_FnMergePlanes.j0 k t299 bt302.2.2.2.2 bt310.2.2.2.2 (!bt302.2.2.2.2) bt302.1 bt302.2.1 bt302.2.2.1 bt302.2.2.2.1 bt310.1 bt310.2.1 bt310.2.2.1 bt310.2.2.2.1)) else (laws_FnMergePlanes.j0 k t299 bt302.2.2.2.2 bt310.2.2.2.2 true bt302.1 bt302.2.1 bt302.2.2.1 bt302.2.2.2.1 bt310.1 bt310.2.1 bt310.2.2.1 bt310.2.2.2.1))))) = some r := H
 have A3 := aM A30
 clear A30
 replace H := Option.bind_eq_some_iff.mp H
 obtain ⟨⟨t302, t303, t304, t305, t308⟩, A40, H⟩ := H
 replace H : ((spec_MergePlanes.f k t299).bind fun bt310 => ((laws_equalImage.f k t302 t303 t304 t305 bt310.1 bt310.2.1 bt310.2.2.1 bt310.2.2.2.1).bind fun t318 => (if t318 = true then (if (t308 != bt310.2.2.2.2) = true then (laws_FnMergePlanes.j0 k t299 t308 bt310.2.2.2.2 true t302 t303 t304 t305 bt310.1 bt310.2.1 bt310.2.2.1 bt310.2.2.2.1) else (laws_FnMergePlanes.j0 k t299 t308 bt310.2.2.2.2 (!t308) t302 t303 t304 t305 bt310.1 bt310.2.1 bt310.2.2.1 bt310.2.2.2.1)) else (laws_FnMergePlanes.j0 k t299 t308 bt310.2.2.2.2 true t302 t303 t304 t305 bt310.1 bt310.2.1 bt310.2.2.1 bt310.2.2.2.1)))) = some r := H
 have A4 := aM A40
 clear A40
 replace H := Option.bind_eq_some_iff.mp H
 obtain ⟨⟨t310, t311, t312, t313, t316⟩, A50, H⟩ := H
 replace H : ((laws_equalImage.f k t302 t303 t304 t305 t310 t311 t312 t313).bind fun t318 => (if t318 = true then (if (t308 != t316) = true then (laws_FnMergePlanes.j0 k t299 t308 t316 true t302 t303 t304 t305 t310 t311 t312 t313) else (laws_FnMergePlanes.j0 k t299 t308 t316 (!t308) t302 t303 t304 t305 t310 t311 t312 t313)) else (laws_FnMergePlanes.j0 k t299 t308 t316 true t302 t303 t304 t305 t310 t311 t312 t313))) = some r := H
 have A5 := aM A50
 clear A50
 have HC6 := aM H
 clear H
 go_enter Try.func3, Try.ntmps3
 go_upto_region 6 with (first | ((with_reducible refine gate_callee (f := 12) rfl ?_); refine gL (some 12) Try.func12 #[.slice A0 l0.length c0] ?_; (with_reducible refine (spec_DrawMergePlanes.calls k _ _ l0 t299 _ ?side1 ?side2 A3.out).mono ?_); (case side1 => exact qC HR0.out); (case side2 => exact HC0.out); rintro e w7 ⟨v300, rfl, ho0, hb⟩; refine ⟨_, rfl, ?_⟩; have HO301 := aM (Kd.N_lower (Kd.N_mono (ok' := fun k_ => True) ho0 (fun k_ hk_ => trivial)) (below_size (qW HB.out))); replace HB := bS HB hb; clear hb ho0; obtain ⟨Ao8, co8, eo8⟩ := Kd.N_slice HO301.out; subst eo8) | ((with_reducible refine gate_callee (f := 13) rfl ?_); refine gL (some 15) Try.func13 #[.slice Ao8 t299.length co8] ?_; (with_reducible refine (impl_MergePlanes.calls _ _ t299 t302 t303 t304 t305 t308 _ ?side1 ?side2 A4.out).mono ?_); (case side1 => exact qC (Kd.N_reads' HO301.out).2.2); (case side2 => exact (Kd.N_reads' HO301.out).2.1); rintro e w9 ⟨v306, rfl, ho0, hb⟩; refine ⟨_, rfl, ?_⟩; replace HO301 := aM (Kd.N_elder' (by (with_reducible repeat (first | apply Kd.N_alloc | apply Kd.N_drewN | apply Kd.N_drew)); exact HO301.out) (Kd.R_base ho0) hb); have HO307 := oR ho0 HB; replace HB := bS HB hb; clear hb ho0) | ((with_reducible refine gate_dst (N := 4) rfl ?_); refine bxE (N := 4) (cs := #[.int .i64 0, .int .i64 0, .int .i64 0, .slice none 0 0]) (t := 27) ?_; intro gb309 hg w10 hbox hb; replace HO301 := aM (Kd.N_below (Kd.N_elderB (by (with_reducible repeat (first | apply Kd.N_alloc | apply Kd.N_drewN | apply Kd.N_drew)); exact HO301.out) gb309 (Nat.le_of_eq hg.symm)) hb); replace HO307 := aM (Kd.R_below (qR HO307.out) hb); have BK309 := aM (hbox); have GW309 := gW hg HB; have GE309 := gW hg HB; replace HB := bS HB hb; clear hb hbox hg; obtain ⟨⟨hcz11_0, hcz11_1, hcz11_2, hcz11_3⟩, hfz11_0, hfz11_1, hfz11_2, hfz11_3⟩ := cf4 BK309; obtain ⟨Ao12, co12, rfl⟩ := sL HO307) | ((with_reducible refine gate_callee (f := 14) rfl ?_); refine gL (some 20) Try.func14 #[.slice Ao8 t299.length co8] ?_; (with_reducible refine (spec_MergePlanes.calls k _ _ t299 t310 t311 t312 t313 t316 _ ?side1 ?side2 A5.out).mono ?_); (case side1 => refine (Kd.N_reads' (e := 27) (base := w.heap.size) (ok := fun k_ => ((True ∧ some k_ ≠ (.slice Ao12 t305.length co12 : Value).ownBlock) ∧ k_ ≠ gb309)) (n := t299.length) (c := co8) ?_).2.2; exact (by (with_reducible repeat (first | apply Kd.N_alloc | apply Kd.N_drewN | apply Kd.N_drew)); exact (Kd.N_mono (Kd.N_far (p := ⟨gb309, 3, none⟩) (Kd.N_far (p := ⟨gb309, 2, none⟩) (Kd.N_far (p := ⟨gb309, 1, none⟩) (Kd.N_far (p := ⟨gb309, 0, none⟩) (Kd.N_mono HO301.out (fun k_ hk => (⟨hk, hk.2⟩ : _ ∧ k_ ≠ gb309))) (fun _ hk => hk.2) (.int .i64 t302)) (fun _ hk => hk.2) (.int .i64 t303)) (fun _ hk => hk.2) (.int .i64 t304)) (fun _ hk => hk.2) (.slice Ao12 t305.length co12)) (fun _ h_ => h_.1)))); (case side2 => exact (Kd.N_reads' HO301.out).2.1); rintro e w13 ⟨v314, rfl, ho0, hb⟩; refine ⟨_, rfl, ?_⟩; replace HO301 := aM (Kd.N_elder' (by (with_reducible repeat (first | apply Kd.N_alloc | apply Kd.N_drewN | apply Kd.N_drew)); exact (Kd.N_mono (Kd.N_far (p := ⟨gb309, 3, none⟩) (Kd.N_far (p := ⟨gb309, 2, none⟩) (Kd.N_far (p := ⟨gb309, 1, none⟩) (Kd.N_far (p := ⟨gb309, 0, none⟩) (Kd.N_mono HO301.out (fun k_ hk => (⟨hk, hk.2⟩ : _ ∧ k_ ≠ gb309))) (fun _ hk => hk.2) (.int .i64 t302)) (fun _ hk => hk.2) (.int .i64 t303)) (fun _ hk => hk.2) (.int .i64 t304)) (fun _ hk => hk.2) (.slice Ao12 t305.length co12)) (fun _ h_ => h_.1))) (Kd.R_base ho0) hb); have HO315 := aM (Kd.R_lower (Kd.R_new' ho0 (Kd.R_lt (by refine qR ?_; exact (fr4 HO307 BK309)))) (below_size (qW HB.out))); replace HO307 := aM (Kd.R_elder' (by refine qR ?_; exact (fr4 HO307 BK309)) (Kd.R_base ho0) hb); replace BK309 := aM (blk_below (g := gb309) (o := .cells #[.int .i64 t302, .int .i64 t303, .int .i64 t304, .slice Ao12 t305.length co12] 27 (0, 0)) (by exact bP BK309.out) hb); replace HB := bS HB hb; clear hb ho0) | ((with_reducible refine gate_dst (N := 6) rfl ?_); refine bxE (N := 6) (cs := #[.int .i64 0, .int .i64 0, .int .i64 0, .slice none 0 0]) (t := 27) ?_; intro gb317 hg w14 hbox hb; replace HO301 := aM (Kd.N_below (Kd.N_elderB (by (with_reducible repeat (first | apply Kd.N_alloc | apply Kd.N_drewN | apply Kd.N_drew)); exact HO301.out) gb317 (Nat.le_of_eq hg.symm)) hb); replace HO307 := aM (Kd.R_below (qR HO307.out) hb); replace HO315 := aM (Kd.R_below (qR HO315.out) hb); have BK317 := aM (hbox); have GW317 := gW hg HB; have GE317 := gW hg HB; replace HB := bS HB hb; have NB309_317 := nL hg BK309; have NB317_309 := nG hg BK309; replace BK309 := bB BK309 hb; clear hb hbox hg; have hnb15 := NB317_309.out; have hnc15 := NB309_317.out; obtain ⟨⟨hcz16_0, hcz16_1, hcz16_2, hcz16_3⟩, hfz16_0, hfz16_1, hfz16_2, hfz16_3⟩ := cf4 BK317; obtain ⟨Ao17, co17, rfl⟩ := sL HO315))
 (try simp only [Act.put, List.setIfInBounds_toArray, List.set_cons_zero, List.set_cons_succ])
 go_cut [35] (fun v35 wc => ∃ (kq : Nat) (x35_5 : Bool), v35 = .bool x35_5 ∧ Aside0 (laws_FnMergePlanes.j0 kq t299 t308 t316 x35_5 t302 t303 t304 t305 t310 t311 t312 t313 = some r) ∧ Aside0 (kq ≤ k) ∧ Aside0 (Kd.N k27 27 wc w.heap.size (fun k_ => some k_ ≠ ((.slice Ao12 t305.length co12) : Value).ownBlock ∧ some k_ ≠ ((.slice Ao17 t313.length co17) : Value).ownBlock ∧ k_ ≠ gb309 ∧ k_ ≠ gb317) (.slice Ao8 t299.length co8) t299) ∧ Aside0 (Kd.R (Kd.int .i64) 3 wc w.heap.size (fun k_ => some k_ ≠ ((.slice Ao17 t313.length co17) : Value).ownBlock) (.slice Ao12 t305.length co12) t305) ∧ Aside0 (Kd.R (Kd.int .i64) 3 wc w.heap.size (fun k_ => some k_ ≠ ((.slice Ao12 t305.length co12) : Value).ownBlock) (.slice Ao17 t313.length co17) t313) ∧ Aside0 (wc.heap[gb309]? = some (.cells #[.int .i64 t302, .int .i64 t303, .int .i64 t304, (.slice Ao12 t305.length co12)] 27 (0, 0))) ∧ Aside0 (wc.heap[gb317]? = some (.cells #[.int .i64 t310, .int .i64 t311, .int .i64 t312, (.slice Ao17 t313.length co17)] 27 (0, 0))) ∧ Aside0 (Below w.heap.size w wc))
 case first =>
  have H := HC6.out
  clear HC6
  replace H := Option.bind_eq_some_iff.mp H
  obtain ⟨t318, A180, H⟩ := H
  replace H : (if t318 = true then (if (t308 != t316) = true then (laws_FnMergePlanes.j0 k t299 t308 t316 true t302 t303 t304 t305 t310 t311 t312 t313) else (laws_FnMergePlanes.j0 k t299 t308 t316 (!t308) t302 t303 t304 t305 t310 t311 t312 t313)) else (laws_FnMergePlanes.j0 k t299 t308 t316 true t302 t303 t304 t305 t310 t311 t312 t313)) = some r := H
  have A18 := aM A180
  clear A180
  by_cases c19 : t318 = true
  rotate_left
  ·replace c19 := Bool.eq_false_iff.mpr c19
   subst c19
   have H1 : (laws_FnMergePlanes.j0 k t299 t308 t316 true t302 t303 t304 t305 t310 t311 t312 t313) = some r := by rw [if_neg (show ¬ (false = true) by decide)] at H; exact H
   clear H
   have H := H1
   clear H1
   have H' := aM H
   clear H
   have hnb29 := NB309_317.out
   have hnc29 := NB317_309.out
   obtain ⟨⟨hcz30_0, hcz30_1, hcz30_2, hcz30_3⟩, hfz30_0, hfz30_1, hfz30_2, hfz30_3⟩ := cf4 BK309
   obtain ⟨⟨hcz31_0, hcz31_1, hcz31_2, hcz31_3⟩, hfz31_0, hfz31_1, hfz31_2, hfz31_3⟩ := cf4 BK317
   go_wp2_with (first | ((with_reducible refine gate_callee (f := 15) rfl ?_); refine gL (some 25) Try.func15 #[.agg #[.int .i64 t302, .int .i64 t303, .int .i64 t304, .slice Ao12 t305.length co12], .agg #[.int .i64 t310, .int .i64 t311, .int .i64 t312, .slice Ao17 t313.length co17]] ?_; (with_reducible refine (laws_equalImage.calls k t302 t303 t304 _ _ t305 t310 t311 t312 _ _ t313 false _ ?side1 ?side2 ?side3 ?side4 A18.out).mono ?_); (case side1 => refine (Kd.R_reads' (e := 3) (base := w.heap.size) (ok := fun k_ => (True ∧ some k_ ≠ (.slice Ao17 t313.length co17 : Value).ownBlock)) (n := t305.length) (c := co12) ?_).2.2; exact (by refine qR ?_; exact (fr4 HO307 BK317))); (case side2 => exact (Kd.R_reads' HO307.out).2.1); (case side3 => refine (Kd.R_reads' (e := 3) (base := w.heap.size) (ok := fun k_ => (True ∧ some k_ ≠ (.slice Ao12 t305.length co12 : Value).ownBlock)) (n := t313.length) (c := co17) ?_).2.2; exact (by refine qR ?_; exact (fr4 HO315 BK317))); (case side4 => exact (Kd.R_reads' HO315.out).2.1); rintro e w32 ⟨rfl, hb⟩; refine ⟨_, rfl, ?_⟩; replace HO301 := aM (Kd.N_below (by (with_reducible repeat (first | apply Kd.N_alloc | apply Kd.N_drewN | apply Kd.N_drew)); exact (Kd.N_mono (Kd.N_far (p := ⟨gb317, 3, none⟩) (Kd.N_far (p := ⟨gb317, 2, none⟩) (Kd.N_far (p := ⟨gb317, 1, none⟩) (Kd.N_far (p := ⟨gb317, 0, none⟩) (Kd.N_mono HO301.out (fun k_ hk => (⟨hk, hk.2⟩ : _ ∧ k_ ≠ gb317))) (fun _ hk => hk.2) (.int .i64 t310)) (fun _ hk => hk.2) (.int .i64 t311)) (fun _ hk => hk.2) (.int .i64 t312)) (fun _ hk => hk.2) (.slice Ao17 t313.length co17)) (fun _ h_ => h_.1))) hb); replace HO307 := aM (Kd.R_below (by refine qR ?_; exact (fr4 HO307 BK317)) hb); replace HO315 := aM (Kd.R_below (by refine qR ?_; exact (fr4 HO315 BK317)) hb); replace BK309 := aM (blk_below (g := gb309) (o := .cells #[.int .i64 t302, .int .i64 t303, .int .i64 t304, .slice Ao12 t305.length co12] 27 (0, 0)) (by refine qB ?_; refine blk_far ?_ NB309_317.out _; refine qB ?_; refine blk_far ?_ NB309_317.out _; refine qB ?_; refine blk_far ?_ NB309_317.out _; refine qB ?_; refine blk_far ?_ NB309_317.out _; refine qB ?_; exact BK309.out) hb); replace BK317 := aM (blk_below (g := gb317) (o := .cells #[.int .i64 t310, .int .i64 t311, .int .i64 t312, .slice Ao17 t313.length co17] 27 (0, 0)) (by exact bP BK317.out) hb); replace HB := bS HB hb; clear hb))
   go_meet
   case rel => exact ⟨_, (true), qE, H', ⟨by first | omega | exact Nat.le_refl _⟩, ⟨by (with_reducible repeat (first | apply Kd.N_alloc | apply Kd.N_drewN | apply Kd.N_drew)); exact Kd.N_mono HO301.out (fun _ hk => ⟨hk.1.1.1.2, ⟨hk.1.2, ⟨hk.1.1.2, hk.2⟩⟩⟩)⟩, ⟨by refine qR ?_; exact Kd.R_mono HO307.out (fun _ hk => hk.2)⟩, ⟨by refine qR ?_; exact Kd.R_mono HO315.out (fun _ hk => hk.2)⟩, ⟨by refine qB ?_; exact BK309.out⟩, ⟨by refine qB ?_; exact BK317.out⟩, ⟨by exact qW HB.out⟩⟩
  subst c19
  have H1 : (if (t308 != t316) = true then (laws_FnMergePlanes.j0 k t299 t308 t316 true t302 t303 t304 t305 t310 t311 t312 t313) else (laws_FnMergePlanes.j0 k t299 t308 t316 (!t308) t302 t303 t304 t305 t310 t311 t312 t313)) = some r := by rw [if_pos rfl] at H; exact H
  clear H
  have H := H1
  clear H1
  by_cases c20 : (t308 != t316) = true
  rotate_left
  ·rw [if_neg c20] at H
   have c20b0 : (t308 != t316) = false := by simpa using c20
   (try (have c20b1 : decide (t308 = t316) = true := by simpa using c20))
   (try (have c20b2 : (t308 == t316) = true := by simpa using c20))
   clear c20
   (first | rw [c20b0] | (simp only [i64_w, i32_w]; rw [c20b0]) | skip)
   have H' := aM H
   clear H
   have hnb25 := NB309_317.out
   have hnc25 := NB317_309.out
   obtain ⟨⟨hcz26_0, hcz26_1, hcz26_2, hcz26_3⟩, hfz26_0, hfz26_1, hfz26_2, hfz26_3⟩ := cf4 BK309
   obtain ⟨⟨hcz27_0, hcz27_1, hcz27_2, hcz27_3⟩, hfz27_0, hfz27_1, hfz27_2, hfz27_3⟩ := cf4 BK317
   go_wp2_with (first | ((with_reducible refine gate_callee (f := 15) rfl ?_); refine gL (some 25) Try.func15 #[.agg #[.int .i64 t302, .int .i64 t303, .int .i64 t304, .slice Ao12 t305.length co12], .agg #[.int .i64 t310, .int .i64 t311, .int .i64 t312, .slice Ao17 t313.length co17]] ?_; (with_reducible refine (laws_equalImage.calls k t302 t303 t304 _ _ t305 t310 t311 t312 _ _ t313 true _ ?side1 ?side2 ?side3 ?side4 A18.out).mono ?_); (case side1 => refine (Kd.R_reads' (e := 3) (base := w.heap.size) (ok := fun k_ => (True ∧ some k_ ≠ (.slice Ao17 t313.length co17 : Value).ownBlock)) (n := t305.length) (c := co12) ?_).2.2; exact (by refine qR ?_; exact (fr4 HO307 BK317))); (case side2 => exact (Kd.R_reads' HO307.out).2.1); (case side3 => refine (Kd.R_reads' (e := 3) (base := w.heap.size) (ok := fun k_ => (True ∧ some k_ ≠ (.slice Ao12 t305.length co12 : Value).ownBlock)) (n := t313.length) (c := co17) ?_).2.2; exact (by refine qR ?_; exact (fr4 HO315 BK317))); (case side4 => exact (Kd.R_reads' HO315.out).2.1); rintro e w28 ⟨rfl, hb⟩; refine ⟨_, rfl, ?_⟩; replace HO301 := aM (Kd.N_below (by (with_reducible repeat (first | apply Kd.N_alloc | apply Kd.N_drewN | apply Kd.N_drew)); exact (Kd.N_mono (Kd.N_far (p := ⟨gb317, 3, none⟩) (Kd.N_far (p := ⟨gb317, 2, none⟩) (Kd.N_far (p := ⟨gb317, 1, none⟩) (Kd.N_far (p := ⟨gb317, 0, none⟩) (Kd.N_mono HO301.out (fun k_ hk => (⟨hk, hk.2⟩ : _ ∧ k_ ≠ gb317))) (fun _ hk => hk.2) (.int .i64 t310)) (fun _ hk => hk.2) (.int .i64 t311)) (fun _ hk => hk.2) (.int .i64 t312)) (fun _ hk => hk.2) (.slice Ao17 t313.length co17)) (fun _ h_ => h_.1))) hb); replace HO307 := aM (Kd.R_below (by refine qR ?_; exact (fr4 HO307 BK317)) hb); replace HO315 := aM (Kd.R_below (by refine qR ?_; exact (fr4 HO315 BK317)) hb); replace BK309 := aM (blk_below (g := gb309) (o := .cells #[.int .i64 t302, .int .i64 t303, .int .i64 t304, .slice Ao12 t305.length co12] 27 (0, 0)) (by refine qB ?_; refine blk_far ?_ NB309_317.out _; refine qB ?_; refine blk_far ?_ NB309_317.out _; refine qB ?_; refine blk_far ?_ NB309_317.out _; refine qB ?_; refine blk_far ?_ NB309_317.out _; refine qB ?_; exact BK309.out) hb); replace BK317 := aM (blk_below (g := gb317) (o := .cells #[.int .i64 t310, .int .i64 t311, .int .i64 t312, .slice Ao17 t313.length co17] 27 (0, 0)) (by exact bP BK317.out) hb); replace HB := bS HB hb; clear hb))
   go_meet
   case rel => exact ⟨_, (!t308), qE, H', ⟨by first | omega | exact Nat.le_refl _⟩, ⟨by (with_reducible repeat (first | apply Kd.N_alloc | apply Kd.N_drewN | apply Kd.N_drew)); exact Kd.N_mono HO301.out (fun _ hk => ⟨hk.1.1.1.2, ⟨hk.1.2, ⟨hk.1.1.2, hk.2⟩⟩⟩)⟩, ⟨by refine qR ?_; exact Kd.R_mono HO307.out (fun _ hk => hk.2)⟩, ⟨by refine qR ?_; exact Kd.R_mono HO315.out (fun _ hk => hk.2)⟩, ⟨by refine qB ?_; exact BK309.out⟩, ⟨by refine qB ?_; exact BK317.out⟩, ⟨by exact qW HB.out⟩⟩
  rw [if_pos c20] at H
  have c20b0 : (t308 != t316) = true := c20
  (try (have c20b1 : decide (t308 = t316) = false := by simpa using c20))
  (try (have c20b2 : (t308 == t316) = false := by simpa using c20))
  (try (have c20b3 : ¬ (t308 = t316) := by simpa using c20))
  clear c20
  (first | rw [c20b0] | (simp only [i64_w, i32_w]; rw [c20b0]) | skip)
  have H' := aM H
  clear H
  have hnb21 := NB309_317.out
  have hnc21 := NB317_309.out
  obtain ⟨⟨hcz22_0, hcz22_1, hcz22_2, hcz22_3⟩, hfz22_0, hfz22_1, hfz22_2, hfz22_3⟩ := cf4 BK309
  obtain ⟨⟨hcz23_0, hcz23_1, hcz23_2, hcz23_3⟩, hfz23_0, hfz23_1, hfz23_2, hfz23_3⟩ := cf4 BK317
  go_wp2_with (first | ((with_reducible refine gate_callee (f := 15) rfl ?_); refine gL (some 25) Try.func15 #[.agg #[.int .i64 t302, .int .i64 t303, .int .i64 t304, .slice Ao12 t305.length co12], .agg #[.int .i64 t310, .int .i64 t311, .int .i64 t312, .slice Ao17 t313.length co17]] ?_; (with_reducible refine (laws_equalImage.calls k t302 t303 t304 _ _ t305 t310 t311 t312 _ _ t313 true _ ?side1 ?side2 ?side3 ?side4 A18.out).mono ?_); (case side1 => refine (Kd.R_reads' (e := 3) (base := w.heap.size) (ok := fun k_ => (True ∧ some k_ ≠ (.slice Ao17 t313.length co17 : Value).ownBlock)) (n := t305.length) (c := co12) ?_).2.2; exact (by refine qR ?_; exact (fr4 HO307 BK317))); (case side2 => exact (Kd.R_reads' HO307.out).2.1); (case side3 => refine (Kd.R_reads' (e := 3) (base := w.heap.size) (ok := fun k_ => (True ∧ some k_ ≠ (.slice Ao12 t305.length co12 : Value).ownBlock)) (n := t313.length) (c := co17) ?_).2.2; exact (by refine qR ?_; exact (fr4 HO315 BK317))); (case side4 => exact (Kd.R_reads' HO315.out).2.1); rintro e w24 ⟨rfl, hb⟩; refine ⟨_, rfl, ?_⟩; replace HO301 := aM (Kd.N_below (by (with_reducible repeat (first | apply Kd.N_alloc | apply Kd.N_drewN | apply Kd.N_drew)); exact (Kd.N_mono (Kd.N_far (p := ⟨gb317, 3, none⟩) (Kd.N_far (p := ⟨gb317, 2, none⟩) (Kd.N_far (p := ⟨gb317, 1, none⟩) (Kd.N_far (p := ⟨gb317, 0, none⟩) (Kd.N_mono HO301.out (fun k_ hk => (⟨hk, hk.2⟩ : _ ∧ k_ ≠ gb317))) (fun _ hk => hk.2) (.int .i64 t310)) (fun _ hk => hk.2) (.int .i64 t311)) (fun _ hk => hk.2) (.int .i64 t312)) (fun _ hk => hk.2) (.slice Ao17 t313.length co17)) (fun _ h_ => h_.1))) hb); replace HO307 := aM (Kd.R_below (by refine qR ?_; exact (fr4 HO307 BK317)) hb); replace HO315 := aM (Kd.R_below (by refine qR ?_; exact (fr4 HO315 BK317)) hb); replace BK309 := aM (blk_below (g := gb309) (o := .cells #[.int .i64 t302, .int .i64 t303, .int .i64 t304, .slice Ao12 t305.length co12] 27 (0, 0)) (by refine qB ?_; refine blk_far ?_ NB309_317.out _; refine qB ?_; refine blk_far ?_ NB309_317.out _; refine qB ?_; refine blk_far ?_ NB309_317.out _; refine qB ?_; refine blk_far ?_ NB309_317.out _; refine qB ?_; exact BK309.out) hb); replace BK317 := aM (blk_below (g := gb317) (o := .cells #[.int .i64 t310, .int .i64 t311, .int .i64 t312, .slice Ao17 t313.length co17] 27 (0, 0)) (by exact bP BK317.out) hb); replace HB := bS HB hb; clear hb))
  go_meet
  case rel => exact ⟨_, (true), qE, H', ⟨by first | omega | exact Nat.le_refl _⟩, ⟨by (with_reducible repeat (first | apply Kd.N_alloc | apply Kd.N_drewN | apply Kd.N_drew)); exact Kd.N_mono HO301.out (fun _ hk => ⟨hk.1.1.1.2, ⟨hk.1.2, ⟨hk.1.1.2, hk.2⟩⟩⟩)⟩, ⟨by refine qR ?_; exact Kd.R_mono HO307.out (fun _ hk => hk.2)⟩, ⟨by refine qR ?_; exact Kd.R_mono HO315.out (fun _ hk => hk.2)⟩, ⟨by refine qB ?_; exact BK309.out⟩, ⟨by refine qB ?_; exact BK317.out⟩, ⟨by exact qW HB.out⟩⟩
 case rest =>
  clear HC6
  try clear c2
  try clear c2b0
  try clear c2b1
  try clear c19
  try clear c20
  try clear c20b0
  try clear c20b1
  try clear c20b2
  try clear hcz11_0 hcz11_1 hcz11_2 hcz11_3 hfz11_0 hfz11_1 hfz11_2 hfz11_3
  try clear hcz16_0 hcz16_1 hcz16_2 hcz16_3 hfz16_0 hfz16_1 hfz16_2 hfz16_3
  try clear hcz22_0 hcz22_1 hcz22_2 hcz22_3 hfz22_0 hfz22_1 hfz22_2 hfz22_3
  try clear hcz23_0 hcz23_1 hcz23_2 hcz23_3 hfz23_0 hfz23_1 hfz23_2 hfz23_3
  try clear hcz26_0 hcz26_1 hcz26_2 hcz26_3 hfz26_0 hfz26_1 hfz26_2 hfz26_3
  try clear hcz27_0 hcz27_1 hcz27_2 hcz27_3 hfz27_0 hfz27_1 hfz27_2 hfz27_3
  try clear hcz30_0 hcz30_1 hcz30_2 hcz30_3 hfz30_0 hfz30_1 hfz30_2 hfz30_3
  try clear hcz31_0 hcz31_1 hcz31_2 hcz31_3 hfz31_0 hfz31_1 hfz31_2 hfz31_3
  obtain ⟨kq, x35_5, rfl, HA, HJ5, HO_3, HO_310003, HO_318003, BK309, BK317, HB⟩ := hcut
  cases kq with
  | zero => exact absurd HA.out (by simp [laws_FnMergePlanes.j0])
  | succ kj5 =>
   have H := HA.out
   clear HA
   simp only [laws_FnMergePlanes.j0] at H
   by_cases c33 : x35_5 = true
   ·subst c33
    have H1 : ((laws_equalImage.f kj5 t302 t303 t304 t305 t310 t311 t312 t313).bind fun t319 => (if t319 = true then (some (t308 == t316)) else (some false))) = some r := by rw [if_pos rfl] at H; exact H
    clear H
    have H := H1
    clear H1
    replace H := Option.bind_eq_some_iff.mp H
    obtain ⟨t319, A340, H⟩ := H
    replace H : (if t319 = true then (some (t308 == t316)) else (some false)) = some r := H
    have A34 := aM A340
    clear A340
    by_cases c35 : t319 = true
    rotate_left
    ·replace c35 := Bool.eq_false_iff.mpr c35
     subst c35
     have H1 : (some false) = some r := by rw [if_neg (show ¬ (false = true) by decide)] at H; exact H
     clear H
     have H := H1
     clear H1
     obtain rfl := Option.some.inj H
     exact absurd hrt (by decide)
    subst c35
    have H1 : (some (t308 == t316)) = some r := by rw [if_pos rfl] at H; exact H
    clear H
    have H := H1
    clear H1
    obtain rfl := Option.some.inj H
    have hnb36 := NB309_317.out
    have hnc36 := NB317_309.out
    obtain ⟨⟨hcz37_0, hcz37_1, hcz37_2, hcz37_3⟩, hfz37_0, hfz37_1, hfz37_2, hfz37_3⟩ := cf4 BK309
    obtain ⟨⟨hcz38_0, hcz38_1, hcz38_2, hcz38_3⟩, hfz38_0, hfz38_1, hfz38_2, hfz38_3⟩ := cf4 BK317
    go_wp2_with (first | ((with_reducible refine gate_callee (f := 15) rfl ?_); refine gL (some 38) Try.func15 #[.agg #[.int .i64 t302, .int .i64 t303, .int .i64 t304, .slice Ao12 t305.length co12], .agg #[.int .i64 t310, .int .i64 t311, .int .i64 t312, .slice Ao17 t313.length co17]] ?_; (with_reducible refine (laws_equalImage.calls kj5 t302 t303 t304 _ _ t305 t310 t311 t312 _ _ t313 true _ ?side1 ?side2 ?side3 ?side4 A34.out).mono ?_); (case side1 => exact qC (Kd.R_reads' HO_310003.out).2.2); (case side2 => exact (Kd.R_reads' HO_310003.out).2.1); (case side3 => exact qC (Kd.R_reads' HO_318003.out).2.2); (case side4 => exact (Kd.R_reads' HO_318003.out).2.1); rintro e w39 ⟨rfl, hb⟩; refine ⟨_, rfl, ?_⟩; replace HO_3 := aM (Kd.N_below (by (with_reducible repeat (first | apply Kd.N_alloc | apply Kd.N_drewN | apply Kd.N_drew)); exact HO_3.out) hb); replace HO_310003 := aM (Kd.R_below (qR HO_310003.out) hb); replace HO_318003 := aM (Kd.R_below (qR HO_318003.out) hb); replace BK309 := bB BK309 hb; replace BK317 := bB BK317 hb; replace HB := bS HB hb; clear hb))
    go_ret
    exact ⟨qX, by exact qW HB.out⟩
   replace c33 := Bool.eq_false_iff.mpr c33
   subst c33
   have H1 : ((impl_SplitPlanes.f t302 t303 t304 t305).bind fun t320 => ((laws_equalImages.f kj5 t320 t299).bind fun t323 => (some t323))) = some r := by rw [if_neg (show ¬ (false = true) by decide)] at H; exact H
   clear H
   have H := H1
   clear H1
   replace H := Option.bind_eq_some_iff.mp H
   obtain ⟨t320, A440, H⟩ := H
   replace H : ((laws_equalImages.f kj5 t320 t299).bind fun t323 => (some t323)) = some r := H
   have A44 := aM A440
   clear A440
   replace H := Option.bind_eq_some_iff.mp H
   obtain ⟨t323, A450, H⟩ := H
   replace H : (some t323) = some r := H
   have A45 := aM A450
   clear A450
   obtain rfl := Option.some.inj H
   have hnb46 := NB309_317.out
   have hnc46 := NB317_309.out
   obtain ⟨⟨hcz47_0, hcz47_1, hcz47_2, hcz47_3⟩, hfz47_0, hfz47_1, hfz47_2, hfz47_3⟩ := cf4 BK309
   go_wp2_with (first | ((with_reducible refine gate_callee (f := 17) rfl ?_); refine gL (some 45) Try.func17 #[.agg #[.int .i64 t302, .int .i64 t303, .int .i64 t304, .slice Ao12 t305.length co12]] ?_; (with_reducible refine (impl_SplitPlanes.calls t302 t303 t304 _ _ t305 t320 _ ?side1 ?side2 A44.out).mono ?_); (case side1 => exact qC (Kd.R_reads' HO_310003.out).2.2); (case side2 => exact (Kd.R_reads' HO_310003.out).2.1); rintro e w48 ⟨v321, rfl, ho0, hb⟩; refine ⟨_, rfl, ?_⟩; have HO322 := aM (Kd.N_lower (Kd.N_mono (ok' := fun k_ => some k_ ≠ (.slice Ao8 t299.length co8 : Value).ownBlock ∧ some k_ ≠ (.slice Ao12 t305.length co12 : Value).ownBlock ∧ some k_ ≠ (.slice Ao17 t313.length co17 : Value).ownBlock ∧ k_ ≠ gb309 ∧ k_ ≠ gb317) (Kd.S_N (Kd.S_bound ho0)) (fun k_ hk_ => ⟨(Kd.fresh' (Kd.N_lt (by (with_reducible repeat (first | apply Kd.N_alloc | apply Kd.N_drewN | apply Kd.N_drew)); exact HO_3.out)) k_ hk_.2.1), (Kd.fresh' (Kd.R_lt (qR HO_310003.out)) k_ hk_.2.1), (Kd.fresh' (Kd.R_lt (qR HO_318003.out)) k_ hk_.2.1), (Kd.freshB (g := gb309) (o := .cells #[.int .i64 t302, .int .i64 t303, .int .i64 t304, .slice Ao12 t305.length co12] 27 (0, 0)) (qB BK309.out) k_ hk_.2.1), (Kd.freshB (g := gb317) (o := .cells #[.int .i64 t310, .int .i64 t311, .int .i64 t312, .slice Ao17 t313.length co17] 27 (0, 0)) (qB BK317.out) k_ hk_.2.1)⟩)) (below_size (qW HB.out))); replace HO_3 := aM (Kd.N_elder' (by (with_reducible repeat (first | apply Kd.N_alloc | apply Kd.N_drewN | apply Kd.N_drew)); exact HO_3.out) (Kd.S_base ho0) hb); replace HO_310003 := aM (Kd.R_below (qR HO_310003.out) hb); replace HO_318003 := aM (Kd.R_below (qR HO_318003.out) hb); replace BK309 := bB BK309 hb; replace BK317 := bB BK317 hb; replace HB := bS HB hb; clear hb ho0; obtain ⟨Ao49, co49, eo49⟩ := Kd.N_slice HO322.out; subst eo49) | ((with_reducible refine gate_callee (f := 16) rfl ?_); refine gL (some 47) Try.func16 #[.slice Ao49 t320.length co49, .slice Ao8 t299.length co8] ?_; (with_reducible refine (laws_equalImages.calls kj5 _ _ t320 _ _ t299 t323 _ ?side1 ?side2 ?side3 ?side4 A45.out).mono ?_); (case side1 => exact qC (Kd.N_reads' HO322.out).2.2); (case side2 => exact (Kd.N_reads' HO322.out).2.1); (case side3 => exact qC (Kd.N_reads' HO_3.out).2.2); (case side4 => exact (Kd.N_reads' HO_3.out).2.1); rintro e w50 ⟨rfl, hb⟩; refine ⟨_, rfl, ?_⟩; replace HO_3 := aM (Kd.N_below (by (with_reducible repeat (first | apply Kd.N_alloc | apply Kd.N_drewN | apply Kd.N_drew)); exact HO_3.out) hb); replace HO_310003 := aM (Kd.R_below (qR HO_310003.out) hb); replace HO_318003 := aM (Kd.R_below (qR HO_318003.out) hb); replace HO322 := aM (Kd.N_below (by (with_reducible repeat (first | apply Kd.N_alloc | apply Kd.N_drewN | apply Kd.N_drew)); exact HO322.out) hb); replace BK309 := bB BK309 hb; replace BK317 := bB BK317 hb; replace HB := bS HB hb; clear hb))
   go_ret
   exact ⟨qX, by exact qW HB.out⟩
def laws_FnMergePlanes.Pure : Prop := ∀ (l0 : List Int), l0.length ≤ maxLen → l0.length * 1 ≤ 140737488351232 → (∀ x ∈ l0, (Lit.int .u8 x).wf = true) → ∃ k, laws_FnMergePlanes.f k l0 = some true
theorem laws_FnMergePlanes.walk (P : laws_FnMergePlanes.Pure) (a0 : Option Addr) (len0 cap0 : Nat) (z0 : List Int) (w : World) (w0 : (a0 = none ∧ len0 = 0 ∧ cap0 = 0 ∧ z0 = []) ∨ ∃ x, a0 = some x ∧ len0 ≤ cap0 ∧ cap0 ≤ maxLen ∧ z0.length = cap0 ∧ (∀ i, i < z0.length → w.cell? (x.add i) = some (.int .u8 (z0.getD i 0))) ∧ ∀ n ∈ z0, (Lit.int .u8 n).wf = true) (y0 : len0 * 1 ≤ 140737488351232) :
  Calls Try.prog 3 #[.slice a0 len0 cap0] w fun e w' => e = .returned (.bool true) ∧ Below w.heap.size w w' := by
 obtain ⟨l0, rfl, hr0, hm0, hw0, hc0⟩ := ReadsInt.ofRowC w0
 obtain ⟨k, h⟩ := P l0 hm0 y0 hw0
 refine (laws_FnMergePlanes.calls k _ _ l0 true w (Kd.C_of_reads (d := (0 : Int)) (h1 := fun _ => rfl) hr0) hc0 h rfl).mono ?_
 rintro e w' ⟨rfl, hd⟩
 exact ⟨rfl, hd⟩
end Go.Proofs.Yteeeedmmcdlhjaa.P
