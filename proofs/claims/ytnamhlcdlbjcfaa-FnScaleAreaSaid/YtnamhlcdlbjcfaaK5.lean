/- Contracts and row, written by a program of this place out of the translation: the call answers true and its argument reads as before, for every input; no condition. -/
import Derived.Test.YtnamhlcdlbjcfaaK0
import Derived.Test.YtnamhlcdlbjcfaaK2
import Derived.Test.YtnamhlcdlbjcfaaK3
import Derived.Test.YtnamhlcdlbjcfaaK4
namespace Go.Proofs.Ytnamhlcdlbjcfaa.P
open Go.RowKit Go.Proofs.YtnamhlcdlbjcfaaW.PrintWords Go.Proofs.YtnamhlcdlbjcfaaW.PrintLast Go.Proofs.YtnamhlcdlbjcfaaW.PrintMore
attribute [local go_sem] max2_int min2_int max_two min_two max_three min_three max_four min_four   -- for this text's walks alone
set_option linter.unusedVariables false
set_option linter.unusedSimpArgs false
mutual
def laws_FnScaleArea.j0 : Nat → Int → Int → Bool → Int → Int → Int → List Int → Int → Int → Int → List Int → Option (Bool)
 | 0, _, _, _, _, _, _, _, _, _, _, _ => none
 | k + 1, x4, x5, x36, x775000, x775001, x775002, x775003, x782000, x782001, x782002, x782003 => if x36 = true then ((spec_ScaleArea.f k x775000 x775001 x775002 x775003 x4 x5).bind fun bt789 => ((laws_equalImage.f k x782000 x782001 x782002 x782003 bt789.1 bt789.2.1 bt789.2.2.1 bt789.2.2.2).bind fun t795 => (some t795))) else (laws_FnScaleArea.l0 k 0 x775000 x775001 x775002 x775003 x782000 x782001 x782002 x782003)
def laws_FnScaleArea.l0 : Nat → Int → Int → Int → Int → List Int → Int → Int → Int → List Int → Option (Bool)
 | 0, _, _, _, _, _, _, _, _, _ => none
 | k + 1, x7, x775000, x775001, x775002, x775003, x782000, x782001, x782002, x782003 => if x7 < x775002 then (laws_FnScaleArea.l1 k x7 255 0 x7 x775000 x775001 x775002 x775003 x782000 x782001 x782002 x782003) else (if (wrap64 (2 * x775000)) > 16 then (laws_FnScaleArea.j4 k true x775000 x775001 x775002 x775003) else (laws_FnScaleArea.j4 k (decide ((wrap64 (2 * x775001)) > 16)) x775000 x775001 x775002 x775003))
def laws_FnScaleArea.l1 : Nat → Int → Int → Int → Int → Int → Int → Int → List Int → Int → Int → Int → List Int → Option (Bool)
 | 0, _, _, _, _, _, _, _, _, _, _, _, _ => none
 | k + 1, x7, x8, x9, x10, x775000, x775001, x775002, x775003, x782000, x782001, x782002, x782003 => if x10 < (x775003.length : Int) then (if 0 ≤ x10 then (laws_FnScaleArea.l1 k x7 (mn x8 (rd x775003 x10)) (mx x9 (rd x775003 x10)) (wrap64 (x10 + x775002)) x775000 x775001 x775002 x775003 x782000 x782001 x782002 x782003) else (none)) else (laws_FnScaleArea.l2 k x7 x8 x9 x7 x775000 x775001 x775002 x775003 x782000 x782001 x782002 x782003)
def laws_FnScaleArea.l2 : Nat → Int → Int → Int → Int → Int → Int → Int → List Int → Int → Int → Int → List Int → Option (Bool)
 | 0, _, _, _, _, _, _, _, _, _, _, _, _ => none
 | k + 1, x7, x8, x9, x11, x775000, x775001, x775002, x775003, x782000, x782001, x782002, x782003 => if x11 < (x782003.length : Int) then (if 0 ≤ x11 then (if (rd x782003 x11) < x8 then (some false) else (if (rd x782003 x11) > x9 then (some false) else (laws_FnScaleArea.l2 k x7 x8 x9 (wrap64 (x11 + x775002)) x775000 x775001 x775002 x775003 x782000 x782001 x782002 x782003))) else (none)) else (laws_FnScaleArea.l0 k (wrap64 (x7 + 1)) x775000 x775001 x775002 x775003 x782000 x782001 x782002 x782003)
def laws_FnScaleArea.j4 : Nat → Bool → Int → Int → Int → List Int → Option (Bool)
 | 0, _, _, _, _, _ => none
 | k + 1, x108, x775000, x775001, x775002, x775003 => if x108 = true then (some true) else ((impl_ScaleArea.f x775000 x775001 x775002 x775003 (wrap64 (2 * x775000)) (wrap64 (2 * x775001))).bind fun bt800 => ((impl_ScaleArea.f bt800.1 bt800.2.1 bt800.2.2.1 bt800.2.2.2 x775000 x775001).bind fun bt806 => ((laws_equalImage.f k bt806.1 bt806.2.1 bt806.2.2.1 bt806.2.2.2 x775000 x775001 x775002 x775003).bind fun t812 => (some t812))))
end
def laws_FnScaleArea.f (k : Nat) (l0 : List Int) : Option (Bool) := if (l0.length : Int) > 1048576 then (some true) else ((spec_DrawScaleArea.f k l0).bind fun bt766 => ((impl_ScaleArea.f bt766.1 bt766.2.1 bt766.2.2.1 bt766.2.2.2.1 bt766.2.2.2.2.1 bt766.2.2.2.2.2).bind fun bt775 => ((spec_ScaleArea.f k bt766.1 bt766.2.1 bt766.2.2.1 bt766.2.2.2.1 bt766.2.2.2.2.1 bt766.2.2.2.2.2).bind fun bt782 => ((laws_equalImage.f k bt775.1 bt775.2.1 bt775.2.2.1 bt775.2.2.2 bt782.1 bt782.2.1 bt782.2.2.1 bt782.2.2.2).bind fun t788 => (if t788 = true then (laws_FnScaleArea.j0 k bt766.2.2.2.2.1 bt766.2.2.2.2.2 (bt775.1 == 0) bt766.1 bt766.2.1 bt766.2.2.1 bt766.2.2.2.1 bt775.1 bt775.2.1 bt775.2.2.1 bt775.2.2.2) else (laws_FnScaleArea.j0 k bt766.2.2.2.2.1 bt766.2.2.2.2.2 true bt766.1 bt766.2.1 bt766.2.2.1 bt766.2.2.2.1 bt775.1 bt775.2.1 bt775.2.2.1 bt775.2.2.2))))))
theorem laws_FnScaleArea.mono_l : ∀ k, (∀ y0 y1 y2 y3 y4 y5 y6 y7 y8 y9 y10, LeO (laws_FnScaleArea.j0 k y0 y1 y2 y3 y4 y5 y6 y7 y8 y9 y10) (laws_FnScaleArea.j0 (k + 1) y0 y1 y2 y3 y4 y5 y6 y7 y8 y9 y10)) ∧ (∀ y0 y1 y2 y3 y4 y5 y6 y7 y8, LeO (laws_FnScaleArea.l0 k y0 y1 y2 y3 y4 y5 y6 y7 y8) (laws_FnScaleArea.l0 (k + 1) y0 y1 y2 y3 y4 y5 y6 y7 y8)) ∧ (∀ y0 y1 y2 y3 y4 y5 y6 y7 y8 y9 y10 y11, LeO (laws_FnScaleArea.l1 k y0 y1 y2 y3 y4 y5 y6 y7 y8 y9 y10 y11) (laws_FnScaleArea.l1 (k + 1) y0 y1 y2 y3 y4 y5 y6 y7 y8 y9 y10 y11)) ∧ (∀ y0 y1 y2 y3 y4 y5 y6 y7 y8 y9 y10 y11, LeO (laws_FnScaleArea.l2 k y0 y1 y2 y3 y4 y5 y6 y7 y8 y9 y10 y11) (laws_FnScaleArea.l2 (k + 1) y0 y1 y2 y3 y4 y5 y6 y7 y8 y9 y10 y11)) ∧ (∀ y0 y1 y2 y3 y4, LeO (laws_FnScaleArea.j4 k y0 y1 y2 y3 y4) (laws_FnScaleArea.j4 (k + 1) y0 y1 y2 y3 y4))
 | 0 => ⟨fun _ _ _ _ _ _ _ _ _ _ _ r h => by simp [laws_FnScaleArea.j0] at h, fun _ _ _ _ _ _ _ _ _ r h => by simp [laws_FnScaleArea.l0] at h, fun _ _ _ _ _ _ _ _ _ _ _ _ r h => by simp [laws_FnScaleArea.l1] at h, fun _ _ _ _ _ _ _ _ _ _ _ _ r h => by simp [laws_FnScaleArea.l2] at h, fun _ _ _ _ _ r h => by simp [laws_FnScaleArea.j4] at h⟩
 | k + 1 => by
  obtain ⟨ih0, ih1, ih2, ih3, ih4⟩ := laws_FnScaleArea.mono_l k
  refine ⟨?_, ?_, ?_, ?_, ?_⟩
  all_goals intros
  all_goals first | unfold laws_FnScaleArea.j0 | unfold laws_FnScaleArea.l0 | unfold laws_FnScaleArea.l1 | unfold laws_FnScaleArea.l2 | unfold laws_FnScaleArea.j4
  all_goals repeat' first | (with_reducible first | exact ih0 _ _ _ _ _ _ _ _ _ _ _ | exact ih1 _ _ _ _ _ _ _ _ _ | exact ih2 _ _ _ _ _ _ _ _ _ _ _ _ | exact ih3 _ _ _ _ _ _ _ _ _ _ _ _ | exact ih4 _ _ _ _ _ | exact laws_equalImage.mono _ _ _ _ _ _ _ _ _ | exact spec_DrawScaleArea.mono _ _ | exact spec_ScaleArea.mono _ _ _ _ _ _ _ | exact lR | exact lN | refine lI ?_ ?_ | refine lB ?_ fun _ => ?_) | exact ih0 _ _ _ _ _ _ _ _ _ _ _ | exact ih1 _ _ _ _ _ _ _ _ _ | exact ih2 _ _ _ _ _ _ _ _ _ _ _ _ | exact ih3 _ _ _ _ _ _ _ _ _ _ _ _ | exact ih4 _ _ _ _ _ | exact laws_equalImage.mono _ _ _ _ _ _ _ _ _ | exact spec_DrawScaleArea.mono _ _ | exact spec_ScaleArea.mono _ _ _ _ _ _ _ | exact lN | refine lI ?_ ?_ | refine lB ?_ fun _ => ?_
theorem laws_FnScaleArea.mono : ∀ a0 k, LeO (laws_FnScaleArea.f k a0) (laws_FnScaleArea.f (k + 1) a0) := by
 intro a0 k
 obtain ⟨ih0, ih1, ih2, ih3, ih4⟩ := laws_FnScaleArea.mono_l k
 unfold laws_FnScaleArea.f
 repeat' first | (with_reducible first | exact ih0 _ _ _ _ _ _ _ _ _ _ _ | exact ih1 _ _ _ _ _ _ _ _ _ | exact ih2 _ _ _ _ _ _ _ _ _ _ _ _ | exact ih3 _ _ _ _ _ _ _ _ _ _ _ _ | exact ih4 _ _ _ _ _ | exact laws_equalImage.mono _ _ _ _ _ _ _ _ _ | exact spec_DrawScaleArea.mono _ _ | exact spec_ScaleArea.mono _ _ _ _ _ _ _ | exact lR | exact lN | refine lI ?_ ?_ | refine lB ?_ fun _ => ?_) | exact ih0 _ _ _ _ _ _ _ _ _ _ _ | exact ih1 _ _ _ _ _ _ _ _ _ | exact ih2 _ _ _ _ _ _ _ _ _ _ _ _ | exact ih3 _ _ _ _ _ _ _ _ _ _ _ _ | exact ih4 _ _ _ _ _ | exact laws_equalImage.mono _ _ _ _ _ _ _ _ _ | exact spec_DrawScaleArea.mono _ _ | exact spec_ScaleArea.mono _ _ _ _ _ _ _ | exact lN | refine lI ?_ ?_ | refine lB ?_ fun _ => ?_
def laws_FnScaleArea.T5 : Bool × List (List Nat × List Nat) := (true, [([], []), ([], []), ([], []), ([], []), ([1, 2, 3], [1, 2, 3]), ([0, 4, 4], [0, 4]), ([5], [5]), ([6, 5], [6]), ([7], [7]), ([8, 7], [7, 8]), ([9, 7], [7, 9]), ([7, 10], [7, 10])])
def laws_FnScaleArea.B5 : List Nat := [0, 0, 0, 0, 14, 31, 63, 127, 255, 511, 1023, 2047]
theorem laws_FnScaleArea.tab5 : rtab .any (opsOf Try.f10 5) = laws_FnScaleArea.T5 := by kernel_rfl
theorem laws_FnScaleArea.bits5 : waitsOk laws_FnScaleArea.T5.2 laws_FnScaleArea.B5 = true := by kernel_rfl
def laws_FnScaleArea.T24 : Bool × List (List Nat × List Nat) := (true, [([], []), ([], []), ([1], [1]), ([2], [2]), ([], []), ([4], [4]), ([5], [5]), ([0, 3, 6], [0, 3, 6]), ([], []), ([8], [8]), ([], []), ([10], [10]), ([7, 9, 11, 7], [7, 9, 11]), ([], []), ([12, 13, 12], [12, 13]), ([14, 14, 0, 1, 2, 3, 4, 5, 6, 7, 8, 9, 10, 11, 12, 13, 14], [14])])
def laws_FnScaleArea.B24 : List Nat := [0, 0, 2, 6, 0, 16, 48, 127, 0, 256, 0, 1024, 4095, 0, 16383, 32767]
theorem laws_FnScaleArea.tab24 : rtab .any (opsOf Try.f10 24) = laws_FnScaleArea.T24 := by kernel_rfl
theorem laws_FnScaleArea.bits24 : waitsOk laws_FnScaleArea.T24.2 laws_FnScaleArea.B24 = true := by kernel_rfl
set_option maxHeartbeats 8000000 in
set_option maxRecDepth 100000 in
theorem laws_FnScaleArea.calls (k : Nat) (A0 : Option Addr) (c0 : Nat) (l0 : List Int) (r : Bool) (w : World) (hr0 : Kd.C (Kd.int .u8) w A0 l0.length l0) (hc0 : l0.length ≤ c0) (h : laws_FnScaleArea.f k l0 = some r) :
  Calls Try.prog 10 #[.slice A0 l0.length c0] w fun e w' => e = .returned (.bool r) ∧ Below w.heap.size w w' := by
 have hu26 := Try.underlying26
 have HR0 := aM hr0
 have HC0 := aM hc0
 clear hr0 hc0
 have HB := aM (Below.refl w.heap.size w)
 unfold laws_FnScaleArea.f at h
 have H := h
 clear h
 by_cases c2 : (l0.length : Int) > 1048576
 ·rw [if_pos c2] at H
  have c2b0 : decide (1048576 < (l0.length : Int)) = true := decide_eq_true c2
  have c2b1 : decide (1048576 < l0.length) = true := decide_eq_true (by omega)
  clear c2
  obtain rfl := Option.some.inj H
  go_enter Try.func10, Try.ntmps10
  go_wp2
  go_ret
  exact ⟨qX, by exact qW HB.out⟩
 rw [if_neg c2] at H
 have c2b0 : decide (1048576 < (l0.length : Int)) = false := decide_eq_false c2
 have c2b1 : decide (1048576 < l0.length) = false := decide_eq_false (by omega)
 clear c2
 replace H := Option.bind_eq_some_iff.mp H
 obtain ⟨⟨t766, t767, t768, t769, t772, t773⟩, A30, H⟩ := H
 replace H : ((impl_ScaleArea.f t766 t767 t768 t769 t772 t773).bind fun bt775 => ((spec_ScaleArea.f k t766 t767 t768 t769 t772 t773).bind fun bt782 => ((laws_equalImage.f k bt775.1 bt775.2.1 bt775.2.2.1 bt775.2.2.2 bt782.1 bt782.2.1 bt782.2.2.1 bt782.2.2.2).bind fun t788 => (if t788 = true then (laws_FnScaleArea.j0 k t772 t773 (bt775.1 == 0) t766 t767 t768 t769 bt775.1 bt775.2.1 bt775.2.2.1 bt775.2.2.2) else (laws_FnScaleArea.j0 k t772 t773 true t766 t767 t768 t769 bt775.1 bt775.2.1 bt775.2.2.1 bt775.2.2.2))))) = some r := H
 have A3 := aM A30
 clear A30
 replace H := Option.bind_eq_some_iff.mp H
 obtain ⟨⟨t775, t776, t777, t778⟩, A40, H⟩ := H
 replace H : ((spec_ScaleArea.f k t766 t767 t768 t769 t772 t773).bind fun bt782 => ((laws_equalImage.f k t775 t776 t777 t778 bt782.1 bt782.2.1 bt782.2.2.1 bt782.2.2.2).bind fun t788 => (if t788 = true then (laws_FnScaleArea.j0 k t772 t773 (t775 == 0) t766 t767 t768 t769 t775 t776 t777 t778) else (laws_FnScaleArea.j0 k t772 t773 true t766 t767 t768 t769 t775 t776 t777 t778)))) = some r := H
 have A4 := aM A40
 clear A40
 have HC5 := aM H
 clear H
 go_enter Try.func10, Try.ntmps10
 go_upto_region 5 with (first | ((with_reducible refine gate_callee (f := 33) rfl ?_); refine gL (some 17) Try.func33 #[.slice A0 l0.length c0] ?_; (with_reducible refine (spec_DrawScaleArea.calls k _ _ l0 t766 t767 t768 t769 t772 t773 _ ?side1 ?side2 A3.out).mono ?_); (case side1 => exact qC HR0.out); (case side2 => exact HC0.out); rintro e w6 ⟨v770, rfl, ho0, hb⟩; refine ⟨_, rfl, ?_⟩; have HO771 := aM (Kd.Q_lower ho0 (below_size (qW HB.out))); replace HB := bS HB hb; clear hb ho0) | ((with_reducible refine gate_dst (N := 3) rfl ?_); refine bxE (N := 3) (cs := #[.int .i64 0, .int .i64 0, .int .i64 0, .slice none 0 0]) (t := 26) ?_; intro gb774 hg w7 hbox hb; replace HO771 := aM (Kd.Q_below (qQ HO771.out) hb); have BK774 := aM (hbox); have GW774 := gW hg HB; have GE774 := gW hg HB; replace HB := bS HB hb; clear hb hbox hg; obtain ⟨⟨hcz8_0, hcz8_1, hcz8_2, hcz8_3⟩, hfz8_0, hfz8_1, hfz8_2, hfz8_3⟩ := cf4 BK774; obtain ⟨Ao9, co9, eo9, _⟩ := Kd.Q_slice HO771.out; subst eo9) | ((with_reducible refine gate_callee (f := 31) rfl ?_); refine gL (some 24) Try.func31 #[.agg #[.int .i64 t766, .int .i64 t767, .int .i64 t768, .slice Ao9 t769.length co9], .int .i64 t772, .int .i64 t773] ?_; (with_reducible refine (impl_ScaleArea.calls t766 t767 t768 _ _ t769 t772 t773 t775 t776 t777 t778 _ ?side1 ?side2 A4.out).mono ?_); (case side1 => refine (Kd.Q_reads' (e := 3) (base := w.heap.size) (ok := fun k_ => True) (n := t769.length) (c := co9) ?_).2.2; exact (by (with_reducible repeat (first | apply Kd.Q_alloc | apply Kd.Q_drewN | apply Kd.Q_drew)); exact (Kd.Q_mono (qT HO771 BK774) (fun _ h_ => h_.1)))); (case side2 => exact (Kd.Q_reads' HO771.out).2.1); rintro e w10 ⟨v779, rfl, ho0, hb⟩; refine ⟨_, rfl, ?_⟩; have HO780 := aM (Kd.R_lower (Kd.R_new' ho0 (Kd.Q_lt (by (with_reducible repeat (first | apply Kd.Q_alloc | apply Kd.Q_drewN | apply Kd.Q_drew)); exact (Kd.Q_mono (qT HO771 BK774) (fun _ h_ => h_.1))))) (below_size (qW HB.out))); replace HO771 := aM (Kd.Q_elder' (by (with_reducible repeat (first | apply Kd.Q_alloc | apply Kd.Q_drewN | apply Kd.Q_drew)); exact (Kd.Q_mono (qT HO771 BK774) (fun _ h_ => h_.1))) (Kd.R_base ho0) hb); replace BK774 := aM (blk_below (g := gb774) (o := .cells #[.int .i64 t766, .int .i64 t767, .int .i64 t768, .slice Ao9 t769.length co9] 26 (0, 0)) (by exact bP BK774.out) hb); replace HB := bS HB hb; clear hb ho0) | ((with_reducible refine gate_dst (N := 6) rfl ?_); refine bxE (N := 6) (cs := #[.int .i64 0, .int .i64 0, .int .i64 0, .slice none 0 0]) (t := 26) ?_; intro gb781 hg w11 hbox hb; replace HO771 := aM (Kd.Q_below (qQ HO771.out) hb); replace HO780 := aM (Kd.R_below (qR HO780.out) hb); have BK781 := aM (hbox); have GW781 := gW hg HB; have GE781 := gW hg HB; replace HB := bS HB hb; have NB774_781 := nL hg BK774; have NB781_774 := nG hg BK774; replace BK774 := bB BK774 hb; clear hb hbox hg; have hnb12 := NB781_774.out; have hnc12 := NB774_781.out; obtain ⟨⟨hcz13_0, hcz13_1, hcz13_2, hcz13_3⟩, hfz13_0, hfz13_1, hfz13_2, hfz13_3⟩ := cf4 BK781; obtain ⟨Ao14, co14, rfl⟩ := sL HO780))
 (try simp only [Act.put, List.setIfInBounds_toArray, List.set_cons_zero, List.set_cons_succ])
 go_cut [36] (fun v36 wc => ∃ (kq : Nat) (x36_4 : Bool), v36 = .bool x36_4 ∧ Aside0 (laws_FnScaleArea.j0 kq t772 t773 x36_4 t766 t767 t768 t769 t775 t776 t777 t778 = some r) ∧ Aside0 (kq ≤ k) ∧ Aside0 (Kd.Q (Kd.int .i64) 3 wc w.heap.size (fun k_ => some k_ ≠ ((.slice Ao14 t778.length co14) : Value).ownBlock) (.slice Ao9 t769.length co9) t769) ∧ Aside0 (Kd.Q (Kd.int .i64) 3 wc w.heap.size (fun k_ => some k_ ≠ ((.slice Ao9 t769.length co9) : Value).ownBlock) (.slice Ao14 t778.length co14) t778) ∧ Aside0 (wc.heap[gb774]? = some (.cells #[.int .i64 t766, .int .i64 t767, .int .i64 t768, (.slice Ao9 t769.length co9)] 26 (0, 0))) ∧ Aside0 (wc.heap[gb781]? = some (.cells #[.int .i64 t775, .int .i64 t776, .int .i64 t777, (.slice Ao14 t778.length co14)] 26 (0, 0))) ∧ Aside0 (Below w.heap.size w wc))
 case first =>
  have H := HC5.out
  clear HC5
  replace H := Option.bind_eq_some_iff.mp H
  obtain ⟨⟨t782, t783, t784, t785⟩, A150, H⟩ := H
  replace H : ((laws_equalImage.f k t775 t776 t777 t778 t782 t783 t784 t785).bind fun t788 => (if t788 = true then (laws_FnScaleArea.j0 k t772 t773 (t775 == 0) t766 t767 t768 t769 t775 t776 t777 t778) else (laws_FnScaleArea.j0 k t772 t773 true t766 t767 t768 t769 t775 t776 t777 t778))) = some r := H
  have A15 := aM A150
  clear A150
  replace H := Option.bind_eq_some_iff.mp H
  obtain ⟨t788, A160, H⟩ := H
  replace H : (if t788 = true then (laws_FnScaleArea.j0 k t772 t773 (t775 == 0) t766 t767 t768 t769 t775 t776 t777 t778) else (laws_FnScaleArea.j0 k t772 t773 true t766 t767 t768 t769 t775 t776 t777 t778)) = some r := H
  have A16 := aM A160
  clear A160
  by_cases c17 : t788 = true
  rotate_left
  ·replace c17 := Bool.eq_false_iff.mpr c17
   subst c17
   have H1 : (laws_FnScaleArea.j0 k t772 t773 true t766 t767 t768 t769 t775 t776 t777 t778) = some r := by rw [if_neg (show ¬ (false = true) by decide)] at H; exact H
   clear H
   have H := H1
   clear H1
   have H' := aM H
   clear H
   try go_wp2
   have n0_ : Aside0 (Kd.Q (Kd.int .i64) 3 ((((w11.setCell ⟨gb781, 0, none⟩ (.int .i64 t775)).setCell ⟨gb781, 1, none⟩ (.int .i64 t776)).setCell ⟨gb781, 2, none⟩ (.int .i64 t777)).setCell ⟨gb781, 3, none⟩ (.slice Ao14 t778.length co14)) w.heap.size (fun k_ => some k_ ≠ (.slice Ao14 t778.length co14 : Value).ownBlock) (.slice Ao9 t769.length co9) t769) := ⟨by (with_reducible repeat (first | apply Kd.Q_alloc | apply Kd.Q_drewN | apply Kd.Q_drew)); exact Kd.Q_mono (qT HO771 BK781) (fun _ hk => hk.1.2)⟩
   have n1_ : Aside0 (Kd.R (Kd.int .i64) 3 ((((w11.setCell ⟨gb781, 0, none⟩ (.int .i64 t775)).setCell ⟨gb781, 1, none⟩ (.int .i64 t776)).setCell ⟨gb781, 2, none⟩ (.int .i64 t777)).setCell ⟨gb781, 3, none⟩ (.slice Ao14 t778.length co14)) w.heap.size (fun k_ => some k_ ≠ (.slice Ao9 t769.length co9 : Value).ownBlock) (.slice Ao14 t778.length co14) t778) := ⟨by refine qR ?_; exact Kd.R_mono (rT HO780 BK781) (fun _ hk => hk.1.2)⟩
   have n2_ : Aside0 (((((w11.setCell ⟨gb781, 0, none⟩ (.int .i64 t775)).setCell ⟨gb781, 1, none⟩ (.int .i64 t776)).setCell ⟨gb781, 2, none⟩ (.int .i64 t777)).setCell ⟨gb781, 3, none⟩ (.slice Ao14 t778.length co14)).heap[gb774]? = some (.cells #[.int .i64 t766, .int .i64 t767, .int .i64 t768, .slice Ao9 t769.length co9] 26 (0, 0))) := ⟨by refine qB ?_; refine blk_far ?_ NB774_781.out _; refine qB ?_; refine blk_far ?_ NB774_781.out _; refine qB ?_; refine blk_far ?_ NB774_781.out _; refine qB ?_; refine blk_far ?_ NB774_781.out _; refine qB ?_; exact BK774.out⟩
   have n3_ : Aside0 (((((w11.setCell ⟨gb781, 0, none⟩ (.int .i64 t775)).setCell ⟨gb781, 1, none⟩ (.int .i64 t776)).setCell ⟨gb781, 2, none⟩ (.int .i64 t777)).setCell ⟨gb781, 3, none⟩ (.slice Ao14 t778.length co14)).heap[gb781]? = some (.cells #[.int .i64 t775, .int .i64 t776, .int .i64 t777, .slice Ao14 t778.length co14] 26 (0, 0))) := ⟨by exact bP BK781.out⟩
   have n4_ : Aside0 (Below w.heap.size w ((((w11.setCell ⟨gb781, 0, none⟩ (.int .i64 t775)).setCell ⟨gb781, 1, none⟩ (.int .i64 t776)).setCell ⟨gb781, 2, none⟩ (.int .i64 t777)).setCell ⟨gb781, 3, none⟩ (.slice Ao14 t778.length co14))) := ⟨by exact qW HB.out⟩
   (try clear HO771)
   (try clear HO780)
   (try clear BK774)
   (try clear BK781)
   (try clear HB)
   generalize ((((w11.setCell ⟨gb781, 0, none⟩ (.int .i64 t775)).setCell ⟨gb781, 1, none⟩ (.int .i64 t776)).setCell ⟨gb781, 2, none⟩ (.int .i64 t777)).setCell ⟨gb781, 3, none⟩ (.slice Ao14 t778.length co14)) = w23 at n0_ n1_ n2_ n3_ n4_ ⊢
   have HO771 := n0_
   have HO780 := n1_
   have BK774 := n2_
   have BK781 := n3_
   have HB := n4_
   clear n0_ n1_ n2_ n3_ n4_
   replace HO771 := aM (Kd.Q_drew HO771.out)
   replace HO780 := aM (Kd.R_drew HO780.out)
   replace BK774 := aM (blk_drew BK774.out)
   replace BK781 := aM (blk_drew BK781.out)
   replace HB := aM (below_drew1 HB.out)
   refine start_ (n := 12) (S := fun w' => w'.cell? ⟨gb781, 0, none⟩ = some (.int .i64 t775) ∧ w'.cell? ⟨gb781, 1, none⟩ = some (.int .i64 t776) ∧ w'.cell? ⟨gb781, 2, none⟩ = some (.int .i64 t777) ∧ w'.cell? ⟨gb781, 3, none⟩ = some (.slice Ao14 t778.length co14) ∧ w'.cell? ⟨gb774, 0, none⟩ = some (.int .i64 t766) ∧ w'.cell? ⟨gb774, 1, none⟩ = some (.int .i64 t767) ∧ w'.cell? ⟨gb774, 2, none⟩ = some (.int .i64 t768) ∧ w'.cell? ⟨gb774, 3, none⟩ = some (.slice Ao9 t769.length co9)) (ds := []) (bA 12 0) (by kernel_rfl) rfl rfl ⟨(blk_cell BK781.out 0).trans rfl, (blk_cell BK781.out 1).trans rfl, (blk_cell BK781.out 2).trans rfl, (blk_cell BK781.out 3).trans rfl, (blk_cell BK774.out 0).trans rfl, (blk_cell BK774.out 1).trans rfl, (blk_cell BK774.out 2).trans rfl, (blk_cell BK774.out 3).trans rfl⟩ (fun hHeld => ?_); refine with_tabW laws_FnScaleArea.tab5 laws_FnScaleArea.bits5 (fun HT_ HW_ => ?_)
   generalize w23.drew = w24 at HO771 HO780 BK774 BK781 HB hHeld ⊢
   refine pQ 2 27 HT_ (bA 12 4) ?_
   refine pQ 3 28 HT_ (bA 12 12) ?_
   refine take_ (i := 0) (N := some 25) (v := ?_) (a' := ?_) (bA 12 13) rfl rfl (take_ofW HT_.out HW_.out (by kernel_rfl)) (fun _ _ _ h => h) (Or.inl ⟨by rfl, ?_⟩) hHeld ?_ ?_
   rotate_left
   ·rintro w' ⟨s0, s1, s2, s3, s4, s5, s6, s7⟩
    go_simp
    with_reducible rfl
   rotate_left
   ·refine pZ ?_
    rfl
   refine take_ (i := 1) (N := some 26) (v := ?_) (a' := ?_) (bA 12 15) rfl rfl (take_ofW HT_.out HW_.out (by kernel_rfl)) (fun _ _ _ h => h) (Or.inl ⟨by rfl, ?_⟩) hHeld ?_ ?_
   rotate_left
   ·rintro w' ⟨s0, s1, s2, s3, s4, s5, s6, s7⟩
    go_simp
    with_reducible rfl
   rotate_left
   ·refine pZ ?_
    rfl
   refine one_ (i := 4) (N := some 29) (bA 12 31) rfl rfl (one_of HT_.out (by kernel_rfl)) (by decide) (fun K hK => ?_)
   refine goes_ Try.func32 (by kernel_rfl) rfl #[.agg #[.int .i64 t766, .int .i64 t767, .int .i64 t768, .slice Ao9 t769.length co9], .int .i64 t772, .int .i64 t773] (by rfl) rfl rfl qM ?_
   with_reducible refine (spec_ScaleArea.calls k t766 t767 t768 _ _ t769 t772 t773 t782 t783 t784 t785 _ ?side1 ?side2 A15.out).mono ?_
   (case side1 => exact qC (Kd.Q_reads' HO771.out).2.2)
   (case side2 => exact (Kd.Q_reads' HO771.out).2.1)
   rintro e w25 ⟨v786, rfl, ho0, hb⟩
   refine ⟨_, rfl, ?_⟩
   have HO787 := aM (Kd.R_lower (Kd.R_new' (Kd.R_new' ho0 (Kd.Q_lt (qQ HO771.out))) (Kd.R_lt (qR HO780.out))) (below_size (qW HB.out)))
   replace HO771 := aM (Kd.Q_elder' (qQ HO771.out) (Kd.R_base ho0) hb)
   replace HO780 := aM (Kd.R_elder' (qR HO780.out) (Kd.R_base ho0) hb)
   replace BK774 := bB BK774 hb
   replace BK781 := bB BK781 hb
   replace HB := bS HB hb
   (try clear hb)
   (try clear hb2)
   (try clear hk)
   (try clear hi)
   (try clear ho0)
   obtain ⟨Ao26, co26, eo26⟩ := Kd.R_slice HO787.out
   (first | subst eo26 | (injection eo26 with f1_ f2_ f3_; have f4_ := f1_.symm; have f5_ := f3_.symm; clear f1_ f2_ f3_; subst f4_; subst f5_))
   refine hK.out _ _ ⟨(blk_cell BK781.out 0).trans rfl, (blk_cell BK781.out 1).trans rfl, (blk_cell BK781.out 2).trans rfl, (blk_cell BK781.out 3).trans rfl, (blk_cell BK774.out 0).trans rfl, (blk_cell BK774.out 1).trans rfl, (blk_cell BK774.out 2).trans rfl, (blk_cell BK774.out 3).trans rfl⟩ (fun hHeld => ?_)
   clear hK K
   refine norm_ (a' := ?_) ?_ ?_
   rotate_left
   ·show Act.put _ (some 29) _ = _
    refine pZ ?_
    rfl
   refine one_ (i := 5) (N := some 30) (bA 12 63) rfl rfl (one_of HT_.out (by kernel_rfl)) (by decide) (fun K hK => ?_)
   refine goes_ Try.func23 (by kernel_rfl) rfl #[.agg #[.int .i64 t775, .int .i64 t776, .int .i64 t777, .slice Ao14 t778.length co14], .agg #[.int .i64 t782, .int .i64 t783, .int .i64 t784, .slice Ao26 t785.length co26]] (by rfl) rfl rfl qM ?_
   with_reducible refine (laws_equalImage.calls k t775 t776 t777 _ _ t778 t782 t783 t784 _ _ t785 false _ ?side1 ?side2 ?side3 ?side4 A16.out).mono ?_
   (case side1 => exact qC (Kd.R_reads' HO780.out).2.2)
   (case side2 => exact (Kd.R_reads' HO780.out).2.1)
   (case side3 => exact qC (Kd.R_reads' HO787.out).2.2)
   (case side4 => exact (Kd.R_reads' HO787.out).2.1)
   rintro e w27 ⟨rfl, hb⟩
   refine ⟨_, rfl, ?_⟩
   replace HO771 := aM (Kd.Q_below (qQ HO771.out) hb)
   replace HO780 := aM (Kd.R_below (qR HO780.out) hb)
   replace HO787 := aM (Kd.R_below (qR HO787.out) hb)
   replace BK774 := bB BK774 hb
   replace BK781 := bB BK781 hb
   replace HB := bS HB hb
   (try clear hb)
   (try clear hb2)
   (try clear hk)
   (try clear hi)
   refine hK.out _ _ ⟨(blk_cell BK781.out 0).trans rfl, (blk_cell BK781.out 1).trans rfl, (blk_cell BK781.out 2).trans rfl, (blk_cell BK781.out 3).trans rfl, (blk_cell BK774.out 0).trans rfl, (blk_cell BK774.out 1).trans rfl, (blk_cell BK774.out 2).trans rfl, (blk_cell BK774.out 3).trans rfl⟩ (fun hHeld => ?_)
   clear hK K
   refine norm_ (a' := ?_) ?_ ?_
   rotate_left
   ·show Act.put _ (some 30) _ = _
    refine pZ ?_
    rfl
   refine pQ 6 31 HT_ (bA 12 127) ?_
   refine pQ 7 32 HT_ (bA 12 255) ?_
   refine pure_ (i := 8) (N := some 33) (v := undef) (a' := ?_) (bA 12 511) rfl rfl (any_of HT_.out (by kernel_rfl)) (fun _ _ _ h => h) (Or.inr ⟨by rfl, rfl⟩) ?_ ?_
   rotate_left
   ·refine pZ ?_
    rfl
   refine pure_ (i := 9) (N := some 34) (v := undef) (a' := ?_) (bA 12 1023) rfl rfl (any_of HT_.out (by kernel_rfl)) (fun _ _ _ h => h) (Or.inr ⟨by rfl, rfl⟩) ?_ ?_
   rotate_left
   ·refine pZ ?_
    rfl
   refine pure_ (i := 10) (N := some 35) (v := undef) (a' := ?_) (bA 12 2047) rfl rfl (any_of HT_.out (by kernel_rfl)) (fun _ _ _ h => h) (Or.inr ⟨by rfl, rfl⟩) ?_ ?_
   rotate_left
   ·refine pZ ?_
    rfl
   refine pQ 11 36 HT_ (bA 12 4095) ?_
   refine done_ (done_of HT_.out (by kernel_rfl)) ?_
   try go_wp2
   go_meet
   case rel => exact ⟨_, (true), qE, H', ⟨by first | omega | exact Nat.le_refl _⟩, ⟨by (with_reducible repeat (first | apply Kd.Q_alloc | apply Kd.Q_drewN | apply Kd.Q_drew)); exact Kd.Q_mono HO771.out (fun _ hk => hk.1)⟩, ⟨Kd.Q_of_R (by refine qR ?_; exact Kd.R_mono HO780.out (fun _ hk => hk.1))⟩, ⟨by refine qB ?_; exact BK774.out⟩, ⟨by refine qB ?_; exact BK781.out⟩, ⟨by exact qW HB.out⟩⟩
  subst c17
  have H1 : (laws_FnScaleArea.j0 k t772 t773 (t775 == 0) t766 t767 t768 t769 t775 t776 t777 t778) = some r := by rw [if_pos rfl] at H; exact H
  clear H
  have H := H1
  clear H1
  have H' := aM H
  clear H
  try go_wp2
  have n0_ : Aside0 (Kd.Q (Kd.int .i64) 3 ((((w11.setCell ⟨gb781, 0, none⟩ (.int .i64 t775)).setCell ⟨gb781, 1, none⟩ (.int .i64 t776)).setCell ⟨gb781, 2, none⟩ (.int .i64 t777)).setCell ⟨gb781, 3, none⟩ (.slice Ao14 t778.length co14)) w.heap.size (fun k_ => some k_ ≠ (.slice Ao14 t778.length co14 : Value).ownBlock) (.slice Ao9 t769.length co9) t769) := ⟨by (with_reducible repeat (first | apply Kd.Q_alloc | apply Kd.Q_drewN | apply Kd.Q_drew)); exact Kd.Q_mono (qT HO771 BK781) (fun _ hk => hk.1.2)⟩
  have n1_ : Aside0 (Kd.R (Kd.int .i64) 3 ((((w11.setCell ⟨gb781, 0, none⟩ (.int .i64 t775)).setCell ⟨gb781, 1, none⟩ (.int .i64 t776)).setCell ⟨gb781, 2, none⟩ (.int .i64 t777)).setCell ⟨gb781, 3, none⟩ (.slice Ao14 t778.length co14)) w.heap.size (fun k_ => some k_ ≠ (.slice Ao9 t769.length co9 : Value).ownBlock) (.slice Ao14 t778.length co14) t778) := ⟨by refine qR ?_; exact Kd.R_mono (rT HO780 BK781) (fun _ hk => hk.1.2)⟩
  have n2_ : Aside0 (((((w11.setCell ⟨gb781, 0, none⟩ (.int .i64 t775)).setCell ⟨gb781, 1, none⟩ (.int .i64 t776)).setCell ⟨gb781, 2, none⟩ (.int .i64 t777)).setCell ⟨gb781, 3, none⟩ (.slice Ao14 t778.length co14)).heap[gb774]? = some (.cells #[.int .i64 t766, .int .i64 t767, .int .i64 t768, .slice Ao9 t769.length co9] 26 (0, 0))) := ⟨by refine qB ?_; refine blk_far ?_ NB774_781.out _; refine qB ?_; refine blk_far ?_ NB774_781.out _; refine qB ?_; refine blk_far ?_ NB774_781.out _; refine qB ?_; refine blk_far ?_ NB774_781.out _; refine qB ?_; exact BK774.out⟩
  have n3_ : Aside0 (((((w11.setCell ⟨gb781, 0, none⟩ (.int .i64 t775)).setCell ⟨gb781, 1, none⟩ (.int .i64 t776)).setCell ⟨gb781, 2, none⟩ (.int .i64 t777)).setCell ⟨gb781, 3, none⟩ (.slice Ao14 t778.length co14)).heap[gb781]? = some (.cells #[.int .i64 t775, .int .i64 t776, .int .i64 t777, .slice Ao14 t778.length co14] 26 (0, 0))) := ⟨by exact bP BK781.out⟩
  have n4_ : Aside0 (Below w.heap.size w ((((w11.setCell ⟨gb781, 0, none⟩ (.int .i64 t775)).setCell ⟨gb781, 1, none⟩ (.int .i64 t776)).setCell ⟨gb781, 2, none⟩ (.int .i64 t777)).setCell ⟨gb781, 3, none⟩ (.slice Ao14 t778.length co14))) := ⟨by exact qW HB.out⟩
  (try clear HO771)
  (try clear HO780)
  (try clear BK774)
  (try clear BK781)
  (try clear HB)
  generalize ((((w11.setCell ⟨gb781, 0, none⟩ (.int .i64 t775)).setCell ⟨gb781, 1, none⟩ (.int .i64 t776)).setCell ⟨gb781, 2, none⟩ (.int .i64 t777)).setCell ⟨gb781, 3, none⟩ (.slice Ao14 t778.length co14)) = w18 at n0_ n1_ n2_ n3_ n4_ ⊢
  have HO771 := n0_
  have HO780 := n1_
  have BK774 := n2_
  have BK781 := n3_
  have HB := n4_
  clear n0_ n1_ n2_ n3_ n4_
  replace HO771 := aM (Kd.Q_drew HO771.out)
  replace HO780 := aM (Kd.R_drew HO780.out)
  replace BK774 := aM (blk_drew BK774.out)
  replace BK781 := aM (blk_drew BK781.out)
  replace HB := aM (below_drew1 HB.out)
  refine start_ (n := 12) (S := fun w' => w'.cell? ⟨gb781, 0, none⟩ = some (.int .i64 t775) ∧ w'.cell? ⟨gb781, 1, none⟩ = some (.int .i64 t776) ∧ w'.cell? ⟨gb781, 2, none⟩ = some (.int .i64 t777) ∧ w'.cell? ⟨gb781, 3, none⟩ = some (.slice Ao14 t778.length co14) ∧ w'.cell? ⟨gb774, 0, none⟩ = some (.int .i64 t766) ∧ w'.cell? ⟨gb774, 1, none⟩ = some (.int .i64 t767) ∧ w'.cell? ⟨gb774, 2, none⟩ = some (.int .i64 t768) ∧ w'.cell? ⟨gb774, 3, none⟩ = some (.slice Ao9 t769.length co9)) (ds := []) (bA 12 0) (by kernel_rfl) rfl rfl ⟨(blk_cell BK781.out 0).trans rfl, (blk_cell BK781.out 1).trans rfl, (blk_cell BK781.out 2).trans rfl, (blk_cell BK781.out 3).trans rfl, (blk_cell BK774.out 0).trans rfl, (blk_cell BK774.out 1).trans rfl, (blk_cell BK774.out 2).trans rfl, (blk_cell BK774.out 3).trans rfl⟩ (fun hHeld => ?_); refine with_tabW laws_FnScaleArea.tab5 laws_FnScaleArea.bits5 (fun HT_ HW_ => ?_)
  generalize w18.drew = w19 at HO771 HO780 BK774 BK781 HB hHeld ⊢
  refine pQ 2 27 HT_ (bA 12 4) ?_
  refine pQ 3 28 HT_ (bA 12 12) ?_
  refine take_ (i := 0) (N := some 25) (v := ?_) (a' := ?_) (bA 12 13) rfl rfl (take_ofW HT_.out HW_.out (by kernel_rfl)) (fun _ _ _ h => h) (Or.inl ⟨by rfl, ?_⟩) hHeld ?_ ?_
  rotate_left
  ·rintro w' ⟨s0, s1, s2, s3, s4, s5, s6, s7⟩
   go_simp
   with_reducible rfl
  rotate_left
  ·refine pZ ?_
   rfl
  refine take_ (i := 1) (N := some 26) (v := ?_) (a' := ?_) (bA 12 15) rfl rfl (take_ofW HT_.out HW_.out (by kernel_rfl)) (fun _ _ _ h => h) (Or.inl ⟨by rfl, ?_⟩) hHeld ?_ ?_
  rotate_left
  ·rintro w' ⟨s0, s1, s2, s3, s4, s5, s6, s7⟩
   go_simp
   with_reducible rfl
  rotate_left
  ·refine pZ ?_
   rfl
  refine one_ (i := 4) (N := some 29) (bA 12 31) rfl rfl (one_of HT_.out (by kernel_rfl)) (by decide) (fun K hK => ?_)
  refine goes_ Try.func32 (by kernel_rfl) rfl #[.agg #[.int .i64 t766, .int .i64 t767, .int .i64 t768, .slice Ao9 t769.length co9], .int .i64 t772, .int .i64 t773] (by rfl) rfl rfl qM ?_
  with_reducible refine (spec_ScaleArea.calls k t766 t767 t768 _ _ t769 t772 t773 t782 t783 t784 t785 _ ?side1 ?side2 A15.out).mono ?_
  (case side1 => exact qC (Kd.Q_reads' HO771.out).2.2)
  (case side2 => exact (Kd.Q_reads' HO771.out).2.1)
  rintro e w20 ⟨v786, rfl, ho0, hb⟩
  refine ⟨_, rfl, ?_⟩
  have HO787 := aM (Kd.R_lower (Kd.R_new' (Kd.R_new' ho0 (Kd.Q_lt (qQ HO771.out))) (Kd.R_lt (qR HO780.out))) (below_size (qW HB.out)))
  replace HO771 := aM (Kd.Q_elder' (qQ HO771.out) (Kd.R_base ho0) hb)
  replace HO780 := aM (Kd.R_elder' (qR HO780.out) (Kd.R_base ho0) hb)
  replace BK774 := bB BK774 hb
  replace BK781 := bB BK781 hb
  replace HB := bS HB hb
  (try clear hb)
  (try clear hb2)
  (try clear hk)
  (try clear hi)
  (try clear ho0)
  obtain ⟨Ao21, co21, eo21⟩ := Kd.R_slice HO787.out
  (first | subst eo21 | (injection eo21 with f1_ f2_ f3_; have f4_ := f1_.symm; have f5_ := f3_.symm; clear f1_ f2_ f3_; subst f4_; subst f5_))
  refine hK.out _ _ ⟨(blk_cell BK781.out 0).trans rfl, (blk_cell BK781.out 1).trans rfl, (blk_cell BK781.out 2).trans rfl, (blk_cell BK781.out 3).trans rfl, (blk_cell BK774.out 0).trans rfl, (blk_cell BK774.out 1).trans rfl, (blk_cell BK774.out 2).trans rfl, (blk_cell BK774.out 3).trans rfl⟩ (fun hHeld => ?_)
  clear hK K
  refine norm_ (a' := ?_) ?_ ?_
  rotate_left
  ·show Act.put _ (some 29) _ = _
   refine pZ ?_
   rfl
  refine one_ (i := 5) (N := some 30) (bA 12 63) rfl rfl (one_of HT_.out (by kernel_rfl)) (by decide) (fun K hK => ?_)
  refine goes_ Try.func23 (by kernel_rfl) rfl #[.agg #[.int .i64 t775, .int .i64 t776, .int .i64 t777, .slice Ao14 t778.length co14], .agg #[.int .i64 t782, .int .i64 t783, .int .i64 t784, .slice Ao21 t785.length co21]] (by rfl) rfl rfl qM ?_
  with_reducible refine (laws_equalImage.calls k t775 t776 t777 _ _ t778 t782 t783 t784 _ _ t785 true _ ?side1 ?side2 ?side3 ?side4 A16.out).mono ?_
  (case side1 => exact qC (Kd.R_reads' HO780.out).2.2)
  (case side2 => exact (Kd.R_reads' HO780.out).2.1)
  (case side3 => exact qC (Kd.R_reads' HO787.out).2.2)
  (case side4 => exact (Kd.R_reads' HO787.out).2.1)
  rintro e w22 ⟨rfl, hb⟩
  refine ⟨_, rfl, ?_⟩
  replace HO771 := aM (Kd.Q_below (qQ HO771.out) hb)
  replace HO780 := aM (Kd.R_below (qR HO780.out) hb)
  replace HO787 := aM (Kd.R_below (qR HO787.out) hb)
  replace BK774 := bB BK774 hb
  replace BK781 := bB BK781 hb
  replace HB := bS HB hb
  (try clear hb)
  (try clear hb2)
  (try clear hk)
  (try clear hi)
  refine hK.out _ _ ⟨(blk_cell BK781.out 0).trans rfl, (blk_cell BK781.out 1).trans rfl, (blk_cell BK781.out 2).trans rfl, (blk_cell BK781.out 3).trans rfl, (blk_cell BK774.out 0).trans rfl, (blk_cell BK774.out 1).trans rfl, (blk_cell BK774.out 2).trans rfl, (blk_cell BK774.out 3).trans rfl⟩ (fun hHeld => ?_)
  clear hK K
  refine norm_ (a' := ?_) ?_ ?_
  rotate_left
  ·show Act.put _ (some 30) _ = _
   refine pZ ?_
   rfl
  refine pQ 6 31 HT_ (bA 12 127) ?_
  refine pQ 7 32 HT_ (bA 12 255) ?_
  refine pQ 8 33 HT_ (bA 12 511) ?_
  refine take_ (i := 9) (N := some 34) (v := ?_) (a' := ?_) (bA 12 1023) rfl rfl (take_ofW HT_.out HW_.out (by kernel_rfl)) (fun _ _ _ h => h) (Or.inl ⟨by rfl, ?_⟩) hHeld ?_ ?_
  rotate_left
  ·rintro w' ⟨s0, s1, s2, s3, s4, s5, s6, s7⟩
   go_simp
   with_reducible rfl
  rotate_left
  ·refine pZ ?_
   rfl
  refine pQ 10 35 HT_ (bA 12 2047) ?_
  refine pQ 11 36 HT_ (bA 12 4095) ?_
  refine done_ (done_of HT_.out (by kernel_rfl)) ?_
  try go_wp2
  go_meet
  case rel => exact ⟨_, ((t775 == 0)), qE, H', ⟨by first | omega | exact Nat.le_refl _⟩, ⟨by (with_reducible repeat (first | apply Kd.Q_alloc | apply Kd.Q_drewN | apply Kd.Q_drew)); exact Kd.Q_mono HO771.out (fun _ hk => hk.1)⟩, ⟨Kd.Q_of_R (by refine qR ?_; exact Kd.R_mono HO780.out (fun _ hk => hk.1))⟩, ⟨by refine qB ?_; exact BK774.out⟩, ⟨by refine qB ?_; exact BK781.out⟩, ⟨by exact qW HB.out⟩⟩
 case rest =>
  clear HC5
  try clear c2
  try clear c2b0
  try clear c2b1
  try clear c17
  try clear hcz13_0 hcz13_1 hcz13_2 hcz13_3 hfz13_0 hfz13_1 hfz13_2 hfz13_3
  try clear hcz8_0 hcz8_1 hcz8_2 hcz8_3 hfz8_0 hfz8_1 hfz8_2 hfz8_3
  obtain ⟨kq, x36_4, rfl, HA, HJ4, HO_775003, HO_782003, BK774, BK781, HB⟩ := hcut
  cases kq with
  | zero => exact absurd HA.out (by simp [laws_FnScaleArea.j0])
  | succ kj4 =>
   have H := HA.out
   clear HA
   simp only [laws_FnScaleArea.j0] at H
   by_cases c28 : x36_4 = true
   ·subst c28
    have H1 : ((spec_ScaleArea.f kj4 t766 t767 t768 t769 t772 t773).bind fun bt789 => ((laws_equalImage.f kj4 t775 t776 t777 t778 bt789.1 bt789.2.1 bt789.2.2.1 bt789.2.2.2).bind fun t795 => (some t795))) = some r := by rw [if_pos rfl] at H; exact H
    clear H
    have H := H1
    clear H1
    replace H := Option.bind_eq_some_iff.mp H
    obtain ⟨⟨t789, t790, t791, t792⟩, A290, H⟩ := H
    replace H : ((laws_equalImage.f kj4 t775 t776 t777 t778 t789 t790 t791 t792).bind fun t795 => (some t795)) = some r := H
    have A29 := aM A290
    clear A290
    replace H := Option.bind_eq_some_iff.mp H
    obtain ⟨t795, A300, H⟩ := H
    replace H : (some t795) = some r := H
    have A30 := aM A300
    clear A300
    obtain rfl := Option.some.inj H
    try go_wp2
    replace HO_775003 := aM (Kd.Q_drew HO_775003.out)
    replace HO_782003 := aM (Kd.Q_drew HO_782003.out)
    replace BK774 := aM (blk_drew BK774.out)
    replace BK781 := aM (blk_drew BK781.out)
    replace HB := aM (below_drew1 HB.out)
    refine start_ (n := 7) (S := fun w' => w'.cell? ⟨gb781, 0, none⟩ = some (.int .i64 t775) ∧ w'.cell? ⟨gb781, 1, none⟩ = some (.int .i64 t776) ∧ w'.cell? ⟨gb781, 2, none⟩ = some (.int .i64 t777) ∧ w'.cell? ⟨gb781, 3, none⟩ = some (.slice Ao14 t778.length co14) ∧ w'.cell? ⟨gb774, 0, none⟩ = some (.int .i64 t766) ∧ w'.cell? ⟨gb774, 1, none⟩ = some (.int .i64 t767) ∧ w'.cell? ⟨gb774, 2, none⟩ = some (.int .i64 t768) ∧ w'.cell? ⟨gb774, 3, none⟩ = some (.slice Ao9 t769.length co9)) (ds := []) (bA 7 0) (by kernel_rfl) rfl rfl ⟨(blk_cell BK781.out 0).trans rfl, (blk_cell BK781.out 1).trans rfl, (blk_cell BK781.out 2).trans rfl, (blk_cell BK781.out 3).trans rfl, (blk_cell BK774.out 0).trans rfl, (blk_cell BK774.out 1).trans rfl, (blk_cell BK774.out 2).trans rfl, (blk_cell BK774.out 3).trans rfl⟩ (fun hHeld => ?_)
    generalize wc.drew = w31 at HO_775003 HO_782003 BK774 BK781 HB hHeld ⊢
    refine pure_ (i := 2) (N := some 39) (v := ?_) (a' := ?_) (bA 7 4) rfl rfl (by kernel_rfl) (fun _ _ _ h => h) (Or.inl ⟨by rfl, ?_⟩) ?_ ?_
    rotate_left
    ·intro w'
     go_simp
     with_reducible rfl
    rotate_left
    ·refine pZ ?_
     rfl
    refine pure_ (i := 3) (N := some 40) (v := ?_) (a' := ?_) (bA 7 12) rfl rfl (by kernel_rfl) (fun _ _ _ h => h) (Or.inl ⟨by rfl, ?_⟩) ?_ ?_
    rotate_left
    ·intro w'
     go_simp
     with_reducible rfl
    rotate_left
    ·refine pZ ?_
     rfl
    refine take_ (i := 0) (N := some 37) (v := ?_) (a' := ?_) (bA 7 13) rfl rfl (by kernel_rfl) (fun _ _ _ h => h) (Or.inl ⟨by rfl, ?_⟩) hHeld ?_ ?_
    rotate_left
    ·rintro w' ⟨s0, s1, s2, s3, s4, s5, s6, s7⟩
     go_simp
     with_reducible rfl
    rotate_left
    ·refine pZ ?_
     rfl
    refine take_ (i := 1) (N := some 38) (v := ?_) (a' := ?_) (bA 7 15) rfl rfl (by kernel_rfl) (fun _ _ _ h => h) (Or.inl ⟨by rfl, ?_⟩) hHeld ?_ ?_
    rotate_left
    ·rintro w' ⟨s0, s1, s2, s3, s4, s5, s6, s7⟩
     go_simp
     with_reducible rfl
    rotate_left
    ·refine pZ ?_
     rfl
    refine one_ (i := 4) (N := some 41) (bA 7 31) rfl rfl (by kernel_rfl) (by decide) (fun K hK => ?_)
    refine goes_ Try.func32 (by kernel_rfl) rfl #[.agg #[.int .i64 t766, .int .i64 t767, .int .i64 t768, .slice Ao9 t769.length co9], .int .i64 t772, .int .i64 t773] (by rfl) rfl rfl qM ?_
    with_reducible refine (spec_ScaleArea.calls kj4 t766 t767 t768 _ _ t769 t772 t773 t789 t790 t791 t792 _ ?side1 ?side2 A29.out).mono ?_
    (case side1 => exact qC (Kd.Q_reads' HO_775003.out).2.2)
    (case side2 => exact (Kd.Q_reads' HO_775003.out).2.1)
    rintro e w32 ⟨v793, rfl, ho0, hb⟩
    refine ⟨_, rfl, ?_⟩
    have HO794 := aM (Kd.R_lower (Kd.R_new' (Kd.R_new' ho0 (Kd.Q_lt (qQ HO_775003.out))) (Kd.Q_lt (qQ HO_782003.out))) (below_size (qW HB.out)))
    replace HO_775003 := aM (Kd.Q_elder' (qQ HO_775003.out) (Kd.R_base ho0) hb)
    replace HO_782003 := aM (Kd.Q_elder' (qQ HO_782003.out) (Kd.R_base ho0) hb)
    replace BK774 := bB BK774 hb
    replace BK781 := bB BK781 hb
    replace HB := bS HB hb
    (try clear hb)
    (try clear hb2)
    (try clear hk)
    (try clear hi)
    (try clear ho0)
    obtain ⟨Ao33, co33, eo33⟩ := Kd.R_slice HO794.out
    (first | subst eo33 | (injection eo33 with f1_ f2_ f3_; have f4_ := f1_.symm; have f5_ := f3_.symm; clear f1_ f2_ f3_; subst f4_; subst f5_))
    refine hK.out _ _ ⟨(blk_cell BK781.out 0).trans rfl, (blk_cell BK781.out 1).trans rfl, (blk_cell BK781.out 2).trans rfl, (blk_cell BK781.out 3).trans rfl, (blk_cell BK774.out 0).trans rfl, (blk_cell BK774.out 1).trans rfl, (blk_cell BK774.out 2).trans rfl, (blk_cell BK774.out 3).trans rfl⟩ (fun hHeld => ?_)
    clear hK K
    refine norm_ (a' := ?_) ?_ ?_
    rotate_left
    ·show Act.put _ (some 41) _ = _
     refine pZ ?_
     rfl
    refine one_ (i := 5) (N := some 42) (bA 7 63) rfl rfl (by kernel_rfl) (by decide) (fun K hK => ?_)
    refine goes_ Try.func23 (by kernel_rfl) rfl #[.agg #[.int .i64 t775, .int .i64 t776, .int .i64 t777, .slice Ao14 t778.length co14], .agg #[.int .i64 t789, .int .i64 t790, .int .i64 t791, .slice Ao33 t792.length co33]] (by rfl) rfl rfl qM ?_
    with_reducible refine (laws_equalImage.calls kj4 t775 t776 t777 _ _ t778 t789 t790 t791 _ _ t792 t795 _ ?side1 ?side2 ?side3 ?side4 A30.out).mono ?_
    (case side1 => exact qC (Kd.Q_reads' HO_782003.out).2.2)
    (case side2 => exact (Kd.Q_reads' HO_782003.out).2.1)
    (case side3 => exact qC (Kd.R_reads' HO794.out).2.2)
    (case side4 => exact (Kd.R_reads' HO794.out).2.1)
    rintro e w34 ⟨rfl, hb⟩
    refine ⟨_, rfl, ?_⟩
    replace HO_775003 := aM (Kd.Q_below (qQ HO_775003.out) hb)
    replace HO_782003 := aM (Kd.Q_below (qQ HO_782003.out) hb)
    replace HO794 := aM (Kd.R_below (qR HO794.out) hb)
    replace BK774 := bB BK774 hb
    replace BK781 := bB BK781 hb
    replace HB := bS HB hb
    (try clear hb)
    (try clear hb2)
    (try clear hk)
    (try clear hi)
    refine hK.out _ _ ⟨(blk_cell BK781.out 0).trans rfl, (blk_cell BK781.out 1).trans rfl, (blk_cell BK781.out 2).trans rfl, (blk_cell BK781.out 3).trans rfl, (blk_cell BK774.out 0).trans rfl, (blk_cell BK774.out 1).trans rfl, (blk_cell BK774.out 2).trans rfl, (blk_cell BK774.out 3).trans rfl⟩ (fun hHeld => ?_)
    clear hK K
    refine norm_ (a' := ?_) ?_ ?_
    rotate_left
    ·show Act.put _ (some 42) _ = _
     refine pZ ?_
     rfl
    refine pure_ (i := 6) (N := some 2) (v := ?_) (a' := ?_) (bA 7 127) rfl rfl (by kernel_rfl) (fun _ _ _ h => h) (Or.inl ⟨by rfl, ?_⟩) ?_ ?_
    rotate_left
    ·intro w'
     go_simp
     with_reducible rfl
    rotate_left
    ·refine pZ ?_
     rfl
    refine done_ (by kernel_rfl) ?_
    try go_wp2
    go_ret
    exact ⟨qX, by exact qW HB.out⟩
   replace c28 := Bool.eq_false_iff.mpr c28
   subst c28
   have H1 : (laws_FnScaleArea.l0 kj4 0 t766 t767 t768 t769 t775 t776 t777 t778) = some r := by rw [if_neg (show ¬ (false = true) by decide)] at H; exact H
   clear H
   have H := H1
   clear H1
   have H' := aM H
   clear H
   go_wp2
   go_loopg [7] kj4 (fun kq v7 w' => ∃ (x7_2 : Int), v7 = .int .i64 x7_2 ∧ Aside0 (laws_FnScaleArea.l0 kq x7_2 t766 t767 t768 t769 t775 t776 t777 t778 = some r) ∧ Aside0 (kq ≤ kj4) ∧ Aside0 (Kd.Q (Kd.int .i64) 3 w' w.heap.size (fun k_ => some k_ ≠ ((.slice Ao14 t778.length co14) : Value).ownBlock) (.slice Ao9 t769.length co9) t769) ∧ Aside0 (Kd.Q (Kd.int .i64) 3 w' w.heap.size (fun k_ => some k_ ≠ ((.slice Ao9 t769.length co9) : Value).ownBlock) (.slice Ao14 t778.length co14) t778) ∧ Aside0 (w'.heap[gb774]? = some (.cells #[.int .i64 t766, .int .i64 t767, .int .i64 t768, (.slice Ao9 t769.length co9)] 26 (0, 0))) ∧ Aside0 (w'.heap[gb781]? = some (.cells #[.int .i64 t775, .int .i64 t776, .int .i64 t777, (.slice Ao14 t778.length co14)] 26 (0, 0))) ∧ Aside0 (Below w.heap.size w w'))
   case atStart => exact ⟨(0), qE, H', ⟨Nat.le_refl _⟩, ⟨by (with_reducible repeat (first | apply Kd.Q_alloc | apply Kd.Q_drewN | apply Kd.Q_drew)); exact HO_775003.out⟩, ⟨by (with_reducible repeat (first | apply Kd.Q_alloc | apply Kd.Q_drewN | apply Kd.Q_drew)); exact HO_782003.out⟩, ⟨by refine qB ?_; exact BK774.out⟩, ⟨by refine qB ?_; exact BK781.out⟩, ⟨by exact qW HB.out⟩⟩
   case round =>
    clear H'
    try clear c2
    try clear c2b0
    try clear c2b1
    try clear c17
    try clear c28
    try clear hcz13_0 hcz13_1 hcz13_2 hcz13_3 hfz13_0 hfz13_1 hfz13_2 hfz13_3
    try clear hcz8_0 hcz8_1 hcz8_2 hcz8_3 hfz8_0 hfz8_1 hfz8_2 hfz8_3
    obtain ⟨x7_2, rfl, HA, HK2, HO_775003, HO_782003, BK774, BK781, HB⟩ := hrel
    cases gk with
    | zero => exact absurd HA.out (by simp [laws_FnScaleArea.l0])
    | succ k2 =>
     have H := HA.out
     clear HA
     simp only [laws_FnScaleArea.l0] at H
     by_cases c35 : x7_2 < t768
     ·rw [if_pos c35] at H
      have c35b0 : decide (x7_2 < t768) = true := decide_eq_true c35
      clear c35
      have H' := aM H
      clear H
      have hnb36 := NB774_781.out
      have hnc36 := NB781_774.out
      obtain ⟨⟨hcz37_0, hcz37_1, hcz37_2, hcz37_3⟩, hfz37_0, hfz37_1, hfz37_2, hfz37_3⟩ := cf4 BK774
      go_wp2
      go_loopg [8, 9, 10] k2 (fun kq v8 v9 v10 w' => ∃ (x8_3 : Int) (x9_3 : Int) (x10_3 : Int), v8 = .int .i64 x8_3 ∧ v9 = .int .i64 x9_3 ∧ v10 = .int .i64 x10_3 ∧ Aside0 (laws_FnScaleArea.l1 kq x7_2 x8_3 x9_3 x10_3 t766 t767 t768 t769 t775 t776 t777 t778 = some r) ∧ Aside0 (kq ≤ k2) ∧ Aside0 (Kd.Q (Kd.int .i64) 3 w' w.heap.size (fun k_ => some k_ ≠ ((.slice Ao14 t778.length co14) : Value).ownBlock) (.slice Ao9 t769.length co9) t769) ∧ Aside0 (Kd.Q (Kd.int .i64) 3 w' w.heap.size (fun k_ => some k_ ≠ ((.slice Ao9 t769.length co9) : Value).ownBlock) (.slice Ao14 t778.length co14) t778) ∧ Aside0 (w'.heap[gb774]? = some (.cells #[.int .i64 t766, .int .i64 t767, .int .i64 t768, (.slice Ao9 t769.length co9)] 26 (0, 0))) ∧ Aside0 (w'.heap[gb781]? = some (.cells #[.int .i64 t775, .int .i64 t776, .int .i64 t777, (.slice Ao14 t778.length co14)] 26 (0, 0))) ∧ Aside0 (Below w.heap.size w w'))
      case atStart => exact ⟨(255), (0), (x7_2), qE, qE, qE, H', ⟨Nat.le_refl _⟩, ⟨by (with_reducible repeat (first | apply Kd.Q_alloc | apply Kd.Q_drewN | apply Kd.Q_drew)); exact HO_775003.out⟩, ⟨by (with_reducible repeat (first | apply Kd.Q_alloc | apply Kd.Q_drewN | apply Kd.Q_drew)); exact HO_782003.out⟩, ⟨by refine qB ?_; exact BK774.out⟩, ⟨by refine qB ?_; exact BK781.out⟩, ⟨by exact qW HB.out⟩⟩
      case round =>
       clear H'
       try clear c2
       try clear c2b0
       try clear c2b1
       try clear c17
       try clear c28
       try clear c35
       try clear c35b0
       try clear hcz13_0 hcz13_1 hcz13_2 hcz13_3 hfz13_0 hfz13_1 hfz13_2 hfz13_3
       try clear hcz37_0 hcz37_1 hcz37_2 hcz37_3 hfz37_0 hfz37_1 hfz37_2 hfz37_3
       try clear hcz8_0 hcz8_1 hcz8_2 hcz8_3 hfz8_0 hfz8_1 hfz8_2 hfz8_3
       obtain ⟨x8_3, x9_3, x10_3, rfl, rfl, rfl, HA, HK3, HO_775003, HO_782003, BK774, BK781, HB⟩ := hrel
       cases gk with
       | zero => exact absurd HA.out (by simp [laws_FnScaleArea.l1])
       | succ k3 =>
        have H := HA.out
        clear HA
        simp only [laws_FnScaleArea.l1] at H
        by_cases c38 : x10_3 < (t769.length : Int)
        ·rw [if_pos c38] at H
         have c38b0 : decide (x10_3 < (t769.length : Int)) = true := decide_eq_true c38
         clear c38
         replace H := iD H
         obtain ⟨c39b0, H⟩ := H
         obtain ⟨ji40, hji40⟩ : ∃ j_ : Int, (mn x8_3 (rd t769 x10_3)) = j_ := ⟨_, rfl⟩
         replace H : (laws_FnScaleArea.l1 k3 x7_2 ji40 (mx x9_3 (rd t769 x10_3)) (wrap64 (x10_3 + t768)) t766 t767 t768 t769 t775 t776 t777 t778) = some r := by first | (rw [hji40] at H; exact H) | (simp only [hji40] at H ⊢; exact H)
         have hji40_ : (if (rd t769 x10_3) < x8_3 then (rd t769 x10_3) else x8_3) = ji40 := hji40
         obtain ⟨ji41, hji41⟩ : ∃ j_ : Int, (mx x9_3 (rd t769 x10_3)) = j_ := ⟨_, rfl⟩
         replace H : (laws_FnScaleArea.l1 k3 x7_2 ji40 ji41 (wrap64 (x10_3 + t768)) t766 t767 t768 t769 t775 t776 t777 t778) = some r := by first | (rw [hji41] at H; exact H) | (simp only [hji41] at H ⊢; exact H)
         have hji41_ : (if x9_3 < (rd t769 x10_3) then (rd t769 x10_3) else x9_3) = ji41 := hji41
         have H' := aM H
         clear H
         have hnb42 := NB774_781.out
         have hnc42 := NB781_774.out
         obtain ⟨⟨hcz43_0, hcz43_1, hcz43_2, hcz43_3⟩, hfz43_0, hfz43_1, hfz43_2, hfz43_3⟩ := cf4 BK774
         obtain ⟨ad796, e796, hx796_0⟩ := Kd.at_int (Kd.Q_reads' HO_775003.out).2.2 x10_3 oD oD
         cases e796
         have p796 := eq_true (oD : 0 ≤ (x10_3 : Int))
         have q796 := eq_true (oD : x10_3 < (t769.length : Int))
         obtain ⟨ad797, e797, hx797_0⟩ := Kd.at_int (Kd.Q_reads' HO_775003.out).2.2 x10_3 oD oD
         obtain rfl : ad796 = ad797 := (by injection e797)
         have p797 := eq_true (oD : 0 ≤ (x10_3 : Int))
         have q797 := eq_true (oD : x10_3 < (t769.length : Int))
         go_wp2
         go_roundg k3
         case measure => have := HJ4.out; have := HK2.out; have := HK3.out; omega
         case rel => exact ⟨(ji40), (ji41), (wrap64 (x10_3 + t768)), (by first | rfl | (simp; done) | (simp only [← hji40] <;> (first | rfl | simp)) | (simp [*]; done)), (by first | rfl | (simp; done) | (simp only [← hji41] <;> (first | rfl | simp)) | (simp [*]; done)), qE, H', ⟨by have := HJ4.out; have := HK2.out; have := HK3.out; omega⟩, ⟨by (with_reducible repeat (first | apply Kd.Q_alloc | apply Kd.Q_drewN | apply Kd.Q_drew)); exact HO_775003.out⟩, ⟨by (with_reducible repeat (first | apply Kd.Q_alloc | apply Kd.Q_drewN | apply Kd.Q_drew)); exact HO_782003.out⟩, ⟨by refine qB ?_; exact BK774.out⟩, ⟨by refine qB ?_; exact BK781.out⟩, ⟨by exact qW HB.out⟩⟩
        rw [if_neg c38] at H
        have c38b0 : decide (x10_3 < (t769.length : Int)) = false := decide_eq_false c38
        clear c38
        have H' := aM H
        clear H
        have hnb44 := NB774_781.out
        have hnc44 := NB781_774.out
        obtain ⟨⟨hcz45_0, hcz45_1, hcz45_2, hcz45_3⟩, hfz45_0, hfz45_1, hfz45_2, hfz45_3⟩ := cf4 BK774
        go_wp2
        go_loopg [11] k3 (fun kq v11 w' => ∃ (x11_4 : Int), v11 = .int .i64 x11_4 ∧ Aside0 (laws_FnScaleArea.l2 kq x7_2 x8_3 x9_3 x11_4 t766 t767 t768 t769 t775 t776 t777 t778 = some r) ∧ Aside0 (kq ≤ k3) ∧ Aside0 (Kd.Q (Kd.int .i64) 3 w' w.heap.size (fun k_ => some k_ ≠ ((.slice Ao14 t778.length co14) : Value).ownBlock) (.slice Ao9 t769.length co9) t769) ∧ Aside0 (Kd.Q (Kd.int .i64) 3 w' w.heap.size (fun k_ => some k_ ≠ ((.slice Ao9 t769.length co9) : Value).ownBlock) (.slice Ao14 t778.length co14) t778) ∧ Aside0 (w'.heap[gb774]? = some (.cells #[.int .i64 t766, .int .i64 t767, .int .i64 t768, (.slice Ao9 t769.length co9)] 26 (0, 0))) ∧ Aside0 (w'.heap[gb781]? = some (.cells #[.int .i64 t775, .int .i64 t776, .int .i64 t777, (.slice Ao14 t778.length co14)] 26 (0, 0))) ∧ Aside0 (Below w.heap.size w w'))
        case atStart => exact ⟨(x7_2), qE, H', ⟨Nat.le_refl _⟩, ⟨by (with_reducible repeat (first | apply Kd.Q_alloc | apply Kd.Q_drewN | apply Kd.Q_drew)); exact HO_775003.out⟩, ⟨by (with_reducible repeat (first | apply Kd.Q_alloc | apply Kd.Q_drewN | apply Kd.Q_drew)); exact HO_782003.out⟩, ⟨by refine qB ?_; exact BK774.out⟩, ⟨by refine qB ?_; exact BK781.out⟩, ⟨by exact qW HB.out⟩⟩
        case round =>
         clear H'
         try clear c2
         try clear c2b0
         try clear c2b1
         try clear c17
         try clear c28
         try clear c35
         try clear c35b0
         try clear c38
         try clear c38b0
         try clear c39b0
         try clear hcz13_0 hcz13_1 hcz13_2 hcz13_3 hfz13_0 hfz13_1 hfz13_2 hfz13_3
         try clear hcz37_0 hcz37_1 hcz37_2 hcz37_3 hfz37_0 hfz37_1 hfz37_2 hfz37_3
         try clear hcz43_0 hcz43_1 hcz43_2 hcz43_3 hfz43_0 hfz43_1 hfz43_2 hfz43_3
         try clear hcz45_0 hcz45_1 hcz45_2 hcz45_3 hfz45_0 hfz45_1 hfz45_2 hfz45_3
         try clear hcz8_0 hcz8_1 hcz8_2 hcz8_3 hfz8_0 hfz8_1 hfz8_2 hfz8_3
         try clear hx796_0
         try clear hx797_0
         try clear p796
         try clear p797
         try clear q796
         try clear q797
         obtain ⟨x11_4, rfl, HA, HK4, HO_775003, HO_782003, BK774, BK781, HB⟩ := hrel
         cases gk with
         | zero => exact absurd HA.out (by simp [laws_FnScaleArea.l2])
         | succ k4 =>
          have H := HA.out
          clear HA
          simp only [laws_FnScaleArea.l2] at H
          by_cases c46 : x11_4 < (t778.length : Int)
          rotate_left
          ·rw [if_neg c46] at H
           have c46b0 : decide (x11_4 < (t778.length : Int)) = false := decide_eq_false c46
           clear c46
           have H' := aM H
           clear H
           have hnb57 := NB781_774.out
           have hnc57 := NB774_781.out
           obtain ⟨⟨hcz58_0, hcz58_1, hcz58_2, hcz58_3⟩, hfz58_0, hfz58_1, hfz58_2, hfz58_3⟩ := cf4 BK781
           go_wp2
           go_roundg k4
           case measure => have := HJ4.out; have := HK2.out; have := HK3.out; have := HK4.out; omega
           case rel => exact ⟨(wrap64 (x7_2 + 1)), qE, H', ⟨by have := HJ4.out; have := HK2.out; have := HK3.out; have := HK4.out; omega⟩, ⟨by (with_reducible repeat (first | apply Kd.Q_alloc | apply Kd.Q_drewN | apply Kd.Q_drew)); exact HO_775003.out⟩, ⟨by (with_reducible repeat (first | apply Kd.Q_alloc | apply Kd.Q_drewN | apply Kd.Q_drew)); exact HO_782003.out⟩, ⟨by refine qB ?_; exact BK774.out⟩, ⟨by refine qB ?_; exact BK781.out⟩, ⟨by exact qW HB.out⟩⟩
          rw [if_pos c46] at H
          have c46b0 : decide (x11_4 < (t778.length : Int)) = true := decide_eq_true c46
          clear c46
          replace H := iD H
          obtain ⟨c47b0, H⟩ := H
          by_cases c48 : (rd t778 x11_4) < x8_3
          ·rw [if_pos c48] at H
           have c48b0 : decide ((rd t778 x11_4) < x8_3) = true := decide_eq_true c48
           clear c48
           obtain rfl := Option.some.inj H
           have hnb49 := NB781_774.out
           have hnc49 := NB774_781.out
           obtain ⟨⟨hcz50_0, hcz50_1, hcz50_2, hcz50_3⟩, hfz50_0, hfz50_1, hfz50_2, hfz50_3⟩ := cf4 BK781
           obtain ⟨ad798, e798, hx798_0⟩ := Kd.at_int (Kd.Q_reads' HO_782003.out).2.2 x11_4 oD oD
           cases e798
           have p798 := eq_true (oD : 0 ≤ (x11_4 : Int))
           have q798 := eq_true (oD : x11_4 < (t778.length : Int))
           go_wp2
           go_ret
           exact ⟨qX, by exact qW HB.out⟩
          rw [if_neg c48] at H
          have c48b0 : decide ((rd t778 x11_4) < x8_3) = false := decide_eq_false c48
          clear c48
          by_cases c51 : (rd t778 x11_4) > x9_3
          ·rw [if_pos c51] at H
           have c51b0 : decide (x9_3 < (rd t778 x11_4)) = true := decide_eq_true c51
           clear c51
           obtain rfl := Option.some.inj H
           have hnb52 := NB781_774.out
           have hnc52 := NB774_781.out
           obtain ⟨⟨hcz53_0, hcz53_1, hcz53_2, hcz53_3⟩, hfz53_0, hfz53_1, hfz53_2, hfz53_3⟩ := cf4 BK781
           obtain ⟨ad798, e798, hx798_0⟩ := Kd.at_int (Kd.Q_reads' HO_782003.out).2.2 x11_4 oD oD
           cases e798
           have p798 := eq_true (oD : 0 ≤ (x11_4 : Int))
           have q798 := eq_true (oD : x11_4 < (t778.length : Int))
           obtain ⟨ad799, e799, hx799_0⟩ := Kd.at_int (Kd.Q_reads' HO_782003.out).2.2 x11_4 oD oD
           obtain rfl : ad798 = ad799 := (by injection e799)
           have p799 := eq_true (oD : 0 ≤ (x11_4 : Int))
           have q799 := eq_true (oD : x11_4 < (t778.length : Int))
           go_wp2
           go_ret
           exact ⟨qX, by exact qW HB.out⟩
          rw [if_neg c51] at H
          have c51b0 : decide (x9_3 < (rd t778 x11_4)) = false := decide_eq_false c51
          clear c51
          have H' := aM H
          clear H
          have hnb54 := NB781_774.out
          have hnc54 := NB774_781.out
          obtain ⟨⟨hcz55_0, hcz55_1, hcz55_2, hcz55_3⟩, hfz55_0, hfz55_1, hfz55_2, hfz55_3⟩ := cf4 BK781
          obtain ⟨ad798, e798, hx798_0⟩ := Kd.at_int (Kd.Q_reads' HO_782003.out).2.2 x11_4 oD oD
          cases e798
          have p798 := eq_true (oD : 0 ≤ (x11_4 : Int))
          have q798 := eq_true (oD : x11_4 < (t778.length : Int))
          obtain ⟨ad799, e799, hx799_0⟩ := Kd.at_int (Kd.Q_reads' HO_782003.out).2.2 x11_4 oD oD
          obtain rfl : ad798 = ad799 := (by injection e799)
          have p799 := eq_true (oD : 0 ≤ (x11_4 : Int))
          have q799 := eq_true (oD : x11_4 < (t778.length : Int))
          obtain ⟨⟨hcz56_0, hcz56_1, hcz56_2, hcz56_3⟩, hfz56_0, hfz56_1, hfz56_2, hfz56_3⟩ := cf4 BK774
          go_wp2
          go_roundg k4
          case measure => have := HJ4.out; have := HK2.out; have := HK3.out; have := HK4.out; omega
          case rel => exact ⟨(wrap64 (x11_4 + t768)), qE, H', ⟨by have := HJ4.out; have := HK2.out; have := HK3.out; have := HK4.out; omega⟩, ⟨by (with_reducible repeat (first | apply Kd.Q_alloc | apply Kd.Q_drewN | apply Kd.Q_drew)); exact HO_775003.out⟩, ⟨by (with_reducible repeat (first | apply Kd.Q_alloc | apply Kd.Q_drewN | apply Kd.Q_drew)); exact HO_782003.out⟩, ⟨by refine qB ?_; exact BK774.out⟩, ⟨by refine qB ?_; exact BK781.out⟩, ⟨by exact qW HB.out⟩⟩
     rw [if_neg c35] at H
     have c35b0 : decide (x7_2 < t768) = false := decide_eq_false c35
     clear c35
     have HC59 := aM H
     clear H
     have hnb60 := NB774_781.out
     have hnc60 := NB781_774.out
     obtain ⟨⟨hcz61_0, hcz61_1, hcz61_2, hcz61_3⟩, hfz61_0, hfz61_1, hfz61_2, hfz61_3⟩ := cf4 BK774
     go_upto_region 22 with (fail)
     go_cut [108] (fun v108 wc => ∃ (kq : Nat) (x108_58 : Bool), v108 = .bool x108_58 ∧ Aside0 (laws_FnScaleArea.j4 kq x108_58 t766 t767 t768 t769 = some r) ∧ Aside0 (kq ≤ k2) ∧ Aside0 (Kd.Q (Kd.int .i64) 3 wc w.heap.size (fun k_ => some k_ ≠ ((.slice Ao14 t778.length co14) : Value).ownBlock) (.slice Ao9 t769.length co9) t769) ∧ Aside0 (Kd.Q (Kd.int .i64) 3 wc w.heap.size (fun k_ => some k_ ≠ ((.slice Ao9 t769.length co9) : Value).ownBlock) (.slice Ao14 t778.length co14) t778) ∧ Aside0 (wc.heap[gb774]? = some (.cells #[.int .i64 t766, .int .i64 t767, .int .i64 t768, (.slice Ao9 t769.length co9)] 26 (0, 0))) ∧ Aside0 (wc.heap[gb781]? = some (.cells #[.int .i64 t775, .int .i64 t776, .int .i64 t777, (.slice Ao14 t778.length co14)] 26 (0, 0))) ∧ Aside0 (Below w.heap.size w wc))
     case first =>
      have H := HC59.out
      clear HC59
      by_cases c62 : (wrap64 (2 * t766)) > 16
      ·rw [if_pos c62] at H
       have c62b0 : decide (16 < (wrap64 (2 * t766))) = true := decide_eq_true c62
       clear c62
       (first | rw [c62b0] | (simp only [i64_w, i32_w]; rw [c62b0]) | skip)
       have H' := aM H
       clear H
       have hnb63 := NB774_781.out
       have hnc63 := NB781_774.out
       obtain ⟨⟨hcz64_0, hcz64_1, hcz64_2, hcz64_3⟩, hfz64_0, hfz64_1, hfz64_2, hfz64_3⟩ := cf4 BK774
       go_wp2
       go_meet
       case rel => exact ⟨_, (true), qE, H', ⟨by have := HJ4.out; have := HK2.out; first | omega | exact Nat.le_refl _⟩, ⟨by (with_reducible repeat (first | apply Kd.Q_alloc | apply Kd.Q_drewN | apply Kd.Q_drew)); exact HO_775003.out⟩, ⟨by (with_reducible repeat (first | apply Kd.Q_alloc | apply Kd.Q_drewN | apply Kd.Q_drew)); exact HO_782003.out⟩, ⟨by refine qB ?_; exact BK774.out⟩, ⟨by refine qB ?_; exact BK781.out⟩, ⟨by exact qW HB.out⟩⟩
      rw [if_neg c62] at H
      have c62b0 : decide (16 < (wrap64 (2 * t766))) = false := decide_eq_false c62
      clear c62
      (first | rw [c62b0] | (simp only [i64_w, i32_w]; rw [c62b0]) | skip)
      have H' := aM H
      clear H
      have hnb65 := NB774_781.out
      have hnc65 := NB781_774.out
      obtain ⟨⟨hcz66_0, hcz66_1, hcz66_2, hcz66_3⟩, hfz66_0, hfz66_1, hfz66_2, hfz66_3⟩ := cf4 BK774
      go_wp2
      go_meet
      case rel => exact ⟨_, (decide ((wrap64 (2 * t767)) > 16)), qE, H', ⟨by have := HJ4.out; have := HK2.out; first | omega | exact Nat.le_refl _⟩, ⟨by (with_reducible repeat (first | apply Kd.Q_alloc | apply Kd.Q_drewN | apply Kd.Q_drew)); exact HO_775003.out⟩, ⟨by (with_reducible repeat (first | apply Kd.Q_alloc | apply Kd.Q_drewN | apply Kd.Q_drew)); exact HO_782003.out⟩, ⟨by refine qB ?_; exact BK774.out⟩, ⟨by refine qB ?_; exact BK781.out⟩, ⟨by exact qW HB.out⟩⟩
     case rest =>
      clear HC59
      try clear c2
      try clear c2b0
      try clear c2b1
      try clear c17
      try clear c28
      try clear c35
      try clear c35b0
      try clear c38
      try clear c38b0
      try clear c39b0
      try clear c46
      try clear c46b0
      try clear c47b0
      try clear c48
      try clear c48b0
      try clear c51
      try clear c51b0
      try clear c62
      try clear c62b0
      try clear hcz13_0 hcz13_1 hcz13_2 hcz13_3 hfz13_0 hfz13_1 hfz13_2 hfz13_3
      try clear hcz37_0 hcz37_1 hcz37_2 hcz37_3 hfz37_0 hfz37_1 hfz37_2 hfz37_3
      try clear hcz43_0 hcz43_1 hcz43_2 hcz43_3 hfz43_0 hfz43_1 hfz43_2 hfz43_3
      try clear hcz45_0 hcz45_1 hcz45_2 hcz45_3 hfz45_0 hfz45_1 hfz45_2 hfz45_3
      try clear hcz50_0 hcz50_1 hcz50_2 hcz50_3 hfz50_0 hfz50_1 hfz50_2 hfz50_3
      try clear hcz53_0 hcz53_1 hcz53_2 hcz53_3 hfz53_0 hfz53_1 hfz53_2 hfz53_3
      try clear hcz55_0 hcz55_1 hcz55_2 hcz55_3 hfz55_0 hfz55_1 hfz55_2 hfz55_3
      try clear hcz56_0 hcz56_1 hcz56_2 hcz56_3 hfz56_0 hfz56_1 hfz56_2 hfz56_3
      try clear hcz58_0 hcz58_1 hcz58_2 hcz58_3 hfz58_0 hfz58_1 hfz58_2 hfz58_3
      try clear hcz61_0 hcz61_1 hcz61_2 hcz61_3 hfz61_0 hfz61_1 hfz61_2 hfz61_3
      try clear hcz64_0 hcz64_1 hcz64_2 hcz64_3 hfz64_0 hfz64_1 hfz64_2 hfz64_3
      try clear hcz66_0 hcz66_1 hcz66_2 hcz66_3 hfz66_0 hfz66_1 hfz66_2 hfz66_3
      try clear hcz8_0 hcz8_1 hcz8_2 hcz8_3 hfz8_0 hfz8_1 hfz8_2 hfz8_3
      try clear hx796_0
      try clear hx797_0
      try clear hx798_0
      try clear hx799_0
      try clear p796
      try clear p797
      try clear p798
      try clear p799
      try clear q796
      try clear q797
      try clear q798
      try clear q799
      obtain ⟨kq, x108_58, rfl, HA, HJ58, HO_775003, HO_782003, BK774, BK781, HB⟩ := hcut
      cases kq with
      | zero => exact absurd HA.out (by simp [laws_FnScaleArea.j4])
      | succ kj58 =>
       have H := HA.out
       clear HA
       simp only [laws_FnScaleArea.j4] at H
       by_cases c67 : x108_58 = true
       ·subst c67
        have H1 : (some true) = some r := by rw [if_pos rfl] at H; exact H
        clear H
        have H := H1
        clear H1
        obtain rfl := Option.some.inj H
        go_wp2
        go_ret
        exact ⟨qX, by exact qW HB.out⟩
       replace c67 := Bool.eq_false_iff.mpr c67
       subst c67
       have H1 : ((impl_ScaleArea.f t766 t767 t768 t769 (wrap64 (2 * t766)) (wrap64 (2 * t767))).bind fun bt800 => ((impl_ScaleArea.f bt800.1 bt800.2.1 bt800.2.2.1 bt800.2.2.2 t766 t767).bind fun bt806 => ((laws_equalImage.f kj58 bt806.1 bt806.2.1 bt806.2.2.1 bt806.2.2.2 t766 t767 t768 t769).bind fun t812 => (some t812)))) = some r := by rw [if_neg (show ¬ (false = true) by decide)] at H; exact H
       clear H
       have H := H1
       clear H1
       replace H := Option.bind_eq_some_iff.mp H
       obtain ⟨⟨t800, t801, t802, t803⟩, A680, H⟩ := H
       replace H : ((impl_ScaleArea.f t800 t801 t802 t803 t766 t767).bind fun bt806 => ((laws_equalImage.f kj58 bt806.1 bt806.2.1 bt806.2.2.1 bt806.2.2.2 t766 t767 t768 t769).bind fun t812 => (some t812))) = some r := H
       have A68 := aM A680
       clear A680
       replace H := Option.bind_eq_some_iff.mp H
       obtain ⟨⟨t806, t807, t808, t809⟩, A690, H⟩ := H
       replace H : ((laws_equalImage.f kj58 t806 t807 t808 t809 t766 t767 t768 t769).bind fun t812 => (some t812)) = some r := H
       have A69 := aM A690
       clear A690
       replace H := Option.bind_eq_some_iff.mp H
       obtain ⟨t812, A700, H⟩ := H
       replace H : (some t812) = some r := H
       have A70 := aM A700
       clear A700
       obtain rfl := Option.some.inj H
       try go_wp2
       replace HO_775003 := aM (Kd.Q_drew HO_775003.out)
       replace HO_782003 := aM (Kd.Q_drew HO_782003.out)
       replace BK774 := aM (blk_drew BK774.out)
       replace BK781 := aM (blk_drew BK781.out)
       replace HB := aM (below_drew1 HB.out)
       refine start_ (n := 16) (S := fun w' => w'.cell? ⟨gb774, 0, none⟩ = some (.int .i64 t766) ∧ w'.cell? ⟨gb774, 1, none⟩ = some (.int .i64 t767) ∧ w'.cell? ⟨gb774, 2, none⟩ = some (.int .i64 t768) ∧ w'.cell? ⟨gb774, 3, none⟩ = some (.slice Ao9 t769.length co9)) (ds := []) (bA 16 0) (by kernel_rfl) rfl rfl ⟨(blk_cell BK774.out 0).trans rfl, (blk_cell BK774.out 1).trans rfl, (blk_cell BK774.out 2).trans rfl, (blk_cell BK774.out 3).trans rfl⟩ (fun hHeld => ?_); refine with_tabW laws_FnScaleArea.tab24 laws_FnScaleArea.bits24 (fun HT_ HW_ => ?_)
       generalize wc.drew = w71 at HO_775003 HO_782003 BK774 BK781 HB hHeld ⊢
       refine pQ 1 110 HT_ (bA 16 2) ?_
       refine pQ 4 113 HT_ (bA 16 18) ?_
       refine pQ 8 117 HT_ (bA 16 274) ?_
       refine pQ 10 119 HT_ (bA 16 1298) ?_
       refine take_ (i := 0) (N := some 109) (v := ?_) (a' := ?_) (bA 16 1299) rfl rfl (take_ofW HT_.out HW_.out (by kernel_rfl)) (fun _ _ _ h => h) (Or.inl ⟨by rfl, ?_⟩) hHeld ?_ ?_
       rotate_left
       ·rintro w' ⟨s0, s1, s2, s3⟩
        go_simp
        with_reducible rfl
       rotate_left
       ·refine pZ ?_
        rfl
       refine take_ (i := 2) (N := some 111) (v := ?_) (a' := ?_) (bA 16 1303) rfl rfl (take_ofW HT_.out HW_.out (by kernel_rfl)) (fun _ _ _ h => h) (Or.inl ⟨by rfl, ?_⟩) hHeld ?_ ?_
       rotate_left
       ·rintro w' ⟨s0, s1, s2, s3⟩
        go_simp
        with_reducible rfl
       rotate_left
       ·refine pZ ?_
        rfl
       refine pQ 3 112 HT_ (bA 16 1311) ?_
       refine take_ (i := 5) (N := some 114) (v := ?_) (a' := ?_) (bA 16 1343) rfl rfl (take_ofW HT_.out HW_.out (by kernel_rfl)) (fun _ _ _ h => h) (Or.inl ⟨by rfl, ?_⟩) hHeld ?_ ?_
       rotate_left
       ·rintro w' ⟨s0, s1, s2, s3⟩
        go_simp
        with_reducible rfl
       rotate_left
       ·refine pZ ?_
        rfl
       refine pQ 6 115 HT_ (bA 16 1407) ?_
       refine take_ (i := 9) (N := some 118) (v := ?_) (a' := ?_) (bA 16 1919) rfl rfl (take_ofW HT_.out HW_.out (by kernel_rfl)) (fun _ _ _ h => h) (Or.inl ⟨by rfl, ?_⟩) hHeld ?_ ?_
       rotate_left
       ·rintro w' ⟨s0, s1, s2, s3⟩
        go_simp
        with_reducible rfl
       rotate_left
       ·refine pZ ?_
        rfl
       refine take_ (i := 11) (N := some 120) (v := ?_) (a' := ?_) (bA 16 3967) rfl rfl (take_ofW HT_.out HW_.out (by kernel_rfl)) (fun _ _ _ h => h) (Or.inl ⟨by rfl, ?_⟩) hHeld ?_ ?_
       rotate_left
       ·rintro w' ⟨s0, s1, s2, s3⟩
        go_simp
        with_reducible rfl
       rotate_left
       ·refine pZ ?_
        rfl
       refine take_ (i := 13) (N := some 122) (v := ?_) (a' := ?_) (bA 16 12159) rfl rfl (take_ofW HT_.out HW_.out (by kernel_rfl)) (fun _ _ _ h => h) (Or.inl ⟨by rfl, ?_⟩) hHeld ?_ ?_
       rotate_left
       ·rintro w' ⟨s0, s1, s2, s3⟩
        go_simp
        with_reducible rfl
       rotate_left
       ·refine pZ ?_
        rfl
       refine one_ (i := 7) (N := some 116) (bA 16 12287) rfl rfl (one_of HT_.out (by kernel_rfl)) (by decide) (fun K hK => ?_)
       refine goes_ Try.func31 (by kernel_rfl) rfl #[.agg #[.int .i64 t766, .int .i64 t767, .int .i64 t768, .slice Ao9 t769.length co9], .int .i64 (wrap64 (2 * t766)), .int .i64 (wrap64 (2 * t767))] (by rfl) rfl rfl qM ?_
       with_reducible refine (impl_ScaleArea.calls t766 t767 t768 _ _ t769 (wrap64 (2 * t766)) (wrap64 (2 * t767)) t800 t801 t802 t803 _ ?side1 ?side2 A68.out).mono ?_
       (case side1 => exact qC (Kd.Q_reads' HO_775003.out).2.2)
       (case side2 => exact (Kd.Q_reads' HO_775003.out).2.1)
       rintro e w72 ⟨v804, rfl, ho0, hb⟩
       refine ⟨_, rfl, ?_⟩
       have HO805 := aM (Kd.R_lower (Kd.R_new' (Kd.R_new' ho0 (Kd.Q_lt (qQ HO_775003.out))) (Kd.Q_lt (qQ HO_782003.out))) (below_size (qW HB.out)))
       replace HO_775003 := aM (Kd.Q_elder' (qQ HO_775003.out) (Kd.R_base ho0) hb)
       replace HO_782003 := aM (Kd.Q_elder' (qQ HO_782003.out) (Kd.R_base ho0) hb)
       replace BK774 := bB BK774 hb
       replace BK781 := bB BK781 hb
       replace HB := bS HB hb
       (try clear hb)
       (try clear hb2)
       (try clear hk)
       (try clear hi)
       (try clear ho0)
       obtain ⟨Ao73, co73, eo73⟩ := Kd.R_slice HO805.out
       (first | subst eo73 | (injection eo73 with f1_ f2_ f3_; have f4_ := f1_.symm; have f5_ := f3_.symm; clear f1_ f2_ f3_; subst f4_; subst f5_))
       refine hK.out _ _ ⟨(blk_cell BK774.out 0).trans rfl, (blk_cell BK774.out 1).trans rfl, (blk_cell BK774.out 2).trans rfl, (blk_cell BK774.out 3).trans rfl⟩ (fun hHeld => ?_)
       clear hK K
       refine norm_ (a' := ?_) ?_ ?_
       rotate_left
       ·show Act.put _ (some 116) _ = _
        refine pZ ?_
        rfl
       refine one_ (i := 12) (N := some 121) (bA 16 16383) rfl rfl (one_of HT_.out (by kernel_rfl)) (by decide) (fun K hK => ?_)
       refine goes_ Try.func31 (by kernel_rfl) rfl #[.agg #[.int .i64 t800, .int .i64 t801, .int .i64 t802, .slice Ao73 t803.length co73], .int .i64 t766, .int .i64 t767] (by rfl) rfl rfl qM ?_
       with_reducible refine (impl_ScaleArea.calls t800 t801 t802 _ _ t803 t766 t767 t806 t807 t808 t809 _ ?side1 ?side2 A69.out).mono ?_
       (case side1 => exact qC (Kd.R_reads' HO805.out).2.2)
       (case side2 => exact (Kd.R_reads' HO805.out).2.1)
       rintro e w74 ⟨v810, rfl, ho0, hb⟩
       refine ⟨_, rfl, ?_⟩
       have HO811 := aM (Kd.R_lower (Kd.R_new' (Kd.R_new' (Kd.R_new' ho0 (Kd.Q_lt (qQ HO_775003.out))) (Kd.Q_lt (qQ HO_782003.out))) (Kd.R_lt (qR HO805.out))) (below_size (qW HB.out)))
       replace HO_775003 := aM (Kd.Q_elder' (qQ HO_775003.out) (Kd.R_base ho0) hb)
       replace HO_782003 := aM (Kd.Q_elder' (qQ HO_782003.out) (Kd.R_base ho0) hb)
       replace HO805 := aM (Kd.R_elder' (qR HO805.out) (Kd.R_base ho0) hb)
       replace BK774 := bB BK774 hb
       replace BK781 := bB BK781 hb
       replace HB := bS HB hb
       (try clear hb)
       (try clear hb2)
       (try clear hk)
       (try clear hi)
       (try clear ho0)
       obtain ⟨Ao75, co75, eo75⟩ := Kd.R_slice HO811.out
       (first | subst eo75 | (injection eo75 with f1_ f2_ f3_; have f4_ := f1_.symm; have f5_ := f3_.symm; clear f1_ f2_ f3_; subst f4_; subst f5_))
       refine hK.out _ _ ⟨(blk_cell BK774.out 0).trans rfl, (blk_cell BK774.out 1).trans rfl, (blk_cell BK774.out 2).trans rfl, (blk_cell BK774.out 3).trans rfl⟩ (fun hHeld => ?_)
       clear hK K
       refine norm_ (a' := ?_) ?_ ?_
       rotate_left
       ·show Act.put _ (some 121) _ = _
        refine pZ ?_
        rfl
       refine one_ (i := 14) (N := some 123) (bA 16 32767) rfl rfl (one_of HT_.out (by kernel_rfl)) (by decide) (fun K hK => ?_)
       refine goes_ Try.func23 (by kernel_rfl) rfl #[.agg #[.int .i64 t806, .int .i64 t807, .int .i64 t808, .slice Ao75 t809.length co75], .agg #[.int .i64 t766, .int .i64 t767, .int .i64 t768, .slice Ao9 t769.length co9]] (by rfl) rfl rfl qM ?_
       with_reducible refine (laws_equalImage.calls kj58 t806 t807 t808 _ _ t809 t766 t767 t768 _ _ t769 t812 _ ?side1 ?side2 ?side3 ?side4 A70.out).mono ?_
       (case side1 => exact qC (Kd.R_reads' HO811.out).2.2)
       (case side2 => exact (Kd.R_reads' HO811.out).2.1)
       (case side3 => exact qC (Kd.Q_reads' HO_775003.out).2.2)
       (case side4 => exact (Kd.Q_reads' HO_775003.out).2.1)
       rintro e w76 ⟨rfl, hb⟩
       refine ⟨_, rfl, ?_⟩
       replace HO_775003 := aM (Kd.Q_below (qQ HO_775003.out) hb)
       replace HO_782003 := aM (Kd.Q_below (qQ HO_782003.out) hb)
       replace HO805 := aM (Kd.R_below (qR HO805.out) hb)
       replace HO811 := aM (Kd.R_below (qR HO811.out) hb)
       replace BK774 := bB BK774 hb
       replace BK781 := bB BK781 hb
       replace HB := bS HB hb
       (try clear hb)
       (try clear hb2)
       (try clear hk)
       (try clear hi)
       refine hK.out _ _ ⟨(blk_cell BK774.out 0).trans rfl, (blk_cell BK774.out 1).trans rfl, (blk_cell BK774.out 2).trans rfl, (blk_cell BK774.out 3).trans rfl⟩ (fun hHeld => ?_)
       clear hK K
       refine norm_ (a' := ?_) ?_ ?_
       rotate_left
       ·show Act.put _ (some 123) _ = _
        refine pZ ?_
        rfl
       refine pQ 15 2 HT_ (bA 16 65535) ?_
       refine done_ (done_of HT_.out (by kernel_rfl)) ?_
       try go_wp2
       go_ret
       exact ⟨qX, by exact qW HB.out⟩
def laws_FnScaleArea.Pure : Prop := ∀ (l0 : List Int), l0.length ≤ maxLen → l0.length * 1 ≤ 140737488351232 → (∀ x ∈ l0, (Lit.int .u8 x).wf = true) → ∃ k, laws_FnScaleArea.f k l0 = some true
theorem laws_FnScaleArea.walk (P : laws_FnScaleArea.Pure) (a0 : Option Addr) (len0 cap0 : Nat) (z0 : List Int) (w : World) (w0 : (a0 = none ∧ len0 = 0 ∧ cap0 = 0 ∧ z0 = []) ∨ ∃ x, a0 = some x ∧ len0 ≤ cap0 ∧ cap0 ≤ maxLen ∧ z0.length = cap0 ∧ (∀ i, i < z0.length → w.cell? (x.add i) = some (.int .u8 (z0.getD i 0))) ∧ ∀ n ∈ z0, (Lit.int .u8 n).wf = true) (y0 : len0 * 1 ≤ 140737488351232) :
  Calls Try.prog 10 #[.slice a0 len0 cap0] w fun e w' => e = .returned (.bool true) ∧ Below w.heap.size w w' := by
 obtain ⟨l0, rfl, hr0, hm0, hw0, hc0⟩ := ReadsInt.ofRowC w0
 obtain ⟨k, h⟩ := P l0 hm0 y0 hw0
 refine (laws_FnScaleArea.calls k _ _ l0 true w (Kd.C_of_reads (d := (0 : Int)) (h1 := fun _ => rfl) hr0) hc0 h).mono ?_
 rintro e w' ⟨rfl, hd⟩
 exact ⟨rfl, hd⟩
end Go.Proofs.Ytnamhlcdlbjcfaa.P
