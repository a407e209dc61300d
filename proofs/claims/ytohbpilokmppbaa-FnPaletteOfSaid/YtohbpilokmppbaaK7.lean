/- Contracts and row, written by a program of this place out of the translation: the call answers true and its argument reads as before, for every input; no condition. -/
import Derived.Test.YtohbpilokmppbaaK0
import Derived.Test.YtohbpilokmppbaaK1
import Derived.Test.YtohbpilokmppbaaK2
import Derived.Test.YtohbpilokmppbaaK3
import Derived.Test.YtohbpilokmppbaaK4
import Derived.Test.YtohbpilokmppbaaK6
namespace Go.Proofs.Ytohbpilokmppbaa.P
open Go.RowKit Go.Proofs.YtohbpilokmppbaaW.PrintWords Go.Proofs.YtohbpilokmppbaaW.PrintLast Go.Proofs.YtohbpilokmppbaaW.PrintMore
attribute [local go_sem] max2_int min2_int max_two min_two max_three min_three max_four min_four   -- for this text's walks alone
set_option linter.unusedVariables false
set_option linter.unusedSimpArgs false
mutual
def laws_FnPaletteOf.j0 : Nat → List (List Int) → Bool → List (List Int) → Bool → Bool → Int → Int → Int → List Int → Option (Bool)
 | 0, _, _, _, _, _, _, _, _, _ => none
 | k + 1, x4, x5, x6, x7, x41, x331000, x331001, x331002, x331003 => if x41 = true then ((laws_equalLists.f k x4 x6).bind fun t340 => (if t340 = true then (some (x5 == x7)) else (some false))) else (laws_FnPaletteOf.l0 k x4 0 x331000 x331001 x331002 x331003)
def laws_FnPaletteOf.l0 : Nat → List (List Int) → Int → Int → Int → Int → List Int → Option (Bool)
 | 0, _, _, _, _, _, _ => none
 | k + 1, x4, x8, x331000, x331001, x331002, x331003 => if x8 < (x4.length : Int) then (laws_FnPaletteOf.l1 k x4 x8 0 x331000 x331001 x331002 x331003) else ((impl_IndexImage.f x331000 x331001 x331002 x331003 x4).bind fun bt344 => ((impl_ColorImage.f bt344.1 bt344.2.1 bt344.2.2.1 bt344.2.2.2.1 x4 x331002).bind fun bt352 => (if bt344.2.2.2.2 = true then (if bt352.2.2.2.2 = true then ((laws_equalImage.f k bt352.1 bt352.2.1 bt352.2.2.1 bt352.2.2.2.1 x331000 x331001 x331002 x331003).bind fun t360 => (if t360 = true then (if 0 < (x4.length : Int) then ((impl_PixelAt.f x331000 x331001 x331002 x331003 0 0).bind fun t362 => ((laws_equalInts.f k (rd_L1 x4 0) t362).bind fun t365 => (some t365))) else (none)) else (some false))) else (some false)) else (some false))))
def laws_FnPaletteOf.l1 : Nat → List (List Int) → Int → Int → Int → Int → Int → List Int → Option (Bool)
 | 0, _, _, _, _, _, _, _ => none
 | k + 1, x4, x8, x9, x331000, x331001, x331002, x331003 => if x9 < x8 then (if 0 ≤ x8 then (if x8 < (x4.length : Int) then (if 0 ≤ x9 then (if x9 < (x4.length : Int) then ((laws_equalInts.f k (rd_L1 x4 x8) (rd_L1 x4 x9)).bind fun t343 => (if t343 = true then (some false) else (laws_FnPaletteOf.l1 k x4 x8 (wrap64 (x9 + 1)) x331000 x331001 x331002 x331003))) else (none)) else (none)) else (none)) else (none)) else (laws_FnPaletteOf.l0 k x4 (wrap64 (x8 + 1)) x331000 x331001 x331002 x331003)
end
def laws_FnPaletteOf.f (k : Nat) (l0 : List Int) : Option (Bool) := if (l0.length : Int) > 1048576 then (some true) else ((spec_DrawPaletteOf.f k l0).bind fun bt324 => ((impl_PaletteOf.f bt324.1 bt324.2.1 bt324.2.2.1 bt324.2.2.2).bind fun bt331 => ((spec_PaletteOf.f k bt324.1 bt324.2.1 bt324.2.2.1 bt324.2.2.2).bind fun bt335 => ((laws_equalLists.f k bt331.1 bt335.1).bind fun t339 => (if t339 = true then (if (bt331.2 != bt335.2) = true then (laws_FnPaletteOf.j0 k bt331.1 bt331.2 bt335.1 bt335.2 true bt324.1 bt324.2.1 bt324.2.2.1 bt324.2.2.2) else (laws_FnPaletteOf.j0 k bt331.1 bt331.2 bt335.1 bt335.2 (!bt331.2) bt324.1 bt324.2.1 bt324.2.2.1 bt324.2.2.2)) else (laws_FnPaletteOf.j0 k bt331.1 bt331.2 bt335.1 bt335.2 true bt324.1 bt324.2.1 bt324.2.2.1 bt324.2.2.2))))))
theorem laws_FnPaletteOf.mono_l : ∀ k, (∀ y0 y1 y2 y3 y4 y5 y6 y7 y8, LeO (laws_FnPaletteOf.j0 k y0 y1 y2 y3 y4 y5 y6 y7 y8) (laws_FnPaletteOf.j0 (k + 1) y0 y1 y2 y3 y4 y5 y6 y7 y8)) ∧ (∀ y0 y1 y2 y3 y4 y5, LeO (laws_FnPaletteOf.l0 k y0 y1 y2 y3 y4 y5) (laws_FnPaletteOf.l0 (k + 1) y0 y1 y2 y3 y4 y5)) ∧ (∀ y0 y1 y2 y3 y4 y5 y6, LeO (laws_FnPaletteOf.l1 k y0 y1 y2 y3 y4 y5 y6) (laws_FnPaletteOf.l1 (k + 1) y0 y1 y2 y3 y4 y5 y6))
 | 0 => ⟨fun _ _ _ _ _ _ _ _ _ r h => by simp [laws_FnPaletteOf.j0] at h, fun _ _ _ _ _ _ r h => by simp [laws_FnPaletteOf.l0] at h, fun _ _ _ _ _ _ _ r h => by simp [laws_FnPaletteOf.l1] at h⟩
 | k + 1 => by
  obtain ⟨ih0, ih1, ih2⟩ := laws_FnPaletteOf.mono_l k
  refine ⟨?_, ?_, ?_⟩
  all_goals intros
  all_goals first | unfold laws_FnPaletteOf.j0 | unfold laws_FnPaletteOf.l0 | unfold laws_FnPaletteOf.l1
  all_goals repeat' first | (with_reducible first | exact ih0 _ _ _ _ _ _ _ _ _ | exact ih1 _ _ _ _ _ _ | exact ih2 _ _ _ _ _ _ _ | exact laws_equalImage.mono _ _ _ _ _ _ _ _ _ | exact laws_equalInts.mono _ _ _ | exact laws_equalLists.mono _ _ _ | exact spec_DrawPaletteOf.mono _ _ | exact spec_PaletteOf.mono _ _ _ _ _ | exact lR | exact lN | refine lI ?_ ?_ | refine lB ?_ fun _ => ?_) | exact ih0 _ _ _ _ _ _ _ _ _ | exact ih1 _ _ _ _ _ _ | exact ih2 _ _ _ _ _ _ _ | exact laws_equalImage.mono _ _ _ _ _ _ _ _ _ | exact laws_equalInts.mono _ _ _ | exact laws_equalLists.mono _ _ _ | exact spec_DrawPaletteOf.mono _ _ | exact spec_PaletteOf.mono _ _ _ _ _ | exact lN | refine lI ?_ ?_ | refine lB ?_ fun _ => ?_
theorem laws_FnPaletteOf.mono : ∀ a0 k, LeO (laws_FnPaletteOf.f k a0) (laws_FnPaletteOf.f (k + 1) a0) := by
 intro a0 k
 obtain ⟨ih0, ih1, ih2⟩ := laws_FnPaletteOf.mono_l k
 unfold laws_FnPaletteOf.f
 repeat' first | (with_reducible first | exact ih0 _ _ _ _ _ _ _ _ _ | exact ih1 _ _ _ _ _ _ | exact ih2 _ _ _ _ _ _ _ | exact laws_equalImage.mono _ _ _ _ _ _ _ _ _ | exact laws_equalInts.mono _ _ _ | exact laws_equalLists.mono _ _ _ | exact spec_DrawPaletteOf.mono _ _ | exact spec_PaletteOf.mono _ _ _ _ _ | exact lR | exact lN | refine lI ?_ ?_ | refine lB ?_ fun _ => ?_) | exact ih0 _ _ _ _ _ _ _ _ _ | exact ih1 _ _ _ _ _ _ | exact ih2 _ _ _ _ _ _ _ | exact laws_equalImage.mono _ _ _ _ _ _ _ _ _ | exact laws_equalInts.mono _ _ _ | exact laws_equalLists.mono _ _ _ | exact spec_DrawPaletteOf.mono _ _ | exact spec_PaletteOf.mono _ _ _ _ _ | exact lN | refine lI ?_ ?_ | refine lB ?_ fun _ => ?_
def laws_FnPaletteOf.T14 : Bool × List (List Nat × List Nat) := (true, [([], []), ([], []), ([0, 1], [0, 1]), ([2], [2]), ([], []), ([], []), ([4, 5], [4, 5]), ([6], [6]), ([3, 7], [3, 7])])
def laws_FnPaletteOf.B14 : List Nat := [0, 0, 3, 7, 0, 0, 48, 112, 255]
theorem laws_FnPaletteOf.tab14 : rtab .any (opsOf Try.f4 14) = laws_FnPaletteOf.T14 := by kernel_rfl
theorem laws_FnPaletteOf.bits14 : waitsOk laws_FnPaletteOf.T14.2 laws_FnPaletteOf.B14 = true := by kernel_rfl
def laws_FnPaletteOf.T18 : Bool × List (List Nat × List Nat) := (true, [([], []), ([0], [0]), ([1], [1]), ([1, 2], [1, 2]), ([3, 1], [3]), ([4], [4]), ([4], [4]), ([5, 6, 4, 4], [4, 5, 6]), ([4, 7], [4, 7]), ([8, 7], [8]), ([9], [9]), ([10, 9], [9, 10]), ([11, 9], [9, 11]), ([9], [9]), ([13, 9, 9], [9, 13]), ([12, 14, 14, 9], [9, 12, 14]), ([9, 15], [9, 15]), ([16, 15, 0, 1, 2, 3, 4, 5, 6, 7, 8, 9, 10, 11, 12, 13, 14, 15, 16], [16])])
def laws_FnPaletteOf.B18 : List Nat := [0, 1, 3, 7, 15, 31, 31, 127, 255, 511, 1023, 2047, 4095, 1023, 9215, 32767, 65535, 131071]
theorem laws_FnPaletteOf.tab18 : rtab .any (opsOf Try.f4 18) = laws_FnPaletteOf.T18 := by kernel_rfl
theorem laws_FnPaletteOf.bits18 : waitsOk laws_FnPaletteOf.T18.2 laws_FnPaletteOf.B18 = true := by kernel_rfl
set_option maxHeartbeats 8000000 in
set_option maxRecDepth 100000 in
theorem laws_FnPaletteOf.calls (k : Nat) (A0 : Option Addr) (c0 : Nat) (l0 : List Int) (r : Bool) (w : World) (hr0 : Kd.C (Kd.int .u8) w A0 l0.length l0) (hc0 : l0.length ≤ c0) (h : laws_FnPaletteOf.f k l0 = some r) (hrt : r = true) :
  Calls Try.prog 4 #[.slice A0 l0.length c0] w fun e w' => e = .returned (.bool r) ∧ Below w.heap.size w w' := by
 have hu29 := Try.underlying29
 have HR0 := aM hr0
 have HC0 := aM hc0
 clear hr0 hc0
 have HB := aM (Below.refl w.heap.size w)
 unfold laws_FnPaletteOf.f at h
 have H := h
 clear h
 by_cases c2 : (l0.length : Int) > 1048576
 ·rw [if_pos c2] at H
  have c2b0 : decide (1048576 < (l0.length : Int)) = true := decide_eq_true c2
  have c2b1 : decide (1048576 < l0.length) = true := decide_eq_true (by omega)
  clear c2
  obtain rfl := Option.some.inj H
  go_enter Try.func4, Try.ntmps4
  go_wp2
  go_ret
  exact ⟨qX, by exact qW HB.out⟩
 rw [if_neg c2] at H
 have c2b0 : decide (1048576 < (l0.length : Int)) = false := decide_eq_false c2
 have c2b1 : decide (1048576 < l0.length) = false := decide_eq_false (by omega)
 clear c2
 replace H := Option.bind_eq_some_iff.mp H
 obtain ⟨⟨t324, t325, t326, t327⟩, A30, H⟩ := H
 replace H : ((impl_PaletteOf.f t324 t325 t326 t327).bind fun bt331 => ((spec_PaletteOf.f k t324 t325 t326 t327).bind fun bt335 => ((laws_equalLists.f k bt331.1 bt335.1).bind fun t339 => (if t339 = true then (if (bt331.2 != bt335.2) = true then (laws_FnPaletteOf.j0 k bt331.1 bt331.2 bt335.1 bt335.2 true t324 t325 t326 t327) else (laws_FnPaletteOf.j0 k bt331.1 bt331.2 bt335.1 bt335.2 (!bt331.2) t324 t325 t326 t327)) else (laws_FnPaletteOf.j0 k bt331.1 bt331.2 bt335.1 bt335.2 true t324 t325 t326 t327))))) = some r := H
 have A3 := aM A30
 clear A30
 replace H := Option.bind_eq_some_iff.mp H
 obtain ⟨⟨t331, t334⟩, A40, H⟩ := H
 replace H : ((spec_PaletteOf.f k t324 t325 t326 t327).bind fun bt335 => ((laws_equalLists.f k t331 bt335.1).bind fun t339 => (if t339 = true then (if (t334 != bt335.2) = true then (laws_FnPaletteOf.j0 k t331 t334 bt335.1 bt335.2 true t324 t325 t326 t327) else (laws_FnPaletteOf.j0 k t331 t334 bt335.1 bt335.2 (!t334) t324 t325 t326 t327)) else (laws_FnPaletteOf.j0 k t331 t334 bt335.1 bt335.2 true t324 t325 t326 t327)))) = some r := H
 have A4 := aM A40
 clear A40
 replace H := Option.bind_eq_some_iff.mp H
 obtain ⟨⟨t335, t338⟩, A50, H⟩ := H
 replace H : ((laws_equalLists.f k t331 t335).bind fun t339 => (if t339 = true then (if (t334 != t338) = true then (laws_FnPaletteOf.j0 k t331 t334 t335 t338 true t324 t325 t326 t327) else (laws_FnPaletteOf.j0 k t331 t334 t335 t338 (!t334) t324 t325 t326 t327)) else (laws_FnPaletteOf.j0 k t331 t334 t335 t338 true t324 t325 t326 t327))) = some r := H
 have A5 := aM A50
 clear A50
 have HC6 := aM H
 clear H
 go_enter Try.func4, Try.ntmps4
 go_upto_region 6 with (first | ((with_reducible refine gate_callee (f := 21) rfl ?_); refine gL (some 18) Try.func21 #[.slice A0 l0.length c0] ?_; (with_reducible refine (spec_DrawPaletteOf.calls k _ _ l0 t324 t325 t326 t327 _ ?side1 ?side2 A3.out).mono ?_); (case side1 => exact qC HR0.out); (case side2 => exact HC0.out); rintro e w7 ⟨v328, rfl, ho0, hb⟩; refine ⟨_, rfl, ?_⟩; have HO329 := aM (Kd.Q_lower ho0 (below_size (qW HB.out))); replace HB := bS HB hb; clear hb ho0) | ((with_reducible refine gate_dst (N := 3) rfl ?_); refine bxE (N := 3) (cs := #[.int .i64 0, .int .i64 0, .int .i64 0, .slice none 0 0]) (t := 29) ?_; intro gb330 hg w8 hbox hb; replace HO329 := aM (Kd.Q_below (qQ HO329.out) hb); have BK330 := aM (hbox); have GW330 := gW hg HB; have GE330 := gW hg HB; replace HB := bS HB hb; clear hb hbox hg; obtain ⟨⟨hcz9_0, hcz9_1, hcz9_2, hcz9_3⟩, hfz9_0, hfz9_1, hfz9_2, hfz9_3⟩ := cf4 BK330; obtain ⟨Ao10, co10, eo10, _⟩ := Kd.Q_slice HO329.out; subst eo10) | ((with_reducible refine gate_callee (f := 15) rfl ?_); refine gL (some 21) Try.func15 #[.agg #[.int .i64 t324, .int .i64 t325, .int .i64 t326, .slice Ao10 t327.length co10]] ?_; (with_reducible refine (impl_PaletteOf.calls t324 t325 t326 _ _ t327 t331 t334 _ ?side1 ?side2 A4.out).mono ?_); (case side1 => refine (Kd.Q_reads' (e := 3) (base := w.heap.size) (ok := fun k_ => True) (n := t327.length) (c := co10) ?_).2.2; exact (by (with_reducible repeat (first | apply Kd.Q_alloc | apply Kd.Q_drewN | apply Kd.Q_drew)); exact (Kd.Q_mono (qT HO329 BK330) (fun _ h_ => h_.1)))); (case side2 => exact (Kd.Q_reads' HO329.out).2.1); rintro e w11 ⟨v332, rfl, ho0, hb⟩; refine ⟨_, rfl, ?_⟩; have HO333 := aM (Kd.S_lower (Kd.S_new' ho0 (Kd.Q_lt (by (with_reducible repeat (first | apply Kd.Q_alloc | apply Kd.Q_drewN | apply Kd.Q_drew)); exact (Kd.Q_mono (qT HO329 BK330) (fun _ h_ => h_.1))))) (below_size (qW HB.out))); replace HO329 := aM (Kd.Q_below (by (with_reducible repeat (first | apply Kd.Q_alloc | apply Kd.Q_drewN | apply Kd.Q_drew)); exact (Kd.Q_mono (qT HO329 BK330) (fun _ h_ => h_.1))) hb); replace BK330 := aM (blk_below (g := gb330) (o := .cells #[.int .i64 t324, .int .i64 t325, .int .i64 t326, .slice Ao10 t327.length co10] 29 (0, 0)) (by exact bP BK330.out) hb); replace HB := bS HB hb; clear hb ho0; obtain ⟨⟨hcz12_0, hcz12_1, hcz12_2, hcz12_3⟩, hfz12_0, hfz12_1, hfz12_2, hfz12_3⟩ := cf4 BK330) | ((with_reducible refine gate_callee (f := 13) rfl ?_); refine gL (some 26) Try.func13 #[.agg #[.int .i64 t324, .int .i64 t325, .int .i64 t326, .slice Ao10 t327.length co10]] ?_; (with_reducible refine (spec_PaletteOf.calls k t324 t325 t326 _ _ t327 t335 t338 _ ?side1 ?side2 A5.out).mono ?_); (case side1 => exact qC (Kd.Q_reads' HO329.out).2.2); (case side2 => exact (Kd.Q_reads' HO329.out).2.1); rintro e w13 ⟨v336, rfl, ho0, hb⟩; refine ⟨_, rfl, ?_⟩; have HO337 := aM (Kd.S_lower (Kd.S_new' (Kd.S_new' ho0 (Kd.Q_lt (qQ HO329.out))) (Kd.S_lt (by (with_reducible repeat (first | apply Kd.S_alloc | apply Kd.S_drewN | apply Kd.S_drew)); exact HO333.out))) (below_size (qW HB.out))); replace HO329 := aM (Kd.Q_below (qQ HO329.out) hb); replace HO333 := aM (Kd.S_elder' (by (with_reducible repeat (first | apply Kd.S_alloc | apply Kd.S_drewN | apply Kd.S_drew)); exact HO333.out) (Kd.S_base ho0) hb); replace BK330 := bB BK330 hb; replace HB := bS HB hb; clear hb ho0))
 (try simp only [Act.put, List.setIfInBounds_toArray, List.set_cons_zero, List.set_cons_succ])
 go_cut [41] (fun v41 wc => ∃ (kq : Nat) (x41_5 : Bool), v41 = .bool x41_5 ∧ Aside0 (laws_FnPaletteOf.j0 kq t331 t334 t335 t338 x41_5 t324 t325 t326 t327 = some r) ∧ Aside0 (kq ≤ k) ∧ Aside0 (Kd.S (Kd.slice 3 (Kd.int .i64)) 22 wc w.heap.size (fun k_ => some k_ ≠ (v336 : Value).ownBlock ∧ some k_ ≠ ((.slice Ao10 t327.length co10) : Value).ownBlock) v332 t331) ∧ Aside0 (Kd.S (Kd.slice 3 (Kd.int .i64)) 22 wc w.heap.size (fun k_ => some k_ ≠ (v332 : Value).ownBlock ∧ some k_ ≠ ((.slice Ao10 t327.length co10) : Value).ownBlock) v336 t335) ∧ Aside0 (Kd.Q (Kd.int .i64) 3 wc w.heap.size (fun _ => True) (.slice Ao10 t327.length co10) t327) ∧ Aside0 (wc.heap[gb330]? = some (.cells #[.int .i64 t324, .int .i64 t325, .int .i64 t326, (.slice Ao10 t327.length co10)] 29 (0, 0))) ∧ Aside0 (Below w.heap.size w wc))
 case first =>
  have H := HC6.out
  clear HC6
  replace H := Option.bind_eq_some_iff.mp H
  obtain ⟨t339, A140, H⟩ := H
  replace H : (if t339 = true then (if (t334 != t338) = true then (laws_FnPaletteOf.j0 k t331 t334 t335 t338 true t324 t325 t326 t327) else (laws_FnPaletteOf.j0 k t331 t334 t335 t338 (!t334) t324 t325 t326 t327)) else (laws_FnPaletteOf.j0 k t331 t334 t335 t338 true t324 t325 t326 t327)) = some r := H
  have A14 := aM A140
  clear A140
  by_cases c15 : t339 = true
  rotate_left
  ·replace c15 := Bool.eq_false_iff.mpr c15
   subst c15
   have H1 : (laws_FnPaletteOf.j0 k t331 t334 t335 t338 true t324 t325 t326 t327) = some r := by rw [if_neg (show ¬ (false = true) by decide)] at H; exact H
   clear H
   have H := H1
   clear H1
   have H' := aM H
   clear H
   obtain ⟨Ao21, co21, eo21⟩ := Kd.S_slice HO333.out
   subst eo21
   obtain ⟨Ao22, co22, eo22⟩ := Kd.S_slice HO337.out
   subst eo22
   go_wp2_with (first | ((with_reducible refine gate_callee (f := 22) rfl ?_); refine gL (some 31) Try.func22 #[.slice Ao21 t331.length co21, .slice Ao22 t335.length co22] ?_; (with_reducible refine (laws_equalLists.calls k _ _ t331 _ _ t335 false _ ?side1 ?side2 ?side3 ?side4 A14.out).mono ?_); (case side1 => exact qC (Kd.S_reads' HO333.out).2.2); (case side2 => exact (Kd.S_reads' HO333.out).2.1); (case side3 => exact qC (Kd.S_reads' HO337.out).2.2); (case side4 => exact (Kd.S_reads' HO337.out).2.1); rintro e w' ⟨rfl, ⟨nd, rfl⟩⟩; refine ⟨_, rfl, ?_⟩))
   go_meet
   case rel => exact ⟨_, (true), qE, H', ⟨by first | omega | exact Nat.le_refl _⟩, ⟨by (with_reducible repeat (first | apply Kd.S_alloc | apply Kd.S_drewN | apply Kd.S_drew)); exact Kd.S_mono HO333.out (fun _ hk => ⟨hk.2, hk.1.2⟩)⟩, ⟨by (with_reducible repeat (first | apply Kd.S_alloc | apply Kd.S_drewN | apply Kd.S_drew)); exact Kd.S_mono HO337.out (fun _ hk => ⟨hk.2, hk.1.2⟩)⟩, ⟨by (with_reducible repeat (first | apply Kd.Q_alloc | apply Kd.Q_drewN | apply Kd.Q_drew)); exact HO329.out⟩, ⟨by refine qB ?_; exact BK330.out⟩, ⟨by exact qW HB.out⟩⟩
  subst c15
  have H1 : (if (t334 != t338) = true then (laws_FnPaletteOf.j0 k t331 t334 t335 t338 true t324 t325 t326 t327) else (laws_FnPaletteOf.j0 k t331 t334 t335 t338 (!t334) t324 t325 t326 t327)) = some r := by rw [if_pos rfl] at H; exact H
  clear H
  have H := H1
  clear H1
  by_cases c16 : (t334 != t338) = true
  rotate_left
  ·rw [if_neg c16] at H
   have c16b0 : (t334 != t338) = false := by simpa using c16
   (try (have c16b1 : decide (t334 = t338) = true := by simpa using c16))
   (try (have c16b2 : (t334 == t338) = true := by simpa using c16))
   clear c16
   (first | rw [c16b0] | (simp only [i64_w, i32_w]; rw [c16b0]) | skip)
   have H' := aM H
   clear H
   obtain ⟨Ao19, co19, eo19⟩ := Kd.S_slice HO333.out
   subst eo19
   obtain ⟨Ao20, co20, eo20⟩ := Kd.S_slice HO337.out
   subst eo20
   go_wp2_with (first | ((with_reducible refine gate_callee (f := 22) rfl ?_); refine gL (some 31) Try.func22 #[.slice Ao19 t331.length co19, .slice Ao20 t335.length co20] ?_; (with_reducible refine (laws_equalLists.calls k _ _ t331 _ _ t335 true _ ?side1 ?side2 ?side3 ?side4 A14.out).mono ?_); (case side1 => exact qC (Kd.S_reads' HO333.out).2.2); (case side2 => exact (Kd.S_reads' HO333.out).2.1); (case side3 => exact qC (Kd.S_reads' HO337.out).2.2); (case side4 => exact (Kd.S_reads' HO337.out).2.1); rintro e w' ⟨rfl, ⟨nd, rfl⟩⟩; refine ⟨_, rfl, ?_⟩))
   go_meet
   case rel => exact ⟨_, (!t334), qE, H', ⟨by first | omega | exact Nat.le_refl _⟩, ⟨by (with_reducible repeat (first | apply Kd.S_alloc | apply Kd.S_drewN | apply Kd.S_drew)); exact Kd.S_mono HO333.out (fun _ hk => ⟨hk.2, hk.1.2⟩)⟩, ⟨by (with_reducible repeat (first | apply Kd.S_alloc | apply Kd.S_drewN | apply Kd.S_drew)); exact Kd.S_mono HO337.out (fun _ hk => ⟨hk.2, hk.1.2⟩)⟩, ⟨by (with_reducible repeat (first | apply Kd.Q_alloc | apply Kd.Q_drewN | apply Kd.Q_drew)); exact HO329.out⟩, ⟨by refine qB ?_; exact BK330.out⟩, ⟨by exact qW HB.out⟩⟩
  rw [if_pos c16] at H
  have c16b0 : (t334 != t338) = true := c16
  (try (have c16b1 : decide (t334 = t338) = false := by simpa using c16))
  (try (have c16b2 : (t334 == t338) = false := by simpa using c16))
  (try (have c16b3 : ¬ (t334 = t338) := by simpa using c16))
  clear c16
  (first | rw [c16b0] | (simp only [i64_w, i32_w]; rw [c16b0]) | skip)
  have H' := aM H
  clear H
  obtain ⟨Ao17, co17, eo17⟩ := Kd.S_slice HO333.out
  subst eo17
  obtain ⟨Ao18, co18, eo18⟩ := Kd.S_slice HO337.out
  subst eo18
  go_wp2_with (first | ((with_reducible refine gate_callee (f := 22) rfl ?_); refine gL (some 31) Try.func22 #[.slice Ao17 t331.length co17, .slice Ao18 t335.length co18] ?_; (with_reducible refine (laws_equalLists.calls k _ _ t331 _ _ t335 true _ ?side1 ?side2 ?side3 ?side4 A14.out).mono ?_); (case side1 => exact qC (Kd.S_reads' HO333.out).2.2); (case side2 => exact (Kd.S_reads' HO333.out).2.1); (case side3 => exact qC (Kd.S_reads' HO337.out).2.2); (case side4 => exact (Kd.S_reads' HO337.out).2.1); rintro e w' ⟨rfl, ⟨nd, rfl⟩⟩; refine ⟨_, rfl, ?_⟩))
  go_meet
  case rel => exact ⟨_, (true), qE, H', ⟨by first | omega | exact Nat.le_refl _⟩, ⟨by (with_reducible repeat (first | apply Kd.S_alloc | apply Kd.S_drewN | apply Kd.S_drew)); exact Kd.S_mono HO333.out (fun _ hk => ⟨hk.2, hk.1.2⟩)⟩, ⟨by (with_reducible repeat (first | apply Kd.S_alloc | apply Kd.S_drewN | apply Kd.S_drew)); exact Kd.S_mono HO337.out (fun _ hk => ⟨hk.2, hk.1.2⟩)⟩, ⟨by (with_reducible repeat (first | apply Kd.Q_alloc | apply Kd.Q_drewN | apply Kd.Q_drew)); exact HO329.out⟩, ⟨by refine qB ?_; exact BK330.out⟩, ⟨by exact qW HB.out⟩⟩
 case rest =>
  clear HC6
  try clear c2
  try clear c2b0
  try clear c2b1
  try clear c15
  try clear c16
  try clear c16b0
  try clear c16b1
  try clear c16b2
  try clear hcz12_0 hcz12_1 hcz12_2 hcz12_3 hfz12_0 hfz12_1 hfz12_2 hfz12_3
  try clear hcz9_0 hcz9_1 hcz9_2 hcz9_3 hfz9_0 hfz9_1 hfz9_2 hfz9_3
  obtain ⟨kq, x41_5, rfl, HA, HJ5, HO_4, HO_6, HO_331003, BK330, HB⟩ := hcut
  cases kq with
  | zero => exact absurd HA.out (by simp [laws_FnPaletteOf.j0])
  | succ kj5 =>
   have H := HA.out
   clear HA
   simp only [laws_FnPaletteOf.j0] at H
   by_cases c23 : x41_5 = true
   ·subst c23
    have H1 : ((laws_equalLists.f kj5 t331 t335).bind fun t340 => (if t340 = true then (some (t334 == t338)) else (some false))) = some r := by rw [if_pos rfl] at H; exact H
    clear H
    have H := H1
    clear H1
    replace H := Option.bind_eq_some_iff.mp H
    obtain ⟨t340, A240, H⟩ := H
    replace H : (if t340 = true then (some (t334 == t338)) else (some false)) = some r := H
    have A24 := aM A240
    clear A240
    by_cases c25 : t340 = true
    rotate_left
    ·replace c25 := Bool.eq_false_iff.mpr c25
     subst c25
     have H1 : (some false) = some r := by rw [if_neg (show ¬ (false = true) by decide)] at H; exact H
     clear H
     have H := H1
     clear H1
     obtain rfl := Option.some.inj H
     exact absurd hrt (by decide)
    subst c25
    have H1 : (some (t334 == t338)) = some r := by rw [if_pos rfl] at H; exact H
    clear H
    have H := H1
    clear H1
    obtain rfl := Option.some.inj H
    obtain ⟨Ao26, co26, eo26⟩ := Kd.S_slice HO_4.out
    subst eo26
    obtain ⟨Ao27, co27, eo27⟩ := Kd.S_slice HO_6.out
    subst eo27
    go_wp2_with (first | ((with_reducible refine gate_callee (f := 22) rfl ?_); refine gL (some 44) Try.func22 #[.slice Ao26 t331.length co26, .slice Ao27 t335.length co27] ?_; (with_reducible refine (laws_equalLists.calls kj5 _ _ t331 _ _ t335 true _ ?side1 ?side2 ?side3 ?side4 A24.out).mono ?_); (case side1 => exact qC (Kd.S_reads' HO_4.out).2.2); (case side2 => exact (Kd.S_reads' HO_4.out).2.1); (case side3 => exact qC (Kd.S_reads' HO_6.out).2.2); (case side4 => exact (Kd.S_reads' HO_6.out).2.1); rintro e w' ⟨rfl, ⟨nd, rfl⟩⟩; refine ⟨_, rfl, ?_⟩))
    go_ret
    exact ⟨qX, by exact qW HB.out⟩
   replace c23 := Bool.eq_false_iff.mpr c23
   subst c23
   have H1 : (laws_FnPaletteOf.l0 kj5 t331 0 t324 t325 t326 t327) = some r := by rw [if_neg (show ¬ (false = true) by decide)] at H; exact H
   clear H
   have H := H1
   clear H1
   have H' := aM H
   clear H
   go_wp2
   go_loopg [8] kj5 (fun kq v8 w' => ∃ (x8_2 : Int), v8 = .int .i64 x8_2 ∧ Aside0 (laws_FnPaletteOf.l0 kq t331 x8_2 t324 t325 t326 t327 = some r) ∧ Aside0 (kq ≤ kj5) ∧ Aside0 (Kd.S (Kd.slice 3 (Kd.int .i64)) 22 w' w.heap.size (fun k_ => some k_ ≠ ((.slice Ao10 t327.length co10) : Value).ownBlock) v332 t331) ∧ Aside0 (Kd.Q (Kd.int .i64) 3 w' w.heap.size (fun _ => True) (.slice Ao10 t327.length co10) t327) ∧ Aside0 (w'.heap[gb330]? = some (.cells #[.int .i64 t324, .int .i64 t325, .int .i64 t326, (.slice Ao10 t327.length co10)] 29 (0, 0))) ∧ Aside0 (Below w.heap.size w w'))
   case atStart => exact ⟨(0), qE, H', ⟨Nat.le_refl _⟩, ⟨by (with_reducible repeat (first | apply Kd.S_alloc | apply Kd.S_drewN | apply Kd.S_drew)); exact Kd.S_mono HO_4.out (fun _ hk => hk.2)⟩, ⟨by (with_reducible repeat (first | apply Kd.Q_alloc | apply Kd.Q_drewN | apply Kd.Q_drew)); exact HO_331003.out⟩, ⟨by refine qB ?_; exact BK330.out⟩, ⟨by exact qW HB.out⟩⟩
   case round =>
    clear H'
    try clear c2
    try clear c2b0
    try clear c2b1
    try clear c15
    try clear c16
    try clear c16b0
    try clear c16b1
    try clear c16b2
    try clear c23
    try clear c25
    try clear hcz12_0 hcz12_1 hcz12_2 hcz12_3 hfz12_0 hfz12_1 hfz12_2 hfz12_3
    try clear hcz9_0 hcz9_1 hcz9_2 hcz9_3 hfz9_0 hfz9_1 hfz9_2 hfz9_3
    obtain ⟨x8_2, rfl, HA, HK2, HO_4, HO_331003, BK330, HB⟩ := hrel
    cases gk with
    | zero => exact absurd HA.out (by simp [laws_FnPaletteOf.l0])
    | succ k2 =>
     have H := HA.out
     clear HA
     simp only [laws_FnPaletteOf.l0] at H
     by_cases c30 : x8_2 < (t331.length : Int)
     ·rw [if_pos c30] at H
      have c30b0 : decide (x8_2 < (t331.length : Int)) = true := decide_eq_true c30
      clear c30
      have H' := aM H
      clear H
      obtain ⟨Ao31, co31, eo31⟩ := Kd.S_slice HO_4.out
      subst eo31
      go_wp2
      go_loopg [9] k2 (fun kq v9 w' => ∃ (x9_3 : Int), v9 = .int .i64 x9_3 ∧ Aside0 (laws_FnPaletteOf.l1 kq t331 x8_2 x9_3 t324 t325 t326 t327 = some r) ∧ Aside0 (kq ≤ k2) ∧ Aside0 (Kd.S (Kd.slice 3 (Kd.int .i64)) 22 w' w.heap.size (fun k_ => some k_ ≠ ((.slice Ao10 t327.length co10) : Value).ownBlock) (.slice Ao31 t331.length co31) t331) ∧ Aside0 (Kd.Q (Kd.int .i64) 3 w' w.heap.size (fun _ => True) (.slice Ao10 t327.length co10) t327) ∧ Aside0 (w'.heap[gb330]? = some (.cells #[.int .i64 t324, .int .i64 t325, .int .i64 t326, (.slice Ao10 t327.length co10)] 29 (0, 0))) ∧ Aside0 (Below w.heap.size w w'))
      case atStart => exact ⟨(0), qE, H', ⟨Nat.le_refl _⟩, ⟨by (with_reducible repeat (first | apply Kd.S_alloc | apply Kd.S_drewN | apply Kd.S_drew)); exact HO_4.out⟩, ⟨by (with_reducible repeat (first | apply Kd.Q_alloc | apply Kd.Q_drewN | apply Kd.Q_drew)); exact HO_331003.out⟩, ⟨by refine qB ?_; exact BK330.out⟩, ⟨by exact qW HB.out⟩⟩
      case round =>
       clear H'
       try clear c2
       try clear c2b0
       try clear c2b1
       try clear c15
       try clear c16
       try clear c16b0
       try clear c16b1
       try clear c16b2
       try clear c23
       try clear c25
       try clear c30
       try clear c30b0
       try clear hcz12_0 hcz12_1 hcz12_2 hcz12_3 hfz12_0 hfz12_1 hfz12_2 hfz12_3
       try clear hcz9_0 hcz9_1 hcz9_2 hcz9_3 hfz9_0 hfz9_1 hfz9_2 hfz9_3
       obtain ⟨x9_3, rfl, HA, HK3, HO_4, HO_331003, BK330, HB⟩ := hrel
       cases gk with
       | zero => exact absurd HA.out (by simp [laws_FnPaletteOf.l1])
       | succ k3 =>
        have H := HA.out
        clear HA
        simp only [laws_FnPaletteOf.l1] at H
        by_cases c32 : x9_3 < x8_2
        rotate_left
        ·rw [if_neg c32] at H
         have c32b0 : decide (x9_3 < x8_2) = false := decide_eq_false c32
         clear c32
         have H' := aM H
         clear H
         go_wp2
         go_roundg k3
         case measure => have := HJ5.out; have := HK2.out; have := HK3.out; omega
         case rel => exact ⟨(wrap64 (x8_2 + 1)), qE, H', ⟨by have := HJ5.out; have := HK2.out; have := HK3.out; omega⟩, ⟨by (with_reducible repeat (first | apply Kd.S_alloc | apply Kd.S_drewN | apply Kd.S_drew)); exact HO_4.out⟩, ⟨by (with_reducible repeat (first | apply Kd.Q_alloc | apply Kd.Q_drewN | apply Kd.Q_drew)); exact HO_331003.out⟩, ⟨by refine qB ?_; exact BK330.out⟩, ⟨by exact qW HB.out⟩⟩
        rw [if_pos c32] at H
        have c32b0 : decide (x9_3 < x8_2) = true := decide_eq_true c32
        clear c32
        replace H := iD H
        obtain ⟨c33b0, H⟩ := H
        replace H := iD H
        obtain ⟨c34b0, H⟩ := H
        replace H := iD H
        obtain ⟨c35b0, H⟩ := H
        replace H := iD H
        obtain ⟨c36b0, H⟩ := H
        replace H := Option.bind_eq_some_iff.mp H
        obtain ⟨t343, A370, H⟩ := H
        replace H : (if t343 = true then (some false) else (laws_FnPaletteOf.l1 k3 t331 x8_2 (wrap64 (x9_3 + 1)) t324 t325 t326 t327)) = some r := H
        have A37 := aM A370
        clear A370
        by_cases c38 : t343 = true
        ·subst c38
         have H1 : (some false) = some r := by rw [if_pos rfl] at H; exact H
         clear H
         have H := H1
         clear H1
         obtain rfl := Option.some.inj H
         exact absurd hrt (by decide)
        replace c38 := Bool.eq_false_iff.mpr c38
        subst c38
        have H1 : (laws_FnPaletteOf.l1 k3 t331 x8_2 (wrap64 (x9_3 + 1)) t324 t325 t326 t327) = some r := by rw [if_neg (show ¬ (false = true) by decide)] at H; exact H
        clear H
        have H := H1
        clear H1
        have H' := aM H
        clear H
        try go_wp2
        replace HO_4 := aM (Kd.S_drew HO_4.out)
        replace HO_331003 := aM (Kd.Q_drew HO_331003.out)
        replace BK330 := aM (blk_drew BK330.out)
        replace HB := aM (below_drew1 HB.out)
        have p341 : 0 ≤ (x8_2 : Int) := oD
        have q341 : x8_2 < (t331.length : Int) := oD
        obtain ⟨ad341, A341_0, c341_0, e341, hx341_0, hl341_0, hi341_0⟩ := at_L1 (Kd.S_reads' HO_4.out).2.2 x8_2 p341 q341
        cases e341
        obtain ⟨ce341, hce341, hMe341, hcc341⟩ := Kd.S_get HO_4.out [] x8_2 p341 (by first | exact q341 | exact oD | (have e_ := (Kd.S_reads' HO_4.out).1; omega))
        obtain ⟨ve341_0, rfl, ge341_0⟩ := hMe341
        have hv341_0 := hcc341 0 _ rfl
        rw [Nat.add_zero, show ((Kd.slice 3 (Kd.int .i64))).sz = 1 from rfl, Nat.mul_one] at hv341_0
        replace hv341_0 := Option.some.inj (hv341_0.symm.trans hx341_0)
        rw [hv341_0] at ge341_0
        have HL341_0 := aM (show Kd.R (Kd.int .i64) 3 _ _ _ _ (rd_L1 t331 x8_2) from ge341_0)
        clear hv341_0 ge341_0
        clear hcc341 hce341
        have HR341_0 := aM hi341_0
        have HC341_0 := aM hl341_0
        clear hi341_0 hl341_0
        replace p341 := eq_true p341
        replace q341 := eq_true q341
        have p342 : 0 ≤ (x9_3 : Int) := oD
        have q342 : x9_3 < (t331.length : Int) := oD
        obtain ⟨ad342, A342_0, c342_0, e342, hx342_0, hl342_0, hi342_0⟩ := at_L1 (Kd.S_reads' HO_4.out).2.2 x9_3 p342 q342
        obtain rfl : ad341 = ad342 := (by injection e342)
        obtain ⟨ce342, hce342, hMe342, hcc342⟩ := Kd.S_get HO_4.out [] x9_3 p342 (by first | exact q342 | exact oD | (have e_ := (Kd.S_reads' HO_4.out).1; omega))
        obtain ⟨ve342_0, rfl, ge342_0⟩ := hMe342
        have hv342_0 := hcc342 0 _ rfl
        rw [Nat.add_zero, show ((Kd.slice 3 (Kd.int .i64))).sz = 1 from rfl, Nat.mul_one] at hv342_0
        replace hv342_0 := Option.some.inj (hv342_0.symm.trans hx342_0)
        rw [hv342_0] at ge342_0
        have HL342_0 := aM (show Kd.R (Kd.int .i64) 3 _ _ _ _ (rd_L1 t331 x9_3) from ge342_0)
        clear hv342_0 ge342_0
        clear hcc342 hce342
        have HR342_0 := aM hi342_0
        have HC342_0 := aM hl342_0
        clear hi342_0 hl342_0
        replace p342 := eq_true p342
        replace q342 := eq_true q342
        refine start_ (n := 9) (S := fun w' => w'.cell? (ad341.add (x8_2).toNat) = some (.slice A341_0 (rd_L1 t331 x8_2).length c341_0) ∧ w'.cell? (ad341.add (x9_3).toNat) = some (.slice A342_0 (rd_L1 t331 x9_3).length c342_0)) (ds := []) (bA 9 0) (by kernel_rfl) rfl rfl ⟨hx341_0, hx342_0⟩ (fun hHeld => ?_); refine with_tabW laws_FnPaletteOf.tab14 laws_FnPaletteOf.bits14 (fun HT_ HW_ => ?_)
        generalize wr.drew = w40 at HO_4 HO_331003 BK330 HB HL341_0 HL342_0 HR341_0 HR342_0 hx341_0 hx342_0 hHeld ⊢
        refine pQ 0 61 HT_ (bA 9 1) ?_
        refine pQ 1 62 HT_ (bA 9 3) ?_
        refine pQ 2 63 HT_ (bA 9 7) ?_
        refine pQ 4 65 HT_ (bA 9 23) ?_
        refine pQ 5 66 HT_ (bA 9 55) ?_
        refine pQ 6 67 HT_ (bA 9 119) ?_
        refine take_ (i := 3) (N := some 64) (v := ?_) (a' := ?_) (bA 9 127) rfl rfl (take_ofW HT_.out HW_.out (by kernel_rfl)) (fun _ _ _ h => h) (Or.inl ⟨by rfl, ?_⟩) hHeld ?_ ?_
        rotate_left
        ·rintro w' ⟨s0, s1⟩
         go_simp
         with_reducible rfl
        rotate_left
        ·refine pZ ?_
         rfl
        refine take_ (i := 7) (N := some 68) (v := ?_) (a' := ?_) (bA 9 255) rfl rfl (take_ofW HT_.out HW_.out (by kernel_rfl)) (fun _ _ _ h => h) (Or.inl ⟨by rfl, ?_⟩) hHeld ?_ ?_
        rotate_left
        ·rintro w' ⟨s0, s1⟩
         go_simp
         with_reducible rfl
        rotate_left
        ·refine pZ ?_
         rfl
        refine one_ (i := 8) (N := some 69) (bA 9 511) rfl rfl (one_of HT_.out (by kernel_rfl)) (by decide) (fun K hK => ?_)
        refine goes_ Try.func23 (by kernel_rfl) rfl #[.slice A341_0 (rd_L1 t331 x8_2).length c341_0, .slice A342_0 (rd_L1 t331 x9_3).length c342_0] (by rfl) rfl rfl qM ?_
        with_reducible refine (laws_equalInts.calls k3 _ _ (rd_L1 t331 x8_2) _ _ (rd_L1 t331 x9_3) false _ ?side1 ?side2 ?side3 ?side4 A37.out).mono ?_
        (case side1 => repeat (first | exact (by repeat (first | (with_reducible exact HR341_0.out) | (with_reducible refine Kd.C_alloc ?_ _) | (with_reducible refine Kd.C_drewN ?_ _) | (with_reducible refine Kd.C_drew ?_) | exact HR341_0.out)) | (with_reducible refine Kd.C_alloc ?_ _) | (with_reducible refine Kd.C_drewN ?_ _) | (with_reducible refine Kd.C_drew ?_)))
        (case side2 => exact HC341_0.out)
        (case side3 => repeat (first | exact (by repeat (first | (with_reducible exact HR342_0.out) | (with_reducible refine Kd.C_alloc ?_ _) | (with_reducible refine Kd.C_drewN ?_ _) | (with_reducible refine Kd.C_drew ?_) | exact HR342_0.out)) | (with_reducible refine Kd.C_alloc ?_ _) | (with_reducible refine Kd.C_drewN ?_ _) | (with_reducible refine Kd.C_drew ?_)))
        (case side4 => exact HC342_0.out)
        rintro e w' ⟨rfl, ⟨nd, rfl⟩⟩
        refine ⟨_, rfl, ?_⟩
        refine hK.out _ _ ⟨hHeld.1, hHeld.2⟩ (fun hHeld => ?_)
        clear hK K
        refine norm_ (a' := ?_) ?_ ?_
        rotate_left
        ·show Act.put _ (some 69) _ = _
         refine pZ ?_
         rfl
        refine done_ (done_of HT_.out (by kernel_rfl)) ?_
        try go_wp2
        go_roundg k3
        case measure => have := HJ5.out; have := HK2.out; have := HK3.out; omega
        case rel => exact ⟨(wrap64 (x9_3 + 1)), qE, H', ⟨by have := HJ5.out; have := HK2.out; have := HK3.out; omega⟩, ⟨by (with_reducible repeat (first | apply Kd.S_alloc | apply Kd.S_drewN | apply Kd.S_drew)); exact HO_4.out⟩, ⟨by (with_reducible repeat (first | apply Kd.Q_alloc | apply Kd.Q_drewN | apply Kd.Q_drew)); exact HO_331003.out⟩, ⟨by refine qB ?_; exact BK330.out⟩, ⟨by exact qW HB.out⟩⟩
     rw [if_neg c30] at H
     have c30b0 : decide (x8_2 < (t331.length : Int)) = false := decide_eq_false c30
     clear c30
     replace H := Option.bind_eq_some_iff.mp H
     obtain ⟨⟨t344, t345, t346, t347, t350⟩, A410, H⟩ := H
     replace H : ((impl_ColorImage.f t344 t345 t346 t347 t331 t326).bind fun bt352 => (if t350 = true then (if bt352.2.2.2.2 = true then ((laws_equalImage.f k2 bt352.1 bt352.2.1 bt352.2.2.1 bt352.2.2.2.1 t324 t325 t326 t327).bind fun t360 => (if t360 = true then (if 0 < (t331.length : Int) then ((impl_PixelAt.f t324 t325 t326 t327 0 0).bind fun t362 => ((laws_equalInts.f k2 (rd_L1 t331 0) t362).bind fun t365 => (some t365))) else (none)) else (some false))) else (some false)) else (some false))) = some r := H
     have A41 := aM A410
     clear A410
     replace H := Option.bind_eq_some_iff.mp H
     obtain ⟨⟨t352, t353, t354, t355, t358⟩, A420, H⟩ := H
     replace H : (if t350 = true then (if t358 = true then ((laws_equalImage.f k2 t352 t353 t354 t355 t324 t325 t326 t327).bind fun t360 => (if t360 = true then (if 0 < (t331.length : Int) then ((impl_PixelAt.f t324 t325 t326 t327 0 0).bind fun t362 => ((laws_equalInts.f k2 (rd_L1 t331 0) t362).bind fun t365 => (some t365))) else (none)) else (some false))) else (some false)) else (some false)) = some r := H
     have A42 := aM A420
     clear A420
     by_cases c43 : t350 = true
     rotate_left
     ·replace c43 := Bool.eq_false_iff.mpr c43
      subst c43
      have H1 : (some false) = some r := by rw [if_neg (show ¬ (false = true) by decide)] at H; exact H
      clear H
      have H := H1
      clear H1
      obtain rfl := Option.some.inj H
      exact absurd hrt (by decide)
     subst c43
     have H1 : (if t358 = true then ((laws_equalImage.f k2 t352 t353 t354 t355 t324 t325 t326 t327).bind fun t360 => (if t360 = true then (if 0 < (t331.length : Int) then ((impl_PixelAt.f t324 t325 t326 t327 0 0).bind fun t362 => ((laws_equalInts.f k2 (rd_L1 t331 0) t362).bind fun t365 => (some t365))) else (none)) else (some false))) else (some false)) = some r := by rw [if_pos rfl] at H; exact H
     clear H
     have H := H1
     clear H1
     by_cases c44 : t358 = true
     rotate_left
     ·replace c44 := Bool.eq_false_iff.mpr c44
      subst c44
      have H1 : (some false) = some r := by rw [if_neg (show ¬ (false = true) by decide)] at H; exact H
      clear H
      have H := H1
      clear H1
      obtain rfl := Option.some.inj H
      exact absurd hrt (by decide)
     subst c44
     have H1 : ((laws_equalImage.f k2 t352 t353 t354 t355 t324 t325 t326 t327).bind fun t360 => (if t360 = true then (if 0 < (t331.length : Int) then ((impl_PixelAt.f t324 t325 t326 t327 0 0).bind fun t362 => ((laws_equalInts.f k2 (rd_L1 t331 0) t362).bind fun t365 => (some t365))) else (none)) else (some false))) = some r := by rw [if_pos rfl] at H; exact H
     clear H
     have H := H1
     clear H1
     replace H := Option.bind_eq_some_iff.mp H
     obtain ⟨t360, A450, H⟩ := H
     replace H : (if t360 = true then (if 0 < (t331.length : Int) then ((impl_PixelAt.f t324 t325 t326 t327 0 0).bind fun t362 => ((laws_equalInts.f k2 (rd_L1 t331 0) t362).bind fun t365 => (some t365))) else (none)) else (some false)) = some r := H
     have A45 := aM A450
     clear A450
     by_cases c46 : t360 = true
     rotate_left
     ·replace c46 := Bool.eq_false_iff.mpr c46
      subst c46
      have H1 : (some false) = some r := by rw [if_neg (show ¬ (false = true) by decide)] at H; exact H
      clear H
      have H := H1
      clear H1
      obtain rfl := Option.some.inj H
      exact absurd hrt (by decide)
     subst c46
     have H1 : (if 0 < (t331.length : Int) then ((impl_PixelAt.f t324 t325 t326 t327 0 0).bind fun t362 => ((laws_equalInts.f k2 (rd_L1 t331 0) t362).bind fun t365 => (some t365))) else (none)) = some r := by rw [if_pos rfl] at H; exact H
     clear H
     have H := H1
     clear H1
     replace H := iS H
     obtain ⟨c47, H⟩ := H
     have c47b0 : decide (0 < (t331.length : Int)) = true := decide_eq_true c47
     have c47b1 : decide (0 < t331.length) = true := decide_eq_true (by omega)
     clear c47
     replace H := Option.bind_eq_some_iff.mp H
     obtain ⟨t362, A480, H⟩ := H
     replace H : ((laws_equalInts.f k2 (rd_L1 t331 0) t362).bind fun t365 => (some t365)) = some r := H
     have A48 := aM A480
     clear A480
     replace H := Option.bind_eq_some_iff.mp H
     obtain ⟨t365, A490, H⟩ := H
     replace H : (some t365) = some r := H
     have A49 := aM A490
     clear A490
     obtain rfl := Option.some.inj H
     obtain ⟨Ao50, co50, eo50⟩ := Kd.S_slice HO_4.out
     subst eo50
     obtain ⟨⟨hcz51_0, hcz51_1, hcz51_2, hcz51_3⟩, hfz51_0, hfz51_1, hfz51_2, hfz51_3⟩ := cf4 BK330
     try go_wp2_with (first | ((with_reducible refine gate_callee (f := 24) rfl ?_); refine gL (some 73) Try.func24 #[.agg #[.int .i64 t324, .int .i64 t325, .int .i64 t326, .slice Ao10 t327.length co10], .slice Ao50 t331.length co50] ?_; (with_reducible refine (impl_IndexImage.calls t324 t325 t326 _ _ t327 _ _ t331 t344 t345 t346 t347 true _ ?side1 ?side2 ?side3 ?side4 A41.out).mono ?_); (case side1 => exact qC (Kd.Q_reads' HO_331003.out).2.2); (case side2 => exact (Kd.Q_reads' HO_331003.out).2.1); (case side3 => exact qC (Kd.S_reads' HO_4.out).2.2); (case side4 => exact (Kd.S_reads' HO_4.out).2.1); rintro e w52 ⟨v348, rfl, ho0, hb⟩; refine ⟨_, rfl, ?_⟩; replace HO_4 := aM (Kd.S_elder' (by (with_reducible repeat (first | apply Kd.S_alloc | apply Kd.S_drewN | apply Kd.S_drew)); exact HO_4.out) (Kd.R_base ho0) hb); have HO349 := aM (Kd.R_lower (Kd.R_new' ho0 (Kd.Q_lt (qQ HO_331003.out))) (below_size (qW HB.out))); replace HO_331003 := aM (Kd.Q_elder' (qQ HO_331003.out) (Kd.R_base ho0) hb); replace BK330 := bB BK330 hb; replace HB := bS HB hb; clear hb ho0) | ((with_reducible refine gate_dst (N := 10) rfl ?_); refine bxE (N := 10) (cs := #[.int .i64 0, .int .i64 0, .int .i64 0, .slice none 0 0]) (t := 29) ?_; intro gb351 hg w53 hbox hb; replace HO_4 := aM (Kd.S_below (by (with_reducible repeat (first | apply Kd.S_alloc | apply Kd.S_drewN | apply Kd.S_drew)); exact HO_4.out) hb); replace HO_331003 := aM (Kd.Q_below (qQ HO_331003.out) hb); replace HO349 := aM (Kd.R_below (qR HO349.out) hb); have BK351 := aM (hbox); have GW351 := gW hg HB; have GE351 := gW hg HB; replace HB := bS HB hb; have NB330_351 := nL hg BK330; have NB351_330 := nG hg BK330; replace BK330 := bB BK330 hb; clear hb hbox hg; have hnb54 := NB351_330.out; have hnc54 := NB330_351.out; obtain ⟨⟨hcz55_0, hcz55_1, hcz55_2, hcz55_3⟩, hfz55_0, hfz55_1, hfz55_2, hfz55_3⟩ := cf4 BK351; obtain ⟨Ao56, co56, rfl⟩ := sL HO349; obtain ⟨⟨hcz57_0, hcz57_1, hcz57_2, hcz57_3⟩, hfz57_0, hfz57_1, hfz57_2, hfz57_3⟩ := cf4 BK330) | ((with_reducible refine gate_callee (f := 25) rfl ?_); refine gL (some 81) Try.func25 #[.agg #[.int .i64 t344, .int .i64 t345, .int .i64 t346, .slice Ao56 t347.length co56], .slice Ao50 t331.length co50, .int .i64 t326] ?_; (with_reducible refine (impl_ColorImage.calls t344 t345 t346 _ _ t347 _ _ t331 t326 t352 t353 t354 t355 true _ ?side1 ?side2 ?side3 ?side4 A42.out).mono ?_); (case side1 => refine (Kd.R_reads' (e := 3) (base := w.heap.size) (ok := fun k_ => (True ∧ some k_ ≠ (.slice Ao10 t327.length co10 : Value).ownBlock)) (n := t347.length) (c := co56) ?_).2.2; exact (by refine qR ?_; exact (fr4 HO349 BK351))); (case side2 => exact (Kd.R_reads' HO349.out).2.1); (case side3 => refine (Kd.S_reads' (e := 22) (base := w.heap.size) (ok := fun k_ => (some k_ ≠ (.slice Ao10 t327.length co10 : Value).ownBlock ∧ some k_ ≠ (.slice Ao56 t347.length co56 : Value).ownBlock)) (n := t331.length) (c := co50) ?_).2.2; exact (by (with_reducible repeat (first | apply Kd.S_alloc | apply Kd.S_drewN | apply Kd.S_drew)); exact (Kd.S_mono (Kd.S_far (p := ⟨gb351, 3, none⟩) (Kd.S_far (p := ⟨gb351, 2, none⟩) (Kd.S_far (p := ⟨gb351, 1, none⟩) (Kd.S_far (p := ⟨gb351, 0, none⟩) (Kd.S_types HO_4.out BK351.out (by decide)) (fun _ hk => hk.2) (.int .i64 t344)) (fun _ hk => hk.2) (.int .i64 t345)) (fun _ hk => hk.2) (.int .i64 t346)) (fun _ hk => hk.2) (.slice Ao56 t347.length co56)) (fun _ h_ => h_.1)))); (case side4 => exact (Kd.S_reads' HO_4.out).2.1); rintro e w58 ⟨v356, rfl, ho0, hb⟩; refine ⟨_, rfl, ?_⟩; replace HO_4 := aM (Kd.S_elder' (by (with_reducible repeat (first | apply Kd.S_alloc | apply Kd.S_drewN | apply Kd.S_drew)); exact (Kd.S_mono (Kd.S_far (p := ⟨gb351, 3, none⟩) (Kd.S_far (p := ⟨gb351, 2, none⟩) (Kd.S_far (p := ⟨gb351, 1, none⟩) (Kd.S_far (p := ⟨gb351, 0, none⟩) (Kd.S_types HO_4.out BK351.out (by decide)) (fun _ hk => hk.2) (.int .i64 t344)) (fun _ hk => hk.2) (.int .i64 t345)) (fun _ hk => hk.2) (.int .i64 t346)) (fun _ hk => hk.2) (.slice Ao56 t347.length co56)) (fun _ h_ => h_.1))) (Kd.R_base ho0) hb); have HO357 := aM (Kd.R_lower (Kd.R_new' (Kd.R_new' ho0 (Kd.Q_lt (by (with_reducible repeat (first | apply Kd.Q_alloc | apply Kd.Q_drewN | apply Kd.Q_drew)); exact (Kd.Q_mono (qT HO_331003 BK351) (fun _ h_ => h_.1))))) (Kd.R_lt (by refine qR ?_; exact (fr4 HO349 BK351)))) (below_size (qW HB.out))); replace HO_331003 := aM (Kd.Q_elder' (by (with_reducible repeat (first | apply Kd.Q_alloc | apply Kd.Q_drewN | apply Kd.Q_drew)); exact (Kd.Q_mono (qT HO_331003 BK351) (fun _ h_ => h_.1))) (Kd.R_base ho0) hb); replace HO349 := aM (Kd.R_elder' (by refine qR ?_; exact (fr4 HO349 BK351)) (Kd.R_base ho0) hb); replace BK330 := aM (blk_below (g := gb330) (o := .cells #[.int .i64 t324, .int .i64 t325, .int .i64 t326, .slice Ao10 t327.length co10] 29 (0, 0)) (by refine qB ?_; refine blk_far ?_ NB330_351.out _; refine qB ?_; refine blk_far ?_ NB330_351.out _; refine qB ?_; refine blk_far ?_ NB330_351.out _; refine qB ?_; refine blk_far ?_ NB330_351.out _; refine qB ?_; exact BK330.out) hb); replace BK351 := aM (blk_below (g := gb351) (o := .cells #[.int .i64 t344, .int .i64 t345, .int .i64 t346, .slice Ao56 t347.length co56] 29 (0, 0)) (by exact bP BK351.out) hb); replace HB := bS HB hb; clear hb ho0) | ((with_reducible refine gate_dst (N := 12) rfl ?_); refine bxE (N := 12) (cs := #[.int .i64 0, .int .i64 0, .int .i64 0, .slice none 0 0]) (t := 29) ?_; intro gb359 hg w59 hbox hb; replace HO_4 := aM (Kd.S_below (by (with_reducible repeat (first | apply Kd.S_alloc | apply Kd.S_drewN | apply Kd.S_drew)); exact HO_4.out) hb); replace HO_331003 := aM (Kd.Q_below (qQ HO_331003.out) hb); replace HO349 := aM (Kd.R_below (qR HO349.out) hb); replace HO357 := aM (Kd.R_below (qR HO357.out) hb); have BK359 := aM (hbox); have GW359 := gW hg HB; have GE359 := gW hg HB; replace HB := bS HB hb; have NB330_359 := nL hg BK330; have NB359_330 := nG hg BK330; replace BK330 := bB BK330 hb; have NB351_359 := nL hg BK351; have NB359_351 := nG hg BK351; replace BK351 := bB BK351 hb; clear hb hbox hg; have hnb60 := NB359_330.out; have hnc60 := NB330_359.out; have hnb61 := NB359_351.out; have hnc61 := NB351_359.out; obtain ⟨⟨hcz62_0, hcz62_1, hcz62_2, hcz62_3⟩, hfz62_0, hfz62_1, hfz62_2, hfz62_3⟩ := cf4 BK359; obtain ⟨Ao63, co63, rfl⟩ := sL HO357))
     have n0_ : Aside0 (Kd.S (Kd.slice 3 (Kd.int .i64)) 22 ((((w59.setCell ⟨gb359, 0, none⟩ (.int .i64 t352)).setCell ⟨gb359, 1, none⟩ (.int .i64 t353)).setCell ⟨gb359, 2, none⟩ (.int .i64 t354)).setCell ⟨gb359, 3, none⟩ (.slice Ao63 t355.length co63)) w.heap.size (fun k_ => some k_ ≠ (.slice Ao10 t327.length co10 : Value).ownBlock ∧ some k_ ≠ (.slice Ao56 t347.length co56 : Value).ownBlock ∧ some k_ ≠ (.slice Ao63 t355.length co63 : Value).ownBlock) (.slice Ao50 t331.length co50) t331) := ⟨by (with_reducible repeat (first | apply Kd.S_alloc | apply Kd.S_drewN | apply Kd.S_drew)); exact Kd.S_mono (Kd.S_far (p := ⟨gb359, 3, none⟩) (Kd.S_far (p := ⟨gb359, 2, none⟩) (Kd.S_far (p := ⟨gb359, 1, none⟩) (Kd.S_far (p := ⟨gb359, 0, none⟩) (Kd.S_types HO_4.out BK359.out (by decide)) (fun _ hk => hk.2) (.int .i64 t352)) (fun _ hk => hk.2) (.int .i64 t353)) (fun _ hk => hk.2) (.int .i64 t354)) (fun _ hk => hk.2) (.slice Ao63 t355.length co63)) (fun _ hk => ⟨hk.1.1.1, ⟨hk.1.1.2, hk.1.2⟩⟩)⟩
     have n1_ : Aside0 (Kd.Q (Kd.int .i64) 3 ((((w59.setCell ⟨gb359, 0, none⟩ (.int .i64 t352)).setCell ⟨gb359, 1, none⟩ (.int .i64 t353)).setCell ⟨gb359, 2, none⟩ (.int .i64 t354)).setCell ⟨gb359, 3, none⟩ (.slice Ao63 t355.length co63)) w.heap.size (fun k_ => some k_ ≠ (.slice Ao56 t347.length co56 : Value).ownBlock ∧ some k_ ≠ (.slice Ao63 t355.length co63 : Value).ownBlock) (.slice Ao10 t327.length co10) t327) := ⟨by (with_reducible repeat (first | apply Kd.Q_alloc | apply Kd.Q_drewN | apply Kd.Q_drew)); exact Kd.Q_mono (qT HO_331003 BK359) (fun _ hk => by first | exact ⟨hk.1.1.2, hk.1.2⟩ | (revert hk; simp only [and_imp]; intros; and_intros <;> assumption))⟩
     have n2_ : Aside0 (Kd.R (Kd.int .i64) 3 ((((w59.setCell ⟨gb359, 0, none⟩ (.int .i64 t352)).setCell ⟨gb359, 1, none⟩ (.int .i64 t353)).setCell ⟨gb359, 2, none⟩ (.int .i64 t354)).setCell ⟨gb359, 3, none⟩ (.slice Ao63 t355.length co63)) w.heap.size (fun k_ => some k_ ≠ (.slice Ao10 t327.length co10 : Value).ownBlock ∧ some k_ ≠ (.slice Ao63 t355.length co63 : Value).ownBlock) (.slice Ao56 t347.length co56) t347) := ⟨by refine qR ?_; exact Kd.R_mono (rT HO349 BK359) (fun _ hk => by first | exact ⟨hk.1.1.2, hk.1.2⟩ | (revert hk; simp only [and_imp]; intros; and_intros <;> assumption))⟩
     have n3_ : Aside0 (Kd.R (Kd.int .i64) 3 ((((w59.setCell ⟨gb359, 0, none⟩ (.int .i64 t352)).setCell ⟨gb359, 1, none⟩ (.int .i64 t353)).setCell ⟨gb359, 2, none⟩ (.int .i64 t354)).setCell ⟨gb359, 3, none⟩ (.slice Ao63 t355.length co63)) w.heap.size (fun k_ => some k_ ≠ (.slice Ao10 t327.length co10 : Value).ownBlock ∧ some k_ ≠ (.slice Ao56 t347.length co56 : Value).ownBlock) (.slice Ao63 t355.length co63) t355) := ⟨by refine qR ?_; exact Kd.R_mono (rT HO357 BK359) (fun _ hk => by first | exact ⟨hk.1.1.2, hk.1.2⟩ | (revert hk; simp only [and_imp]; intros; and_intros <;> assumption))⟩
     have n4_ : Aside0 (((((w59.setCell ⟨gb359, 0, none⟩ (.int .i64 t352)).setCell ⟨gb359, 1, none⟩ (.int .i64 t353)).setCell ⟨gb359, 2, none⟩ (.int .i64 t354)).setCell ⟨gb359, 3, none⟩ (.slice Ao63 t355.length co63)).heap[gb330]? = some (.cells #[.int .i64 t324, .int .i64 t325, .int .i64 t326, .slice Ao10 t327.length co10] 29 (0, 0))) := ⟨by refine qB ?_; refine blk_far ?_ NB330_359.out _; refine qB ?_; refine blk_far ?_ NB330_359.out _; refine qB ?_; refine blk_far ?_ NB330_359.out _; refine qB ?_; refine blk_far ?_ NB330_359.out _; refine qB ?_; exact BK330.out⟩
     have n5_ : Aside0 (((((w59.setCell ⟨gb359, 0, none⟩ (.int .i64 t352)).setCell ⟨gb359, 1, none⟩ (.int .i64 t353)).setCell ⟨gb359, 2, none⟩ (.int .i64 t354)).setCell ⟨gb359, 3, none⟩ (.slice Ao63 t355.length co63)).heap[gb351]? = some (.cells #[.int .i64 t344, .int .i64 t345, .int .i64 t346, .slice Ao56 t347.length co56] 29 (0, 0))) := ⟨by refine qB ?_; refine blk_far ?_ NB351_359.out _; refine qB ?_; refine blk_far ?_ NB351_359.out _; refine qB ?_; refine blk_far ?_ NB351_359.out _; refine qB ?_; refine blk_far ?_ NB351_359.out _; refine qB ?_; exact BK351.out⟩
     have n6_ : Aside0 (((((w59.setCell ⟨gb359, 0, none⟩ (.int .i64 t352)).setCell ⟨gb359, 1, none⟩ (.int .i64 t353)).setCell ⟨gb359, 2, none⟩ (.int .i64 t354)).setCell ⟨gb359, 3, none⟩ (.slice Ao63 t355.length co63)).heap[gb359]? = some (.cells #[.int .i64 t352, .int .i64 t353, .int .i64 t354, .slice Ao63 t355.length co63] 29 (0, 0))) := ⟨by exact bP BK359.out⟩
     have n7_ : Aside0 (Below w.heap.size w ((((w59.setCell ⟨gb359, 0, none⟩ (.int .i64 t352)).setCell ⟨gb359, 1, none⟩ (.int .i64 t353)).setCell ⟨gb359, 2, none⟩ (.int .i64 t354)).setCell ⟨gb359, 3, none⟩ (.slice Ao63 t355.length co63))) := ⟨by exact qW HB.out⟩
     (try clear HO_4)
     (try clear HO_331003)
     (try clear HO349)
     (try clear HO357)
     (try clear BK330)
     (try clear BK351)
     (try clear BK359)
     (try clear HB)
     generalize ((((w59.setCell ⟨gb359, 0, none⟩ (.int .i64 t352)).setCell ⟨gb359, 1, none⟩ (.int .i64 t353)).setCell ⟨gb359, 2, none⟩ (.int .i64 t354)).setCell ⟨gb359, 3, none⟩ (.slice Ao63 t355.length co63)) = w64 at n0_ n1_ n2_ n3_ n4_ n5_ n6_ n7_ ⊢
     have HO_4 := n0_
     have HO_331003 := n1_
     have HO349 := n2_
     have HO357 := n3_
     have BK330 := n4_
     have BK351 := n5_
     have BK359 := n6_
     have HB := n7_
     clear n0_ n1_ n2_ n3_ n4_ n5_ n6_ n7_
     replace HO_4 := aM (Kd.S_drew HO_4.out)
     replace HO_331003 := aM (Kd.Q_drew HO_331003.out)
     replace HO349 := aM (Kd.R_drew HO349.out)
     replace HO357 := aM (Kd.R_drew HO357.out)
     replace BK330 := aM (blk_drew BK330.out)
     replace BK351 := aM (blk_drew BK351.out)
     replace BK359 := aM (blk_drew BK359.out)
     replace HB := aM (below_drew1 HB.out)
     have p361 : 0 ≤ (0 : Int) := (by omega)
     have q361 : 0 < (t331.length : Int) := oD
     obtain ⟨ad361, A361_0, c361_0, e361, hx361_0, hl361_0, hi361_0⟩ := at_L1 (Kd.S_reads' HO_4.out).2.2 0 p361 q361
     cases e361
     obtain ⟨ce361, hce361, hMe361, hcc361⟩ := Kd.S_get HO_4.out [] 0 p361 (by first | exact q361 | exact oD | (have e_ := (Kd.S_reads' HO_4.out).1; omega))
     obtain ⟨ve361_0, rfl, ge361_0⟩ := hMe361
     have hv361_0 := hcc361 0 _ rfl
     rw [Nat.add_zero, show ((Kd.slice 3 (Kd.int .i64))).sz = 1 from rfl, Nat.mul_one] at hv361_0
     replace hv361_0 := Option.some.inj (hv361_0.symm.trans hx361_0)
     rw [hv361_0] at ge361_0
     have HL361_0 := aM (show Kd.R (Kd.int .i64) 3 _ _ _ _ (rd_L1 t331 0) from ge361_0)
     clear hv361_0 ge361_0
     clear hcc361 hce361
     have qi361 : (0 < t331.length) = True := eq_true (by omega)
     (try rw [show ((0 : Int)).toNat = 0 from rfl] at hx361_0)
     (try rw [Addr.add_zero'] at hx361_0)
     have HR361_0 := aM hi361_0
     have HC361_0 := aM hl361_0
     clear hi361_0 hl361_0
     replace p361 := eq_true p361
     replace q361 := eq_true q361
     refine start_ (n := 18) (S := fun w' => w'.cell? ⟨gb359, 0, none⟩ = some (.int .i64 t352) ∧ w'.cell? ⟨gb359, 1, none⟩ = some (.int .i64 t353) ∧ w'.cell? ⟨gb359, 2, none⟩ = some (.int .i64 t354) ∧ w'.cell? ⟨gb359, 3, none⟩ = some (.slice Ao63 t355.length co63) ∧ w'.cell? ⟨gb330, 0, none⟩ = some (.int .i64 t324) ∧ w'.cell? ⟨gb330, 1, none⟩ = some (.int .i64 t325) ∧ w'.cell? ⟨gb330, 2, none⟩ = some (.int .i64 t326) ∧ w'.cell? ⟨gb330, 3, none⟩ = some (.slice Ao10 t327.length co10) ∧ w'.cell? ad361 = some (.slice A361_0 (rd_L1 t331 0).length c361_0)) (ds := []) (bA 18 0) (by kernel_rfl) rfl rfl ⟨(blk_cell BK359.out 0).trans rfl, (blk_cell BK359.out 1).trans rfl, (blk_cell BK359.out 2).trans rfl, (blk_cell BK359.out 3).trans rfl, (blk_cell BK330.out 0).trans rfl, (blk_cell BK330.out 1).trans rfl, (blk_cell BK330.out 2).trans rfl, (blk_cell BK330.out 3).trans rfl, hx361_0⟩ (fun hHeld => ?_); refine with_tabW laws_FnPaletteOf.tab18 laws_FnPaletteOf.bits18 (fun HT_ HW_ => ?_)
     generalize w64.drew = w65 at HO_4 HO_331003 HO349 HO357 BK330 BK351 BK359 HB HL361_0 HR361_0 hx361_0 hHeld ⊢
     refine pQ 0 84 HT_ (bA 18 1) ?_
     refine pQ 1 85 HT_ (bA 18 3) ?_
     refine pQ 2 86 HT_ (bA 18 7) ?_
     refine pQ 3 87 HT_ (bA 18 15) ?_
     refine pQ 4 88 HT_ (bA 18 31) ?_
     refine take_ (i := 5) (N := some 89) (v := ?_) (a' := ?_) (bA 18 63) rfl rfl (take_ofW HT_.out HW_.out (by kernel_rfl)) (fun _ _ _ h => h) (Or.inl ⟨by rfl, ?_⟩) hHeld ?_ ?_
     rotate_left
     ·rintro w' ⟨s0, s1, s2, s3, s4, s5, s6, s7, s8⟩
      go_simp
      with_reducible rfl
     rotate_left
     ·refine pZ ?_
      rfl
     refine take_ (i := 6) (N := some 90) (v := ?_) (a' := ?_) (bA 18 127) rfl rfl (take_ofW HT_.out HW_.out (by kernel_rfl)) (fun _ _ _ h => h) (Or.inl ⟨by rfl, ?_⟩) hHeld ?_ ?_
     rotate_left
     ·rintro w' ⟨s0, s1, s2, s3, s4, s5, s6, s7, s8⟩
      go_simp
      with_reducible rfl
     rotate_left
     ·refine pZ ?_
      rfl
     refine one_ (i := 7) (N := some 91) (bA 18 255) rfl rfl (one_of HT_.out (by kernel_rfl)) (by decide) (fun K hK => ?_)
     refine goes_ Try.func26 (by kernel_rfl) rfl #[.agg #[.int .i64 t352, .int .i64 t353, .int .i64 t354, .slice Ao63 t355.length co63], .agg #[.int .i64 t324, .int .i64 t325, .int .i64 t326, .slice Ao10 t327.length co10]] (by rfl) rfl rfl qM ?_
     with_reducible refine (laws_equalImage.calls k2 t352 t353 t354 _ _ t355 t324 t325 t326 _ _ t327 true _ ?side1 ?side2 ?side3 ?side4 A45.out).mono ?_
     (case side1 => exact qC (Kd.R_reads' HO357.out).2.2)
     (case side2 => exact (Kd.R_reads' HO357.out).2.1)
     (case side3 => exact qC (Kd.Q_reads' HO_331003.out).2.2)
     (case side4 => exact (Kd.Q_reads' HO_331003.out).2.1)
     rintro e w66 ⟨rfl, hb⟩
     have mL_ := aM (Kd.R_below HL361_0.out hb)
     have mR_ := aM (Kd.C_below HR361_0.out hb)
     clear HL361_0 HR361_0
     have HL361_0 := mL_
     have HR361_0 := mR_
     clear mL_ mR_
     have HS8_ := (hb.cell (World.block_lt_of_cell? _ _ (hHeld.2.2.2.2.2.2.2.2))).trans (hHeld.2.2.2.2.2.2.2.2)
     refine ⟨_, rfl, ?_⟩
     replace HO_4 := aM (Kd.S_below (by (with_reducible repeat (first | apply Kd.S_alloc | apply Kd.S_drewN | apply Kd.S_drew)); exact HO_4.out) hb)
     replace HO_331003 := aM (Kd.Q_below (qQ HO_331003.out) hb)
     replace HO349 := aM (Kd.R_below (qR HO349.out) hb)
     replace HO357 := aM (Kd.R_below (qR HO357.out) hb)
     replace BK330 := bB BK330 hb
     replace BK351 := bB BK351 hb
     replace BK359 := bB BK359 hb
     replace HB := bS HB hb
     (try clear hb)
     (try clear hb2)
     (try clear hk)
     (try clear hi)
     refine hK.out _ _ ⟨(blk_cell BK359.out 0).trans rfl, (blk_cell BK359.out 1).trans rfl, (blk_cell BK359.out 2).trans rfl, (blk_cell BK359.out 3).trans rfl, (blk_cell BK330.out 0).trans rfl, (blk_cell BK330.out 1).trans rfl, (blk_cell BK330.out 2).trans rfl, (blk_cell BK330.out 3).trans rfl, HS8_⟩ (fun hHeld => ?_)
     clear hK K
     refine norm_ (a' := ?_) ?_ ?_
     rotate_left
     ·show Act.put _ (some 91) _ = _
      refine pZ ?_
      rfl
     refine pQ 8 92 HT_ (bA 18 511) ?_
     refine pQ 9 93 HT_ (bA 18 1023) ?_
     refine pQ 10 94 HT_ (bA 18 2047) ?_
     refine pQ 11 95 HT_ (bA 18 4095) ?_
     refine take_ (i := 12) (N := some 96) (v := ?_) (a' := ?_) (bA 18 8191) rfl rfl (take_ofW HT_.out HW_.out (by kernel_rfl)) (fun _ _ _ h => h) (Or.inl ⟨by rfl, ?_⟩) hHeld ?_ ?_
     rotate_left
     ·rintro w' ⟨s0, s1, s2, s3, s4, s5, s6, s7, s8⟩
      go_simp
      with_reducible rfl
     rotate_left
     ·refine pZ ?_
      rfl
     refine take_ (i := 13) (N := some 97) (v := ?_) (a' := ?_) (bA 18 16383) rfl rfl (take_ofW HT_.out HW_.out (by kernel_rfl)) (fun _ _ _ h => h) (Or.inl ⟨by rfl, ?_⟩) hHeld ?_ ?_
     rotate_left
     ·rintro w' ⟨s0, s1, s2, s3, s4, s5, s6, s7, s8⟩
      go_simp
      with_reducible rfl
     rotate_left
     ·refine pZ ?_
      rfl
     refine one_ (i := 14) (N := some 98) (bA 18 32767) rfl rfl (one_of HT_.out (by kernel_rfl)) (by decide) (fun K hK => ?_)
     refine goes_ Try.func27 (by kernel_rfl) rfl #[.agg #[.int .i64 t324, .int .i64 t325, .int .i64 t326, .slice Ao10 t327.length co10], .int .i64 0, .int .i64 0] (by rfl) rfl rfl qM ?_
     with_reducible refine (impl_PixelAt.calls t324 t325 t326 _ _ t327 0 0 t362 _ ?side1 ?side2 A48.out).mono ?_
     (case side1 => exact qC (Kd.Q_reads' HO_331003.out).2.2)
     (case side2 => exact (Kd.Q_reads' HO_331003.out).2.1)
     rintro e w67 ⟨v363, rfl, ho0, hb⟩
     have HS8_ := (hb.cell (World.block_lt_of_cell? _ _ (hHeld.2.2.2.2.2.2.2.2))).trans (hHeld.2.2.2.2.2.2.2.2)
     refine ⟨_, rfl, ?_⟩
     replace HO_4 := aM (Kd.S_elder' (by (with_reducible repeat (first | apply Kd.S_alloc | apply Kd.S_drewN | apply Kd.S_drew)); exact HO_4.out) (Kd.R_base ho0) hb)
     have HO364 := aM (Kd.R_lower (Kd.R_new' (Kd.R_new' (Kd.R_new' (Kd.R_new' ho0 (Kd.Q_lt (qQ HO_331003.out))) (Kd.R_lt (qR HO349.out))) (Kd.R_lt (qR HO357.out))) (Kd.R_lt (qR HL361_0.out))) (below_size (qW HB.out)))
     replace HO_331003 := aM (Kd.Q_elder' (qQ HO_331003.out) (Kd.R_base ho0) hb)
     replace HO349 := aM (Kd.R_elder' (qR HO349.out) (Kd.R_base ho0) hb)
     replace HO357 := aM (Kd.R_elder' (qR HO357.out) (Kd.R_base ho0) hb)
     replace HL361_0 := aM (Kd.R_elder' (qR HL361_0.out) (Kd.R_base ho0) hb)
     replace BK330 := bB BK330 hb
     replace BK351 := bB BK351 hb
     replace BK359 := bB BK359 hb
     replace HR361_0 := aM (Kd.C_below (by repeat (first | (with_reducible exact HR361_0.out) | (with_reducible refine Kd.C_alloc ?_ _) | (with_reducible refine Kd.C_drewN ?_ _) | (with_reducible refine Kd.C_drew ?_) | exact HR361_0.out)) hb)
     replace HB := bS HB hb
     (try clear hb)
     (try clear hb2)
     (try clear hk)
     (try clear hi)
     (try clear ho0)
     obtain ⟨Ao68, co68, eo68⟩ := Kd.R_slice HO364.out
     (first | subst eo68 | (injection eo68 with f1_ f2_ f3_; have f4_ := f1_.symm; have f5_ := f3_.symm; clear f1_ f2_ f3_; subst f4_; subst f5_))
     refine hK.out _ _ ⟨(blk_cell BK359.out 0).trans rfl, (blk_cell BK359.out 1).trans rfl, (blk_cell BK359.out 2).trans rfl, (blk_cell BK359.out 3).trans rfl, (blk_cell BK330.out 0).trans rfl, (blk_cell BK330.out 1).trans rfl, (blk_cell BK330.out 2).trans rfl, (blk_cell BK330.out 3).trans rfl, HS8_⟩ (fun hHeld => ?_)
     clear hK K
     refine norm_ (a' := ?_) ?_ ?_
     rotate_left
     ·show Act.put _ (some 98) _ = _
      refine pZ ?_
      rfl
     refine one_ (i := 15) (N := some 99) (bA 18 65535) rfl rfl (one_of HT_.out (by kernel_rfl)) (by decide) (fun K hK => ?_)
     refine goes_ Try.func23 (by kernel_rfl) rfl #[.slice A361_0 (rd_L1 t331 0).length c361_0, .slice Ao68 t362.length co68] (by rfl) rfl rfl qM ?_
     with_reducible refine (laws_equalInts.calls k2 _ _ (rd_L1 t331 0) _ _ t362 t365 _ ?side1 ?side2 ?side3 ?side4 A49.out).mono ?_
     (case side1 => repeat (first | exact (by repeat (first | (with_reducible exact HR361_0.out) | (with_reducible refine Kd.C_alloc ?_ _) | (with_reducible refine Kd.C_drewN ?_ _) | (with_reducible refine Kd.C_drew ?_) | exact HR361_0.out)) | (with_reducible refine Kd.C_alloc ?_ _) | (with_reducible refine Kd.C_drewN ?_ _) | (with_reducible refine Kd.C_drew ?_)))
     (case side2 => exact HC361_0.out)
     (case side3 => exact qC (Kd.R_reads' HO364.out).2.2)
     (case side4 => exact (Kd.R_reads' HO364.out).2.1)
     rintro e w' ⟨rfl, ⟨nd, rfl⟩⟩
     refine ⟨_, rfl, ?_⟩
     refine hK.out _ _ ⟨(blk_cell BK359.out 0).trans rfl, (blk_cell BK359.out 1).trans rfl, (blk_cell BK359.out 2).trans rfl, (blk_cell BK359.out 3).trans rfl, (blk_cell BK330.out 0).trans rfl, (blk_cell BK330.out 1).trans rfl, (blk_cell BK330.out 2).trans rfl, (blk_cell BK330.out 3).trans rfl, hHeld.2.2.2.2.2.2.2.2⟩ (fun hHeld => ?_)
     clear hK K
     refine norm_ (a' := ?_) ?_ ?_
     rotate_left
     ·show Act.put _ (some 99) _ = _
      refine pZ ?_
      rfl
     refine pQ 16 100 HT_ (bA 18 131071) ?_
     refine pQ 17 2 HT_ (bA 18 262143) ?_
     refine done_ (done_of HT_.out (by kernel_rfl)) ?_
     try go_wp2
     go_ret
     exact ⟨qX, by exact qW HB.out⟩
def laws_FnPaletteOf.Pure : Prop := ∀ (l0 : List Int), l0.length ≤ maxLen → l0.length * 1 ≤ 140737488351232 → (∀ x ∈ l0, (Lit.int .u8 x).wf = true) → ∃ k, laws_FnPaletteOf.f k l0 = some true
theorem laws_FnPaletteOf.walk (P : laws_FnPaletteOf.Pure) (a0 : Option Addr) (len0 cap0 : Nat) (z0 : List Int) (w : World) (w0 : (a0 = none ∧ len0 = 0 ∧ cap0 = 0 ∧ z0 = []) ∨ ∃ x, a0 = some x ∧ len0 ≤ cap0 ∧ cap0 ≤ maxLen ∧ z0.length = cap0 ∧ (∀ i, i < z0.length → w.cell? (x.add i) = some (.int .u8 (z0.getD i 0))) ∧ ∀ n ∈ z0, (Lit.int .u8 n).wf = true) (y0 : len0 * 1 ≤ 140737488351232) :
  Calls Try.prog 4 #[.slice a0 len0 cap0] w fun e w' => e = .returned (.bool true) ∧ Below w.heap.size w w' := by
 obtain ⟨l0, rfl, hr0, hm0, hw0, hc0⟩ := ReadsInt.ofRowC w0
 obtain ⟨k, h⟩ := P l0 hm0 y0 hw0
 refine (laws_FnPaletteOf.calls k _ _ l0 true w (Kd.C_of_reads (d := (0 : Int)) (h1 := fun _ => rfl) hr0) hc0 h rfl).mono ?_
 rintro e w' ⟨rfl, hd⟩
 exact ⟨rfl, hd⟩
end Go.Proofs.Ytohbpilokmppbaa.P
