/- Contracts and row, written by a program of this place out of the translation: the call answers true and its argument reads as before, for every input; no condition. -/
import Derived.Test.YteeeedmmcdlhjaaK0
import Derived.Test.YteeeedmmcdlhjaaK2
import Derived.Test.YteeeedmmcdlhjaaK3
import Derived.Test.YteeeedmmcdlhjaaK4
import Derived.Test.YteeeedmmcdlhjaaK6
namespace Go.Proofs.Yteeeedmmcdlhjaa.P
open Go.RowKit Go.Proofs.YteeeedmmcdlhjaaW.PrintWords Go.Proofs.YteeeedmmcdlhjaaW.PrintLast Go.Proofs.YteeeedmmcdlhjaaW.PrintMore
attribute [local go_sem] max2_int min2_int max_two min_two max_three min_three max_four min_four   -- for this text's walks alone
set_option linter.unusedVariables false
set_option linter.unusedSimpArgs false
def laws_FnConvolveImageTurn.j0 : Nat → Bool → Int → Int → Int → List Int → Int → List Int → Int → Int → Int → Int → List Int → Option (Bool)
 | 0, _, _, _, _, _, _, _, _, _, _, _, _ => none
 | k + 1, x28, x851000, x851001, x851002, x851003, x852000, x852001, x852002, x859000, x859001, x859002, x859003 => if x28 = true then ((spec_ConvolveImage.f k x851000 x851001 x851002 x851003 x852000 x852001 x852002).bind fun bt866 => ((laws_equalImage.f k x859000 x859001 x859002 x859003 bt866.1 bt866.2.1 bt866.2.2.1 bt866.2.2.2).bind fun t872 => (some t872))) else ((some (([1, 1, 1, 1, 1, 1, 1, 1, 1] : List Int) : List Int)).bind fun y873 => ((impl_TurnImage.f x851000 x851001 x851002 x851003 1).bind fun bt877 => ((impl_ConvolveImage.f bt877.1 bt877.2.1 bt877.2.2.1 bt877.2.2.2 1 y873 9).bind fun bt883 => ((impl_ConvolveImage.f x851000 x851001 x851002 x851003 1 y873 9).bind fun bt889 => ((impl_TurnImage.f bt889.1 bt889.2.1 bt889.2.2.1 bt889.2.2.2 1).bind fun bt895 => ((laws_equalImage.f k bt883.1 bt883.2.1 bt883.2.2.1 bt883.2.2.2 bt895.1 bt895.2.1 bt895.2.2.1 bt895.2.2.2).bind fun t901 => (some t901)))))))
def laws_FnConvolveImageTurn.f (k : Nat) (l0 : List Int) : Option (Bool) := if (l0.length : Int) > 1048576 then (some true) else ((spec_DrawConvolveImage.f k l0).bind fun bt839 => ((impl_ConvolveImage.f bt839.1 bt839.2.1 bt839.2.2.1 bt839.2.2.2.1 bt839.2.2.2.2.1 bt839.2.2.2.2.2.1 bt839.2.2.2.2.2.2).bind fun bt852 => ((spec_ConvolveImage.f k bt839.1 bt839.2.1 bt839.2.2.1 bt839.2.2.2.1 bt839.2.2.2.2.1 bt839.2.2.2.2.2.1 bt839.2.2.2.2.2.2).bind fun bt859 => ((laws_equalImage.f k bt852.1 bt852.2.1 bt852.2.2.1 bt852.2.2.2 bt859.1 bt859.2.1 bt859.2.2.1 bt859.2.2.2).bind fun t865 => (if t865 = true then (laws_FnConvolveImageTurn.j0 k (bt852.1 == 0) bt839.1 bt839.2.1 bt839.2.2.1 bt839.2.2.2.1 bt839.2.2.2.2.1 bt839.2.2.2.2.2.1 bt839.2.2.2.2.2.2 bt852.1 bt852.2.1 bt852.2.2.1 bt852.2.2.2) else (laws_FnConvolveImageTurn.j0 k true bt839.1 bt839.2.1 bt839.2.2.1 bt839.2.2.2.1 bt839.2.2.2.2.1 bt839.2.2.2.2.2.1 bt839.2.2.2.2.2.2 bt852.1 bt852.2.1 bt852.2.2.1 bt852.2.2.2))))))
theorem laws_FnConvolveImageTurn.mono_l : ∀ k, (∀ y0 y1 y2 y3 y4 y5 y6 y7 y8 y9 y10 y11, LeO (laws_FnConvolveImageTurn.j0 k y0 y1 y2 y3 y4 y5 y6 y7 y8 y9 y10 y11) (laws_FnConvolveImageTurn.j0 (k + 1) y0 y1 y2 y3 y4 y5 y6 y7 y8 y9 y10 y11))
 | 0 => fun _ _ _ _ _ _ _ _ _ _ _ _ r h => by simp [laws_FnConvolveImageTurn.j0] at h
 | k + 1 => by
  have ih0 := laws_FnConvolveImageTurn.mono_l k
  ·intro y0 y1 y2 y3 y4 y5 y6 y7 y8 y9 y10 y11
   unfold laws_FnConvolveImageTurn.j0
   repeat' first | (with_reducible first | exact ih0 _ _ _ _ _ _ _ _ _ _ _ _ | exact laws_equalImage.mono _ _ _ _ _ _ _ _ _ | exact spec_ConvolveImage.mono _ _ _ _ _ _ _ _ | exact spec_DrawConvolveImage.mono _ _ | exact lR | exact lN | refine lI ?_ ?_ | refine lB ?_ fun _ => ?_) | exact ih0 _ _ _ _ _ _ _ _ _ _ _ _ | exact laws_equalImage.mono _ _ _ _ _ _ _ _ _ | exact spec_ConvolveImage.mono _ _ _ _ _ _ _ _ | exact spec_DrawConvolveImage.mono _ _ | exact lN | refine lI ?_ ?_ | refine lB ?_ fun _ => ?_
theorem laws_FnConvolveImageTurn.mono : ∀ a0 k, LeO (laws_FnConvolveImageTurn.f k a0) (laws_FnConvolveImageTurn.f (k + 1) a0) := by
 intro a0 k
 have ih0 := laws_FnConvolveImageTurn.mono_l k
 unfold laws_FnConvolveImageTurn.f
 repeat' first | (with_reducible first | exact ih0 _ _ _ _ _ _ _ _ _ _ _ _ | exact laws_equalImage.mono _ _ _ _ _ _ _ _ _ | exact spec_ConvolveImage.mono _ _ _ _ _ _ _ _ | exact spec_DrawConvolveImage.mono _ _ | exact lR | exact lN | refine lI ?_ ?_ | refine lB ?_ fun _ => ?_) | exact ih0 _ _ _ _ _ _ _ _ _ _ _ _ | exact laws_equalImage.mono _ _ _ _ _ _ _ _ _ | exact spec_ConvolveImage.mono _ _ _ _ _ _ _ _ | exact spec_DrawConvolveImage.mono _ _ | exact lN | refine lI ?_ ?_ | refine lB ?_ fun _ => ?_
def laws_FnConvolveImageTurn.T5 : Bool × List (List Nat × List Nat) := (true, [([], []), ([], []), ([], []), ([1, 2], [1, 2]), ([0, 3, 3], [0, 3]), ([4], [4]), ([5, 4], [5]), ([6], [6]), ([7, 6], [6, 7]), ([8, 6], [6, 8]), ([6, 9], [6, 9])])
def laws_FnConvolveImageTurn.B5 : List Nat := [0, 0, 0, 6, 15, 31, 63, 127, 255, 511, 1023]
theorem laws_FnConvolveImageTurn.tab5 : rtab .any (opsOf Try.f11 5) = laws_FnConvolveImageTurn.T5 := by kernel_rfl
theorem laws_FnConvolveImageTurn.bits5 : waitsOk laws_FnConvolveImageTurn.T5.2 laws_FnConvolveImageTurn.B5 = true := by kernel_rfl
def laws_FnConvolveImageTurn.T8 : Bool × List (List Nat × List Nat) := (true, [([], []), ([0], [0]), ([], []), ([1, 2, 1], [1, 2]), ([], []), ([], []), ([4, 5, 3], [4, 5]), ([6, 6], [6]), ([3, 7, 7], [3, 7]), ([8, 8, 0, 1, 2, 3, 4, 5, 6, 7, 8], [8])])
def laws_FnConvolveImageTurn.B8 : List Nat := [0, 1, 0, 7, 0, 0, 63, 127, 255, 511]
theorem laws_FnConvolveImageTurn.tab8 : rtab .any (opsOf Try.f11 8) = laws_FnConvolveImageTurn.T8 := by kernel_rfl
theorem laws_FnConvolveImageTurn.bits8 : waitsOk laws_FnConvolveImageTurn.T8.2 laws_FnConvolveImageTurn.B8 = true := by kernel_rfl
set_option maxHeartbeats 8000000 in
set_option maxRecDepth 100000 in
theorem laws_FnConvolveImageTurn.calls (k : Nat) (A0 : Option Addr) (c0 : Nat) (l0 : List Int) (r : Bool) (w : World) (hr0 : Kd.C (Kd.int .u8) w A0 l0.length l0) (hc0 : l0.length ≤ c0) (h : laws_FnConvolveImageTurn.f k l0 = some r) :
  Calls Try.prog 11 #[.slice A0 l0.length c0] w fun e w' => e = .returned (.bool r) ∧ Below w.heap.size w w' := by
 have hu27 := Try.underlying27
 have hu49 := Try.underlying49
 have HR0 := aM hr0
 have HC0 := aM hc0
 clear hr0 hc0
 have HB := aM (Below.refl w.heap.size w)
 unfold laws_FnConvolveImageTurn.f at h
 have H := h
 clear h
 by_cases c2 : (l0.length : Int) > 1048576
 ·rw [if_pos c2] at H
  have c2b0 : decide (1048576 < (l0.length : Int)) = true := decide_eq_true c2
  have c2b1 : decide (1048576 < l0.length) = true := decide_eq_true (by omega)
  clear c2
  obtain rfl := Option.some.inj H
  go_enter Try.func11, Try.ntmps11
  go_wp2
  go_ret
  exact ⟨qX, by exact qW HB.out⟩
 rw [if_neg c2] at H
 have c2b0 : decide (1048576 < (l0.length : Int)) = false := decide_eq_false c2
 have c2b1 : decide (1048576 < l0.length) = false := decide_eq_false (by omega)
 clear c2
 replace H := Option.bind_eq_some_iff.mp H
 obtain ⟨⟨t839, t840, t841, t842, t845, t846, t849⟩, A30, H⟩ := H
 replace H : ((impl_ConvolveImage.f t839 t840 t841 t842 t845 t846 t849).bind fun bt852 => ((spec_ConvolveImage.f k t839 t840 t841 t842 t845 t846 t849).bind fun bt859 => ((laws_equalImage.f k bt852.1 bt852.2.1 bt852.2.2.1 bt852.2.2.2 bt859.1 bt859.2.1 bt859.2.2.1 bt859.2.2.2).bind fun t865 => (if t865 = true then (laws_FnConvolveImageTurn.j0 k (bt852.1 == 0) t839 t840 t841 t842 t845 t846 t849 bt852.1 bt852.2.1 bt852.2.2.1 bt852.2.2.2) else (laws_FnConvolveImageTurn.j0 k true t839 t840 t841 t842 t845 t846 t849 bt852.1 bt852.2.1 bt852.2.2.1 bt852.2.2.2))))) = some r := H
 have A3 := aM A30
 clear A30
 replace H := Option.bind_eq_some_iff.mp H
 obtain ⟨⟨t852, t853, t854, t855⟩, A40, H⟩ := H
 replace H : ((spec_ConvolveImage.f k t839 t840 t841 t842 t845 t846 t849).bind fun bt859 => ((laws_equalImage.f k t852 t853 t854 t855 bt859.1 bt859.2.1 bt859.2.2.1 bt859.2.2.2).bind fun t865 => (if t865 = true then (laws_FnConvolveImageTurn.j0 k (t852 == 0) t839 t840 t841 t842 t845 t846 t849 t852 t853 t854 t855) else (laws_FnConvolveImageTurn.j0 k true t839 t840 t841 t842 t845 t846 t849 t852 t853 t854 t855)))) = some r := H
 have A4 := aM A40
 clear A40
 have HC5 := aM H
 clear H
 go_enter Try.func11, Try.ntmps11
 go_upto_region 5 with (first | ((with_reducible refine gate_callee (f := 38) rfl ?_); refine gL (some 12) Try.func38 #[.slice A0 l0.length c0] ?_; (with_reducible refine (spec_DrawConvolveImage.calls k _ _ l0 t839 t840 t841 t842 t845 t846 t849 _ ?side1 ?side2 A3.out).mono ?_); (case side1 => exact qC HR0.out); (case side2 => exact HC0.out); rintro e w6 ⟨v843, v847, rfl, ho0, ho1, hb⟩; refine ⟨_, rfl, ?_⟩; have HO844 := aM (Kd.Q_lower ho0 (below_size (qW HB.out))); have HO848 := oR ho1 HB; replace HB := bS HB hb; clear hb ho0 ho1) | ((with_reducible refine gate_dst (N := 3) rfl ?_); refine bxE (N := 3) (cs := #[.int .i64 0, .int .i64 0, .int .i64 0, .slice none 0 0]) (t := 27) ?_; intro gb850 hg w7 hbox hb; replace HO844 := aM (Kd.Q_below (qQ HO844.out) hb); replace HO848 := aM (Kd.R_below (qR HO848.out) hb); have BK850 := aM (hbox); have GW850 := gW hg HB; have GE850 := gW hg HB; replace HB := bS HB hb; clear hb hbox hg) | ((with_reducible refine gate_dst (N := 4) rfl ?_); refine bxE (N := 4) (cs := #[.int .i64 0, .slice none 0 0, .int .i64 0]) (t := 49) ?_; intro gb851 hg w8 hbox hb; replace HO844 := aM (Kd.Q_below (qQ HO844.out) hb); replace HO848 := aM (Kd.R_below (qR HO848.out) hb); have BK851 := aM (hbox); have GW851 := gW hg HB; have GE851 := gW hg HB; replace HB := bS HB hb; have NB850_851 := nL hg BK850; have NB851_850 := nG hg BK850; replace BK850 := bB BK850 hb; clear hb hbox hg; have hnb9 := NB850_851.out; have hnc9 := NB851_850.out; obtain ⟨⟨hcz10_0, hcz10_1, hcz10_2, hcz10_3⟩, hfz10_0, hfz10_1, hfz10_2, hfz10_3⟩ := cf4 BK850; obtain ⟨Ao11, co11, eo11, _⟩ := Kd.Q_slice HO844.out; subst eo11; obtain ⟨⟨hcz12_0, hcz12_1, hcz12_2⟩, hfz12_0, hfz12_1, hfz12_2⟩ := cf3 BK851; obtain ⟨Ao13, co13, rfl⟩ := sL HO848) | ((with_reducible refine gate_callee (f := 35) rfl ?_); refine gL (some 17) Try.func35 #[.agg #[.int .i64 t839, .int .i64 t840, .int .i64 t841, .slice Ao11 t842.length co11], .agg #[.int .i64 t845, .slice Ao13 t846.length co13, .int .i64 t849]] ?_; (with_reducible refine (impl_ConvolveImage.calls t839 t840 t841 _ _ t842 t845 _ _ t846 t849 t852 t853 t854 t855 _ ?side1 ?side2 ?side3 ?side4 A4.out).mono ?_); (case side1 => refine (Kd.Q_reads' (e := 3) (base := w.heap.size) (ok := fun k_ => some k_ ≠ (.slice Ao13 t846.length co13 : Value).ownBlock) (n := t842.length) (c := co11) ?_).2.2; exact (by (with_reducible repeat (first | apply Kd.Q_alloc | apply Kd.Q_drewN | apply Kd.Q_drew)); exact (Kd.Q_mono (Kd.Q_mono (Kd.Q_far (p := ⟨gb851, 2, none⟩) (Kd.Q_far (p := ⟨gb851, 1, none⟩) (Kd.Q_far (p := ⟨gb851, 0, none⟩) (Kd.Q_far (p := ⟨gb850, 3, none⟩) (Kd.Q_far (p := ⟨gb850, 2, none⟩) (Kd.Q_far (p := ⟨gb850, 1, none⟩) (Kd.Q_far (p := ⟨gb850, 0, none⟩) (Kd.Q_types (Kd.Q_types HO844.out BK850.out (by decide)) BK851.out (by decide)) (fun _ hk => hk.1.2) (.int .i64 t839)) (fun _ hk => hk.1.2) (.int .i64 t840)) (fun _ hk => hk.1.2) (.int .i64 t841)) (fun _ hk => hk.1.2) (.slice Ao11 t842.length co11)) (fun _ hk => hk.2) (.int .i64 t845)) (fun _ hk => hk.2) (.slice Ao13 t846.length co13)) (fun _ hk => hk.2) (.int .i64 t849)) (fun _ h_ => h_.1)) (fun _ h_ => h_.1)))); (case side2 => exact (Kd.Q_reads' HO844.out).2.1); (case side3 => refine (Kd.R_reads' (e := 3) (base := w.heap.size) (ok := fun k_ => some k_ ≠ (.slice Ao11 t842.length co11 : Value).ownBlock) (n := t846.length) (c := co13) ?_).2.2; exact (by refine qR ?_; exact (Kd.R_mono (Kd.R_mono (Kd.R_far (p := ⟨gb851, 2, none⟩) (Kd.R_far (p := ⟨gb851, 1, none⟩) (Kd.R_far (p := ⟨gb851, 0, none⟩) (Kd.R_far (p := ⟨gb850, 3, none⟩) (Kd.R_far (p := ⟨gb850, 2, none⟩) (Kd.R_far (p := ⟨gb850, 1, none⟩) (Kd.R_far (p := ⟨gb850, 0, none⟩) (Kd.R_types (Kd.R_types HO848.out BK850.out (by decide)) BK851.out (by decide)) (fun _ hk => hk.1.2) (.int .i64 t839)) (fun _ hk => hk.1.2) (.int .i64 t840)) (fun _ hk => hk.1.2) (.int .i64 t841)) (fun _ hk => hk.1.2) (.slice Ao11 t842.length co11)) (fun _ hk => hk.2) (.int .i64 t845)) (fun _ hk => hk.2) (.slice Ao13 t846.length co13)) (fun _ hk => hk.2) (.int .i64 t849)) (fun _ h_ => h_.1)) (fun _ h_ => h_.1)))); (case side4 => exact (Kd.R_reads' HO848.out).2.1); rintro e w14 ⟨v856, rfl, ho0, hb⟩; refine ⟨_, rfl, ?_⟩; have HO857 := aM (Kd.R_lower (Kd.R_new' (Kd.R_new' ho0 (Kd.Q_lt (by (with_reducible repeat (first | apply Kd.Q_alloc | apply Kd.Q_drewN | apply Kd.Q_drew)); exact (Kd.Q_mono (Kd.Q_mono (Kd.Q_far (p := ⟨gb851, 2, none⟩) (Kd.Q_far (p := ⟨gb851, 1, none⟩) (Kd.Q_far (p := ⟨gb851, 0, none⟩) (Kd.Q_far (p := ⟨gb850, 3, none⟩) (Kd.Q_far (p := ⟨gb850, 2, none⟩) (Kd.Q_far (p := ⟨gb850, 1, none⟩) (Kd.Q_far (p := ⟨gb850, 0, none⟩) (Kd.Q_types (Kd.Q_types HO844.out BK850.out (by decide)) BK851.out (by decide)) (fun _ hk => hk.1.2) (.int .i64 t839)) (fun _ hk => hk.1.2) (.int .i64 t840)) (fun _ hk => hk.1.2) (.int .i64 t841)) (fun _ hk => hk.1.2) (.slice Ao11 t842.length co11)) (fun _ hk => hk.2) (.int .i64 t845)) (fun _ hk => hk.2) (.slice Ao13 t846.length co13)) (fun _ hk => hk.2) (.int .i64 t849)) (fun _ h_ => h_.1)) (fun _ h_ => h_.1))))) (Kd.R_lt (by refine qR ?_; exact (Kd.R_mono (Kd.R_mono (Kd.R_far (p := ⟨gb851, 2, none⟩) (Kd.R_far (p := ⟨gb851, 1, none⟩) (Kd.R_far (p := ⟨gb851, 0, none⟩) (Kd.R_far (p := ⟨gb850, 3, none⟩) (Kd.R_far (p := ⟨gb850, 2, none⟩) (Kd.R_far (p := ⟨gb850, 1, none⟩) (Kd.R_far (p := ⟨gb850, 0, none⟩) (Kd.R_types (Kd.R_types HO848.out BK850.out (by decide)) BK851.out (by decide)) (fun _ hk => hk.1.2) (.int .i64 t839)) (fun _ hk => hk.1.2) (.int .i64 t840)) (fun _ hk => hk.1.2) (.int .i64 t841)) (fun _ hk => hk.1.2) (.slice Ao11 t842.length co11)) (fun _ hk => hk.2) (.int .i64 t845)) (fun _ hk => hk.2) (.slice Ao13 t846.length co13)) (fun _ hk => hk.2) (.int .i64 t849)) (fun _ h_ => h_.1)) (fun _ h_ => h_.1))))) (below_size (qW HB.out))); replace HO844 := aM (Kd.Q_elder' (by (with_reducible repeat (first | apply Kd.Q_alloc | apply Kd.Q_drewN | apply Kd.Q_drew)); exact (Kd.Q_mono (Kd.Q_mono (Kd.Q_far (p := ⟨gb851, 2, none⟩) (Kd.Q_far (p := ⟨gb851, 1, none⟩) (Kd.Q_far (p := ⟨gb851, 0, none⟩) (Kd.Q_far (p := ⟨gb850, 3, none⟩) (Kd.Q_far (p := ⟨gb850, 2, none⟩) (Kd.Q_far (p := ⟨gb850, 1, none⟩) (Kd.Q_far (p := ⟨gb850, 0, none⟩) (Kd.Q_types (Kd.Q_types HO844.out BK850.out (by decide)) BK851.out (by decide)) (fun _ hk => hk.1.2) (.int .i64 t839)) (fun _ hk => hk.1.2) (.int .i64 t840)) (fun _ hk => hk.1.2) (.int .i64 t841)) (fun _ hk => hk.1.2) (.slice Ao11 t842.length co11)) (fun _ hk => hk.2) (.int .i64 t845)) (fun _ hk => hk.2) (.slice Ao13 t846.length co13)) (fun _ hk => hk.2) (.int .i64 t849)) (fun _ h_ => h_.1)) (fun _ h_ => h_.1))) (Kd.R_base ho0) hb); replace HO848 := aM (Kd.R_elder' (by refine qR ?_; exact (Kd.R_mono (Kd.R_mono (Kd.R_far (p := ⟨gb851, 2, none⟩) (Kd.R_far (p := ⟨gb851, 1, none⟩) (Kd.R_far (p := ⟨gb851, 0, none⟩) (Kd.R_far (p := ⟨gb850, 3, none⟩) (Kd.R_far (p := ⟨gb850, 2, none⟩) (Kd.R_far (p := ⟨gb850, 1, none⟩) (Kd.R_far (p := ⟨gb850, 0, none⟩) (Kd.R_types (Kd.R_types HO848.out BK850.out (by decide)) BK851.out (by decide)) (fun _ hk => hk.1.2) (.int .i64 t839)) (fun _ hk => hk.1.2) (.int .i64 t840)) (fun _ hk => hk.1.2) (.int .i64 t841)) (fun _ hk => hk.1.2) (.slice Ao11 t842.length co11)) (fun _ hk => hk.2) (.int .i64 t845)) (fun _ hk => hk.2) (.slice Ao13 t846.length co13)) (fun _ hk => hk.2) (.int .i64 t849)) (fun _ h_ => h_.1)) (fun _ h_ => h_.1))) (Kd.R_base ho0) hb); replace BK850 := aM (blk_below (g := gb850) (o := .cells #[.int .i64 t839, .int .i64 t840, .int .i64 t841, .slice Ao11 t842.length co11] 27 (0, 0)) (by refine qB ?_; refine blk_far ?_ NB850_851.out _; refine qB ?_; refine blk_far ?_ NB850_851.out _; refine qB ?_; refine blk_far ?_ NB850_851.out _; exact bP BK850.out) hb); replace BK851 := aM (blk_below (g := gb851) (o := .cells #[.int .i64 t845, .slice Ao13 t846.length co13, .int .i64 t849] 49 (0, 0)) (by refine qB ?_; refine blk_put (cs := #[.int .i64 t845, .slice Ao13 t846.length co13, .int .i64 0]) ?_ 2 _ rfl; refine qB ?_; refine blk_put (cs := #[.int .i64 t845, .slice none 0 0, .int .i64 0]) ?_ 1 _ rfl; refine qB ?_; refine blk_put (cs := #[.int .i64 0, .slice none 0 0, .int .i64 0]) ?_ 0 _ rfl; refine qB ?_; refine blk_far ?_ NB851_850.out _; refine qB ?_; refine blk_far ?_ NB851_850.out _; refine qB ?_; refine blk_far ?_ NB851_850.out _; refine qB ?_; refine blk_far ?_ NB851_850.out _; refine qB ?_; exact BK851.out) hb); replace HB := bS HB hb; clear hb ho0) | ((with_reducible refine gate_dst (N := 5) rfl ?_); refine bxE (N := 5) (cs := #[.int .i64 0, .int .i64 0, .int .i64 0, .slice none 0 0]) (t := 27) ?_; intro gb858 hg w15 hbox hb; replace HO844 := aM (Kd.Q_below (qQ HO844.out) hb); replace HO848 := aM (Kd.R_below (qR HO848.out) hb); replace HO857 := aM (Kd.R_below (qR HO857.out) hb); have BK858 := aM (hbox); have GW858 := gW hg HB; have GE858 := gW hg HB; replace HB := bS HB hb; have NB850_858 := nL hg BK850; have NB858_850 := nG hg BK850; replace BK850 := bB BK850 hb; have NB851_858 := nL hg BK851; have NB858_851 := nG hg BK851; replace BK851 := bB BK851 hb; clear hb hbox hg; have hnb16 := NB858_850.out; have hnc16 := NB850_858.out; have hnb17 := NB858_851.out; have hnc17 := NB851_858.out; obtain ⟨⟨hcz18_0, hcz18_1, hcz18_2, hcz18_3⟩, hfz18_0, hfz18_1, hfz18_2, hfz18_3⟩ := cf4 BK858; obtain ⟨Ao19, co19, rfl⟩ := sL HO857))
 (try simp only [Act.put, List.setIfInBounds_toArray, List.set_cons_zero, List.set_cons_succ])
 go_cut [28] (fun v28 wc => ∃ (kq : Nat) (x28_4 : Bool), v28 = .bool x28_4 ∧ Aside0 (laws_FnConvolveImageTurn.j0 kq x28_4 t839 t840 t841 t842 t845 t846 t849 t852 t853 t854 t855 = some r) ∧ Aside0 (kq ≤ k) ∧ Aside0 (Kd.Q (Kd.int .i64) 3 wc w.heap.size (fun k_ => some k_ ≠ ((.slice Ao13 t846.length co13) : Value).ownBlock ∧ some k_ ≠ ((.slice Ao19 t855.length co19) : Value).ownBlock) (.slice Ao11 t842.length co11) t842) ∧ Aside0 (Kd.R (Kd.int .i64) 3 wc w.heap.size (fun k_ => some k_ ≠ ((.slice Ao11 t842.length co11) : Value).ownBlock ∧ some k_ ≠ ((.slice Ao19 t855.length co19) : Value).ownBlock) (.slice Ao13 t846.length co13) t846) ∧ Aside0 (Kd.Q (Kd.int .i64) 3 wc w.heap.size (fun k_ => some k_ ≠ ((.slice Ao11 t842.length co11) : Value).ownBlock ∧ some k_ ≠ ((.slice Ao13 t846.length co13) : Value).ownBlock) (.slice Ao19 t855.length co19) t855) ∧ Aside0 (wc.heap[gb850]? = some (.cells #[.int .i64 t839, .int .i64 t840, .int .i64 t841, (.slice Ao11 t842.length co11)] 27 (0, 0))) ∧ Aside0 (wc.heap[gb851]? = some (.cells #[.int .i64 t845, (.slice Ao13 t846.length co13), .int .i64 t849] 49 (0, 0))) ∧ Aside0 (wc.heap[gb858]? = some (.cells #[.int .i64 t852, .int .i64 t853, .int .i64 t854, (.slice Ao19 t855.length co19)] 27 (0, 0))) ∧ Aside0 (Below w.heap.size w wc))
 case first =>
  have H := HC5.out
  clear HC5
  replace H := Option.bind_eq_some_iff.mp H
  obtain ⟨⟨t859, t860, t861, t862⟩, A200, H⟩ := H
  replace H : ((laws_equalImage.f k t852 t853 t854 t855 t859 t860 t861 t862).bind fun t865 => (if t865 = true then (laws_FnConvolveImageTurn.j0 k (t852 == 0) t839 t840 t841 t842 t845 t846 t849 t852 t853 t854 t855) else (laws_FnConvolveImageTurn.j0 k true t839 t840 t841 t842 t845 t846 t849 t852 t853 t854 t855))) = some r := H
  have A20 := aM A200
  clear A200
  replace H := Option.bind_eq_some_iff.mp H
  obtain ⟨t865, A210, H⟩ := H
  replace H : (if t865 = true then (laws_FnConvolveImageTurn.j0 k (t852 == 0) t839 t840 t841 t842 t845 t846 t849 t852 t853 t854 t855) else (laws_FnConvolveImageTurn.j0 k true t839 t840 t841 t842 t845 t846 t849 t852 t853 t854 t855)) = some r := H
  have A21 := aM A210
  clear A210
  by_cases c22 : t865 = true
  rotate_left
  ·replace c22 := Bool.eq_false_iff.mpr c22
   subst c22
   have H1 : (laws_FnConvolveImageTurn.j0 k true t839 t840 t841 t842 t845 t846 t849 t852 t853 t854 t855) = some r := by rw [if_neg (show ¬ (false = true) by decide)] at H; exact H
   clear H
   have H := H1
   clear H1
   have H' := aM H
   clear H
   try go_wp2
   have n0_ : Aside0 (Kd.Q (Kd.int .i64) 3 ((((w15.setCell ⟨gb858, 0, none⟩ (.int .i64 t852)).setCell ⟨gb858, 1, none⟩ (.int .i64 t853)).setCell ⟨gb858, 2, none⟩ (.int .i64 t854)).setCell ⟨gb858, 3, none⟩ (.slice Ao19 t855.length co19)) w.heap.size (fun k_ => some k_ ≠ (.slice Ao13 t846.length co13 : Value).ownBlock ∧ some k_ ≠ (.slice Ao19 t855.length co19 : Value).ownBlock) (.slice Ao11 t842.length co11) t842) := ⟨by (with_reducible repeat (first | apply Kd.Q_alloc | apply Kd.Q_drewN | apply Kd.Q_drew)); exact Kd.Q_mono (qT HO844 BK858) (fun _ hk => ⟨hk.1.1, hk.1.2⟩)⟩
   have n1_ : Aside0 (Kd.R (Kd.int .i64) 3 ((((w15.setCell ⟨gb858, 0, none⟩ (.int .i64 t852)).setCell ⟨gb858, 1, none⟩ (.int .i64 t853)).setCell ⟨gb858, 2, none⟩ (.int .i64 t854)).setCell ⟨gb858, 3, none⟩ (.slice Ao19 t855.length co19)) w.heap.size (fun k_ => some k_ ≠ (.slice Ao11 t842.length co11 : Value).ownBlock ∧ some k_ ≠ (.slice Ao19 t855.length co19 : Value).ownBlock) (.slice Ao13 t846.length co13) t846) := ⟨by refine qR ?_; exact Kd.R_mono (rT HO848 BK858) (fun _ hk => ⟨hk.1.1, hk.1.2⟩)⟩
   have n2_ : Aside0 (Kd.R (Kd.int .i64) 3 ((((w15.setCell ⟨gb858, 0, none⟩ (.int .i64 t852)).setCell ⟨gb858, 1, none⟩ (.int .i64 t853)).setCell ⟨gb858, 2, none⟩ (.int .i64 t854)).setCell ⟨gb858, 3, none⟩ (.slice Ao19 t855.length co19)) w.heap.size (fun k_ => some k_ ≠ (.slice Ao11 t842.length co11 : Value).ownBlock ∧ some k_ ≠ (.slice Ao13 t846.length co13 : Value).ownBlock) (.slice Ao19 t855.length co19) t855) := ⟨by refine qR ?_; exact Kd.R_mono (rT HO857 BK858) (fun _ hk => by first | exact ⟨hk.1.1.2, hk.1.2⟩ | (revert hk; simp only [and_imp]; intros; and_intros <;> assumption))⟩
   have n3_ : Aside0 (((((w15.setCell ⟨gb858, 0, none⟩ (.int .i64 t852)).setCell ⟨gb858, 1, none⟩ (.int .i64 t853)).setCell ⟨gb858, 2, none⟩ (.int .i64 t854)).setCell ⟨gb858, 3, none⟩ (.slice Ao19 t855.length co19)).heap[gb850]? = some (.cells #[.int .i64 t839, .int .i64 t840, .int .i64 t841, .slice Ao11 t842.length co11] 27 (0, 0))) := ⟨by refine qB ?_; refine blk_far ?_ NB850_858.out _; refine qB ?_; refine blk_far ?_ NB850_858.out _; refine qB ?_; refine blk_far ?_ NB850_858.out _; refine qB ?_; refine blk_far ?_ NB850_858.out _; refine qB ?_; exact BK850.out⟩
   have n4_ : Aside0 (((((w15.setCell ⟨gb858, 0, none⟩ (.int .i64 t852)).setCell ⟨gb858, 1, none⟩ (.int .i64 t853)).setCell ⟨gb858, 2, none⟩ (.int .i64 t854)).setCell ⟨gb858, 3, none⟩ (.slice Ao19 t855.length co19)).heap[gb851]? = some (.cells #[.int .i64 t845, .slice Ao13 t846.length co13, .int .i64 t849] 49 (0, 0))) := ⟨by refine qB ?_; refine blk_far ?_ NB851_858.out _; refine qB ?_; refine blk_far ?_ NB851_858.out _; refine qB ?_; refine blk_far ?_ NB851_858.out _; refine qB ?_; refine blk_far ?_ NB851_858.out _; refine qB ?_; exact BK851.out⟩
   have n5_ : Aside0 (((((w15.setCell ⟨gb858, 0, none⟩ (.int .i64 t852)).setCell ⟨gb858, 1, none⟩ (.int .i64 t853)).setCell ⟨gb858, 2, none⟩ (.int .i64 t854)).setCell ⟨gb858, 3, none⟩ (.slice Ao19 t855.length co19)).heap[gb858]? = some (.cells #[.int .i64 t852, .int .i64 t853, .int .i64 t854, .slice Ao19 t855.length co19] 27 (0, 0))) := ⟨by exact bP BK858.out⟩
   have n6_ : Aside0 (Below w.heap.size w ((((w15.setCell ⟨gb858, 0, none⟩ (.int .i64 t852)).setCell ⟨gb858, 1, none⟩ (.int .i64 t853)).setCell ⟨gb858, 2, none⟩ (.int .i64 t854)).setCell ⟨gb858, 3, none⟩ (.slice Ao19 t855.length co19))) := ⟨by exact qW HB.out⟩
   (try clear HO844)
   (try clear HO848)
   (try clear HO857)
   (try clear BK850)
   (try clear BK851)
   (try clear BK858)
   (try clear HB)
   generalize ((((w15.setCell ⟨gb858, 0, none⟩ (.int .i64 t852)).setCell ⟨gb858, 1, none⟩ (.int .i64 t853)).setCell ⟨gb858, 2, none⟩ (.int .i64 t854)).setCell ⟨gb858, 3, none⟩ (.slice Ao19 t855.length co19)) = w28 at n0_ n1_ n2_ n3_ n4_ n5_ n6_ ⊢
   have HO844 := n0_
   have HO848 := n1_
   have HO857 := n2_
   have BK850 := n3_
   have BK851 := n4_
   have BK858 := n5_
   have HB := n6_
   clear n0_ n1_ n2_ n3_ n4_ n5_ n6_
   replace HO844 := aM (Kd.Q_drew HO844.out)
   replace HO848 := aM (Kd.R_drew HO848.out)
   replace HO857 := aM (Kd.R_drew HO857.out)
   replace BK850 := aM (blk_drew BK850.out)
   replace BK851 := aM (blk_drew BK851.out)
   replace BK858 := aM (blk_drew BK858.out)
   replace HB := aM (below_drew1 HB.out)
   refine start_ (n := 11) (S := fun w' => w'.cell? ⟨gb858, 0, none⟩ = some (.int .i64 t852) ∧ w'.cell? ⟨gb858, 1, none⟩ = some (.int .i64 t853) ∧ w'.cell? ⟨gb858, 2, none⟩ = some (.int .i64 t854) ∧ w'.cell? ⟨gb858, 3, none⟩ = some (.slice Ao19 t855.length co19) ∧ w'.cell? ⟨gb850, 0, none⟩ = some (.int .i64 t839) ∧ w'.cell? ⟨gb850, 1, none⟩ = some (.int .i64 t840) ∧ w'.cell? ⟨gb850, 2, none⟩ = some (.int .i64 t841) ∧ w'.cell? ⟨gb850, 3, none⟩ = some (.slice Ao11 t842.length co11) ∧ w'.cell? ⟨gb851, 0, none⟩ = some (.int .i64 t845) ∧ w'.cell? ⟨gb851, 1, none⟩ = some (.slice Ao13 t846.length co13) ∧ w'.cell? ⟨gb851, 2, none⟩ = some (.int .i64 t849)) (ds := []) (bA 11 0) (by kernel_rfl) rfl rfl ⟨(blk_cell BK858.out 0).trans rfl, (blk_cell BK858.out 1).trans rfl, (blk_cell BK858.out 2).trans rfl, (blk_cell BK858.out 3).trans rfl, (blk_cell BK850.out 0).trans rfl, (blk_cell BK850.out 1).trans rfl, (blk_cell BK850.out 2).trans rfl, (blk_cell BK850.out 3).trans rfl, (blk_cell BK851.out 0).trans rfl, (blk_cell BK851.out 1).trans rfl, (blk_cell BK851.out 2).trans rfl⟩ (fun hHeld => ?_); refine with_tabW laws_FnConvolveImageTurn.tab5 laws_FnConvolveImageTurn.bits5 (fun HT_ HW_ => ?_)
   generalize w28.drew = w29 at HO844 HO848 HO857 BK850 BK851 BK858 HB hHeld ⊢
   refine take_ (i := 0) (N := some 18) (v := ?_) (a' := ?_) (bA 11 1) rfl rfl (take_ofW HT_.out HW_.out (by kernel_rfl)) (fun _ _ _ h => h) (Or.inl ⟨by rfl, ?_⟩) hHeld ?_ ?_
   rotate_left
   ·rintro w' ⟨s0, s1, s2, s3, s4, s5, s6, s7, s8, s9, s10⟩
    go_simp
    with_reducible rfl
   rotate_left
   ·refine pZ ?_
    rfl
   refine take_ (i := 1) (N := some 19) (v := ?_) (a' := ?_) (bA 11 3) rfl rfl (take_ofW HT_.out HW_.out (by kernel_rfl)) (fun _ _ _ h => h) (Or.inl ⟨by rfl, ?_⟩) hHeld ?_ ?_
   rotate_left
   ·rintro w' ⟨s0, s1, s2, s3, s4, s5, s6, s7, s8, s9, s10⟩
    go_simp
    with_reducible rfl
   rotate_left
   ·refine pZ ?_
    rfl
   refine take_ (i := 2) (N := some 20) (v := ?_) (a' := ?_) (bA 11 7) rfl rfl (take_ofW HT_.out HW_.out (by kernel_rfl)) (fun _ _ _ h => h) (Or.inl ⟨by rfl, ?_⟩) hHeld ?_ ?_
   rotate_left
   ·rintro w' ⟨s0, s1, s2, s3, s4, s5, s6, s7, s8, s9, s10⟩
    go_simp
    with_reducible rfl
   rotate_left
   ·refine pZ ?_
    rfl
   refine one_ (i := 3) (N := some 21) (bA 11 15) rfl rfl (one_of HT_.out (by kernel_rfl)) (by decide) (fun K hK => ?_)
   refine goes_ Try.func33 (by kernel_rfl) rfl #[.agg #[.int .i64 t839, .int .i64 t840, .int .i64 t841, .slice Ao11 t842.length co11], .agg #[.int .i64 t845, .slice Ao13 t846.length co13, .int .i64 t849]] (by rfl) rfl rfl qM ?_
   with_reducible refine (spec_ConvolveImage.calls k t839 t840 t841 _ _ t842 t845 _ _ t846 t849 t859 t860 t861 t862 _ ?side1 ?side2 ?side3 ?side4 A20.out).mono ?_
   (case side1 => exact qC (Kd.Q_reads' HO844.out).2.2)
   (case side2 => exact (Kd.Q_reads' HO844.out).2.1)
   (case side3 => exact qC (Kd.R_reads' HO848.out).2.2)
   (case side4 => exact (Kd.R_reads' HO848.out).2.1)
   rintro e w30 ⟨v863, rfl, ho0, hb⟩
   refine ⟨_, rfl, ?_⟩
   have HO864 := aM (Kd.R_lower (Kd.R_new' (Kd.R_new' (Kd.R_new' ho0 (Kd.Q_lt (qQ HO844.out))) (Kd.R_lt (qR HO848.out))) (Kd.R_lt (qR HO857.out))) (below_size (qW HB.out)))
   replace HO844 := aM (Kd.Q_elder' (qQ HO844.out) (Kd.R_base ho0) hb)
   replace HO848 := aM (Kd.R_elder' (qR HO848.out) (Kd.R_base ho0) hb)
   replace HO857 := aM (Kd.R_elder' (qR HO857.out) (Kd.R_base ho0) hb)
   replace BK850 := bB BK850 hb
   replace BK851 := bB BK851 hb
   replace BK858 := bB BK858 hb
   replace HB := bS HB hb
   (try clear hb)
   (try clear hb2)
   (try clear hk)
   (try clear hi)
   (try clear ho0)
   obtain ⟨Ao31, co31, eo31⟩ := Kd.R_slice HO864.out
   (first | subst eo31 | (injection eo31 with f1_ f2_ f3_; have f4_ := f1_.symm; have f5_ := f3_.symm; clear f1_ f2_ f3_; subst f4_; subst f5_))
   refine hK.out _ _ ⟨(blk_cell BK858.out 0).trans rfl, (blk_cell BK858.out 1).trans rfl, (blk_cell BK858.out 2).trans rfl, (blk_cell BK858.out 3).trans rfl, (blk_cell BK850.out 0).trans rfl, (blk_cell BK850.out 1).trans rfl, (blk_cell BK850.out 2).trans rfl, (blk_cell BK850.out 3).trans rfl, (blk_cell BK851.out 0).trans rfl, (blk_cell BK851.out 1).trans rfl, (blk_cell BK851.out 2).trans rfl⟩ (fun hHeld => ?_)
   clear hK K
   refine norm_ (a' := ?_) ?_ ?_
   rotate_left
   ·show Act.put _ (some 21) _ = _
    refine pZ ?_
    rfl
   refine one_ (i := 4) (N := some 22) (bA 11 31) rfl rfl (one_of HT_.out (by kernel_rfl)) (by decide) (fun K hK => ?_)
   refine goes_ Try.func15 (by kernel_rfl) rfl #[.agg #[.int .i64 t852, .int .i64 t853, .int .i64 t854, .slice Ao19 t855.length co19], .agg #[.int .i64 t859, .int .i64 t860, .int .i64 t861, .slice Ao31 t862.length co31]] (by rfl) rfl rfl qM ?_
   with_reducible refine (laws_equalImage.calls k t852 t853 t854 _ _ t855 t859 t860 t861 _ _ t862 false _ ?side1 ?side2 ?side3 ?side4 A21.out).mono ?_
   (case side1 => exact qC (Kd.R_reads' HO857.out).2.2)
   (case side2 => exact (Kd.R_reads' HO857.out).2.1)
   (case side3 => exact qC (Kd.R_reads' HO864.out).2.2)
   (case side4 => exact (Kd.R_reads' HO864.out).2.1)
   rintro e w32 ⟨rfl, hb⟩
   refine ⟨_, rfl, ?_⟩
   replace HO844 := aM (Kd.Q_below (qQ HO844.out) hb)
   replace HO848 := aM (Kd.R_below (qR HO848.out) hb)
   replace HO857 := aM (Kd.R_below (qR HO857.out) hb)
   replace HO864 := aM (Kd.R_below (qR HO864.out) hb)
   replace BK850 := bB BK850 hb
   replace BK851 := bB BK851 hb
   replace BK858 := bB BK858 hb
   replace HB := bS HB hb
   (try clear hb)
   (try clear hb2)
   (try clear hk)
   (try clear hi)
   refine hK.out _ _ ⟨(blk_cell BK858.out 0).trans rfl, (blk_cell BK858.out 1).trans rfl, (blk_cell BK858.out 2).trans rfl, (blk_cell BK858.out 3).trans rfl, (blk_cell BK850.out 0).trans rfl, (blk_cell BK850.out 1).trans rfl, (blk_cell BK850.out 2).trans rfl, (blk_cell BK850.out 3).trans rfl, (blk_cell BK851.out 0).trans rfl, (blk_cell BK851.out 1).trans rfl, (blk_cell BK851.out 2).trans rfl⟩ (fun hHeld => ?_)
   clear hK K
   refine norm_ (a' := ?_) ?_ ?_
   rotate_left
   ·show Act.put _ (some 22) _ = _
    refine pZ ?_
    rfl
   refine pQ 5 23 HT_ (bA 11 63) ?_
   refine pQ 6 24 HT_ (bA 11 127) ?_
   refine pure_ (i := 7) (N := some 25) (v := undef) (a' := ?_) (bA 11 255) rfl rfl (any_of HT_.out (by kernel_rfl)) (fun _ _ _ h => h) (Or.inr ⟨by rfl, rfl⟩) ?_ ?_
   rotate_left
   ·refine pZ ?_
    rfl
   refine pure_ (i := 8) (N := some 26) (v := undef) (a' := ?_) (bA 11 511) rfl rfl (any_of HT_.out (by kernel_rfl)) (fun _ _ _ h => h) (Or.inr ⟨by rfl, rfl⟩) ?_ ?_
   rotate_left
   ·refine pZ ?_
    rfl
   refine pure_ (i := 9) (N := some 27) (v := undef) (a' := ?_) (bA 11 1023) rfl rfl (any_of HT_.out (by kernel_rfl)) (fun _ _ _ h => h) (Or.inr ⟨by rfl, rfl⟩) ?_ ?_
   rotate_left
   ·refine pZ ?_
    rfl
   refine pQ 10 28 HT_ (bA 11 2047) ?_
   refine done_ (done_of HT_.out (by kernel_rfl)) ?_
   try go_wp2
   go_meet
   case rel => exact ⟨_, (true), qE, H', ⟨by first | omega | exact Nat.le_refl _⟩, ⟨by (with_reducible repeat (first | apply Kd.Q_alloc | apply Kd.Q_drewN | apply Kd.Q_drew)); exact Kd.Q_mono HO844.out (fun _ hk => ⟨hk.1.1, hk.1.2⟩)⟩, ⟨by refine qR ?_; exact Kd.R_mono HO848.out (fun _ hk => ⟨hk.1.1, hk.1.2⟩)⟩, ⟨Kd.Q_of_R (by refine qR ?_; exact Kd.R_mono HO857.out (fun _ hk => ⟨hk.1.1, hk.1.2⟩))⟩, ⟨by refine qB ?_; exact BK850.out⟩, ⟨by refine qB ?_; exact BK851.out⟩, ⟨by refine qB ?_; exact BK858.out⟩, ⟨by exact qW HB.out⟩⟩
  subst c22
  have H1 : (laws_FnConvolveImageTurn.j0 k (t852 == 0) t839 t840 t841 t842 t845 t846 t849 t852 t853 t854 t855) = some r := by rw [if_pos rfl] at H; exact H
  clear H
  have H := H1
  clear H1
  have H' := aM H
  clear H
  try go_wp2
  have n0_ : Aside0 (Kd.Q (Kd.int .i64) 3 ((((w15.setCell ⟨gb858, 0, none⟩ (.int .i64 t852)).setCell ⟨gb858, 1, none⟩ (.int .i64 t853)).setCell ⟨gb858, 2, none⟩ (.int .i64 t854)).setCell ⟨gb858, 3, none⟩ (.slice Ao19 t855.length co19)) w.heap.size (fun k_ => some k_ ≠ (.slice Ao13 t846.length co13 : Value).ownBlock ∧ some k_ ≠ (.slice Ao19 t855.length co19 : Value).ownBlock) (.slice Ao11 t842.length co11) t842) := ⟨by (with_reducible repeat (first | apply Kd.Q_alloc | apply Kd.Q_drewN | apply Kd.Q_drew)); exact Kd.Q_mono (qT HO844 BK858) (fun _ hk => ⟨hk.1.1, hk.1.2⟩)⟩
  have n1_ : Aside0 (Kd.R (Kd.int .i64) 3 ((((w15.setCell ⟨gb858, 0, none⟩ (.int .i64 t852)).setCell ⟨gb858, 1, none⟩ (.int .i64 t853)).setCell ⟨gb858, 2, none⟩ (.int .i64 t854)).setCell ⟨gb858, 3, none⟩ (.slice Ao19 t855.length co19)) w.heap.size (fun k_ => some k_ ≠ (.slice Ao11 t842.length co11 : Value).ownBlock ∧ some k_ ≠ (.slice Ao19 t855.length co19 : Value).ownBlock) (.slice Ao13 t846.length co13) t846) := ⟨by refine qR ?_; exact Kd.R_mono (rT HO848 BK858) (fun _ hk => ⟨hk.1.1, hk.1.2⟩)⟩
  have n2_ : Aside0 (Kd.R (Kd.int .i64) 3 ((((w15.setCell ⟨gb858, 0, none⟩ (.int .i64 t852)).setCell ⟨gb858, 1, none⟩ (.int .i64 t853)).setCell ⟨gb858, 2, none⟩ (.int .i64 t854)).setCell ⟨gb858, 3, none⟩ (.slice Ao19 t855.length co19)) w.heap.size (fun k_ => some k_ ≠ (.slice Ao11 t842.length co11 : Value).ownBlock ∧ some k_ ≠ (.slice Ao13 t846.length co13 : Value).ownBlock) (.slice Ao19 t855.length co19) t855) := ⟨by refine qR ?_; exact Kd.R_mono (rT HO857 BK858) (fun _ hk => by first | exact ⟨hk.1.1.2, hk.1.2⟩ | (revert hk; simp only [and_imp]; intros; and_intros <;> assumption))⟩
  have n3_ : Aside0 (((((w15.setCell ⟨gb858, 0, none⟩ (.int .i64 t852)).setCell ⟨gb858, 1, none⟩ (.int .i64 t853)).setCell ⟨gb858, 2, none⟩ (.int .i64 t854)).setCell ⟨gb858, 3, none⟩ (.slice Ao19 t855.length co19)).heap[gb850]? = some (.cells #[.int .i64 t839, .int .i64 t840, .int .i64 t841, .slice Ao11 t842.length co11] 27 (0, 0))) := ⟨by refine qB ?_; refine blk_far ?_ NB850_858.out _; refine qB ?_; refine blk_far ?_ NB850_858.out _; refine qB ?_; refine blk_far ?_ NB850_858.out _; refine qB ?_; refine blk_far ?_ NB850_858.out _; refine qB ?_; exact BK850.out⟩
  have n4_ : Aside0 (((((w15.setCell ⟨gb858, 0, none⟩ (.int .i64 t852)).setCell ⟨gb858, 1, none⟩ (.int .i64 t853)).setCell ⟨gb858, 2, none⟩ (.int .i64 t854)).setCell ⟨gb858, 3, none⟩ (.slice Ao19 t855.length co19)).heap[gb851]? = some (.cells #[.int .i64 t845, .slice Ao13 t846.length co13, .int .i64 t849] 49 (0, 0))) := ⟨by refine qB ?_; refine blk_far ?_ NB851_858.out _; refine qB ?_; refine blk_far ?_ NB851_858.out _; refine qB ?_; refine blk_far ?_ NB851_858.out _; refine qB ?_; refine blk_far ?_ NB851_858.out _; refine qB ?_; exact BK851.out⟩
  have n5_ : Aside0 (((((w15.setCell ⟨gb858, 0, none⟩ (.int .i64 t852)).setCell ⟨gb858, 1, none⟩ (.int .i64 t853)).setCell ⟨gb858, 2, none⟩ (.int .i64 t854)).setCell ⟨gb858, 3, none⟩ (.slice Ao19 t855.length co19)).heap[gb858]? = some (.cells #[.int .i64 t852, .int .i64 t853, .int .i64 t854, .slice Ao19 t855.length co19] 27 (0, 0))) := ⟨by exact bP BK858.out⟩
  have n6_ : Aside0 (Below w.heap.size w ((((w15.setCell ⟨gb858, 0, none⟩ (.int .i64 t852)).setCell ⟨gb858, 1, none⟩ (.int .i64 t853)).setCell ⟨gb858, 2, none⟩ (.int .i64 t854)).setCell ⟨gb858, 3, none⟩ (.slice Ao19 t855.length co19))) := ⟨by exact qW HB.out⟩
  (try clear HO844)
  (try clear HO848)
  (try clear HO857)
  (try clear BK850)
  (try clear BK851)
  (try clear BK858)
  (try clear HB)
  generalize ((((w15.setCell ⟨gb858, 0, none⟩ (.int .i64 t852)).setCell ⟨gb858, 1, none⟩ (.int .i64 t853)).setCell ⟨gb858, 2, none⟩ (.int .i64 t854)).setCell ⟨gb858, 3, none⟩ (.slice Ao19 t855.length co19)) = w23 at n0_ n1_ n2_ n3_ n4_ n5_ n6_ ⊢
  have HO844 := n0_
  have HO848 := n1_
  have HO857 := n2_
  have BK850 := n3_
  have BK851 := n4_
  have BK858 := n5_
  have HB := n6_
  clear n0_ n1_ n2_ n3_ n4_ n5_ n6_
  replace HO844 := aM (Kd.Q_drew HO844.out)
  replace HO848 := aM (Kd.R_drew HO848.out)
  replace HO857 := aM (Kd.R_drew HO857.out)
  replace BK850 := aM (blk_drew BK850.out)
  replace BK851 := aM (blk_drew BK851.out)
  replace BK858 := aM (blk_drew BK858.out)
  replace HB := aM (below_drew1 HB.out)
  refine start_ (n := 11) (S := fun w' => w'.cell? ⟨gb858, 0, none⟩ = some (.int .i64 t852) ∧ w'.cell? ⟨gb858, 1, none⟩ = some (.int .i64 t853) ∧ w'.cell? ⟨gb858, 2, none⟩ = some (.int .i64 t854) ∧ w'.cell? ⟨gb858, 3, none⟩ = some (.slice Ao19 t855.length co19) ∧ w'.cell? ⟨gb850, 0, none⟩ = some (.int .i64 t839) ∧ w'.cell? ⟨gb850, 1, none⟩ = some (.int .i64 t840) ∧ w'.cell? ⟨gb850, 2, none⟩ = some (.int .i64 t841) ∧ w'.cell? ⟨gb850, 3, none⟩ = some (.slice Ao11 t842.length co11) ∧ w'.cell? ⟨gb851, 0, none⟩ = some (.int .i64 t845) ∧ w'.cell? ⟨gb851, 1, none⟩ = some (.slice Ao13 t846.length co13) ∧ w'.cell? ⟨gb851, 2, none⟩ = some (.int .i64 t849)) (ds := []) (bA 11 0) (by kernel_rfl) rfl rfl ⟨(blk_cell BK858.out 0).trans rfl, (blk_cell BK858.out 1).trans rfl, (blk_cell BK858.out 2).trans rfl, (blk_cell BK858.out 3).trans rfl, (blk_cell BK850.out 0).trans rfl, (blk_cell BK850.out 1).trans rfl, (blk_cell BK850.out 2).trans rfl, (blk_cell BK850.out 3).trans rfl, (blk_cell BK851.out 0).trans rfl, (blk_cell BK851.out 1).trans rfl, (blk_cell BK851.out 2).trans rfl⟩ (fun hHeld => ?_); refine with_tabW laws_FnConvolveImageTurn.tab5 laws_FnConvolveImageTurn.bits5 (fun HT_ HW_ => ?_)
  generalize w23.drew = w24 at HO844 HO848 HO857 BK850 BK851 BK858 HB hHeld ⊢
  refine take_ (i := 0) (N := some 18) (v := ?_) (a' := ?_) (bA 11 1) rfl rfl (take_ofW HT_.out HW_.out (by kernel_rfl)) (fun _ _ _ h => h) (Or.inl ⟨by rfl, ?_⟩) hHeld ?_ ?_
  rotate_left
  ·rintro w' ⟨s0, s1, s2, s3, s4, s5, s6, s7, s8, s9, s10⟩
   go_simp
   with_reducible rfl
  rotate_left
  ·refine pZ ?_
   rfl
  refine take_ (i := 1) (N := some 19) (v := ?_) (a' := ?_) (bA 11 3) rfl rfl (take_ofW HT_.out HW_.out (by kernel_rfl)) (fun _ _ _ h => h) (Or.inl ⟨by rfl, ?_⟩) hHeld ?_ ?_
  rotate_left
  ·rintro w' ⟨s0, s1, s2, s3, s4, s5, s6, s7, s8, s9, s10⟩
   go_simp
   with_reducible rfl
  rotate_left
  ·refine pZ ?_
   rfl
  refine take_ (i := 2) (N := some 20) (v := ?_) (a' := ?_) (bA 11 7) rfl rfl (take_ofW HT_.out HW_.out (by kernel_rfl)) (fun _ _ _ h => h) (Or.inl ⟨by rfl, ?_⟩) hHeld ?_ ?_
  rotate_left
  ·rintro w' ⟨s0, s1, s2, s3, s4, s5, s6, s7, s8, s9, s10⟩
   go_simp
   with_reducible rfl
  rotate_left
  ·refine pZ ?_
   rfl
  refine one_ (i := 3) (N := some 21) (bA 11 15) rfl rfl (one_of HT_.out (by kernel_rfl)) (by decide) (fun K hK => ?_)
  refine goes_ Try.func33 (by kernel_rfl) rfl #[.agg #[.int .i64 t839, .int .i64 t840, .int .i64 t841, .slice Ao11 t842.length co11], .agg #[.int .i64 t845, .slice Ao13 t846.length co13, .int .i64 t849]] (by rfl) rfl rfl qM ?_
  with_reducible refine (spec_ConvolveImage.calls k t839 t840 t841 _ _ t842 t845 _ _ t846 t849 t859 t860 t861 t862 _ ?side1 ?side2 ?side3 ?side4 A20.out).mono ?_
  (case side1 => exact qC (Kd.Q_reads' HO844.out).2.2)
  (case side2 => exact (Kd.Q_reads' HO844.out).2.1)
  (case side3 => exact qC (Kd.R_reads' HO848.out).2.2)
  (case side4 => exact (Kd.R_reads' HO848.out).2.1)
  rintro e w25 ⟨v863, rfl, ho0, hb⟩
  refine ⟨_, rfl, ?_⟩
  have HO864 := aM (Kd.R_lower (Kd.R_new' (Kd.R_new' (Kd.R_new' ho0 (Kd.Q_lt (qQ HO844.out))) (Kd.R_lt (qR HO848.out))) (Kd.R_lt (qR HO857.out))) (below_size (qW HB.out)))
  replace HO844 := aM (Kd.Q_elder' (qQ HO844.out) (Kd.R_base ho0) hb)
  replace HO848 := aM (Kd.R_elder' (qR HO848.out) (Kd.R_base ho0) hb)
  replace HO857 := aM (Kd.R_elder' (qR HO857.out) (Kd.R_base ho0) hb)
  replace BK850 := bB BK850 hb
  replace BK851 := bB BK851 hb
  replace BK858 := bB BK858 hb
  replace HB := bS HB hb
  (try clear hb)
  (try clear hb2)
  (try clear hk)
  (try clear hi)
  (try clear ho0)
  obtain ⟨Ao26, co26, eo26⟩ := Kd.R_slice HO864.out
  (first | subst eo26 | (injection eo26 with f1_ f2_ f3_; have f4_ := f1_.symm; have f5_ := f3_.symm; clear f1_ f2_ f3_; subst f4_; subst f5_))
  refine hK.out _ _ ⟨(blk_cell BK858.out 0).trans rfl, (blk_cell BK858.out 1).trans rfl, (blk_cell BK858.out 2).trans rfl, (blk_cell BK858.out 3).trans rfl, (blk_cell BK850.out 0).trans rfl, (blk_cell BK850.out 1).trans rfl, (blk_cell BK850.out 2).trans rfl, (blk_cell BK850.out 3).trans rfl, (blk_cell BK851.out 0).trans rfl, (blk_cell BK851.out 1).trans rfl, (blk_cell BK851.out 2).trans rfl⟩ (fun hHeld => ?_)
  clear hK K
  refine norm_ (a' := ?_) ?_ ?_
  rotate_left
  ·show Act.put _ (some 21) _ = _
   refine pZ ?_
   rfl
  refine one_ (i := 4) (N := some 22) (bA 11 31) rfl rfl (one_of HT_.out (by kernel_rfl)) (by decide) (fun K hK => ?_)
  refine goes_ Try.func15 (by kernel_rfl) rfl #[.agg #[.int .i64 t852, .int .i64 t853, .int .i64 t854, .slice Ao19 t855.length co19], .agg #[.int .i64 t859, .int .i64 t860, .int .i64 t861, .slice Ao26 t862.length co26]] (by rfl) rfl rfl qM ?_
  with_reducible refine (laws_equalImage.calls k t852 t853 t854 _ _ t855 t859 t860 t861 _ _ t862 true _ ?side1 ?side2 ?side3 ?side4 A21.out).mono ?_
  (case side1 => exact qC (Kd.R_reads' HO857.out).2.2)
  (case side2 => exact (Kd.R_reads' HO857.out).2.1)
  (case side3 => exact qC (Kd.R_reads' HO864.out).2.2)
  (case side4 => exact (Kd.R_reads' HO864.out).2.1)
  rintro e w27 ⟨rfl, hb⟩
  refine ⟨_, rfl, ?_⟩
  replace HO844 := aM (Kd.Q_below (qQ HO844.out) hb)
  replace HO848 := aM (Kd.R_below (qR HO848.out) hb)
  replace HO857 := aM (Kd.R_below (qR HO857.out) hb)
  replace HO864 := aM (Kd.R_below (qR HO864.out) hb)
  replace BK850 := bB BK850 hb
  replace BK851 := bB BK851 hb
  replace BK858 := bB BK858 hb
  replace HB := bS HB hb
  (try clear hb)
  (try clear hb2)
  (try clear hk)
  (try clear hi)
  refine hK.out _ _ ⟨(blk_cell BK858.out 0).trans rfl, (blk_cell BK858.out 1).trans rfl, (blk_cell BK858.out 2).trans rfl, (blk_cell BK858.out 3).trans rfl, (blk_cell BK850.out 0).trans rfl, (blk_cell BK850.out 1).trans rfl, (blk_cell BK850.out 2).trans rfl, (blk_cell BK850.out 3).trans rfl, (blk_cell BK851.out 0).trans rfl, (blk_cell BK851.out 1).trans rfl, (blk_cell BK851.out 2).trans rfl⟩ (fun hHeld => ?_)
  clear hK K
  refine norm_ (a' := ?_) ?_ ?_
  rotate_left
  ·show Act.put _ (some 22) _ = _
   refine pZ ?_
   rfl
  refine pQ 5 23 HT_ (bA 11 63) ?_
  refine pQ 6 24 HT_ (bA 11 127) ?_
  refine pQ 7 25 HT_ (bA 11 255) ?_
  refine take_ (i := 8) (N := some 26) (v := ?_) (a' := ?_) (bA 11 511) rfl rfl (take_ofW HT_.out HW_.out (by kernel_rfl)) (fun _ _ _ h => h) (Or.inl ⟨by rfl, ?_⟩) hHeld ?_ ?_
  rotate_left
  ·rintro w' ⟨s0, s1, s2, s3, s4, s5, s6, s7, s8, s9, s10⟩
   go_simp
   with_reducible rfl
  rotate_left
  ·refine pZ ?_
   rfl
  refine pQ 9 27 HT_ (bA 11 1023) ?_
  refine pQ 10 28 HT_ (bA 11 2047) ?_
  refine done_ (done_of HT_.out (by kernel_rfl)) ?_
  try go_wp2
  go_meet
  case rel => exact ⟨_, ((t852 == 0)), qE, H', ⟨by first | omega | exact Nat.le_refl _⟩, ⟨by (with_reducible repeat (first | apply Kd.Q_alloc | apply Kd.Q_drewN | apply Kd.Q_drew)); exact Kd.Q_mono HO844.out (fun _ hk => ⟨hk.1.1, hk.1.2⟩)⟩, ⟨by refine qR ?_; exact Kd.R_mono HO848.out (fun _ hk => ⟨hk.1.1, hk.1.2⟩)⟩, ⟨Kd.Q_of_R (by refine qR ?_; exact Kd.R_mono HO857.out (fun _ hk => ⟨hk.1.1, hk.1.2⟩))⟩, ⟨by refine qB ?_; exact BK850.out⟩, ⟨by refine qB ?_; exact BK851.out⟩, ⟨by refine qB ?_; exact BK858.out⟩, ⟨by exact qW HB.out⟩⟩
 case rest =>
  clear HC5
  try clear c2
  try clear c2b0
  try clear c2b1
  try clear c22
  try clear hcz10_0 hcz10_1 hcz10_2 hcz10_3 hfz10_0 hfz10_1 hfz10_2 hfz10_3
  try clear hcz12_0 hcz12_1 hcz12_2 hfz12_0 hfz12_1 hfz12_2
  try clear hcz18_0 hcz18_1 hcz18_2 hcz18_3 hfz18_0 hfz18_1 hfz18_2 hfz18_3
  obtain ⟨kq, x28_4, rfl, HA, HJ4, HO_851003, HO_852001, HO_859003, BK850, BK851, BK858, HB⟩ := hcut
  cases kq with
  | zero => exact absurd HA.out (by simp [laws_FnConvolveImageTurn.j0])
  | succ kj4 =>
   have H := HA.out
   clear HA
   simp only [laws_FnConvolveImageTurn.j0] at H
   by_cases c33 : x28_4 = true
   ·subst c33
    have H1 : ((spec_ConvolveImage.f kj4 t839 t840 t841 t842 t845 t846 t849).bind fun bt866 => ((laws_equalImage.f kj4 t852 t853 t854 t855 bt866.1 bt866.2.1 bt866.2.2.1 bt866.2.2.2).bind fun t872 => (some t872))) = some r := by rw [if_pos rfl] at H; exact H
    clear H
    have H := H1
    clear H1
    replace H := Option.bind_eq_some_iff.mp H
    obtain ⟨⟨t866, t867, t868, t869⟩, A340, H⟩ := H
    replace H : ((laws_equalImage.f kj4 t852 t853 t854 t855 t866 t867 t868 t869).bind fun t872 => (some t872)) = some r := H
    have A34 := aM A340
    clear A340
    replace H := Option.bind_eq_some_iff.mp H
    obtain ⟨t872, A350, H⟩ := H
    replace H : (some t872) = some r := H
    have A35 := aM A350
    clear A350
    obtain rfl := Option.some.inj H
    try go_wp2
    replace HO_851003 := aM (Kd.Q_drew HO_851003.out)
    replace HO_852001 := aM (Kd.R_drew HO_852001.out)
    replace HO_859003 := aM (Kd.Q_drew HO_859003.out)
    replace BK850 := aM (blk_drew BK850.out)
    replace BK851 := aM (blk_drew BK851.out)
    replace BK858 := aM (blk_drew BK858.out)
    replace HB := aM (below_drew1 HB.out)
    refine start_ (n := 6) (S := fun w' => w'.cell? ⟨gb858, 0, none⟩ = some (.int .i64 t852) ∧ w'.cell? ⟨gb858, 1, none⟩ = some (.int .i64 t853) ∧ w'.cell? ⟨gb858, 2, none⟩ = some (.int .i64 t854) ∧ w'.cell? ⟨gb858, 3, none⟩ = some (.slice Ao19 t855.length co19) ∧ w'.cell? ⟨gb850, 0, none⟩ = some (.int .i64 t839) ∧ w'.cell? ⟨gb850, 1, none⟩ = some (.int .i64 t840) ∧ w'.cell? ⟨gb850, 2, none⟩ = some (.int .i64 t841) ∧ w'.cell? ⟨gb850, 3, none⟩ = some (.slice Ao11 t842.length co11) ∧ w'.cell? ⟨gb851, 0, none⟩ = some (.int .i64 t845) ∧ w'.cell? ⟨gb851, 1, none⟩ = some (.slice Ao13 t846.length co13) ∧ w'.cell? ⟨gb851, 2, none⟩ = some (.int .i64 t849)) (ds := []) (bA 6 0) (by kernel_rfl) rfl rfl ⟨(blk_cell BK858.out 0).trans rfl, (blk_cell BK858.out 1).trans rfl, (blk_cell BK858.out 2).trans rfl, (blk_cell BK858.out 3).trans rfl, (blk_cell BK850.out 0).trans rfl, (blk_cell BK850.out 1).trans rfl, (blk_cell BK850.out 2).trans rfl, (blk_cell BK850.out 3).trans rfl, (blk_cell BK851.out 0).trans rfl, (blk_cell BK851.out 1).trans rfl, (blk_cell BK851.out 2).trans rfl⟩ (fun hHeld => ?_)
    generalize wc.drew = w36 at HO_851003 HO_852001 HO_859003 BK850 BK851 BK858 HB hHeld ⊢
    refine take_ (i := 0) (N := some 29) (v := ?_) (a' := ?_) (bA 6 1) rfl rfl (by kernel_rfl) (fun _ _ _ h => h) (Or.inl ⟨by rfl, ?_⟩) hHeld ?_ ?_
    rotate_left
    ·rintro w' ⟨s0, s1, s2, s3, s4, s5, s6, s7, s8, s9, s10⟩
     go_simp
     with_reducible rfl
    rotate_left
    ·refine pZ ?_
     rfl
    refine take_ (i := 1) (N := some 30) (v := ?_) (a' := ?_) (bA 6 3) rfl rfl (by kernel_rfl) (fun _ _ _ h => h) (Or.inl ⟨by rfl, ?_⟩) hHeld ?_ ?_
    rotate_left
    ·rintro w' ⟨s0, s1, s2, s3, s4, s5, s6, s7, s8, s9, s10⟩
     go_simp
     with_reducible rfl
    rotate_left
    ·refine pZ ?_
     rfl
    refine take_ (i := 2) (N := some 31) (v := ?_) (a' := ?_) (bA 6 7) rfl rfl (by kernel_rfl) (fun _ _ _ h => h) (Or.inl ⟨by rfl, ?_⟩) hHeld ?_ ?_
    rotate_left
    ·rintro w' ⟨s0, s1, s2, s3, s4, s5, s6, s7, s8, s9, s10⟩
     go_simp
     with_reducible rfl
    rotate_left
    ·refine pZ ?_
     rfl
    refine one_ (i := 3) (N := some 32) (bA 6 15) rfl rfl (by kernel_rfl) (by decide) (fun K hK => ?_)
    refine goes_ Try.func33 (by kernel_rfl) rfl #[.agg #[.int .i64 t839, .int .i64 t840, .int .i64 t841, .slice Ao11 t842.length co11], .agg #[.int .i64 t845, .slice Ao13 t846.length co13, .int .i64 t849]] (by rfl) rfl rfl qM ?_
    with_reducible refine (spec_ConvolveImage.calls kj4 t839 t840 t841 _ _ t842 t845 _ _ t846 t849 t866 t867 t868 t869 _ ?side1 ?side2 ?side3 ?side4 A34.out).mono ?_
    (case side1 => exact qC (Kd.Q_reads' HO_851003.out).2.2)
    (case side2 => exact (Kd.Q_reads' HO_851003.out).2.1)
    (case side3 => exact qC (Kd.R_reads' HO_852001.out).2.2)
    (case side4 => exact (Kd.R_reads' HO_852001.out).2.1)
    rintro e w37 ⟨v870, rfl, ho0, hb⟩
    refine ⟨_, rfl, ?_⟩
    have HO871 := aM (Kd.R_lower (Kd.R_new' (Kd.R_new' (Kd.R_new' ho0 (Kd.Q_lt (qQ HO_851003.out))) (Kd.R_lt (qR HO_852001.out))) (Kd.Q_lt (qQ HO_859003.out))) (below_size (qW HB.out)))
    replace HO_851003 := aM (Kd.Q_elder' (qQ HO_851003.out) (Kd.R_base ho0) hb)
    replace HO_852001 := aM (Kd.R_elder' (qR HO_852001.out) (Kd.R_base ho0) hb)
    replace HO_859003 := aM (Kd.Q_elder' (qQ HO_859003.out) (Kd.R_base ho0) hb)
    replace BK850 := bB BK850 hb
    replace BK851 := bB BK851 hb
    replace BK858 := bB BK858 hb
    replace HB := bS HB hb
    (try clear hb)
    (try clear hb2)
    (try clear hk)
    (try clear hi)
    (try clear ho0)
    obtain ⟨Ao38, co38, eo38⟩ := Kd.R_slice HO871.out
    (first | subst eo38 | (injection eo38 with f1_ f2_ f3_; have f4_ := f1_.symm; have f5_ := f3_.symm; clear f1_ f2_ f3_; subst f4_; subst f5_))
    refine hK.out _ _ ⟨(blk_cell BK858.out 0).trans rfl, (blk_cell BK858.out 1).trans rfl, (blk_cell BK858.out 2).trans rfl, (blk_cell BK858.out 3).trans rfl, (blk_cell BK850.out 0).trans rfl, (blk_cell BK850.out 1).trans rfl, (blk_cell BK850.out 2).trans rfl, (blk_cell BK850.out 3).trans rfl, (blk_cell BK851.out 0).trans rfl, (blk_cell BK851.out 1).trans rfl, (blk_cell BK851.out 2).trans rfl⟩ (fun hHeld => ?_)
    clear hK K
    refine norm_ (a' := ?_) ?_ ?_
    rotate_left
    ·show Act.put _ (some 32) _ = _
     refine pZ ?_
     rfl
    refine one_ (i := 4) (N := some 33) (bA 6 31) rfl rfl (by kernel_rfl) (by decide) (fun K hK => ?_)
    refine goes_ Try.func15 (by kernel_rfl) rfl #[.agg #[.int .i64 t852, .int .i64 t853, .int .i64 t854, .slice Ao19 t855.length co19], .agg #[.int .i64 t866, .int .i64 t867, .int .i64 t868, .slice Ao38 t869.length co38]] (by rfl) rfl rfl qM ?_
    with_reducible refine (laws_equalImage.calls kj4 t852 t853 t854 _ _ t855 t866 t867 t868 _ _ t869 t872 _ ?side1 ?side2 ?side3 ?side4 A35.out).mono ?_
    (case side1 => exact qC (Kd.Q_reads' HO_859003.out).2.2)
    (case side2 => exact (Kd.Q_reads' HO_859003.out).2.1)
    (case side3 => exact qC (Kd.R_reads' HO871.out).2.2)
    (case side4 => exact (Kd.R_reads' HO871.out).2.1)
    rintro e w39 ⟨rfl, hb⟩
    refine ⟨_, rfl, ?_⟩
    replace HO_851003 := aM (Kd.Q_below (qQ HO_851003.out) hb)
    replace HO_852001 := aM (Kd.R_below (qR HO_852001.out) hb)
    replace HO_859003 := aM (Kd.Q_below (qQ HO_859003.out) hb)
    replace HO871 := aM (Kd.R_below (qR HO871.out) hb)
    replace BK850 := bB BK850 hb
    replace BK851 := bB BK851 hb
    replace BK858 := bB BK858 hb
    replace HB := bS HB hb
    (try clear hb)
    (try clear hb2)
    (try clear hk)
    (try clear hi)
    refine hK.out _ _ ⟨(blk_cell BK858.out 0).trans rfl, (blk_cell BK858.out 1).trans rfl, (blk_cell BK858.out 2).trans rfl, (blk_cell BK858.out 3).trans rfl, (blk_cell BK850.out 0).trans rfl, (blk_cell BK850.out 1).trans rfl, (blk_cell BK850.out 2).trans rfl, (blk_cell BK850.out 3).trans rfl, (blk_cell BK851.out 0).trans rfl, (blk_cell BK851.out 1).trans rfl, (blk_cell BK851.out 2).trans rfl⟩ (fun hHeld => ?_)
    clear hK K
    refine norm_ (a' := ?_) ?_ ?_
    rotate_left
    ·show Act.put _ (some 33) _ = _
     refine pZ ?_
     rfl
    refine pure_ (i := 5) (N := some 2) (v := ?_) (a' := ?_) (bA 6 63) rfl rfl (by kernel_rfl) (fun _ _ _ h => h) (Or.inl ⟨by rfl, ?_⟩) ?_ ?_
    rotate_left
    ·intro w'
     go_simp
     with_reducible rfl
    rotate_left
    ·refine pZ ?_
     rfl
    refine done_ (by kernel_rfl) ?_
    try go_wp2
    go_ret
    exact ⟨qX, by exact qW HB.out⟩
   replace c33 := Bool.eq_false_iff.mpr c33
   subst c33
   have H1 : ((some (([1, 1, 1, 1, 1, 1, 1, 1, 1] : List Int) : List Int)).bind fun y873 => ((impl_TurnImage.f t839 t840 t841 t842 1).bind fun bt877 => ((impl_ConvolveImage.f bt877.1 bt877.2.1 bt877.2.2.1 bt877.2.2.2 1 y873 9).bind fun bt883 => ((impl_ConvolveImage.f t839 t840 t841 t842 1 y873 9).bind fun bt889 => ((impl_TurnImage.f bt889.1 bt889.2.1 bt889.2.2.1 bt889.2.2.2 1).bind fun bt895 => ((laws_equalImage.f kj4 bt883.1 bt883.2.1 bt883.2.2.1 bt883.2.2.2 bt895.1 bt895.2.1 bt895.2.2.1 bt895.2.2.2).bind fun t901 => (some t901))))))) = some r := by rw [if_neg (show ¬ (false = true) by decide)] at H; exact H
   clear H
   have H := H1
   clear H1
   obtain ⟨y873, hy873⟩ : ∃ y_ : List Int, y_ = (([1, 1, 1, 1, 1, 1, 1, 1, 1] : List Int)) := ⟨_, rfl⟩
   replace H : ((impl_TurnImage.f t839 t840 t841 t842 1).bind fun bt877 => ((impl_ConvolveImage.f bt877.1 bt877.2.1 bt877.2.2.1 bt877.2.2.2 1 y873 9).bind fun bt883 => ((impl_ConvolveImage.f t839 t840 t841 t842 1 y873 9).bind fun bt889 => ((impl_TurnImage.f bt889.1 bt889.2.1 bt889.2.2.1 bt889.2.2.2 1).bind fun bt895 => ((laws_equalImage.f kj4 bt883.1 bt883.2.1 bt883.2.2.1 bt883.2.2.2 bt895.1 bt895.2.1 bt895.2.2.1 bt895.2.2.2).bind fun t901 => (some t901)))))) = some r := rY hy873 H
   have Ny873 := aM hy873
   clear hy873
   replace H := Option.bind_eq_some_iff.mp H
   obtain ⟨⟨t877, t878, t879, t880⟩, A400, H⟩ := H
   replace H : ((impl_ConvolveImage.f t877 t878 t879 t880 1 y873 9).bind fun bt883 => ((impl_ConvolveImage.f t839 t840 t841 t842 1 y873 9).bind fun bt889 => ((impl_TurnImage.f bt889.1 bt889.2.1 bt889.2.2.1 bt889.2.2.2 1).bind fun bt895 => ((laws_equalImage.f kj4 bt883.1 bt883.2.1 bt883.2.2.1 bt883.2.2.2 bt895.1 bt895.2.1 bt895.2.2.1 bt895.2.2.2).bind fun t901 => (some t901))))) = some r := H
   have A40 := aM A400
   clear A400
   replace H := Option.bind_eq_some_iff.mp H
   obtain ⟨⟨t883, t884, t885, t886⟩, A410, H⟩ := H
   replace H : ((impl_ConvolveImage.f t839 t840 t841 t842 1 y873 9).bind fun bt889 => ((impl_TurnImage.f bt889.1 bt889.2.1 bt889.2.2.1 bt889.2.2.2 1).bind fun bt895 => ((laws_equalImage.f kj4 t883 t884 t885 t886 bt895.1 bt895.2.1 bt895.2.2.1 bt895.2.2.2).bind fun t901 => (some t901)))) = some r := H
   have A41 := aM A410
   clear A410
   replace H := Option.bind_eq_some_iff.mp H
   obtain ⟨⟨t889, t890, t891, t892⟩, A420, H⟩ := H
   replace H : ((impl_TurnImage.f t889 t890 t891 t892 1).bind fun bt895 => ((laws_equalImage.f kj4 t883 t884 t885 t886 bt895.1 bt895.2.1 bt895.2.2.1 bt895.2.2.2).bind fun t901 => (some t901))) = some r := H
   have A42 := aM A420
   clear A420
   replace H := Option.bind_eq_some_iff.mp H
   obtain ⟨⟨t895, t896, t897, t898⟩, A430, H⟩ := H
   replace H : ((laws_equalImage.f kj4 t883 t884 t885 t886 t895 t896 t897 t898).bind fun t901 => (some t901)) = some r := H
   have A43 := aM A430
   clear A430
   replace H := Option.bind_eq_some_iff.mp H
   obtain ⟨t901, A440, H⟩ := H
   replace H : (some t901) = some r := H
   have A44 := aM A440
   clear A440
   obtain rfl := Option.some.inj H
   try go_wp2_with (first | ((with_reducible refine gate_dst (N := 34) rfl ?_); refine iL ([1, 1, 1, 1, 1, 1, 1, 1, 1] : List Int) [.int .i64 1, .int .i64 1, .int .i64 1, .int .i64 1, .int .i64 1, .int .i64 1, .int .i64 1, .int .i64 1, .int .i64 1] ?_; intro v874 w45 ho46 hb hg_ hnew_; clear hg_ hnew_; (first | rw [← Ny873.out] at ho46 | (simp only [Int.reduceToNat] at ho46; rw [← Ny873.out] at ho46)); have HO875 := aM (Kd.R_lower (Kd.R_new' (Kd.R_new' (Kd.R_new' ho46 (Kd.Q_lt (qQ HO_851003.out))) (Kd.R_lt (qR HO_852001.out))) (Kd.Q_lt (qQ HO_859003.out))) (below_size (qW HB.out))); replace HO_851003 := aM (Kd.Q_elder' (qQ HO_851003.out) (Kd.R_base ho46) hb); replace HO_852001 := aM (Kd.R_elder' (qR HO_852001.out) (Kd.R_base ho46) hb); replace HO_859003 := aM (Kd.Q_elder' (qQ HO_859003.out) (Kd.R_base ho46) hb); replace BK850 := bB BK850 hb; replace BK851 := bB BK851 hb; replace BK858 := bB BK858 hb; replace HB := bS HB hb; clear hb ho46; obtain ⟨Ao47, co47, rfl⟩ := sL HO875) | ((with_reducible refine gate_dst (N := 6) rfl ?_); refine bxE (N := 6) (cs := #[.int .i64 0, .slice none 0 0, .int .i64 0]) (t := 49) ?_; intro gb876 hg w48 hbox hb; replace HO_851003 := aM (Kd.Q_below (qQ HO_851003.out) hb); replace HO_852001 := aM (Kd.R_below (qR HO_852001.out) hb); replace HO_859003 := aM (Kd.Q_below (qQ HO_859003.out) hb); replace HO875 := aM (Kd.R_below (qR HO875.out) hb); have BK876 := aM (hbox); have GW876 := gW hg HB; have GE876 := gW hg HB; replace HB := bS HB hb; have NB850_876 := nL hg BK850; have NB876_850 := nG hg BK850; replace BK850 := bB BK850 hb; have NB851_876 := nL hg BK851; have NB876_851 := nG hg BK851; replace BK851 := bB BK851 hb; have NB858_876 := nL hg BK858; have NB876_858 := nG hg BK858; replace BK858 := bB BK858 hb; clear hb hbox hg; have hnb49 := NB876_850.out; have hnc49 := NB850_876.out; have hnb50 := NB876_851.out; have hnc50 := NB851_876.out; have hnb51 := NB876_858.out; have hnc51 := NB858_876.out; obtain ⟨⟨hcz52_0, hcz52_1, hcz52_2⟩, hfz52_0, hfz52_1, hfz52_2⟩ := cf3 BK876))
   have n0_ : Aside0 (Kd.Q (Kd.int .i64) 3 (((w48.setCell ⟨gb876, 0, none⟩ (.int .i64 1)).setCell ⟨gb876, 1, none⟩ (.slice Ao47 y873.length co47)).setCell ⟨gb876, 2, none⟩ (.int .i64 9)) w.heap.size (fun k_ => some k_ ≠ (.slice Ao13 t846.length co13 : Value).ownBlock ∧ some k_ ≠ (.slice Ao19 t855.length co19 : Value).ownBlock ∧ some k_ ≠ (.slice Ao47 y873.length co47 : Value).ownBlock) (.slice Ao11 t842.length co11) t842) := ⟨by (with_reducible repeat (first | apply Kd.Q_alloc | apply Kd.Q_drewN | apply Kd.Q_drew)); exact Kd.Q_mono (qT HO_851003 BK876) (fun _ hk => ⟨hk.1.1.1, ⟨hk.1.1.2, hk.1.2⟩⟩)⟩
   have n1_ : Aside0 (Kd.R (Kd.int .i64) 3 (((w48.setCell ⟨gb876, 0, none⟩ (.int .i64 1)).setCell ⟨gb876, 1, none⟩ (.slice Ao47 y873.length co47)).setCell ⟨gb876, 2, none⟩ (.int .i64 9)) w.heap.size (fun k_ => some k_ ≠ (.slice Ao11 t842.length co11 : Value).ownBlock ∧ some k_ ≠ (.slice Ao19 t855.length co19 : Value).ownBlock ∧ some k_ ≠ (.slice Ao47 y873.length co47 : Value).ownBlock) (.slice Ao13 t846.length co13) t846) := ⟨by refine qR ?_; exact Kd.R_mono (rT HO_852001 BK876) (fun _ hk => ⟨hk.1.1.1, ⟨hk.1.1.2, hk.1.2⟩⟩)⟩
   have n2_ : Aside0 (Kd.Q (Kd.int .i64) 3 (((w48.setCell ⟨gb876, 0, none⟩ (.int .i64 1)).setCell ⟨gb876, 1, none⟩ (.slice Ao47 y873.length co47)).setCell ⟨gb876, 2, none⟩ (.int .i64 9)) w.heap.size (fun k_ => some k_ ≠ (.slice Ao11 t842.length co11 : Value).ownBlock ∧ some k_ ≠ (.slice Ao13 t846.length co13 : Value).ownBlock ∧ some k_ ≠ (.slice Ao47 y873.length co47 : Value).ownBlock) (.slice Ao19 t855.length co19) t855) := ⟨by (with_reducible repeat (first | apply Kd.Q_alloc | apply Kd.Q_drewN | apply Kd.Q_drew)); exact Kd.Q_mono (qT HO_859003 BK876) (fun _ hk => ⟨hk.1.1.1, ⟨hk.1.1.2, hk.1.2⟩⟩)⟩
   have n3_ : Aside0 (Kd.R (Kd.int .i64) 3 (((w48.setCell ⟨gb876, 0, none⟩ (.int .i64 1)).setCell ⟨gb876, 1, none⟩ (.slice Ao47 y873.length co47)).setCell ⟨gb876, 2, none⟩ (.int .i64 9)) w.heap.size (fun k_ => some k_ ≠ (.slice Ao11 t842.length co11 : Value).ownBlock ∧ some k_ ≠ (.slice Ao13 t846.length co13 : Value).ownBlock ∧ some k_ ≠ (.slice Ao19 t855.length co19 : Value).ownBlock) (.slice Ao47 y873.length co47) y873) := ⟨by refine qR ?_; exact Kd.R_mono (rT HO875 BK876) (fun _ hk => ⟨hk.1.1.1.2, ⟨hk.1.1.2, hk.1.2⟩⟩)⟩
   have n4_ : Aside0 ((((w48.setCell ⟨gb876, 0, none⟩ (.int .i64 1)).setCell ⟨gb876, 1, none⟩ (.slice Ao47 y873.length co47)).setCell ⟨gb876, 2, none⟩ (.int .i64 9)).heap[gb850]? = some (.cells #[.int .i64 t839, .int .i64 t840, .int .i64 t841, .slice Ao11 t842.length co11] 27 (0, 0))) := ⟨by refine qB ?_; refine blk_far ?_ NB850_876.out _; refine qB ?_; refine blk_far ?_ NB850_876.out _; refine qB ?_; refine blk_far ?_ NB850_876.out _; refine qB ?_; exact BK850.out⟩
   have n5_ : Aside0 ((((w48.setCell ⟨gb876, 0, none⟩ (.int .i64 1)).setCell ⟨gb876, 1, none⟩ (.slice Ao47 y873.length co47)).setCell ⟨gb876, 2, none⟩ (.int .i64 9)).heap[gb851]? = some (.cells #[.int .i64 t845, .slice Ao13 t846.length co13, .int .i64 t849] 49 (0, 0))) := ⟨by refine qB ?_; refine blk_far ?_ NB851_876.out _; refine qB ?_; refine blk_far ?_ NB851_876.out _; refine qB ?_; refine blk_far ?_ NB851_876.out _; refine qB ?_; exact BK851.out⟩
   have n6_ : Aside0 ((((w48.setCell ⟨gb876, 0, none⟩ (.int .i64 1)).setCell ⟨gb876, 1, none⟩ (.slice Ao47 y873.length co47)).setCell ⟨gb876, 2, none⟩ (.int .i64 9)).heap[gb858]? = some (.cells #[.int .i64 t852, .int .i64 t853, .int .i64 t854, .slice Ao19 t855.length co19] 27 (0, 0))) := ⟨by refine qB ?_; refine blk_far ?_ NB858_876.out _; refine qB ?_; refine blk_far ?_ NB858_876.out _; refine qB ?_; refine blk_far ?_ NB858_876.out _; refine qB ?_; exact BK858.out⟩
   have n7_ : Aside0 ((((w48.setCell ⟨gb876, 0, none⟩ (.int .i64 1)).setCell ⟨gb876, 1, none⟩ (.slice Ao47 y873.length co47)).setCell ⟨gb876, 2, none⟩ (.int .i64 9)).heap[gb876]? = some (.cells #[.int .i64 1, .slice Ao47 y873.length co47, .int .i64 9] 49 (0, 0))) := ⟨by exact bP BK876.out⟩
   have n8_ : Aside0 (Below w.heap.size w (((w48.setCell ⟨gb876, 0, none⟩ (.int .i64 1)).setCell ⟨gb876, 1, none⟩ (.slice Ao47 y873.length co47)).setCell ⟨gb876, 2, none⟩ (.int .i64 9))) := ⟨by exact qW HB.out⟩
   (try clear HO_851003)
   (try clear HO_852001)
   (try clear HO_859003)
   (try clear HO875)
   (try clear BK850)
   (try clear BK851)
   (try clear BK858)
   (try clear BK876)
   (try clear HB)
   generalize (((w48.setCell ⟨gb876, 0, none⟩ (.int .i64 1)).setCell ⟨gb876, 1, none⟩ (.slice Ao47 y873.length co47)).setCell ⟨gb876, 2, none⟩ (.int .i64 9)) = w53 at n0_ n1_ n2_ n3_ n4_ n5_ n6_ n7_ n8_ ⊢
   have HO_851003 := n0_
   have HO_852001 := n1_
   have HO_859003 := n2_
   have HO875 := n3_
   have BK850 := n4_
   have BK851 := n5_
   have BK858 := n6_
   have BK876 := n7_
   have HB := n8_
   clear n0_ n1_ n2_ n3_ n4_ n5_ n6_ n7_ n8_
   replace HO_851003 := aM (Kd.Q_drew HO_851003.out)
   replace HO_852001 := aM (Kd.R_drew HO_852001.out)
   replace HO_859003 := aM (Kd.Q_drew HO_859003.out)
   replace HO875 := aM (Kd.R_drew HO875.out)
   replace BK850 := aM (blk_drew BK850.out)
   replace BK851 := aM (blk_drew BK851.out)
   replace BK858 := aM (blk_drew BK858.out)
   replace BK876 := aM (blk_drew BK876.out)
   replace HB := aM (below_drew1 HB.out)
   refine start_ (n := 10) (S := fun w' => w'.cell? ⟨gb850, 0, none⟩ = some (.int .i64 t839) ∧ w'.cell? ⟨gb850, 1, none⟩ = some (.int .i64 t840) ∧ w'.cell? ⟨gb850, 2, none⟩ = some (.int .i64 t841) ∧ w'.cell? ⟨gb850, 3, none⟩ = some (.slice Ao11 t842.length co11) ∧ w'.cell? ⟨gb876, 0, none⟩ = some (.int .i64 1) ∧ w'.cell? ⟨gb876, 1, none⟩ = some (.slice Ao47 y873.length co47) ∧ w'.cell? ⟨gb876, 2, none⟩ = some (.int .i64 9)) (ds := []) (bA 10 0) (by kernel_rfl) rfl rfl ⟨(blk_cell BK850.out 0).trans rfl, (blk_cell BK850.out 1).trans rfl, (blk_cell BK850.out 2).trans rfl, (blk_cell BK850.out 3).trans rfl, (blk_cell BK876.out 0).trans rfl, (blk_cell BK876.out 1).trans rfl, (blk_cell BK876.out 2).trans rfl⟩ (fun hHeld => ?_); refine with_tabW laws_FnConvolveImageTurn.tab8 laws_FnConvolveImageTurn.bits8 (fun HT_ HW_ => ?_)
   generalize w53.drew = w54 at HO_851003 HO_852001 HO_859003 HO875 BK850 BK851 BK858 BK876 HB hHeld ⊢
   refine take_ (i := 0) (N := some 36) (v := ?_) (a' := ?_) (bA 10 1) rfl rfl (take_ofW HT_.out HW_.out (by kernel_rfl)) (fun _ _ _ h => h) (Or.inl ⟨by rfl, ?_⟩) hHeld ?_ ?_
   rotate_left
   ·rintro w' ⟨s0, s1, s2, s3, s4, s5, s6⟩
    go_simp
    with_reducible rfl
   rotate_left
   ·refine pZ ?_
    rfl
   refine take_ (i := 2) (N := some 38) (v := ?_) (a' := ?_) (bA 10 5) rfl rfl (take_ofW HT_.out HW_.out (by kernel_rfl)) (fun _ _ _ h => h) (Or.inl ⟨by rfl, ?_⟩) hHeld ?_ ?_
   rotate_left
   ·rintro w' ⟨s0, s1, s2, s3, s4, s5, s6⟩
    go_simp
    with_reducible rfl
   rotate_left
   ·refine pZ ?_
    rfl
   refine take_ (i := 4) (N := some 40) (v := ?_) (a' := ?_) (bA 10 21) rfl rfl (take_ofW HT_.out HW_.out (by kernel_rfl)) (fun _ _ _ h => h) (Or.inl ⟨by rfl, ?_⟩) hHeld ?_ ?_
   rotate_left
   ·rintro w' ⟨s0, s1, s2, s3, s4, s5, s6⟩
    go_simp
    with_reducible rfl
   rotate_left
   ·refine pZ ?_
    rfl
   refine take_ (i := 5) (N := some 41) (v := ?_) (a' := ?_) (bA 10 53) rfl rfl (take_ofW HT_.out HW_.out (by kernel_rfl)) (fun _ _ _ h => h) (Or.inl ⟨by rfl, ?_⟩) hHeld ?_ ?_
   rotate_left
   ·rintro w' ⟨s0, s1, s2, s3, s4, s5, s6⟩
    go_simp
    with_reducible rfl
   rotate_left
   ·refine pZ ?_
    rfl
   refine one_ (i := 1) (N := some 37) (bA 10 55) rfl rfl (one_of HT_.out (by kernel_rfl)) (by decide) (fun K hK => ?_)
   refine goes_ Try.func41 (by kernel_rfl) rfl #[.agg #[.int .i64 t839, .int .i64 t840, .int .i64 t841, .slice Ao11 t842.length co11], .int .i64 1] (by rfl) rfl rfl qM ?_
   with_reducible refine (impl_TurnImage.calls t839 t840 t841 _ _ t842 1 t877 t878 t879 t880 _ ?side1 ?side2 A40.out).mono ?_
   (case side1 => exact qC (Kd.Q_reads' HO_851003.out).2.2)
   (case side2 => exact (Kd.Q_reads' HO_851003.out).2.1)
   rintro e w55 ⟨v881, rfl, ho0, hb⟩
   refine ⟨_, rfl, ?_⟩
   have HO882 := aM (Kd.R_lower (Kd.R_new' (Kd.R_new' (Kd.R_new' (Kd.R_new' ho0 (Kd.Q_lt (qQ HO_851003.out))) (Kd.R_lt (qR HO_852001.out))) (Kd.Q_lt (qQ HO_859003.out))) (Kd.R_lt (qR HO875.out))) (below_size (qW HB.out)))
   replace HO_851003 := aM (Kd.Q_elder' (qQ HO_851003.out) (Kd.R_base ho0) hb)
   replace HO_852001 := aM (Kd.R_elder' (qR HO_852001.out) (Kd.R_base ho0) hb)
   replace HO_859003 := aM (Kd.Q_elder' (qQ HO_859003.out) (Kd.R_base ho0) hb)
   replace HO875 := aM (Kd.R_elder' (qR HO875.out) (Kd.R_base ho0) hb)
   replace BK850 := bB BK850 hb
   replace BK851 := bB BK851 hb
   replace BK858 := bB BK858 hb
   replace BK876 := bB BK876 hb
   replace HB := bS HB hb
   (try clear hb)
   (try clear hb2)
   (try clear hk)
   (try clear hi)
   (try clear ho0)
   obtain ⟨Ao56, co56, eo56⟩ := Kd.R_slice HO882.out
   (first | subst eo56 | (injection eo56 with f1_ f2_ f3_; have f4_ := f1_.symm; have f5_ := f3_.symm; clear f1_ f2_ f3_; subst f4_; subst f5_))
   refine hK.out _ _ ⟨(blk_cell BK850.out 0).trans rfl, (blk_cell BK850.out 1).trans rfl, (blk_cell BK850.out 2).trans rfl, (blk_cell BK850.out 3).trans rfl, (blk_cell BK876.out 0).trans rfl, (blk_cell BK876.out 1).trans rfl, (blk_cell BK876.out 2).trans rfl⟩ (fun hHeld => ?_)
   clear hK K
   refine norm_ (a' := ?_) ?_ ?_
   rotate_left
   ·show Act.put _ (some 37) _ = _
    refine pZ ?_
    rfl
   refine one_ (i := 3) (N := some 39) (bA 10 63) rfl rfl (one_of HT_.out (by kernel_rfl)) (by decide) (fun K hK => ?_)
   refine goes_ Try.func35 (by kernel_rfl) rfl #[.agg #[.int .i64 t877, .int .i64 t878, .int .i64 t879, .slice Ao56 t880.length co56], .agg #[.int .i64 1, .slice Ao47 y873.length co47, .int .i64 9]] (by rfl) rfl rfl qM ?_
   with_reducible refine (impl_ConvolveImage.calls t877 t878 t879 _ _ t880 1 _ _ y873 9 t883 t884 t885 t886 _ ?side1 ?side2 ?side3 ?side4 A41.out).mono ?_
   (case side1 => exact qC (Kd.R_reads' HO882.out).2.2)
   (case side2 => exact (Kd.R_reads' HO882.out).2.1)
   (case side3 => exact qC (Kd.R_reads' HO875.out).2.2)
   (case side4 => exact (Kd.R_reads' HO875.out).2.1)
   rintro e w57 ⟨v887, rfl, ho0, hb⟩
   refine ⟨_, rfl, ?_⟩
   have HO888 := aM (Kd.R_lower (Kd.R_new' (Kd.R_new' (Kd.R_new' (Kd.R_new' (Kd.R_new' ho0 (Kd.Q_lt (qQ HO_851003.out))) (Kd.R_lt (qR HO_852001.out))) (Kd.Q_lt (qQ HO_859003.out))) (Kd.R_lt (qR HO875.out))) (Kd.R_lt (qR HO882.out))) (below_size (qW HB.out)))
   replace HO_851003 := aM (Kd.Q_elder' (qQ HO_851003.out) (Kd.R_base ho0) hb)
   replace HO_852001 := aM (Kd.R_elder' (qR HO_852001.out) (Kd.R_base ho0) hb)
   replace HO_859003 := aM (Kd.Q_elder' (qQ HO_859003.out) (Kd.R_base ho0) hb)
   replace HO875 := aM (Kd.R_elder' (qR HO875.out) (Kd.R_base ho0) hb)
   replace HO882 := aM (Kd.R_elder' (qR HO882.out) (Kd.R_base ho0) hb)
   replace BK850 := bB BK850 hb
   replace BK851 := bB BK851 hb
   replace BK858 := bB BK858 hb
   replace BK876 := bB BK876 hb
   replace HB := bS HB hb
   (try clear hb)
   (try clear hb2)
   (try clear hk)
   (try clear hi)
   (try clear ho0)
   refine hK.out _ _ ⟨(blk_cell BK850.out 0).trans rfl, (blk_cell BK850.out 1).trans rfl, (blk_cell BK850.out 2).trans rfl, (blk_cell BK850.out 3).trans rfl, (blk_cell BK876.out 0).trans rfl, (blk_cell BK876.out 1).trans rfl, (blk_cell BK876.out 2).trans rfl⟩ (fun hHeld => ?_)
   clear hK K
   refine norm_ (a' := ?_) ?_ ?_
   rotate_left
   ·show Act.put _ (some 39) _ = _
    refine pZ ?_
    rfl
   refine one_ (i := 6) (N := some 42) (bA 10 127) rfl rfl (one_of HT_.out (by kernel_rfl)) (by decide) (fun K hK => ?_)
   refine goes_ Try.func35 (by kernel_rfl) rfl #[.agg #[.int .i64 t839, .int .i64 t840, .int .i64 t841, .slice Ao11 t842.length co11], .agg #[.int .i64 1, .slice Ao47 y873.length co47, .int .i64 9]] (by rfl) rfl rfl qM ?_
   with_reducible refine (impl_ConvolveImage.calls t839 t840 t841 _ _ t842 1 _ _ y873 9 t889 t890 t891 t892 _ ?side1 ?side2 ?side3 ?side4 A42.out).mono ?_
   (case side1 => exact qC (Kd.Q_reads' HO_851003.out).2.2)
   (case side2 => exact (Kd.Q_reads' HO_851003.out).2.1)
   (case side3 => exact qC (Kd.R_reads' HO875.out).2.2)
   (case side4 => exact (Kd.R_reads' HO875.out).2.1)
   rintro e w58 ⟨v893, rfl, ho0, hb⟩
   refine ⟨_, rfl, ?_⟩
   have HO894 := aM (Kd.R_lower (Kd.R_new' (Kd.R_new' (Kd.R_new' (Kd.R_new' (Kd.R_new' (Kd.R_new' ho0 (Kd.Q_lt (qQ HO_851003.out))) (Kd.R_lt (qR HO_852001.out))) (Kd.Q_lt (qQ HO_859003.out))) (Kd.R_lt (qR HO875.out))) (Kd.R_lt (qR HO882.out))) (Kd.R_lt (qR HO888.out))) (below_size (qW HB.out)))
   replace HO_851003 := aM (Kd.Q_elder' (qQ HO_851003.out) (Kd.R_base ho0) hb)
   replace HO_852001 := aM (Kd.R_elder' (qR HO_852001.out) (Kd.R_base ho0) hb)
   replace HO_859003 := aM (Kd.Q_elder' (qQ HO_859003.out) (Kd.R_base ho0) hb)
   replace HO875 := aM (Kd.R_elder' (qR HO875.out) (Kd.R_base ho0) hb)
   replace HO882 := aM (Kd.R_elder' (qR HO882.out) (Kd.R_base ho0) hb)
   replace HO888 := aM (Kd.R_elder' (qR HO888.out) (Kd.R_base ho0) hb)
   replace BK850 := bB BK850 hb
   replace BK851 := bB BK851 hb
   replace BK858 := bB BK858 hb
   replace BK876 := bB BK876 hb
   replace HB := bS HB hb
   (try clear hb)
   (try clear hb2)
   (try clear hk)
   (try clear hi)
   (try clear ho0)
   obtain ⟨Ao59, co59, eo59⟩ := Kd.R_slice HO894.out
   (first | subst eo59 | (injection eo59 with f1_ f2_ f3_; have f4_ := f1_.symm; have f5_ := f3_.symm; clear f1_ f2_ f3_; subst f4_; subst f5_))
   refine hK.out _ _ ⟨(blk_cell BK850.out 0).trans rfl, (blk_cell BK850.out 1).trans rfl, (blk_cell BK850.out 2).trans rfl, (blk_cell BK850.out 3).trans rfl, (blk_cell BK876.out 0).trans rfl, (blk_cell BK876.out 1).trans rfl, (blk_cell BK876.out 2).trans rfl⟩ (fun hHeld => ?_)
   clear hK K
   refine norm_ (a' := ?_) ?_ ?_
   rotate_left
   ·show Act.put _ (some 42) _ = _
    refine pZ ?_
    rfl
   refine one_ (i := 7) (N := some 43) (bA 10 255) rfl rfl (one_of HT_.out (by kernel_rfl)) (by decide) (fun K hK => ?_)
   refine goes_ Try.func41 (by kernel_rfl) rfl #[.agg #[.int .i64 t889, .int .i64 t890, .int .i64 t891, .slice Ao59 t892.length co59], .int .i64 1] (by rfl) rfl rfl qM ?_
   with_reducible refine (impl_TurnImage.calls t889 t890 t891 _ _ t892 1 t895 t896 t897 t898 _ ?side1 ?side2 A43.out).mono ?_
   (case side1 => exact qC (Kd.R_reads' HO894.out).2.2)
   (case side2 => exact (Kd.R_reads' HO894.out).2.1)
   rintro e w60 ⟨v899, rfl, ho0, hb⟩
   refine ⟨_, rfl, ?_⟩
   have HO900 := aM (Kd.R_lower (Kd.R_new' (Kd.R_new' (Kd.R_new' (Kd.R_new' (Kd.R_new' (Kd.R_new' (Kd.R_new' ho0 (Kd.Q_lt (qQ HO_851003.out))) (Kd.R_lt (qR HO_852001.out))) (Kd.Q_lt (qQ HO_859003.out))) (Kd.R_lt (qR HO875.out))) (Kd.R_lt (qR HO882.out))) (Kd.R_lt (qR HO888.out))) (Kd.R_lt (qR HO894.out))) (below_size (qW HB.out)))
   replace HO_851003 := aM (Kd.Q_elder' (qQ HO_851003.out) (Kd.R_base ho0) hb)
   replace HO_852001 := aM (Kd.R_elder' (qR HO_852001.out) (Kd.R_base ho0) hb)
   replace HO_859003 := aM (Kd.Q_elder' (qQ HO_859003.out) (Kd.R_base ho0) hb)
   replace HO875 := aM (Kd.R_elder' (qR HO875.out) (Kd.R_base ho0) hb)
   replace HO882 := aM (Kd.R_elder' (qR HO882.out) (Kd.R_base ho0) hb)
   replace HO888 := aM (Kd.R_elder' (qR HO888.out) (Kd.R_base ho0) hb)
   replace HO894 := aM (Kd.R_elder' (qR HO894.out) (Kd.R_base ho0) hb)
   replace BK850 := bB BK850 hb
   replace BK851 := bB BK851 hb
   replace BK858 := bB BK858 hb
   replace BK876 := bB BK876 hb
   replace HB := bS HB hb
   (try clear hb)
   (try clear hb2)
   (try clear hk)
   (try clear hi)
   (try clear ho0)
   obtain ⟨Ao61, co61, eo61⟩ := Kd.R_slice HO888.out
   (first | subst eo61 | (injection eo61 with f1_ f2_ f3_; have f4_ := f1_.symm; have f5_ := f3_.symm; clear f1_ f2_ f3_; subst f4_; subst f5_))
   obtain ⟨Ao62, co62, eo62⟩ := Kd.R_slice HO900.out
   (first | subst eo62 | (injection eo62 with f1_ f2_ f3_; have f4_ := f1_.symm; have f5_ := f3_.symm; clear f1_ f2_ f3_; subst f4_; subst f5_))
   refine hK.out _ _ ⟨(blk_cell BK850.out 0).trans rfl, (blk_cell BK850.out 1).trans rfl, (blk_cell BK850.out 2).trans rfl, (blk_cell BK850.out 3).trans rfl, (blk_cell BK876.out 0).trans rfl, (blk_cell BK876.out 1).trans rfl, (blk_cell BK876.out 2).trans rfl⟩ (fun hHeld => ?_)
   clear hK K
   refine norm_ (a' := ?_) ?_ ?_
   rotate_left
   ·show Act.put _ (some 43) _ = _
    refine pZ ?_
    rfl
   refine one_ (i := 8) (N := some 44) (bA 10 511) rfl rfl (one_of HT_.out (by kernel_rfl)) (by decide) (fun K hK => ?_)
   refine goes_ Try.func15 (by kernel_rfl) rfl #[.agg #[.int .i64 t883, .int .i64 t884, .int .i64 t885, .slice Ao61 t886.length co61], .agg #[.int .i64 t895, .int .i64 t896, .int .i64 t897, .slice Ao62 t898.length co62]] (by rfl) rfl rfl qM ?_
   with_reducible refine (laws_equalImage.calls kj4 t883 t884 t885 _ _ t886 t895 t896 t897 _ _ t898 t901 _ ?side1 ?side2 ?side3 ?side4 A44.out).mono ?_
   (case side1 => exact qC (Kd.R_reads' HO888.out).2.2)
   (case side2 => exact (Kd.R_reads' HO888.out).2.1)
   (case side3 => exact qC (Kd.R_reads' HO900.out).2.2)
   (case side4 => exact (Kd.R_reads' HO900.out).2.1)
   rintro e w63 ⟨rfl, hb⟩
   refine ⟨_, rfl, ?_⟩
   replace HO_851003 := aM (Kd.Q_below (qQ HO_851003.out) hb)
   replace HO_852001 := aM (Kd.R_below (qR HO_852001.out) hb)
   replace HO_859003 := aM (Kd.Q_below (qQ HO_859003.out) hb)
   replace HO875 := aM (Kd.R_below (qR HO875.out) hb)
   replace HO882 := aM (Kd.R_below (qR HO882.out) hb)
   replace HO888 := aM (Kd.R_below (qR HO888.out) hb)
   replace HO894 := aM (Kd.R_below (qR HO894.out) hb)
   replace HO900 := aM (Kd.R_below (qR HO900.out) hb)
   replace BK850 := bB BK850 hb
   replace BK851 := bB BK851 hb
   replace BK858 := bB BK858 hb
   replace BK876 := bB BK876 hb
   replace HB := bS HB hb
   (try clear hb)
   (try clear hb2)
   (try clear hk)
   (try clear hi)
   refine hK.out _ _ ⟨(blk_cell BK850.out 0).trans rfl, (blk_cell BK850.out 1).trans rfl, (blk_cell BK850.out 2).trans rfl, (blk_cell BK850.out 3).trans rfl, (blk_cell BK876.out 0).trans rfl, (blk_cell BK876.out 1).trans rfl, (blk_cell BK876.out 2).trans rfl⟩ (fun hHeld => ?_)
   clear hK K
   refine norm_ (a' := ?_) ?_ ?_
   rotate_left
   ·show Act.put _ (some 44) _ = _
    refine pZ ?_
    rfl
   refine pQ 9 2 HT_ (bA 10 1023) ?_
   refine done_ (done_of HT_.out (by kernel_rfl)) ?_
   try go_wp2
   go_ret
   exact ⟨qX, by exact qW HB.out⟩
def laws_FnConvolveImageTurn.Pure : Prop := ∀ (l0 : List Int), l0.length ≤ maxLen → l0.length * 1 ≤ 140737488351232 → (∀ x ∈ l0, (Lit.int .u8 x).wf = true) → ∃ k, laws_FnConvolveImageTurn.f k l0 = some true
theorem laws_FnConvolveImageTurn.walk (P : laws_FnConvolveImageTurn.Pure) (a0 : Option Addr) (len0 cap0 : Nat) (z0 : List Int) (w : World) (w0 : (a0 = none ∧ len0 = 0 ∧ cap0 = 0 ∧ z0 = []) ∨ ∃ x, a0 = some x ∧ len0 ≤ cap0 ∧ cap0 ≤ maxLen ∧ z0.length = cap0 ∧ (∀ i, i < z0.length → w.cell? (x.add i) = some (.int .u8 (z0.getD i 0))) ∧ ∀ n ∈ z0, (Lit.int .u8 n).wf = true) (y0 : len0 * 1 ≤ 140737488351232) :
  Calls Try.prog 11 #[.slice a0 len0 cap0] w fun e w' => e = .returned (.bool true) ∧ Below w.heap.size w w' := by
 obtain ⟨l0, rfl, hr0, hm0, hw0, hc0⟩ := ReadsInt.ofRowC w0
 obtain ⟨k, h⟩ := P l0 hm0 y0 hw0
 refine (laws_FnConvolveImageTurn.calls k _ _ l0 true w (Kd.C_of_reads (d := (0 : Int)) (h1 := fun _ => rfl) hr0) hc0 h).mono ?_
 rintro e w' ⟨rfl, hd⟩
 exact ⟨rfl, hd⟩
end Go.Proofs.Yteeeedmmcdlhjaa.P
