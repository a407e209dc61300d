/- Contracts and row, written by a program of this place out of the translation: the call answers true and its argument reads as before, for every input; no condition. -/
import Derived.Test.YteeeedmmcdlhjaaK0
import Derived.Test.YteeeedmmcdlhjaaK2
import Derived.Test.YteeeedmmcdlhjaaK3
import Derived.Test.YteeeedmmcdlhjaaK4
import Derived.Test.YteeeedmmcdlhjaaK6
namespace Go.Proofs.Yteeeedmmcdlhjaa.P
open Go.RowKit Go.Proofs.YteeeedmmcdlhjaaW.PrintWords Go.Proofs.YteeeedmmcdlhjaaW.PrintLast Go.Proofs.YteeeedmmcdlhjaaW.PrintMore
attribute [local go_sem] max2_int min2_int max_two min_two max_three min_three max_four min_four   -- for this text's walks alone
set_option linter.unusedVariables false
set_option linter.unusedSimpArgs false
def laws_FnConvolveImage.j0 : Nat → Bool → Int → Int → Int → List Int → Int → List Int → Int → Int → Int → Int → List Int → Option (Bool)
 | 0, _, _, _, _, _, _, _, _, _, _, _, _ => none
 | k + 1, x30, x807000, x807001, x807002, x807003, x808000, x808001, x808002, x815000, x815001, x815002, x815003 => if x30 = true then ((spec_ConvolveImage.f k x807000 x807001 x807002 x807003 x808000 x808001 x808002).bind fun bt822 => ((laws_equalImage.f k x815000 x815001 x815002 x815003 bt822.1 bt822.2.1 bt822.2.2.1 bt822.2.2.2).bind fun t828 => (some t828))) else ((impl_PixelAt.f x807000 x807001 x807002 x807003 0 0).bind fun t829 => ((impl_FillImage.f k x807000 x807001 t829).bind fun bt832 => ((impl_ConvolveImage.f bt832.1 bt832.2.1 bt832.2.2.1 bt832.2.2.2 x808000 x808001 x808002).bind fun bt839 => ((impl_PaletteOf.f bt839.1 bt839.2.1 bt839.2.2.1 bt839.2.2.2).bind fun bt845 => ((impl_ConvolveImage.f x807000 x807001 x807002 x807003 0 (([1] : List Int)) 1).bind fun bt852 => ((laws_equalImage.f k bt852.1 bt852.2.1 bt852.2.2.1 bt852.2.2.2 x807000 x807001 x807002 x807003).bind fun t858 => (if t858 = true then (if bt845.2 = true then (some ((bt845.1.length : Int) == 1)) else (some false)) else (some false))))))))
def laws_FnConvolveImage.f (k : Nat) (l0 : List Int) : Option (Bool) := if (l0.length : Int) > 1048576 then (some true) else ((spec_DrawConvolveImage.f k l0).bind fun bt795 => ((impl_ConvolveImage.f bt795.1 bt795.2.1 bt795.2.2.1 bt795.2.2.2.1 bt795.2.2.2.2.1 bt795.2.2.2.2.2.1 bt795.2.2.2.2.2.2).bind fun bt808 => ((spec_ConvolveImage.f k bt795.1 bt795.2.1 bt795.2.2.1 bt795.2.2.2.1 bt795.2.2.2.2.1 bt795.2.2.2.2.2.1 bt795.2.2.2.2.2.2).bind fun bt815 => ((laws_equalImage.f k bt808.1 bt808.2.1 bt808.2.2.1 bt808.2.2.2 bt815.1 bt815.2.1 bt815.2.2.1 bt815.2.2.2).bind fun t821 => (if t821 = true then (laws_FnConvolveImage.j0 k (bt808.1 == 0) bt795.1 bt795.2.1 bt795.2.2.1 bt795.2.2.2.1 bt795.2.2.2.2.1 bt795.2.2.2.2.2.1 bt795.2.2.2.2.2.2 bt808.1 bt808.2.1 bt808.2.2.1 bt808.2.2.2) else (laws_FnConvolveImage.j0 k true bt795.1 bt795.2.1 bt795.2.2.1 bt795.2.2.2.1 bt795.2.2.2.2.1 bt795.2.2.2.2.2.1 bt795.2.2.2.2.2.2 bt808.1 bt808.2.1 bt808.2.2.1 bt808.2.2.2))))))
theorem laws_FnConvolveImage.mono_l : ∀ k, (∀ y0 y1 y2 y3 y4 y5 y6 y7 y8 y9 y10 y11, LeO (laws_FnConvolveImage.j0 k y0 y1 y2 y3 y4 y5 y6 y7 y8 y9 y10 y11) (laws_FnConvolveImage.j0 (k + 1) y0 y1 y2 y3 y4 y5 y6 y7 y8 y9 y10 y11))
 | 0 => fun _ _ _ _ _ _ _ _ _ _ _ _ r h => by simp [laws_FnConvolveImage.j0] at h
 | k + 1 => by
  have ih0 := laws_FnConvolveImage.mono_l k
  ·intro y0 y1 y2 y3 y4 y5 y6 y7 y8 y9 y10 y11
   unfold laws_FnConvolveImage.j0
   repeat' first | (with_reducible first | exact ih0 _ _ _ _ _ _ _ _ _ _ _ _ | exact impl_FillImage.mono _ _ _ _ | exact laws_equalImage.mono _ _ _ _ _ _ _ _ _ | exact spec_ConvolveImage.mono _ _ _ _ _ _ _ _ | exact spec_DrawConvolveImage.mono _ _ | exact lR | exact lN | refine lI ?_ ?_ | refine lB ?_ fun _ => ?_) | exact ih0 _ _ _ _ _ _ _ _ _ _ _ _ | exact impl_FillImage.mono _ _ _ _ | exact laws_equalImage.mono _ _ _ _ _ _ _ _ _ | exact spec_ConvolveImage.mono _ _ _ _ _ _ _ _ | exact spec_DrawConvolveImage.mono _ _ | exact lN | refine lI ?_ ?_ | refine lB ?_ fun _ => ?_
theorem laws_FnConvolveImage.mono : ∀ a0 k, LeO (laws_FnConvolveImage.f k a0) (laws_FnConvolveImage.f (k + 1) a0) := by
 intro a0 k
 have ih0 := laws_FnConvolveImage.mono_l k
 unfold laws_FnConvolveImage.f
 repeat' first | (with_reducible first | exact ih0 _ _ _ _ _ _ _ _ _ _ _ _ | exact impl_FillImage.mono _ _ _ _ | exact laws_equalImage.mono _ _ _ _ _ _ _ _ _ | exact spec_ConvolveImage.mono _ _ _ _ _ _ _ _ | exact spec_DrawConvolveImage.mono _ _ | exact lR | exact lN | refine lI ?_ ?_ | refine lB ?_ fun _ => ?_) | exact ih0 _ _ _ _ _ _ _ _ _ _ _ _ | exact impl_FillImage.mono _ _ _ _ | exact laws_equalImage.mono _ _ _ _ _ _ _ _ _ | exact spec_ConvolveImage.mono _ _ _ _ _ _ _ _ | exact spec_DrawConvolveImage.mono _ _ | exact lN | refine lI ?_ ?_ | refine lB ?_ fun _ => ?_
def laws_FnConvolveImage.T5 : Bool × List (List Nat × List Nat) := (true, [([], []), ([], []), ([], []), ([1, 2], [1, 2]), ([0, 3, 3], [0, 3]), ([4], [4]), ([5, 4], [5]), ([6], [6]), ([7, 6], [6, 7]), ([8, 6], [6, 8]), ([6, 9], [6, 9])])
def laws_FnConvolveImage.B5 : List Nat := [0, 0, 0, 6, 15, 31, 63, 127, 255, 511, 1023]
theorem laws_FnConvolveImage.tab5 : rtab .any (opsOf Try.f10 5) = laws_FnConvolveImage.T5 := by kernel_rfl
theorem laws_FnConvolveImage.bits5 : waitsOk laws_FnConvolveImage.T5.2 laws_FnConvolveImage.B5 = true := by kernel_rfl
def laws_FnConvolveImage.T7 : Bool × List (List Nat × List Nat) := (true, [([], []), ([0], [0]), ([], []), ([2], [2]), ([], []), ([4], [4]), ([1, 3, 5, 5], [1, 3, 5]), ([], []), ([7, 6, 6, 0, 1, 2, 3, 4, 5, 6, 7], [6, 7])])
def laws_FnConvolveImage.B7 : List Nat := [0, 1, 0, 4, 0, 16, 63, 0, 255]
theorem laws_FnConvolveImage.tab7 : rtab .any (opsOf Try.f10 7) = laws_FnConvolveImage.T7 := by kernel_rfl
theorem laws_FnConvolveImage.bits7 : waitsOk laws_FnConvolveImage.T7.2 laws_FnConvolveImage.B7 = true := by kernel_rfl
def laws_FnConvolveImage.T9 : Bool × List (List Nat × List Nat) := (true, [([], []), ([], []), ([1], [1]), ([0, 2], [0, 2]), ([], []), ([3, 4, 3], [3, 4]), ([5, 5], [5]), ([6], [6]), ([6, 7], [6, 7]), ([8, 6], [8]), ([9], [9]), ([10, 9], [9, 10]), ([11, 9], [9, 11]), ([9, 12], [9, 12]), ([13, 9, 0, 1, 2, 3, 4, 5, 6, 7, 8, 9, 10, 11, 12, 13], [13])])
def laws_FnConvolveImage.B9 : List Nat := [0, 0, 2, 7, 0, 31, 63, 127, 255, 511, 1023, 2047, 4095, 8191, 16383]
theorem laws_FnConvolveImage.tab9 : rtab .any (opsOf Try.f10 9) = laws_FnConvolveImage.T9 := by kernel_rfl
theorem laws_FnConvolveImage.bits9 : waitsOk laws_FnConvolveImage.T9.2 laws_FnConvolveImage.B9 = true := by kernel_rfl
set_option maxHeartbeats 8000000 in
set_option maxRecDepth 100000 in
theorem laws_FnConvolveImage.calls (k : Nat) (A0 : Option Addr) (c0 : Nat) (l0 : List Int) (r : Bool) (w : World) (hr0 : Kd.C (Kd.int .u8) w A0 l0.length l0) (hc0 : l0.length ≤ c0) (h : laws_FnConvolveImage.f k l0 = some r) (hrt : r = true) :
  Calls Try.prog 10 #[.slice A0 l0.length c0] w fun e w' => e = .returned (.bool r) ∧ Below w.heap.size w w' := by
 have hu27 := Try.underlying27
 have hu49 := Try.underlying49
 have HR0 := aM hr0
 have HC0 := aM hc0
 clear hr0 hc0
 have HB := aM (Below.refl w.heap.size w)
 unfold laws_FnConvolveImage.f at h
 have H := h
 clear h
 by_cases c2 : (l0.length : Int) > 1048576
 ·rw [if_pos c2] at H
  have c2b0 : decide (1048576 < (l0.length : Int)) = true := decide_eq_true c2
  have c2b1 : decide (1048576 < l0.length) = true := decide_eq_true (by omega)
  clear c2
  obtain rfl := Option.some.inj H
  go_enter Try.func10, Try.ntmps10
  go_wp2
  go_ret
  exact ⟨qX, by exact qW HB.out⟩
 rw [if_neg c2] at H
 have c2b0 : decide (1048576 < (l0.length : Int)) = false := decide_eq_false c2
 have c2b1 : decide (1048576 < l0.length) = false := decide_eq_false (by omega)
 clear c2
 replace H := Option.bind_eq_some_iff.mp H
 obtain ⟨⟨t795, t796, t797, t798, t801, t802, t805⟩, A30, H⟩ := H
 replace H : ((impl_ConvolveImage.f t795 t796 t797 t798 t801 t802 t805).bind fun bt808 => ((spec_ConvolveImage.f k t795 t796 t797 t798 t801 t802 t805).bind fun bt815 => ((laws_equalImage.f k bt808.1 bt808.2.1 bt808.2.2.1 bt808.2.2.2 bt815.1 bt815.2.1 bt815.2.2.1 bt815.2.2.2).bind fun t821 => (if t821 = true then (laws_FnConvolveImage.j0 k (bt808.1 == 0) t795 t796 t797 t798 t801 t802 t805 bt808.1 bt808.2.1 bt808.2.2.1 bt808.2.2.2) else (laws_FnConvolveImage.j0 k true t795 t796 t797 t798 t801 t802 t805 bt808.1 bt808.2.1 bt808.2.2.1 bt808.2.2.2))))) = some r := H
 have A3 := aM A30
 clear A30
 replace H := Option.bind_eq_some_iff.mp H
 obtain ⟨⟨t808, t809, t810, t811⟩, A40, H⟩ := H
 replace H : ((spec_ConvolveImage.f k t795 t796 t797 t798 t801 t802 t805).bind fun bt815 => ((laws_equalImage.f k t808 t809 t810 t811 bt815.1 bt815.2.1 bt815.2.2.1 bt815.2.2.2).bind fun t821 => (if t821 = true then (laws_FnConvolveImage.j0 k (t808 == 0) t795 t796 t797 t798 t801 t802 t805 t808 t809 t810 t811) else (laws_FnConvolveImage.j0 k true t795 t796 t797 t798 t801 t802 t805 t808 t809 t810 t811)))) = some r := H
 have A4 := aM A40
 clear A40
 have HC5 := aM H
 clear H
 go_enter Try.func10, Try.ntmps10
 go_upto_region 5 with (first | ((with_reducible refine gate_callee (f := 38) rfl ?_); refine gL (some 14) Try.func38 #[.slice A0 l0.length c0] ?_; (with_reducible refine (spec_DrawConvolveImage.calls k _ _ l0 t795 t796 t797 t798 t801 t802 t805 _ ?side1 ?side2 A3.out).mono ?_); (case side1 => exact qC HR0.out); (case side2 => exact HC0.out); rintro e w6 ⟨v799, v803, rfl, ho0, ho1, hb⟩; refine ⟨_, rfl, ?_⟩; have HO800 := aM (Kd.Q_lower ho0 (below_size (qW HB.out))); have HO804 := oR ho1 HB; replace HB := bS HB hb; clear hb ho0 ho1) | ((with_reducible refine gate_dst (N := 3) rfl ?_); (try (refine gate_guard (by rfl) ?_; dsimp only)); refine bxE (N := 3) (cs := #[.int .i64 0, .int .i64 0, .int .i64 0, .slice none 0 0]) (t := 27) ?_; intro gb806 hg w7 hbox hb; replace HO800 := aM (Kd.Q_below (qQ HO800.out) hb); replace HO804 := aM (Kd.R_below (qR HO804.out) hb); have BK806 := aM (hbox); have GW806 := gW hg HB; have GE806 := gW hg HB; replace HB := bS HB hb; clear hb hbox hg) | ((with_reducible refine gate_dst (N := 4) rfl ?_); (try (refine gate_guard (by rfl) ?_; dsimp only)); refine bxE (N := 4) (cs := #[.int .i64 0, .slice none 0 0, .int .i64 0]) (t := 49) ?_; intro gb807 hg w8 hbox hb; replace HO800 := aM (Kd.Q_below (qQ HO800.out) hb); replace HO804 := aM (Kd.R_below (qR HO804.out) hb); have BK807 := aM (hbox); have GW807 := gW hg HB; have GE807 := gW hg HB; replace HB := bS HB hb; have NB806_807 := nL hg BK806; have NB807_806 := nG hg BK806; replace BK806 := bB BK806 hb; clear hb hbox hg; have hnb9 := NB806_807.out; have hnc9 := NB807_806.out; obtain ⟨⟨hcz10_0, hcz10_1, hcz10_2, hcz10_3⟩, hfz10_0, hfz10_1, hfz10_2, hfz10_3⟩ := cf4 BK806; obtain ⟨Ao11, co11, eo11, _⟩ := Kd.Q_slice HO800.out; subst eo11; obtain ⟨⟨hcz12_0, hcz12_1, hcz12_2⟩, hfz12_0, hfz12_1, hfz12_2⟩ := cf3 BK807; obtain ⟨Ao13, co13, rfl⟩ := sL HO804) | ((with_reducible refine gate_callee (f := 35) rfl ?_); refine gL (some 19) Try.func35 #[.agg #[.int .i64 t795, .int .i64 t796, .int .i64 t797, .slice Ao11 t798.length co11], .agg #[.int .i64 t801, .slice Ao13 t802.length co13, .int .i64 t805]] ?_; (with_reducible refine (impl_ConvolveImage.calls t795 t796 t797 _ _ t798 t801 _ _ t802 t805 t808 t809 t810 t811 _ ?side1 ?side2 ?side3 ?side4 A4.out).mono ?_); (case side1 => refine (Kd.Q_reads' (e := 3) (base := w.heap.size) (ok := fun k_ => some k_ ≠ (.slice Ao13 t802.length co13 : Value).ownBlock) (n := t798.length) (c := co11) ?_).2.2; exact (by (with_reducible repeat (first | apply Kd.Q_alloc | apply Kd.Q_drewN | apply Kd.Q_drew)); exact (Kd.Q_mono (Kd.Q_mono (Kd.Q_far (p := ⟨gb807, 2, none⟩) (Kd.Q_far (p := ⟨gb807, 1, none⟩) (Kd.Q_far (p := ⟨gb807, 0, none⟩) (Kd.Q_far (p := ⟨gb806, 3, none⟩) (Kd.Q_far (p := ⟨gb806, 2, none⟩) (Kd.Q_far (p := ⟨gb806, 1, none⟩) (Kd.Q_far (p := ⟨gb806, 0, none⟩) (Kd.Q_types (Kd.Q_types HO800.out BK806.out (by decide)) BK807.out (by decide)) (fun _ hk => hk.1.2) (.int .i64 t795)) (fun _ hk => hk.1.2) (.int .i64 t796)) (fun _ hk => hk.1.2) (.int .i64 t797)) (fun _ hk => hk.1.2) (.slice Ao11 t798.length co11)) (fun _ hk => hk.2) (.int .i64 t801)) (fun _ hk => hk.2) (.slice Ao13 t802.length co13)) (fun _ hk => hk.2) (.int .i64 t805)) (fun _ h_ => h_.1)) (fun _ h_ => h_.1)))); (case side2 => exact (Kd.Q_reads' HO800.out).2.1); (case side3 => refine (Kd.R_reads' (e := 3) (base := w.heap.size) (ok := fun k_ => some k_ ≠ (.slice Ao11 t798.length co11 : Value).ownBlock) (n := t802.length) (c := co13) ?_).2.2; exact (by refine qR ?_; exact (Kd.R_mono (Kd.R_mono (Kd.R_far (p := ⟨gb807, 2, none⟩) (Kd.R_far (p := ⟨gb807, 1, none⟩) (Kd.R_far (p := ⟨gb807, 0, none⟩) (Kd.R_far (p := ⟨gb806, 3, none⟩) (Kd.R_far (p := ⟨gb806, 2, none⟩) (Kd.R_far (p := ⟨gb806, 1, none⟩) (Kd.R_far (p := ⟨gb806, 0, none⟩) (Kd.R_types (Kd.R_types HO804.out BK806.out (by decide)) BK807.out (by decide)) (fun _ hk => hk.1.2) (.int .i64 t795)) (fun _ hk => hk.1.2) (.int .i64 t796)) (fun _ hk => hk.1.2) (.int .i64 t797)) (fun _ hk => hk.1.2) (.slice Ao11 t798.length co11)) (fun _ hk => hk.2) (.int .i64 t801)) (fun _ hk => hk.2) (.slice Ao13 t802.length co13)) (fun _ hk => hk.2) (.int .i64 t805)) (fun _ h_ => h_.1)) (fun _ h_ => h_.1)))); (case side4 => exact (Kd.R_reads' HO804.out).2.1); rintro e w14 ⟨v812, rfl, ho0, hb⟩; refine ⟨_, rfl, ?_⟩; have HO813 := aM (Kd.R_lower (Kd.R_new' (Kd.R_new' ho0 (Kd.Q_lt (by (with_reducible repeat (first | apply Kd.Q_alloc | apply Kd.Q_drewN | apply Kd.Q_drew)); exact (Kd.Q_mono (Kd.Q_mono (Kd.Q_far (p := ⟨gb807, 2, none⟩) (Kd.Q_far (p := ⟨gb807, 1, none⟩) (Kd.Q_far (p := ⟨gb807, 0, none⟩) (Kd.Q_far (p := ⟨gb806, 3, none⟩) (Kd.Q_far (p := ⟨gb806, 2, none⟩) (Kd.Q_far (p := ⟨gb806, 1, none⟩) (Kd.Q_far (p := ⟨gb806, 0, none⟩) (Kd.Q_types (Kd.Q_types HO800.out BK806.out (by decide)) BK807.out (by decide)) (fun _ hk => hk.1.2) (.int .i64 t795)) (fun _ hk => hk.1.2) (.int .i64 t796)) (fun _ hk => hk.1.2) (.int .i64 t797)) (fun _ hk => hk.1.2) (.slice Ao11 t798.length co11)) (fun _ hk => hk.2) (.int .i64 t801)) (fun _ hk => hk.2) (.slice Ao13 t802.length co13)) (fun _ hk => hk.2) (.int .i64 t805)) (fun _ h_ => h_.1)) (fun _ h_ => h_.1))))) (Kd.R_lt (by refine qR ?_; exact (Kd.R_mono (Kd.R_mono (Kd.R_far (p := ⟨gb807, 2, none⟩) (Kd.R_far (p := ⟨gb807, 1, none⟩) (Kd.R_far (p := ⟨gb807, 0, none⟩) (Kd.R_far (p := ⟨gb806, 3, none⟩) (Kd.R_far (p := ⟨gb806, 2, none⟩) (Kd.R_far (p := ⟨gb806, 1, none⟩) (Kd.R_far (p := ⟨gb806, 0, none⟩) (Kd.R_types (Kd.R_types HO804.out BK806.out (by decide)) BK807.out (by decide)) (fun _ hk => hk.1.2) (.int .i64 t795)) (fun _ hk => hk.1.2) (.int .i64 t796)) (fun _ hk => hk.1.2) (.int .i64 t797)) (fun _ hk => hk.1.2) (.slice Ao11 t798.length co11)) (fun _ hk => hk.2) (.int .i64 t801)) (fun _ hk => hk.2) (.slice Ao13 t802.length co13)) (fun _ hk => hk.2) (.int .i64 t805)) (fun _ h_ => h_.1)) (fun _ h_ => h_.1))))) (below_size (qW HB.out))); replace HO800 := aM (Kd.Q_elder' (by (with_reducible repeat (first | apply Kd.Q_alloc | apply Kd.Q_drewN | apply Kd.Q_drew)); exact (Kd.Q_mono (Kd.Q_mono (Kd.Q_far (p := ⟨gb807, 2, none⟩) (Kd.Q_far (p := ⟨gb807, 1, none⟩) (Kd.Q_far (p := ⟨gb807, 0, none⟩) (Kd.Q_far (p := ⟨gb806, 3, none⟩) (Kd.Q_far (p := ⟨gb806, 2, none⟩) (Kd.Q_far (p := ⟨gb806, 1, none⟩) (Kd.Q_far (p := ⟨gb806, 0, none⟩) (Kd.Q_types (Kd.Q_types HO800.out BK806.out (by decide)) BK807.out (by decide)) (fun _ hk => hk.1.2) (.int .i64 t795)) (fun _ hk => hk.1.2) (.int .i64 t796)) (fun _ hk => hk.1.2) (.int .i64 t797)) (fun _ hk => hk.1.2) (.slice Ao11 t798.length co11)) (fun _ hk => hk.2) (.int .i64 t801)) (fun _ hk => hk.2) (.slice Ao13 t802.length co13)) (fun _ hk => hk.2) (.int .i64 t805)) (fun _ h_ => h_.1)) (fun _ h_ => h_.1))) (Kd.R_base ho0) hb); replace HO804 := aM (Kd.R_elder' (by refine qR ?_; exact (Kd.R_mono (Kd.R_mono (Kd.R_far (p := ⟨gb807, 2, none⟩) (Kd.R_far (p := ⟨gb807, 1, none⟩) (Kd.R_far (p := ⟨gb807, 0, none⟩) (Kd.R_far (p := ⟨gb806, 3, none⟩) (Kd.R_far (p := ⟨gb806, 2, none⟩) (Kd.R_far (p := ⟨gb806, 1, none⟩) (Kd.R_far (p := ⟨gb806, 0, none⟩) (Kd.R_types (Kd.R_types HO804.out BK806.out (by decide)) BK807.out (by decide)) (fun _ hk => hk.1.2) (.int .i64 t795)) (fun _ hk => hk.1.2) (.int .i64 t796)) (fun _ hk => hk.1.2) (.int .i64 t797)) (fun _ hk => hk.1.2) (.slice Ao11 t798.length co11)) (fun _ hk => hk.2) (.int .i64 t801)) (fun _ hk => hk.2) (.slice Ao13 t802.length co13)) (fun _ hk => hk.2) (.int .i64 t805)) (fun _ h_ => h_.1)) (fun _ h_ => h_.1))) (Kd.R_base ho0) hb); replace BK806 := aM (blk_below (g := gb806) (o := .cells #[.int .i64 t795, .int .i64 t796, .int .i64 t797, .slice Ao11 t798.length co11] 27 (0, 0)) (by refine qB ?_; refine blk_far ?_ NB806_807.out _; refine qB ?_; refine blk_far ?_ NB806_807.out _; refine qB ?_; refine blk_far ?_ NB806_807.out _; exact bP BK806.out) hb); replace BK807 := aM (blk_below (g := gb807) (o := .cells #[.int .i64 t801, .slice Ao13 t802.length co13, .int .i64 t805] 49 (0, 0)) (by refine qB ?_; refine blk_put (cs := #[.int .i64 t801, .slice Ao13 t802.length co13, .int .i64 0]) ?_ 2 _ rfl; refine qB ?_; refine blk_put (cs := #[.int .i64 t801, .slice none 0 0, .int .i64 0]) ?_ 1 _ rfl; refine qB ?_; refine blk_put (cs := #[.int .i64 0, .slice none 0 0, .int .i64 0]) ?_ 0 _ rfl; refine qB ?_; refine blk_far ?_ NB807_806.out _; refine qB ?_; refine blk_far ?_ NB807_806.out _; refine qB ?_; refine blk_far ?_ NB807_806.out _; refine qB ?_; refine blk_far ?_ NB807_806.out _; refine qB ?_; exact BK807.out) hb); replace HB := bS HB hb; clear hb ho0) | ((with_reducible refine gate_dst (N := 5) rfl ?_); (try (refine gate_guard (by rfl) ?_; dsimp only)); refine bxE (N := 5) (cs := #[.int .i64 0, .int .i64 0, .int .i64 0, .slice none 0 0]) (t := 27) ?_; intro gb814 hg w15 hbox hb; replace HO800 := aM (Kd.Q_below (qQ HO800.out) hb); replace HO804 := aM (Kd.R_below (qR HO804.out) hb); replace HO813 := aM (Kd.R_below (qR HO813.out) hb); have BK814 := aM (hbox); have GW814 := gW hg HB; have GE814 := gW hg HB; replace HB := bS HB hb; have NB806_814 := nL hg BK806; have NB814_806 := nG hg BK806; replace BK806 := bB BK806 hb; have NB807_814 := nL hg BK807; have NB814_807 := nG hg BK807; replace BK807 := bB BK807 hb; clear hb hbox hg; have hnb16 := NB814_806.out; have hnc16 := NB806_814.out; have hnb17 := NB814_807.out; have hnc17 := NB807_814.out; obtain ⟨⟨hcz18_0, hcz18_1, hcz18_2, hcz18_3⟩, hfz18_0, hfz18_1, hfz18_2, hfz18_3⟩ := cf4 BK814; obtain ⟨Ao19, co19, rfl⟩ := sL HO813))
 (try simp only [Act.put, List.setIfInBounds_toArray, List.set_cons_zero, List.set_cons_succ])
 go_cut [30] (fun v30 wc => ∃ (kq : Nat) (x30_4 : Bool), v30 = .bool x30_4 ∧ Aside0 (laws_FnConvolveImage.j0 kq x30_4 t795 t796 t797 t798 t801 t802 t805 t808 t809 t810 t811 = some r) ∧ Aside0 (kq ≤ k) ∧ Aside0 (Kd.Q (Kd.int .i64) 3 wc w.heap.size (fun k_ => some k_ ≠ ((.slice Ao13 t802.length co13) : Value).ownBlock ∧ some k_ ≠ ((.slice Ao19 t811.length co19) : Value).ownBlock) (.slice Ao11 t798.length co11) t798) ∧ Aside0 (Kd.R (Kd.int .i64) 3 wc w.heap.size (fun k_ => some k_ ≠ ((.slice Ao11 t798.length co11) : Value).ownBlock ∧ some k_ ≠ ((.slice Ao19 t811.length co19) : Value).ownBlock) (.slice Ao13 t802.length co13) t802) ∧ Aside0 (Kd.Q (Kd.int .i64) 3 wc w.heap.size (fun k_ => some k_ ≠ ((.slice Ao11 t798.length co11) : Value).ownBlock ∧ some k_ ≠ ((.slice Ao13 t802.length co13) : Value).ownBlock) (.slice Ao19 t811.length co19) t811) ∧ Aside0 (wc.heap[gb806]? = some (.cells #[.int .i64 t795, .int .i64 t796, .int .i64 t797, (.slice Ao11 t798.length co11)] 27 (0, 0))) ∧ Aside0 (wc.heap[gb807]? = some (.cells #[.int .i64 t801, (.slice Ao13 t802.length co13), .int .i64 t805] 49 (0, 0))) ∧ Aside0 (wc.heap[gb814]? = some (.cells #[.int .i64 t808, .int .i64 t809, .int .i64 t810, (.slice Ao19 t811.length co19)] 27 (0, 0))) ∧ Aside0 (Below w.heap.size w wc))
 case first =>
  have H := HC5.out
  clear HC5
  replace H := Option.bind_eq_some_iff.mp H
  obtain ⟨⟨t815, t816, t817, t818⟩, A200, H⟩ := H
  replace H : ((laws_equalImage.f k t808 t809 t810 t811 t815 t816 t817 t818).bind fun t821 => (if t821 = true then (laws_FnConvolveImage.j0 k (t808 == 0) t795 t796 t797 t798 t801 t802 t805 t808 t809 t810 t811) else (laws_FnConvolveImage.j0 k true t795 t796 t797 t798 t801 t802 t805 t808 t809 t810 t811))) = some r := H
  have A20 := aM A200
  clear A200
  replace H := Option.bind_eq_some_iff.mp H
  obtain ⟨t821, A210, H⟩ := H
  replace H : (if t821 = true then (laws_FnConvolveImage.j0 k (t808 == 0) t795 t796 t797 t798 t801 t802 t805 t808 t809 t810 t811) else (laws_FnConvolveImage.j0 k true t795 t796 t797 t798 t801 t802 t805 t808 t809 t810 t811)) = some r := H
  have A21 := aM A210
  clear A210
  by_cases c22 : t821 = true
  rotate_left
  ·replace c22 := Bool.eq_false_iff.mpr c22
   subst c22
   have H1 : (laws_FnConvolveImage.j0 k true t795 t796 t797 t798 t801 t802 t805 t808 t809 t810 t811) = some r := by rw [if_neg (show ¬ (false = true) by decide)] at H; exact H
   clear H
   have H := H1
   clear H1
   have H' := aM H
   clear H
   try go_wp2
   have n0_ : Aside0 (Kd.Q (Kd.int .i64) 3 ((((w15.setCell ⟨gb814, 0, none⟩ (.int .i64 t808)).setCell ⟨gb814, 1, none⟩ (.int .i64 t809)).setCell ⟨gb814, 2, none⟩ (.int .i64 t810)).setCell ⟨gb814, 3, none⟩ (.slice Ao19 t811.length co19)) w.heap.size (fun k_ => some k_ ≠ (.slice Ao13 t802.length co13 : Value).ownBlock ∧ some k_ ≠ (.slice Ao19 t811.length co19 : Value).ownBlock) (.slice Ao11 t798.length co11) t798) := ⟨by (with_reducible repeat (first | apply Kd.Q_alloc | apply Kd.Q_drewN | apply Kd.Q_drew)); exact Kd.Q_mono (qT HO800 BK814) (fun _ hk => ⟨hk.1.1, hk.1.2⟩)⟩
   have n1_ : Aside0 (Kd.R (Kd.int .i64) 3 ((((w15.setCell ⟨gb814, 0, none⟩ (.int .i64 t808)).setCell ⟨gb814, 1, none⟩ (.int .i64 t809)).setCell ⟨gb814, 2, none⟩ (.int .i64 t810)).setCell ⟨gb814, 3, none⟩ (.slice Ao19 t811.length co19)) w.heap.size (fun k_ => some k_ ≠ (.slice Ao11 t798.length co11 : Value).ownBlock ∧ some k_ ≠ (.slice Ao19 t811.length co19 : Value).ownBlock) (.slice Ao13 t802.length co13) t802) := ⟨by refine qR ?_; exact Kd.R_mono (rT HO804 BK814) (fun _ hk => ⟨hk.1.1, hk.1.2⟩)⟩
   have n2_ : Aside0 (Kd.R (Kd.int .i64) 3 ((((w15.setCell ⟨gb814, 0, none⟩ (.int .i64 t808)).setCell ⟨gb814, 1, none⟩ (.int .i64 t809)).setCell ⟨gb814, 2, none⟩ (.int .i64 t810)).setCell ⟨gb814, 3, none⟩ (.slice Ao19 t811.length co19)) w.heap.size (fun k_ => some k_ ≠ (.slice Ao11 t798.length co11 : Value).ownBlock ∧ some k_ ≠ (.slice Ao13 t802.length co13 : Value).ownBlock) (.slice Ao19 t811.length co19) t811) := ⟨by refine qR ?_; exact Kd.R_mono (rT HO813 BK814) (fun _ hk => by first | exact ⟨hk.1.1.2, hk.1.2⟩ | (revert hk; simp only [and_imp]; intros; and_intros <;> assumption))⟩
   have n3_ : Aside0 (((((w15.setCell ⟨gb814, 0, none⟩ (.int .i64 t808)).setCell ⟨gb814, 1, none⟩ (.int .i64 t809)).setCell ⟨gb814, 2, none⟩ (.int .i64 t810)).setCell ⟨gb814, 3, none⟩ (.slice Ao19 t811.length co19)).heap[gb806]? = some (.cells #[.int .i64 t795, .int .i64 t796, .int .i64 t797, .slice Ao11 t798.length co11] 27 (0, 0))) := ⟨by refine qB ?_; refine blk_far ?_ NB806_814.out _; refine qB ?_; refine blk_far ?_ NB806_814.out _; refine qB ?_; refine blk_far ?_ NB806_814.out _; refine qB ?_; refine blk_far ?_ NB806_814.out _; refine qB ?_; exact BK806.out⟩
   have n4_ : Aside0 (((((w15.setCell ⟨gb814, 0, none⟩ (.int .i64 t808)).setCell ⟨gb814, 1, none⟩ (.int .i64 t809)).setCell ⟨gb814, 2, none⟩ (.int .i64 t810)).setCell ⟨gb814, 3, none⟩ (.slice Ao19 t811.length co19)).heap[gb807]? = some (.cells #[.int .i64 t801, .slice Ao13 t802.length co13, .int .i64 t805] 49 (0, 0))) := ⟨by refine qB ?_; refine blk_far ?_ NB807_814.out _; refine qB ?_; refine blk_far ?_ NB807_814.out _; refine qB ?_; refine blk_far ?_ NB807_814.out _; refine qB ?_; refine blk_far ?_ NB807_814.out _; refine qB ?_; exact BK807.out⟩
   have n5_ : Aside0 (((((w15.setCell ⟨gb814, 0, none⟩ (.int .i64 t808)).setCell ⟨gb814, 1, none⟩ (.int .i64 t809)).setCell ⟨gb814, 2, none⟩ (.int .i64 t810)).setCell ⟨gb814, 3, none⟩ (.slice Ao19 t811.length co19)).heap[gb814]? = some (.cells #[.int .i64 t808, .int .i64 t809, .int .i64 t810, .slice Ao19 t811.length co19] 27 (0, 0))) := ⟨by exact bP BK814.out⟩
   have n6_ : Aside0 (Below w.heap.size w ((((w15.setCell ⟨gb814, 0, none⟩ (.int .i64 t808)).setCell ⟨gb814, 1, none⟩ (.int .i64 t809)).setCell ⟨gb814, 2, none⟩ (.int .i64 t810)).setCell ⟨gb814, 3, none⟩ (.slice Ao19 t811.length co19))) := ⟨by exact qW HB.out⟩
   (try clear HO800)
   (try clear HO804)
   (try clear HO813)
   (try clear BK806)
   (try clear BK807)
   (try clear BK814)
   (try clear HB)
   generalize ((((w15.setCell ⟨gb814, 0, none⟩ (.int .i64 t808)).setCell ⟨gb814, 1, none⟩ (.int .i64 t809)).setCell ⟨gb814, 2, none⟩ (.int .i64 t810)).setCell ⟨gb814, 3, none⟩ (.slice Ao19 t811.length co19)) = w28 at n0_ n1_ n2_ n3_ n4_ n5_ n6_ ⊢
   have HO800 := n0_
   have HO804 := n1_
   have HO813 := n2_
   have BK806 := n3_
   have BK807 := n4_
   have BK814 := n5_
   have HB := n6_
   clear n0_ n1_ n2_ n3_ n4_ n5_ n6_
   replace HO800 := aM (Kd.Q_drew HO800.out)
   replace HO804 := aM (Kd.R_drew HO804.out)
   replace HO813 := aM (Kd.R_drew HO813.out)
   replace BK806 := aM (blk_drew BK806.out)
   replace BK807 := aM (blk_drew BK807.out)
   replace BK814 := aM (blk_drew BK814.out)
   replace HB := aM (below_drew1 HB.out)
   refine start_ (n := 11) (S := fun w' => w'.cell? ⟨gb814, 0, none⟩ = some (.int .i64 t808) ∧ w'.cell? ⟨gb814, 1, none⟩ = some (.int .i64 t809) ∧ w'.cell? ⟨gb814, 2, none⟩ = some (.int .i64 t810) ∧ w'.cell? ⟨gb814, 3, none⟩ = some (.slice Ao19 t811.length co19) ∧ w'.cell? ⟨gb806, 0, none⟩ = some (.int .i64 t795) ∧ w'.cell? ⟨gb806, 1, none⟩ = some (.int .i64 t796) ∧ w'.cell? ⟨gb806, 2, none⟩ = some (.int .i64 t797) ∧ w'.cell? ⟨gb806, 3, none⟩ = some (.slice Ao11 t798.length co11) ∧ w'.cell? ⟨gb807, 0, none⟩ = some (.int .i64 t801) ∧ w'.cell? ⟨gb807, 1, none⟩ = some (.slice Ao13 t802.length co13) ∧ w'.cell? ⟨gb807, 2, none⟩ = some (.int .i64 t805)) (ds := []) (bA 11 0) (by kernel_rfl) rfl rfl ⟨(blk_cell BK814.out 0).trans rfl, (blk_cell BK814.out 1).trans rfl, (blk_cell BK814.out 2).trans rfl, (blk_cell BK814.out 3).trans rfl, (blk_cell BK806.out 0).trans rfl, (blk_cell BK806.out 1).trans rfl, (blk_cell BK806.out 2).trans rfl, (blk_cell BK806.out 3).trans rfl, (blk_cell BK807.out 0).trans rfl, (blk_cell BK807.out 1).trans rfl, (blk_cell BK807.out 2).trans rfl⟩ (fun hHeld => ?_); refine with_tabW laws_FnConvolveImage.tab5 laws_FnConvolveImage.bits5 (fun HT_ HW_ => ?_)
   generalize w28.drew = w29 at HO800 HO804 HO813 BK806 BK807 BK814 HB hHeld ⊢
   refine take_ (i := 0) (N := some 20) (v := ?_) (a' := ?_) (bA 11 1) rfl rfl (take_ofW HT_.out HW_.out (by kernel_rfl)) (fun _ _ _ h => h) (Or.inl ⟨by rfl, ?_⟩) hHeld ?_ ?_
   rotate_left
   ·rintro w' ⟨s0, s1, s2, s3, s4, s5, s6, s7, s8, s9, s10⟩
    go_simp
    with_reducible rfl
   rotate_left
   ·refine pZ ?_
    rfl
   refine take_ (i := 1) (N := some 21) (v := ?_) (a' := ?_) (bA 11 3) rfl rfl (take_ofW HT_.out HW_.out (by kernel_rfl)) (fun _ _ _ h => h) (Or.inl ⟨by rfl, ?_⟩) hHeld ?_ ?_
   rotate_left
   ·rintro w' ⟨s0, s1, s2, s3, s4, s5, s6, s7, s8, s9, s10⟩
    go_simp
    with_reducible rfl
   rotate_left
   ·refine pZ ?_
    rfl
   refine take_ (i := 2) (N := some 22) (v := ?_) (a' := ?_) (bA 11 7) rfl rfl (take_ofW HT_.out HW_.out (by kernel_rfl)) (fun _ _ _ h => h) (Or.inl ⟨by rfl, ?_⟩) hHeld ?_ ?_
   rotate_left
   ·rintro w' ⟨s0, s1, s2, s3, s4, s5, s6, s7, s8, s9, s10⟩
    go_simp
    with_reducible rfl
   rotate_left
   ·refine pZ ?_
    rfl
   refine one_ (i := 3) (N := some 23) (bA 11 15) rfl rfl (one_of HT_.out (by kernel_rfl)) (by decide) (fun K hK => ?_)
   refine goes_ Try.func33 (by kernel_rfl) rfl #[.agg #[.int .i64 t795, .int .i64 t796, .int .i64 t797, .slice Ao11 t798.length co11], .agg #[.int .i64 t801, .slice Ao13 t802.length co13, .int .i64 t805]] (by rfl) rfl rfl qM ?_
   with_reducible refine (spec_ConvolveImage.calls k t795 t796 t797 _ _ t798 t801 _ _ t802 t805 t815 t816 t817 t818 _ ?side1 ?side2 ?side3 ?side4 A20.out).mono ?_
   (case side1 => exact qC (Kd.Q_reads' HO800.out).2.2)
   (case side2 => exact (Kd.Q_reads' HO800.out).2.1)
   (case side3 => exact qC (Kd.R_reads' HO804.out).2.2)
   (case side4 => exact (Kd.R_reads' HO804.out).2.1)
   rintro e w30 ⟨v819, rfl, ho0, hb⟩
   refine ⟨_, rfl, ?_⟩
   have HO820 := aM (Kd.R_lower (Kd.R_new' (Kd.R_new' (Kd.R_new' ho0 (Kd.Q_lt (qQ HO800.out))) (Kd.R_lt (qR HO804.out))) (Kd.R_lt (qR HO813.out))) (below_size (qW HB.out)))
   replace HO800 := aM (Kd.Q_elder' (qQ HO800.out) (Kd.R_base ho0) hb)
   replace HO804 := aM (Kd.R_elder' (qR HO804.out) (Kd.R_base ho0) hb)
   replace HO813 := aM (Kd.R_elder' (qR HO813.out) (Kd.R_base ho0) hb)
   replace BK806 := bB BK806 hb
   replace BK807 := bB BK807 hb
   replace BK814 := bB BK814 hb
   replace HB := bS HB hb
   (try clear hb)
   (try clear hb2)
   (try clear hk)
   (try clear hi)
   (try clear ho0)
   obtain ⟨Ao31, co31, eo31⟩ := Kd.R_slice HO820.out
   (first | subst eo31 | (injection eo31 with f1_ f2_ f3_; have f4_ := f1_.symm; have f5_ := f3_.symm; clear f1_ f2_ f3_; subst f4_; subst f5_))
   refine hK.out _ _ ⟨(blk_cell BK814.out 0).trans rfl, (blk_cell BK814.out 1).trans rfl, (blk_cell BK814.out 2).trans rfl, (blk_cell BK814.out 3).trans rfl, (blk_cell BK806.out 0).trans rfl, (blk_cell BK806.out 1).trans rfl, (blk_cell BK806.out 2).trans rfl, (blk_cell BK806.out 3).trans rfl, (blk_cell BK807.out 0).trans rfl, (blk_cell BK807.out 1).trans rfl, (blk_cell BK807.out 2).trans rfl⟩ (fun hHeld => ?_)
   clear hK K
   refine norm_ (a' := ?_) ?_ ?_
   rotate_left
   ·show Act.put _ (some 23) _ = _
    refine pZ ?_
    rfl
   refine one_ (i := 4) (N := some 24) (bA 11 31) rfl rfl (one_of HT_.out (by kernel_rfl)) (by decide) (fun K hK => ?_)
   refine goes_ Try.func15 (by kernel_rfl) rfl #[.agg #[.int .i64 t808, .int .i64 t809, .int .i64 t810, .slice Ao19 t811.length co19], .agg #[.int .i64 t815, .int .i64 t816, .int .i64 t817, .slice Ao31 t818.length co31]] (by rfl) rfl rfl qM ?_
   with_reducible refine (laws_equalImage.calls k t808 t809 t810 _ _ t811 t815 t816 t817 _ _ t818 false _ ?side1 ?side2 ?side3 ?side4 A21.out).mono ?_
   (case side1 => exact qC (Kd.R_reads' HO813.out).2.2)
   (case side2 => exact (Kd.R_reads' HO813.out).2.1)
   (case side3 => exact qC (Kd.R_reads' HO820.out).2.2)
   (case side4 => exact (Kd.R_reads' HO820.out).2.1)
   rintro e w32 ⟨rfl, hb⟩
   refine ⟨_, rfl, ?_⟩
   replace HO800 := aM (Kd.Q_below (qQ HO800.out) hb)
   replace HO804 := aM (Kd.R_below (qR HO804.out) hb)
   replace HO813 := aM (Kd.R_below (qR HO813.out) hb)
   replace HO820 := aM (Kd.R_below (qR HO820.out) hb)
   replace BK806 := bB BK806 hb
   replace BK807 := bB BK807 hb
   replace BK814 := bB BK814 hb
   replace HB := bS HB hb
   (try clear hb)
   (try clear hb2)
   (try clear hk)
   (try clear hi)
   refine hK.out _ _ ⟨(blk_cell BK814.out 0).trans rfl, (blk_cell BK814.out 1).trans rfl, (blk_cell BK814.out 2).trans rfl, (blk_cell BK814.out 3).trans rfl, (blk_cell BK806.out 0).trans rfl, (blk_cell BK806.out 1).trans rfl, (blk_cell BK806.out 2).trans rfl, (blk_cell BK806.out 3).trans rfl, (blk_cell BK807.out 0).trans rfl, (blk_cell BK807.out 1).trans rfl, (blk_cell BK807.out 2).trans rfl⟩ (fun hHeld => ?_)
   clear hK K
   refine norm_ (a' := ?_) ?_ ?_
   rotate_left
   ·show Act.put _ (some 24) _ = _
    refine pZ ?_
    rfl
   refine pQ 5 25 HT_ (bA 11 63) ?_
   refine pQ 6 26 HT_ (bA 11 127) ?_
   refine pure_ (i := 7) (N := some 27) (v := undef) (a' := ?_) (bA 11 255) rfl rfl (any_of HT_.out (by kernel_rfl)) (fun _ _ _ h => h) (Or.inr ⟨by rfl, rfl⟩) ?_ ?_
   rotate_left
   ·refine pZ ?_
    rfl
   refine pure_ (i := 8) (N := some 28) (v := undef) (a' := ?_) (bA 11 511) rfl rfl (any_of HT_.out (by kernel_rfl)) (fun _ _ _ h => h) (Or.inr ⟨by rfl, rfl⟩) ?_ ?_
   rotate_left
   ·refine pZ ?_
    rfl
   refine pure_ (i := 9) (N := some 29) (v := undef) (a' := ?_) (bA 11 1023) rfl rfl (any_of HT_.out (by kernel_rfl)) (fun _ _ _ h => h) (Or.inr ⟨by rfl, rfl⟩) ?_ ?_
   rotate_left
   ·refine pZ ?_
    rfl
   refine pQ 10 30 HT_ (bA 11 2047) ?_
   refine done_ (done_of HT_.out (by kernel_rfl)) ?_
   try go_wp2
   go_meet
   case rel => exact ⟨_, (true), qE, H', ⟨by first | omega | exact Nat.le_refl _⟩, ⟨by (with_reducible repeat (first | apply Kd.Q_alloc | apply Kd.Q_drewN | apply Kd.Q_drew)); exact Kd.Q_mono HO800.out (fun _ hk => ⟨hk.1.1, hk.1.2⟩)⟩, ⟨by refine qR ?_; exact Kd.R_mono HO804.out (fun _ hk => ⟨hk.1.1, hk.1.2⟩)⟩, ⟨Kd.Q_of_R (by refine qR ?_; exact Kd.R_mono HO813.out (fun _ hk => ⟨hk.1.1, hk.1.2⟩))⟩, ⟨by refine qB ?_; exact BK806.out⟩, ⟨by refine qB ?_; exact BK807.out⟩, ⟨by refine qB ?_; exact BK814.out⟩, ⟨by exact qW HB.out⟩⟩
  subst c22
  have H1 : (laws_FnConvolveImage.j0 k (t808 == 0) t795 t796 t797 t798 t801 t802 t805 t808 t809 t810 t811) = some r := by rw [if_pos rfl] at H; exact H
  clear H
  have H := H1
  clear H1
  have H' := aM H
  clear H
  try go_wp2
  have n0_ : Aside0 (Kd.Q (Kd.int .i64) 3 ((((w15.setCell ⟨gb814, 0, none⟩ (.int .i64 t808)).setCell ⟨gb814, 1, none⟩ (.int .i64 t809)).setCell ⟨gb814, 2, none⟩ (.int .i64 t810)).setCell ⟨gb814, 3, none⟩ (.slice Ao19 t811.length co19)) w.heap.size (fun k_ => some k_ ≠ (.slice Ao13 t802.length co13 : Value).ownBlock ∧ some k_ ≠ (.slice Ao19 t811.length co19 : Value).ownBlock) (.slice Ao11 t798.length co11) t798) := ⟨by (with_reducible repeat (first | apply Kd.Q_alloc | apply Kd.Q_drewN | apply Kd.Q_drew)); exact Kd.Q_mono (qT HO800 BK814) (fun _ hk => ⟨hk.1.1, hk.1.2⟩)⟩
  have n1_ : Aside0 (Kd.R (Kd.int .i64) 3 ((((w15.setCell ⟨gb814, 0, none⟩ (.int .i64 t808)).setCell ⟨gb814, 1, none⟩ (.int .i64 t809)).setCell ⟨gb814, 2, none⟩ (.int .i64 t810)).setCell ⟨gb814, 3, none⟩ (.slice Ao19 t811.length co19)) w.heap.size (fun k_ => some k_ ≠ (.slice Ao11 t798.length co11 : Value).ownBlock ∧ some k_ ≠ (.slice Ao19 t811.length co19 : Value).ownBlock) (.slice Ao13 t802.length co13) t802) := ⟨by refine qR ?_; exact Kd.R_mono (rT HO804 BK814) (fun _ hk => ⟨hk.1.1, hk.1.2⟩)⟩
  have n2_ : Aside0 (Kd.R (Kd.int .i64) 3 ((((w15.setCell ⟨gb814, 0, none⟩ (.int .i64 t808)).setCell ⟨gb814, 1, none⟩ (.int .i64 t809)).setCell ⟨gb814, 2, none⟩ (.int .i64 t810)).setCell ⟨gb814, 3, none⟩ (.slice Ao19 t811.length co19)) w.heap.size (fun k_ => some k_ ≠ (.slice Ao11 t798.length co11 : Value).ownBlock ∧ some k_ ≠ (.slice Ao13 t802.length co13 : Value).ownBlock) (.slice Ao19 t811.length co19) t811) := ⟨by refine qR ?_; exact Kd.R_mono (rT HO813 BK814) (fun _ hk => by first | exact ⟨hk.1.1.2, hk.1.2⟩ | (revert hk; simp only [and_imp]; intros; and_intros <;> assumption))⟩
  have n3_ : Aside0 (((((w15.setCell ⟨gb814, 0, none⟩ (.int .i64 t808)).setCell ⟨gb814, 1, none⟩ (.int .i64 t809)).setCell ⟨gb814, 2, none⟩ (.int .i64 t810)).setCell ⟨gb814, 3, none⟩ (.slice Ao19 t811.length co19)).heap[gb806]? = some (.cells #[.int .i64 t795, .int .i64 t796, .int .i64 t797, .slice Ao11 t798.length co11] 27 (0, 0))) := ⟨by refine qB ?_; refine blk_far ?_ NB806_814.out _; refine qB ?_; refine blk_far ?_ NB806_814.out _; refine qB ?_; refine blk_far ?_ NB806_814.out _; refine qB ?_; refine blk_far ?_ NB806_814.out _; refine qB ?_; exact BK806.out⟩
  have n4_ : Aside0 (((((w15.setCell ⟨gb814, 0, none⟩ (.int .i64 t808)).setCell ⟨gb814, 1, none⟩ (.int .i64 t809)).setCell ⟨gb814, 2, none⟩ (.int .i64 t810)).setCell ⟨gb814, 3, none⟩ (.slice Ao19 t811.length co19)).heap[gb807]? = some (.cells #[.int .i64 t801, .slice Ao13 t802.length co13, .int .i64 t805] 49 (0, 0))) := ⟨by refine qB ?_; refine blk_far ?_ NB807_814.out _; refine qB ?_; refine blk_far ?_ NB807_814.out _; refine qB ?_; refine blk_far ?_ NB807_814.out _; refine qB ?_; refine blk_far ?_ NB807_814.out _; refine qB ?_; exact BK807.out⟩
  have n5_ : Aside0 (((((w15.setCell ⟨gb814, 0, none⟩ (.int .i64 t808)).setCell ⟨gb814, 1, none⟩ (.int .i64 t809)).setCell ⟨gb814, 2, none⟩ (.int .i64 t810)).setCell ⟨gb814, 3, none⟩ (.slice Ao19 t811.length co19)).heap[gb814]? = some (.cells #[.int .i64 t808, .int .i64 t809, .int .i64 t810, .slice Ao19 t811.length co19] 27 (0, 0))) := ⟨by exact bP BK814.out⟩
  have n6_ : Aside0 (Below w.heap.size w ((((w15.setCell ⟨gb814, 0, none⟩ (.int .i64 t808)).setCell ⟨gb814, 1, none⟩ (.int .i64 t809)).setCell ⟨gb814, 2, none⟩ (.int .i64 t810)).setCell ⟨gb814, 3, none⟩ (.slice Ao19 t811.length co19))) := ⟨by exact qW HB.out⟩
  (try clear HO800)
  (try clear HO804)
  (try clear HO813)
  (try clear BK806)
  (try clear BK807)
  (try clear BK814)
  (try clear HB)
  generalize ((((w15.setCell ⟨gb814, 0, none⟩ (.int .i64 t808)).setCell ⟨gb814, 1, none⟩ (.int .i64 t809)).setCell ⟨gb814, 2, none⟩ (.int .i64 t810)).setCell ⟨gb814, 3, none⟩ (.slice Ao19 t811.length co19)) = w23 at n0_ n1_ n2_ n3_ n4_ n5_ n6_ ⊢
  have HO800 := n0_
  have HO804 := n1_
  have HO813 := n2_
  have BK806 := n3_
  have BK807 := n4_
  have BK814 := n5_
  have HB := n6_
  clear n0_ n1_ n2_ n3_ n4_ n5_ n6_
  replace HO800 := aM (Kd.Q_drew HO800.out)
  replace HO804 := aM (Kd.R_drew HO804.out)
  replace HO813 := aM (Kd.R_drew HO813.out)
  replace BK806 := aM (blk_drew BK806.out)
  replace BK807 := aM (blk_drew BK807.out)
  replace BK814 := aM (blk_drew BK814.out)
  replace HB := aM (below_drew1 HB.out)
  refine start_ (n := 11) (S := fun w' => w'.cell? ⟨gb814, 0, none⟩ = some (.int .i64 t808) ∧ w'.cell? ⟨gb814, 1, none⟩ = some (.int .i64 t809) ∧ w'.cell? ⟨gb814, 2, none⟩ = some (.int .i64 t810) ∧ w'.cell? ⟨gb814, 3, none⟩ = some (.slice Ao19 t811.length co19) ∧ w'.cell? ⟨gb806, 0, none⟩ = some (.int .i64 t795) ∧ w'.cell? ⟨gb806, 1, none⟩ = some (.int .i64 t796) ∧ w'.cell? ⟨gb806, 2, none⟩ = some (.int .i64 t797) ∧ w'.cell? ⟨gb806, 3, none⟩ = some (.slice Ao11 t798.length co11) ∧ w'.cell? ⟨gb807, 0, none⟩ = some (.int .i64 t801) ∧ w'.cell? ⟨gb807, 1, none⟩ = some (.slice Ao13 t802.length co13) ∧ w'.cell? ⟨gb807, 2, none⟩ = some (.int .i64 t805)) (ds := []) (bA 11 0) (by kernel_rfl) rfl rfl ⟨(blk_cell BK814.out 0).trans rfl, (blk_cell BK814.out 1).trans rfl, (blk_cell BK814.out 2).trans rfl, (blk_cell BK814.out 3).trans rfl, (blk_cell BK806.out 0).trans rfl, (blk_cell BK806.out 1).trans rfl, (blk_cell BK806.out 2).trans rfl, (blk_cell BK806.out 3).trans rfl, (blk_cell BK807.out 0).trans rfl, (blk_cell BK807.out 1).trans rfl, (blk_cell BK807.out 2).trans rfl⟩ (fun hHeld => ?_); refine with_tabW laws_FnConvolveImage.tab5 laws_FnConvolveImage.bits5 (fun HT_ HW_ => ?_)
  generalize w23.drew = w24 at HO800 HO804 HO813 BK806 BK807 BK814 HB hHeld ⊢
  refine take_ (i := 0) (N := some 20) (v := ?_) (a' := ?_) (bA 11 1) rfl rfl (take_ofW HT_.out HW_.out (by kernel_rfl)) (fun _ _ _ h => h) (Or.inl ⟨by rfl, ?_⟩) hHeld ?_ ?_
  rotate_left
  ·rintro w' ⟨s0, s1, s2, s3, s4, s5, s6, s7, s8, s9, s10⟩
   go_simp
   with_reducible rfl
  rotate_left
  ·refine pZ ?_
   rfl
  refine take_ (i := 1) (N := some 21) (v := ?_) (a' := ?_) (bA 11 3) rfl rfl (take_ofW HT_.out HW_.out (by kernel_rfl)) (fun _ _ _ h => h) (Or.inl ⟨by rfl, ?_⟩) hHeld ?_ ?_
  rotate_left
  ·rintro w' ⟨s0, s1, s2, s3, s4, s5, s6, s7, s8, s9, s10⟩
   go_simp
   with_reducible rfl
  rotate_left
  ·refine pZ ?_
   rfl
  refine take_ (i := 2) (N := some 22) (v := ?_) (a' := ?_) (bA 11 7) rfl rfl (take_ofW HT_.out HW_.out (by kernel_rfl)) (fun _ _ _ h => h) (Or.inl ⟨by rfl, ?_⟩) hHeld ?_ ?_
  rotate_left
  ·rintro w' ⟨s0, s1, s2, s3, s4, s5, s6, s7, s8, s9, s10⟩
   go_simp
   with_reducible rfl
  rotate_left
  ·refine pZ ?_
   rfl
  refine one_ (i := 3) (N := some 23) (bA 11 15) rfl rfl (one_of HT_.out (by kernel_rfl)) (by decide) (fun K hK => ?_)
  refine goes_ Try.func33 (by kernel_rfl) rfl #[.agg #[.int .i64 t795, .int .i64 t796, .int .i64 t797, .slice Ao11 t798.length co11], .agg #[.int .i64 t801, .slice Ao13 t802.length co13, .int .i64 t805]] (by rfl) rfl rfl qM ?_
  with_reducible refine (spec_ConvolveImage.calls k t795 t796 t797 _ _ t798 t801 _ _ t802 t805 t815 t816 t817 t818 _ ?side1 ?side2 ?side3 ?side4 A20.out).mono ?_
  (case side1 => exact qC (Kd.Q_reads' HO800.out).2.2)
  (case side2 => exact (Kd.Q_reads' HO800.out).2.1)
  (case side3 => exact qC (Kd.R_reads' HO804.out).2.2)
  (case side4 => exact (Kd.R_reads' HO804.out).2.1)
  rintro e w25 ⟨v819, rfl, ho0, hb⟩
  refine ⟨_, rfl, ?_⟩
  have HO820 := aM (Kd.R_lower (Kd.R_new' (Kd.R_new' (Kd.R_new' ho0 (Kd.Q_lt (qQ HO800.out))) (Kd.R_lt (qR HO804.out))) (Kd.R_lt (qR HO813.out))) (below_size (qW HB.out)))
  replace HO800 := aM (Kd.Q_elder' (qQ HO800.out) (Kd.R_base ho0) hb)
  replace HO804 := aM (Kd.R_elder' (qR HO804.out) (Kd.R_base ho0) hb)
  replace HO813 := aM (Kd.R_elder' (qR HO813.out) (Kd.R_base ho0) hb)
  replace BK806 := bB BK806 hb
  replace BK807 := bB BK807 hb
  replace BK814 := bB BK814 hb
  replace HB := bS HB hb
  (try clear hb)
  (try clear hb2)
  (try clear hk)
  (try clear hi)
  (try clear ho0)
  obtain ⟨Ao26, co26, eo26⟩ := Kd.R_slice HO820.out
  (first | subst eo26 | (injection eo26 with f1_ f2_ f3_; have f4_ := f1_.symm; have f5_ := f3_.symm; clear f1_ f2_ f3_; subst f4_; subst f5_))
  refine hK.out _ _ ⟨(blk_cell BK814.out 0).trans rfl, (blk_cell BK814.out 1).trans rfl, (blk_cell BK814.out 2).trans rfl, (blk_cell BK814.out 3).trans rfl, (blk_cell BK806.out 0).trans rfl, (blk_cell BK806.out 1).trans rfl, (blk_cell BK806.out 2).trans rfl, (blk_cell BK806.out 3).trans rfl, (blk_cell BK807.out 0).trans rfl, (blk_cell BK807.out 1).trans rfl, (blk_cell BK807.out 2).trans rfl⟩ (fun hHeld => ?_)
  clear hK K
  refine norm_ (a' := ?_) ?_ ?_
  rotate_left
  ·show Act.put _ (some 23) _ = _
   refine pZ ?_
   rfl
  refine one_ (i := 4) (N := some 24) (bA 11 31) rfl rfl (one_of HT_.out (by kernel_rfl)) (by decide) (fun K hK => ?_)
  refine goes_ Try.func15 (by kernel_rfl) rfl #[.agg #[.int .i64 t808, .int .i64 t809, .int .i64 t810, .slice Ao19 t811.length co19], .agg #[.int .i64 t815, .int .i64 t816, .int .i64 t817, .slice Ao26 t818.length co26]] (by rfl) rfl rfl qM ?_
  with_reducible refine (laws_equalImage.calls k t808 t809 t810 _ _ t811 t815 t816 t817 _ _ t818 true _ ?side1 ?side2 ?side3 ?side4 A21.out).mono ?_
  (case side1 => exact qC (Kd.R_reads' HO813.out).2.2)
  (case side2 => exact (Kd.R_reads' HO813.out).2.1)
  (case side3 => exact qC (Kd.R_reads' HO820.out).2.2)
  (case side4 => exact (Kd.R_reads' HO820.out).2.1)
  rintro e w27 ⟨rfl, hb⟩
  refine ⟨_, rfl, ?_⟩
  replace HO800 := aM (Kd.Q_below (qQ HO800.out) hb)
  replace HO804 := aM (Kd.R_below (qR HO804.out) hb)
  replace HO813 := aM (Kd.R_below (qR HO813.out) hb)
  replace HO820 := aM (Kd.R_below (qR HO820.out) hb)
  replace BK806 := bB BK806 hb
  replace BK807 := bB BK807 hb
  replace BK814 := bB BK814 hb
  replace HB := bS HB hb
  (try clear hb)
  (try clear hb2)
  (try clear hk)
  (try clear hi)
  refine hK.out _ _ ⟨(blk_cell BK814.out 0).trans rfl, (blk_cell BK814.out 1).trans rfl, (blk_cell BK814.out 2).trans rfl, (blk_cell BK814.out 3).trans rfl, (blk_cell BK806.out 0).trans rfl, (blk_cell BK806.out 1).trans rfl, (blk_cell BK806.out 2).trans rfl, (blk_cell BK806.out 3).trans rfl, (blk_cell BK807.out 0).trans rfl, (blk_cell BK807.out 1).trans rfl, (blk_cell BK807.out 2).trans rfl⟩ (fun hHeld => ?_)
  clear hK K
  refine norm_ (a' := ?_) ?_ ?_
  rotate_left
  ·show Act.put _ (some 24) _ = _
   refine pZ ?_
   rfl
  refine pQ 5 25 HT_ (bA 11 63) ?_
  refine pQ 6 26 HT_ (bA 11 127) ?_
  refine pQ 7 27 HT_ (bA 11 255) ?_
  refine take_ (i := 8) (N := some 28) (v := ?_) (a' := ?_) (bA 11 511) rfl rfl (take_ofW HT_.out HW_.out (by kernel_rfl)) (fun _ _ _ h => h) (Or.inl ⟨by rfl, ?_⟩) hHeld ?_ ?_
  rotate_left
  ·rintro w' ⟨s0, s1, s2, s3, s4, s5, s6, s7, s8, s9, s10⟩
   go_simp
   with_reducible rfl
  rotate_left
  ·refine pZ ?_
   rfl
  refine pQ 9 29 HT_ (bA 11 1023) ?_
  refine pQ 10 30 HT_ (bA 11 2047) ?_
  refine done_ (done_of HT_.out (by kernel_rfl)) ?_
  try go_wp2
  go_meet
  case rel => exact ⟨_, ((t808 == 0)), qE, H', ⟨by first | omega | exact Nat.le_refl _⟩, ⟨by (with_reducible repeat (first | apply Kd.Q_alloc | apply Kd.Q_drewN | apply Kd.Q_drew)); exact Kd.Q_mono HO800.out (fun _ hk => ⟨hk.1.1, hk.1.2⟩)⟩, ⟨by refine qR ?_; exact Kd.R_mono HO804.out (fun _ hk => ⟨hk.1.1, hk.1.2⟩)⟩, ⟨Kd.Q_of_R (by refine qR ?_; exact Kd.R_mono HO813.out (fun _ hk => ⟨hk.1.1, hk.1.2⟩))⟩, ⟨by refine qB ?_; exact BK806.out⟩, ⟨by refine qB ?_; exact BK807.out⟩, ⟨by refine qB ?_; exact BK814.out⟩, ⟨by exact qW HB.out⟩⟩
 case rest =>
  clear HC5
  try clear c2
  try clear c2b0
  try clear c2b1
  try clear c22
  try clear hcz10_0 hcz10_1 hcz10_2 hcz10_3 hfz10_0 hfz10_1 hfz10_2 hfz10_3
  try clear hcz12_0 hcz12_1 hcz12_2 hfz12_0 hfz12_1 hfz12_2
  try clear hcz18_0 hcz18_1 hcz18_2 hcz18_3 hfz18_0 hfz18_1 hfz18_2 hfz18_3
  obtain ⟨kq, x30_4, rfl, HA, HJ4, HO_807003, HO_808001, HO_815003, BK806, BK807, BK814, HB⟩ := hcut
  cases kq with
  | zero => exact absurd HA.out (by simp [laws_FnConvolveImage.j0])
  | succ kj4 =>
   have H := HA.out
   clear HA
   simp only [laws_FnConvolveImage.j0] at H
   by_cases c33 : x30_4 = true
   ·subst c33
    have H1 : ((spec_ConvolveImage.f kj4 t795 t796 t797 t798 t801 t802 t805).bind fun bt822 => ((laws_equalImage.f kj4 t808 t809 t810 t811 bt822.1 bt822.2.1 bt822.2.2.1 bt822.2.2.2).bind fun t828 => (some t828))) = some r := by rw [if_pos rfl] at H; exact H
    clear H
    have H := H1
    clear H1
    replace H := Option.bind_eq_some_iff.mp H
    obtain ⟨⟨t822, t823, t824, t825⟩, A340, H⟩ := H
    replace H : ((laws_equalImage.f kj4 t808 t809 t810 t811 t822 t823 t824 t825).bind fun t828 => (some t828)) = some r := H
    have A34 := aM A340
    clear A340
    replace H := Option.bind_eq_some_iff.mp H
    obtain ⟨t828, A350, H⟩ := H
    replace H : (some t828) = some r := H
    have A35 := aM A350
    clear A350
    obtain rfl := Option.some.inj H
    try go_wp2
    replace HO_807003 := aM (Kd.Q_drew HO_807003.out)
    replace HO_808001 := aM (Kd.R_drew HO_808001.out)
    replace HO_815003 := aM (Kd.Q_drew HO_815003.out)
    replace BK806 := aM (blk_drew BK806.out)
    replace BK807 := aM (blk_drew BK807.out)
    replace BK814 := aM (blk_drew BK814.out)
    replace HB := aM (below_drew1 HB.out)
    refine start_ (n := 6) (S := fun w' => w'.cell? ⟨gb814, 0, none⟩ = some (.int .i64 t808) ∧ w'.cell? ⟨gb814, 1, none⟩ = some (.int .i64 t809) ∧ w'.cell? ⟨gb814, 2, none⟩ = some (.int .i64 t810) ∧ w'.cell? ⟨gb814, 3, none⟩ = some (.slice Ao19 t811.length co19) ∧ w'.cell? ⟨gb806, 0, none⟩ = some (.int .i64 t795) ∧ w'.cell? ⟨gb806, 1, none⟩ = some (.int .i64 t796) ∧ w'.cell? ⟨gb806, 2, none⟩ = some (.int .i64 t797) ∧ w'.cell? ⟨gb806, 3, none⟩ = some (.slice Ao11 t798.length co11) ∧ w'.cell? ⟨gb807, 0, none⟩ = some (.int .i64 t801) ∧ w'.cell? ⟨gb807, 1, none⟩ = some (.slice Ao13 t802.length co13) ∧ w'.cell? ⟨gb807, 2, none⟩ = some (.int .i64 t805)) (ds := []) (bA 6 0) (by kernel_rfl) rfl rfl ⟨(blk_cell BK814.out 0).trans rfl, (blk_cell BK814.out 1).trans rfl, (blk_cell BK814.out 2).trans rfl, (blk_cell BK814.out 3).trans rfl, (blk_cell BK806.out 0).trans rfl, (blk_cell BK806.out 1).trans rfl, (blk_cell BK806.out 2).trans rfl, (blk_cell BK806.out 3).trans rfl, (blk_cell BK807.out 0).trans rfl, (blk_cell BK807.out 1).trans rfl, (blk_cell BK807.out 2).trans rfl⟩ (fun hHeld => ?_)
    generalize wc.drew = w36 at HO_807003 HO_808001 HO_815003 BK806 BK807 BK814 HB hHeld ⊢
    refine take_ (i := 0) (N := some 31) (v := ?_) (a' := ?_) (bA 6 1) rfl rfl (by kernel_rfl) (fun _ _ _ h => h) (Or.inl ⟨by rfl, ?_⟩) hHeld ?_ ?_
    rotate_left
    ·rintro w' ⟨s0, s1, s2, s3, s4, s5, s6, s7, s8, s9, s10⟩
     go_simp
     with_reducible rfl
    rotate_left
    ·refine pZ ?_
     rfl
    refine take_ (i := 1) (N := some 32) (v := ?_) (a' := ?_) (bA 6 3) rfl rfl (by kernel_rfl) (fun _ _ _ h => h) (Or.inl ⟨by rfl, ?_⟩) hHeld ?_ ?_
    rotate_left
    ·rintro w' ⟨s0, s1, s2, s3, s4, s5, s6, s7, s8, s9, s10⟩
     go_simp
     with_reducible rfl
    rotate_left
    ·refine pZ ?_
     rfl
    refine take_ (i := 2) (N := some 33) (v := ?_) (a' := ?_) (bA 6 7) rfl rfl (by kernel_rfl) (fun _ _ _ h => h) (Or.inl ⟨by rfl, ?_⟩) hHeld ?_ ?_
    rotate_left
    ·rintro w' ⟨s0, s1, s2, s3, s4, s5, s6, s7, s8, s9, s10⟩
     go_simp
     with_reducible rfl
    rotate_left
    ·refine pZ ?_
     rfl
    refine one_ (i := 3) (N := some 34) (bA 6 15) rfl rfl (by kernel_rfl) (by decide) (fun K hK => ?_)
    refine goes_ Try.func33 (by kernel_rfl) rfl #[.agg #[.int .i64 t795, .int .i64 t796, .int .i64 t797, .slice Ao11 t798.length co11], .agg #[.int .i64 t801, .slice Ao13 t802.length co13, .int .i64 t805]] (by rfl) rfl rfl qM ?_
    with_reducible refine (spec_ConvolveImage.calls kj4 t795 t796 t797 _ _ t798 t801 _ _ t802 t805 t822 t823 t824 t825 _ ?side1 ?side2 ?side3 ?side4 A34.out).mono ?_
    (case side1 => exact qC (Kd.Q_reads' HO_807003.out).2.2)
    (case side2 => exact (Kd.Q_reads' HO_807003.out).2.1)
    (case side3 => exact qC (Kd.R_reads' HO_808001.out).2.2)
    (case side4 => exact (Kd.R_reads' HO_808001.out).2.1)
    rintro e w37 ⟨v826, rfl, ho0, hb⟩
    refine ⟨_, rfl, ?_⟩
    have HO827 := aM (Kd.R_lower (Kd.R_new' (Kd.R_new' (Kd.R_new' ho0 (Kd.Q_lt (qQ HO_807003.out))) (Kd.R_lt (qR HO_808001.out))) (Kd.Q_lt (qQ HO_815003.out))) (below_size (qW HB.out)))
    replace HO_807003 := aM (Kd.Q_elder' (qQ HO_807003.out) (Kd.R_base ho0) hb)
    replace HO_808001 := aM (Kd.R_elder' (qR HO_808001.out) (Kd.R_base ho0) hb)
    replace HO_815003 := aM (Kd.Q_elder' (qQ HO_815003.out) (Kd.R_base ho0) hb)
    replace BK806 := bB BK806 hb
    replace BK807 := bB BK807 hb
    replace BK814 := bB BK814 hb
    replace HB := bS HB hb
    (try clear hb)
    (try clear hb2)
    (try clear hk)
    (try clear hi)
    (try clear ho0)
    obtain ⟨Ao38, co38, eo38⟩ := Kd.R_slice HO827.out
    (first | subst eo38 | (injection eo38 with f1_ f2_ f3_; have f4_ := f1_.symm; have f5_ := f3_.symm; clear f1_ f2_ f3_; subst f4_; subst f5_))
    refine hK.out _ _ ⟨(blk_cell BK814.out 0).trans rfl, (blk_cell BK814.out 1).trans rfl, (blk_cell BK814.out 2).trans rfl, (blk_cell BK814.out 3).trans rfl, (blk_cell BK806.out 0).trans rfl, (blk_cell BK806.out 1).trans rfl, (blk_cell BK806.out 2).trans rfl, (blk_cell BK806.out 3).trans rfl, (blk_cell BK807.out 0).trans rfl, (blk_cell BK807.out 1).trans rfl, (blk_cell BK807.out 2).trans rfl⟩ (fun hHeld => ?_)
    clear hK K
    refine norm_ (a' := ?_) ?_ ?_
    rotate_left
    ·show Act.put _ (some 34) _ = _
     refine pZ ?_
     rfl
    refine one_ (i := 4) (N := some 35) (bA 6 31) rfl rfl (by kernel_rfl) (by decide) (fun K hK => ?_)
    refine goes_ Try.func15 (by kernel_rfl) rfl #[.agg #[.int .i64 t808, .int .i64 t809, .int .i64 t810, .slice Ao19 t811.length co19], .agg #[.int .i64 t822, .int .i64 t823, .int .i64 t824, .slice Ao38 t825.length co38]] (by rfl) rfl rfl qM ?_
    with_reducible refine (laws_equalImage.calls kj4 t808 t809 t810 _ _ t811 t822 t823 t824 _ _ t825 t828 _ ?side1 ?side2 ?side3 ?side4 A35.out).mono ?_
    (case side1 => exact qC (Kd.Q_reads' HO_815003.out).2.2)
    (case side2 => exact (Kd.Q_reads' HO_815003.out).2.1)
    (case side3 => exact qC (Kd.R_reads' HO827.out).2.2)
    (case side4 => exact (Kd.R_reads' HO827.out).2.1)
    rintro e w39 ⟨rfl, hb⟩
    refine ⟨_, rfl, ?_⟩
    replace HO_807003 := aM (Kd.Q_below (qQ HO_807003.out) hb)
    replace HO_808001 := aM (Kd.R_below (qR HO_808001.out) hb)
    replace HO_815003 := aM (Kd.Q_below (qQ HO_815003.out) hb)
    replace HO827 := aM (Kd.R_below (qR HO827.out) hb)
    replace BK806 := bB BK806 hb
    replace BK807 := bB BK807 hb
    replace BK814 := bB BK814 hb
    replace HB := bS HB hb
    (try clear hb)
    (try clear hb2)
    (try clear hk)
    (try clear hi)
    refine hK.out _ _ ⟨(blk_cell BK814.out 0).trans rfl, (blk_cell BK814.out 1).trans rfl, (blk_cell BK814.out 2).trans rfl, (blk_cell BK814.out 3).trans rfl, (blk_cell BK806.out 0).trans rfl, (blk_cell BK806.out 1).trans rfl, (blk_cell BK806.out 2).trans rfl, (blk_cell BK806.out 3).trans rfl, (blk_cell BK807.out 0).trans rfl, (blk_cell BK807.out 1).trans rfl, (blk_cell BK807.out 2).trans rfl⟩ (fun hHeld => ?_)
    clear hK K
    refine norm_ (a' := ?_) ?_ ?_
    rotate_left
    ·show Act.put _ (some 35) _ = _
     refine pZ ?_
     rfl
    refine pure_ (i := 5) (N := some 2) (v := ?_) (a' := ?_) (bA 6 63) rfl rfl (by kernel_rfl) (fun _ _ _ h => h) (Or.inl ⟨by rfl, ?_⟩) ?_ ?_
    rotate_left
    ·intro w'
     go_simp
     with_reducible rfl
    rotate_left
    ·refine pZ ?_
     rfl
    refine done_ (by kernel_rfl) ?_
    try go_wp2
    go_ret
    exact ⟨qX, by exact qW HB.out⟩
   replace c33 := Bool.eq_false_iff.mpr c33
   subst c33
   have H1 : ((impl_PixelAt.f t795 t796 t797 t798 0 0).bind fun t829 => ((impl_FillImage.f kj4 t795 t796 t829).bind fun bt832 => ((impl_ConvolveImage.f bt832.1 bt832.2.1 bt832.2.2.1 bt832.2.2.2 t801 t802 t805).bind fun bt839 => ((impl_PaletteOf.f bt839.1 bt839.2.1 bt839.2.2.1 bt839.2.2.2).bind fun bt845 => ((impl_ConvolveImage.f t795 t796 t797 t798 0 (([1] : List Int)) 1).bind fun bt852 => ((laws_equalImage.f kj4 bt852.1 bt852.2.1 bt852.2.2.1 bt852.2.2.2 t795 t796 t797 t798).bind fun t858 => (if t858 = true then (if bt845.2 = true then (some ((bt845.1.length : Int) == 1)) else (some false)) else (some false)))))))) = some r := by rw [if_neg (show ¬ (false = true) by decide)] at H; exact H
   clear H
   have H := H1
   clear H1
   replace H := Option.bind_eq_some_iff.mp H
   obtain ⟨t829, A400, H⟩ := H
   replace H : ((impl_FillImage.f kj4 t795 t796 t829).bind fun bt832 => ((impl_ConvolveImage.f bt832.1 bt832.2.1 bt832.2.2.1 bt832.2.2.2 t801 t802 t805).bind fun bt839 => ((impl_PaletteOf.f bt839.1 bt839.2.1 bt839.2.2.1 bt839.2.2.2).bind fun bt845 => ((impl_ConvolveImage.f t795 t796 t797 t798 0 (([1] : List Int)) 1).bind fun bt852 => ((laws_equalImage.f kj4 bt852.1 bt852.2.1 bt852.2.2.1 bt852.2.2.2 t795 t796 t797 t798).bind fun t858 => (if t858 = true then (if bt845.2 = true then (some ((bt845.1.length : Int) == 1)) else (some false)) else (some false))))))) = some r := H
   have A40 := aM A400
   clear A400
   replace H := Option.bind_eq_some_iff.mp H
   obtain ⟨⟨t832, t833, t834, t835⟩, A410, H⟩ := H
   replace H : ((impl_ConvolveImage.f t832 t833 t834 t835 t801 t802 t805).bind fun bt839 => ((impl_PaletteOf.f bt839.1 bt839.2.1 bt839.2.2.1 bt839.2.2.2).bind fun bt845 => ((impl_ConvolveImage.f t795 t796 t797 t798 0 (([1] : List Int)) 1).bind fun bt852 => ((laws_equalImage.f kj4 bt852.1 bt852.2.1 bt852.2.2.1 bt852.2.2.2 t795 t796 t797 t798).bind fun t858 => (if t858 = true then (if bt845.2 = true then (some ((bt845.1.length : Int) == 1)) else (some false)) else (some false)))))) = some r := H
   have A41 := aM A410
   clear A410
   replace H := Option.bind_eq_some_iff.mp H
   obtain ⟨⟨t839, t840, t841, t842⟩, A420, H⟩ := H
   replace H : ((impl_PaletteOf.f t839 t840 t841 t842).bind fun bt845 => ((impl_ConvolveImage.f t795 t796 t797 t798 0 (([1] : List Int)) 1).bind fun bt852 => ((laws_equalImage.f kj4 bt852.1 bt852.2.1 bt852.2.2.1 bt852.2.2.2 t795 t796 t797 t798).bind fun t858 => (if t858 = true then (if bt845.2 = true then (some ((bt845.1.length : Int) == 1)) else (some false)) else (some false))))) = some r := H
   have A42 := aM A420
   clear A420
   replace H := Option.bind_eq_some_iff.mp H
   obtain ⟨⟨t845, t848⟩, A430, H⟩ := H
   replace H : ((impl_ConvolveImage.f t795 t796 t797 t798 0 (([1] : List Int)) 1).bind fun bt852 => ((laws_equalImage.f kj4 bt852.1 bt852.2.1 bt852.2.2.1 bt852.2.2.2 t795 t796 t797 t798).bind fun t858 => (if t858 = true then (if t848 = true then (some ((t845.length : Int) == 1)) else (some false)) else (some false)))) = some r := H
   have A43 := aM A430
   clear A430
   obtain ⟨y849, hy849⟩ : ∃ y_ : List Int, y_ = (([1] : List Int)) := ⟨_, rfl⟩
   replace H : ((impl_ConvolveImage.f t795 t796 t797 t798 0 y849 1).bind fun bt852 => ((laws_equalImage.f kj4 bt852.1 bt852.2.1 bt852.2.2.1 bt852.2.2.2 t795 t796 t797 t798).bind fun t858 => (if t858 = true then (if t848 = true then (some ((t845.length : Int) == 1)) else (some false)) else (some false)))) = some r := rY hy849 H
   have Ny849 := aM hy849
   clear hy849
   replace H := Option.bind_eq_some_iff.mp H
   obtain ⟨⟨t852, t853, t854, t855⟩, A440, H⟩ := H
   replace H : ((laws_equalImage.f kj4 t852 t853 t854 t855 t795 t796 t797 t798).bind fun t858 => (if t858 = true then (if t848 = true then (some ((t845.length : Int) == 1)) else (some false)) else (some false))) = some r := H
   have A44 := aM A440
   clear A440
   replace H := Option.bind_eq_some_iff.mp H
   obtain ⟨t858, A450, H⟩ := H
   replace H : (if t858 = true then (if t848 = true then (some ((t845.length : Int) == 1)) else (some false)) else (some false)) = some r := H
   have A45 := aM A450
   clear A450
   by_cases c46 : t858 = true
   rotate_left
   ·replace c46 := Bool.eq_false_iff.mpr c46
    subst c46
    have H1 : (some false) = some r := by rw [if_neg (show ¬ (false = true) by decide)] at H; exact H
    clear H
    have H := H1
    clear H1
    obtain rfl := Option.some.inj H
    exact absurd hrt (by decide)
   subst c46
   have H1 : (if t848 = true then (some ((t845.length : Int) == 1)) else (some false)) = some r := by rw [if_pos rfl] at H; exact H
   clear H
   have H := H1
   clear H1
   by_cases c47 : t848 = true
   rotate_left
   ·replace c47 := Bool.eq_false_iff.mpr c47
    subst c47
    have H1 : (some false) = some r := by rw [if_neg (show ¬ (false = true) by decide)] at H; exact H
    clear H
    have H := H1
    clear H1
    obtain rfl := Option.some.inj H
    exact absurd hrt (by decide)
   subst c47
   have H1 : (some ((t845.length : Int) == 1)) = some r := by rw [if_pos rfl] at H; exact H
   clear H
   have H := H1
   clear H1
   obtain rfl := Option.some.inj H
   try go_wp2
   replace HO_807003 := aM (Kd.Q_drew HO_807003.out)
   replace HO_808001 := aM (Kd.R_drew HO_808001.out)
   replace HO_815003 := aM (Kd.Q_drew HO_815003.out)
   replace BK806 := aM (blk_drew BK806.out)
   replace BK807 := aM (blk_drew BK807.out)
   replace BK814 := aM (blk_drew BK814.out)
   replace HB := aM (below_drew1 HB.out)
   refine start_ (n := 9) (S := fun w' => w'.cell? ⟨gb806, 0, none⟩ = some (.int .i64 t795) ∧ w'.cell? ⟨gb806, 1, none⟩ = some (.int .i64 t796) ∧ w'.cell? ⟨gb806, 2, none⟩ = some (.int .i64 t797) ∧ w'.cell? ⟨gb806, 3, none⟩ = some (.slice Ao11 t798.length co11)) (ds := []) (bA 9 0) (by kernel_rfl) rfl rfl ⟨(blk_cell BK806.out 0).trans rfl, (blk_cell BK806.out 1).trans rfl, (blk_cell BK806.out 2).trans rfl, (blk_cell BK806.out 3).trans rfl⟩ (fun hHeld => ?_); refine with_tabW laws_FnConvolveImage.tab7 laws_FnConvolveImage.bits7 (fun HT_ HW_ => ?_)
   generalize wc.drew = w48 at HO_807003 HO_808001 HO_815003 BK806 BK807 BK814 HB hHeld ⊢
   refine pQ 0 36 HT_ (bA 9 1) ?_
   refine pQ 2 38 HT_ (bA 9 5) ?_
   refine take_ (i := 1) (N := some 37) (v := ?_) (a' := ?_) (bA 9 7) rfl rfl (take_ofW HT_.out HW_.out (by kernel_rfl)) (fun _ _ _ h => h) (Or.inl ⟨by rfl, ?_⟩) hHeld ?_ ?_
   rotate_left
   ·rintro w' ⟨s0, s1, s2, s3⟩
    go_simp
    with_reducible rfl
   rotate_left
   ·refine pZ ?_
    rfl
   refine take_ (i := 3) (N := some 39) (v := ?_) (a' := ?_) (bA 9 15) rfl rfl (take_ofW HT_.out HW_.out (by kernel_rfl)) (fun _ _ _ h => h) (Or.inl ⟨by rfl, ?_⟩) hHeld ?_ ?_
   rotate_left
   ·rintro w' ⟨s0, s1, s2, s3⟩
    go_simp
    with_reducible rfl
   rotate_left
   ·refine pZ ?_
    rfl
   refine take_ (i := 4) (N := some 40) (v := ?_) (a' := ?_) (bA 9 31) rfl rfl (take_ofW HT_.out HW_.out (by kernel_rfl)) (fun _ _ _ h => h) (Or.inl ⟨by rfl, ?_⟩) hHeld ?_ ?_
   rotate_left
   ·rintro w' ⟨s0, s1, s2, s3⟩
    go_simp
    with_reducible rfl
   rotate_left
   ·refine pZ ?_
    rfl
   refine join_ (σ := Value × Value × Nat) 1 (bA 9 255) (fun s_ => [(41, s_.1), (42, .agg #[.int .i64 t832, .int .i64 t833, .int .i64 t834, s_.2.1]), (6, .pointer (some ⟨s_.2.2, 0, none⟩))]) (fun s_ w' => (w'.cell? ⟨gb806, 0, none⟩ = some (.int .i64 t795) ∧ w'.cell? ⟨gb806, 1, none⟩ = some (.int .i64 t796) ∧ w'.cell? ⟨gb806, 2, none⟩ = some (.int .i64 t797) ∧ w'.cell? ⟨gb806, 3, none⟩ = some (.slice Ao11 t798.length co11)) ∧ (Kd.R (Kd.int .i64) 3 w' w.heap.size (fun k_ => some k_ ≠ (s_.2.1 : Value).ownBlock ∧ some k_ ≠ (.slice Ao11 t798.length co11 : Value).ownBlock ∧ some k_ ≠ (.slice Ao13 t802.length co13 : Value).ownBlock ∧ some k_ ≠ (.slice Ao19 t811.length co19 : Value).ownBlock) s_.1 t829) ∧ (Kd.R (Kd.int .i64) 3 w' w.heap.size (fun k_ => some k_ ≠ (s_.1 : Value).ownBlock ∧ some k_ ≠ (.slice Ao11 t798.length co11 : Value).ownBlock ∧ some k_ ≠ (.slice Ao13 t802.length co13 : Value).ownBlock ∧ some k_ ≠ (.slice Ao19 t811.length co19 : Value).ownBlock) s_.2.1 t835) ∧ (Kd.Q (Kd.int .i64) 3 w' w.heap.size (fun k_ => some k_ ≠ (s_.1 : Value).ownBlock ∧ some k_ ≠ (s_.2.1 : Value).ownBlock ∧ some k_ ≠ (.slice Ao13 t802.length co13 : Value).ownBlock ∧ some k_ ≠ (.slice Ao19 t811.length co19 : Value).ownBlock) (.slice Ao11 t798.length co11) t798) ∧ (Kd.R (Kd.int .i64) 3 w' w.heap.size (fun k_ => some k_ ≠ (s_.1 : Value).ownBlock ∧ some k_ ≠ (s_.2.1 : Value).ownBlock ∧ some k_ ≠ (.slice Ao11 t798.length co11 : Value).ownBlock ∧ some k_ ≠ (.slice Ao19 t811.length co19 : Value).ownBlock) (.slice Ao13 t802.length co13) t802) ∧ (Kd.Q (Kd.int .i64) 3 w' w.heap.size (fun k_ => some k_ ≠ (s_.1 : Value).ownBlock ∧ some k_ ≠ (s_.2.1 : Value).ownBlock ∧ some k_ ≠ (.slice Ao11 t798.length co11 : Value).ownBlock ∧ some k_ ≠ (.slice Ao13 t802.length co13 : Value).ownBlock) (.slice Ao19 t811.length co19) t811) ∧ (w'.heap[gb806]? = some (.cells #[.int .i64 t795, .int .i64 t796, .int .i64 t797, .slice Ao11 t798.length co11] 27 (0, 0))) ∧ (w'.heap[gb807]? = some (.cells #[.int .i64 t801, .slice Ao13 t802.length co13, .int .i64 t805] 49 (0, 0))) ∧ (w'.heap[gb814]? = some (.cells #[.int .i64 t808, .int .i64 t809, .int .i64 t810, .slice Ao19 t811.length co19] 27 (0, 0))) ∧ (w'.heap[s_.2.2]? = some (.cells #[.int .i64 0, .int .i64 0, .int .i64 0, .slice none 0 0] 27 (0, 0))) ∧ (w.heap.size ≤ s_.2.2) ∧ (w.heap.size ≤ s_.2.2) ∧ (gb806 ≠ s_.2.2) ∧ (s_.2.2 ≠ gb806) ∧ (gb807 ≠ s_.2.2) ∧ (s_.2.2 ≠ gb807) ∧ (gb814 ≠ s_.2.2) ∧ (s_.2.2 ≠ gb814) ∧ (Below w.heap.size w w')) ?_ ?_
   rotate_left
   ·intro hCont
    refine two_ (i := 5) (j := 7) (Ni := some 41) (Nj := some 6) (bA 9 63) (bA 9 159) rfl rfl rfl rfl (two_of HT_.out (by kernel_rfl)) (by decide) (by decide) (fun K hK => ?_) (fun K hK => ?_)
    rotate_left
    ·skip
     refine box_step ?hg (N := 6) ?hd (cs := #[.int .i64 0, .int .i64 0, .int .i64 0, .slice none 0 0]) (t := 27) ?hr ?_; (case hd => rfl); (case hg => rfl); (case hr => first | (go_simp; done) | (go_simp; rfl))
     intro gb838 hg w49 hbox hb
     replace HO_807003 := aM (Kd.Q_below (qQ HO_807003.out) hb)
     replace HO_808001 := aM (Kd.R_below (qR HO_808001.out) hb)
     replace HO_815003 := aM (Kd.Q_below (qQ HO_815003.out) hb)
     have BK838 := aM (hbox)
     have GW838 := gW hg HB
     have GE838 := gW hg HB
     replace HB := bS HB hb
     have NB806_838 := nL hg BK806
     have NB838_806 := nG hg BK806
     replace BK806 := bB BK806 hb
     have NB807_838 := nL hg BK807
     have NB838_807 := nG hg BK807
     replace BK807 := bB BK807 hb
     have NB814_838 := nL hg BK814
     have NB838_814 := nG hg BK814
     replace BK814 := bB BK814 hb
     clear hb hbox hg
     refine hK.out _ _ ⟨(blk_cell BK806.out 0).trans rfl, (blk_cell BK806.out 1).trans rfl, (blk_cell BK806.out 2).trans rfl, (blk_cell BK806.out 3).trans rfl⟩ (fun hHeld => ?_)
     clear hK K
     refine norm_ (a' := ?_) ?_ ?_
     rotate_left
     ·show Act.put _ (some 6) _ = _
      refine pZ ?_
      rfl
     refine one_ (i := 5) (N := some 41) (bA 9 191) rfl rfl (one_of HT_.out (by kernel_rfl)) (by decide) (fun K hK => ?_)
     refine goes_ Try.func39 (by kernel_rfl) rfl #[.agg #[.int .i64 t795, .int .i64 t796, .int .i64 t797, .slice Ao11 t798.length co11], .int .i64 0, .int .i64 0] (by rfl) rfl rfl qM ?_
     with_reducible refine (impl_PixelAt.calls t795 t796 t797 _ _ t798 0 0 t829 _ ?side1 ?side2 A40.out).mono ?_
     (case side1 => exact qC (Kd.Q_reads' HO_807003.out).2.2)
     (case side2 => exact (Kd.Q_reads' HO_807003.out).2.1)
     rintro e w50 ⟨v830, rfl, ho0, hb⟩
     refine ⟨_, rfl, ?_⟩
     have HO831 := aM (Kd.R_lower (Kd.R_new' (Kd.R_new' (Kd.R_new' ho0 (Kd.Q_lt (qQ HO_807003.out))) (Kd.R_lt (qR HO_808001.out))) (Kd.Q_lt (qQ HO_815003.out))) (below_size (qW HB.out)))
     replace HO_807003 := aM (Kd.Q_elder' (qQ HO_807003.out) (Kd.R_base ho0) hb)
     replace HO_808001 := aM (Kd.R_elder' (qR HO_808001.out) (Kd.R_base ho0) hb)
     replace HO_815003 := aM (Kd.Q_elder' (qQ HO_815003.out) (Kd.R_base ho0) hb)
     replace BK806 := bB BK806 hb
     replace BK807 := bB BK807 hb
     replace BK814 := bB BK814 hb
     replace BK838 := bB BK838 hb
     replace HB := bS HB hb
     (try clear hb)
     (try clear hb2)
     (try clear hk)
     (try clear hi)
     (try clear ho0)
     obtain ⟨Ao51, co51, eo51⟩ := Kd.R_slice HO831.out
     (first | subst eo51 | (injection eo51 with f1_ f2_ f3_; have f4_ := f1_.symm; have f5_ := f3_.symm; clear f1_ f2_ f3_; subst f4_; subst f5_))
     refine hK.out _ _ ⟨(blk_cell BK806.out 0).trans rfl, (blk_cell BK806.out 1).trans rfl, (blk_cell BK806.out 2).trans rfl, (blk_cell BK806.out 3).trans rfl⟩ (fun hHeld => ?_)
     clear hK K
     refine norm_ (a' := ?_) ?_ ?_
     rotate_left
     ·show Act.put _ (some 41) _ = _
      refine pZ ?_
      rfl
     refine one_ (i := 6) (N := some 42) (bA 9 255) rfl rfl (one_of HT_.out (by kernel_rfl)) (by decide) (fun K hK => ?_)
     refine goes_ Try.func31 (by kernel_rfl) rfl #[.int .i64 t795, .int .i64 t796, .slice Ao51 t829.length co51] (by rfl) rfl rfl qM ?_
     with_reducible refine (impl_FillImage.calls kj4 t795 t796 _ _ t829 t832 t833 t834 t835 _ ?side1 ?side2 A41.out).mono ?_
     (case side1 => exact qC (Kd.R_reads' HO831.out).2.2)
     (case side2 => exact (Kd.R_reads' HO831.out).2.1)
     rintro e w52 ⟨v836, rfl, ho0, hb⟩
     refine ⟨_, rfl, ?_⟩
     have HO837 := aM (Kd.R_lower (Kd.R_new' (Kd.R_new' (Kd.R_new' (Kd.R_new' ho0 (Kd.Q_lt (qQ HO_807003.out))) (Kd.R_lt (qR HO_808001.out))) (Kd.Q_lt (qQ HO_815003.out))) (Kd.R_lt (qR HO831.out))) (below_size (qW HB.out)))
     replace HO_807003 := aM (Kd.Q_elder' (qQ HO_807003.out) (Kd.R_base ho0) hb)
     replace HO_808001 := aM (Kd.R_elder' (qR HO_808001.out) (Kd.R_base ho0) hb)
     replace HO_815003 := aM (Kd.Q_elder' (qQ HO_815003.out) (Kd.R_base ho0) hb)
     replace HO831 := aM (Kd.R_elder' (qR HO831.out) (Kd.R_base ho0) hb)
     replace BK806 := bB BK806 hb
     replace BK807 := bB BK807 hb
     replace BK814 := bB BK814 hb
     replace BK838 := bB BK838 hb
     replace HB := bS HB hb
     (try clear hb)
     (try clear hb2)
     (try clear hk)
     (try clear hi)
     (try clear ho0)
     refine hK.out _ _ ⟨(blk_cell BK806.out 0).trans rfl, (blk_cell BK806.out 1).trans rfl, (blk_cell BK806.out 2).trans rfl, (blk_cell BK806.out 3).trans rfl⟩ (fun hHeld => ?_)
     clear hK K
     refine norm_ (a' := ?_) ?_ ?_
     rotate_left
     ·show Act.put _ (some 42) _ = _
      refine pZ ?_
      rfl
     exact norm_ (by simp only [putAll, Act.put, List.setIfInBounds_toArray, List.set_cons_zero, List.set_cons_succ]) (hCont (.slice Ao51 t829.length co51, v836, gb838) _ ⟨hHeld, (by refine qR ?_; exact Kd.R_mono HO831.out (fun _ hk => ⟨hk.2, ⟨hk.1.1.1.2, ⟨hk.1.1.2, hk.1.2⟩⟩⟩)), (by refine qR ?_; exact Kd.R_mono HO837.out (fun _ hk => ⟨hk.2, ⟨hk.1.1.1.2, ⟨hk.1.1.2, hk.1.2⟩⟩⟩)), (by (with_reducible repeat (first | apply Kd.Q_alloc | apply Kd.Q_drewN | apply Kd.Q_drew)); exact Kd.Q_mono HO_807003.out (fun _ hk => ⟨hk.1.2, ⟨hk.2, ⟨hk.1.1.1, hk.1.1.2⟩⟩⟩)), (by refine qR ?_; exact Kd.R_mono HO_808001.out (fun _ hk => ⟨hk.1.2, ⟨hk.2, ⟨hk.1.1.1, hk.1.1.2⟩⟩⟩)), (by (with_reducible repeat (first | apply Kd.Q_alloc | apply Kd.Q_drewN | apply Kd.Q_drew)); exact Kd.Q_mono HO_815003.out (fun _ hk => ⟨hk.1.2, ⟨hk.2, ⟨hk.1.1.1, hk.1.1.2⟩⟩⟩)), (qB BK806.out), (qB BK807.out), (qB BK814.out), (qB BK838.out), GW838.out, GE838.out, NB806_838.out, NB838_806.out, NB807_838.out, NB838_807.out, NB814_838.out, NB838_814.out, (qW HB.out)⟩)
    skip
    refine goes_ Try.func39 (by kernel_rfl) rfl #[.agg #[.int .i64 t795, .int .i64 t796, .int .i64 t797, .slice Ao11 t798.length co11], .int .i64 0, .int .i64 0] (by rfl) rfl rfl qM ?_
    with_reducible refine (impl_PixelAt.calls t795 t796 t797 _ _ t798 0 0 t829 _ ?side1 ?side2 A40.out).mono ?_
    (case side1 => exact qC (Kd.Q_reads' HO_807003.out).2.2)
    (case side2 => exact (Kd.Q_reads' HO_807003.out).2.1)
    rintro e w49 ⟨v830, rfl, ho0, hb⟩
    refine ⟨_, rfl, ?_⟩
    have HO831 := aM (Kd.R_lower (Kd.R_new' (Kd.R_new' (Kd.R_new' ho0 (Kd.Q_lt (qQ HO_807003.out))) (Kd.R_lt (qR HO_808001.out))) (Kd.Q_lt (qQ HO_815003.out))) (below_size (qW HB.out)))
    replace HO_807003 := aM (Kd.Q_elder' (qQ HO_807003.out) (Kd.R_base ho0) hb)
    replace HO_808001 := aM (Kd.R_elder' (qR HO_808001.out) (Kd.R_base ho0) hb)
    replace HO_815003 := aM (Kd.Q_elder' (qQ HO_815003.out) (Kd.R_base ho0) hb)
    replace BK806 := bB BK806 hb
    replace BK807 := bB BK807 hb
    replace BK814 := bB BK814 hb
    replace HB := bS HB hb
    (try clear hb)
    (try clear hb2)
    (try clear hk)
    (try clear hi)
    (try clear ho0)
    obtain ⟨Ao50, co50, eo50⟩ := Kd.R_slice HO831.out
    (first | subst eo50 | (injection eo50 with f1_ f2_ f3_; have f4_ := f1_.symm; have f5_ := f3_.symm; clear f1_ f2_ f3_; subst f4_; subst f5_))
    refine hK.out _ _ ⟨(blk_cell BK806.out 0).trans rfl, (blk_cell BK806.out 1).trans rfl, (blk_cell BK806.out 2).trans rfl, (blk_cell BK806.out 3).trans rfl⟩ (fun hHeld => ?_)
    clear hK K
    refine norm_ (a' := ?_) ?_ ?_
    rotate_left
    ·show Act.put _ (some 41) _ = _
     refine pZ ?_
     rfl
    refine two_ (i := 6) (j := 7) (Ni := some 42) (Nj := some 6) (bA 9 127) (bA 9 191) rfl rfl rfl rfl (two_of HT_.out (by kernel_rfl)) (by decide) (by decide) (fun K hK => ?_) (fun K hK => ?_)
    ·skip
     refine goes_ Try.func31 (by kernel_rfl) rfl #[.int .i64 t795, .int .i64 t796, .slice Ao50 t829.length co50] (by rfl) rfl rfl qM ?_
     with_reducible refine (impl_FillImage.calls kj4 t795 t796 _ _ t829 t832 t833 t834 t835 _ ?side1 ?side2 A41.out).mono ?_
     (case side1 => exact qC (Kd.R_reads' HO831.out).2.2)
     (case side2 => exact (Kd.R_reads' HO831.out).2.1)
     rintro e w51 ⟨v836, rfl, ho0, hb⟩
     refine ⟨_, rfl, ?_⟩
     have HO837 := aM (Kd.R_lower (Kd.R_new' (Kd.R_new' (Kd.R_new' (Kd.R_new' ho0 (Kd.Q_lt (qQ HO_807003.out))) (Kd.R_lt (qR HO_808001.out))) (Kd.Q_lt (qQ HO_815003.out))) (Kd.R_lt (qR HO831.out))) (below_size (qW HB.out)))
     replace HO_807003 := aM (Kd.Q_elder' (qQ HO_807003.out) (Kd.R_base ho0) hb)
     replace HO_808001 := aM (Kd.R_elder' (qR HO_808001.out) (Kd.R_base ho0) hb)
     replace HO_815003 := aM (Kd.Q_elder' (qQ HO_815003.out) (Kd.R_base ho0) hb)
     replace HO831 := aM (Kd.R_elder' (qR HO831.out) (Kd.R_base ho0) hb)
     replace BK806 := bB BK806 hb
     replace BK807 := bB BK807 hb
     replace BK814 := bB BK814 hb
     replace HB := bS HB hb
     (try clear hb)
     (try clear hb2)
     (try clear hk)
     (try clear hi)
     (try clear ho0)
     refine hK.out _ _ ⟨(blk_cell BK806.out 0).trans rfl, (blk_cell BK806.out 1).trans rfl, (blk_cell BK806.out 2).trans rfl, (blk_cell BK806.out 3).trans rfl⟩ (fun hHeld => ?_)
     clear hK K
     refine norm_ (a' := ?_) ?_ ?_
     rotate_left
     ·show Act.put _ (some 42) _ = _
      refine pZ ?_
      rfl
     refine one_ (i := 7) (N := some 6) (bA 9 255) rfl rfl (one_of HT_.out (by kernel_rfl)) (by decide) (fun K hK => ?_)
     refine box_step ?hg (N := 6) ?hd (cs := #[.int .i64 0, .int .i64 0, .int .i64 0, .slice none 0 0]) (t := 27) ?hr ?_; (case hd => rfl); (case hg => rfl); (case hr => first | (go_simp; done) | (go_simp; rfl))
     intro gb838 hg w52 hbox hb
     replace HO_807003 := aM (Kd.Q_below (qQ HO_807003.out) hb)
     replace HO_808001 := aM (Kd.R_below (qR HO_808001.out) hb)
     replace HO_815003 := aM (Kd.Q_below (qQ HO_815003.out) hb)
     replace HO831 := aM (Kd.R_below (qR HO831.out) hb)
     replace HO837 := aM (Kd.R_below (qR HO837.out) hb)
     have BK838 := aM (hbox)
     have GW838 := gW hg HB
     have GE838 := gW hg HB
     replace HB := bS HB hb
     have NB806_838 := nL hg BK806
     have NB838_806 := nG hg BK806
     replace BK806 := bB BK806 hb
     have NB807_838 := nL hg BK807
     have NB838_807 := nG hg BK807
     replace BK807 := bB BK807 hb
     have NB814_838 := nL hg BK814
     have NB838_814 := nG hg BK814
     replace BK814 := bB BK814 hb
     clear hb hbox hg
     refine hK.out _ _ ⟨(blk_cell BK806.out 0).trans rfl, (blk_cell BK806.out 1).trans rfl, (blk_cell BK806.out 2).trans rfl, (blk_cell BK806.out 3).trans rfl⟩ (fun hHeld => ?_)
     clear hK K
     refine norm_ (a' := ?_) ?_ ?_
     rotate_left
     ·show Act.put _ (some 6) _ = _
      refine pZ ?_
      rfl
     exact norm_ (by simp only [putAll, Act.put, List.setIfInBounds_toArray, List.set_cons_zero, List.set_cons_succ]) (hCont (.slice Ao50 t829.length co50, v836, gb838) _ ⟨hHeld, (by refine qR ?_; exact Kd.R_mono HO831.out (fun _ hk => ⟨hk.2, ⟨hk.1.1.1.2, ⟨hk.1.1.2, hk.1.2⟩⟩⟩)), (by refine qR ?_; exact Kd.R_mono HO837.out (fun _ hk => ⟨hk.2, ⟨hk.1.1.1.2, ⟨hk.1.1.2, hk.1.2⟩⟩⟩)), (by (with_reducible repeat (first | apply Kd.Q_alloc | apply Kd.Q_drewN | apply Kd.Q_drew)); exact Kd.Q_mono HO_807003.out (fun _ hk => ⟨hk.1.2, ⟨hk.2, ⟨hk.1.1.1, hk.1.1.2⟩⟩⟩)), (by refine qR ?_; exact Kd.R_mono HO_808001.out (fun _ hk => ⟨hk.1.2, ⟨hk.2, ⟨hk.1.1.1, hk.1.1.2⟩⟩⟩)), (by (with_reducible repeat (first | apply Kd.Q_alloc | apply Kd.Q_drewN | apply Kd.Q_drew)); exact Kd.Q_mono HO_815003.out (fun _ hk => ⟨hk.1.2, ⟨hk.2, ⟨hk.1.1.1, hk.1.1.2⟩⟩⟩)), (qB BK806.out), (qB BK807.out), (qB BK814.out), (qB BK838.out), GW838.out, GE838.out, NB806_838.out, NB838_806.out, NB807_838.out, NB838_807.out, NB814_838.out, NB838_814.out, (qW HB.out)⟩)
    skip
    refine box_step ?hg (N := 6) ?hd (cs := #[.int .i64 0, .int .i64 0, .int .i64 0, .slice none 0 0]) (t := 27) ?hr ?_; (case hd => rfl); (case hg => rfl); (case hr => first | (go_simp; done) | (go_simp; rfl))
    intro gb838 hg w50 hbox hb
    replace HO_807003 := aM (Kd.Q_below (qQ HO_807003.out) hb)
    replace HO_808001 := aM (Kd.R_below (qR HO_808001.out) hb)
    replace HO_815003 := aM (Kd.Q_below (qQ HO_815003.out) hb)
    replace HO831 := aM (Kd.R_below (qR HO831.out) hb)
    have BK838 := aM (hbox)
    have GW838 := gW hg HB
    have GE838 := gW hg HB
    replace HB := bS HB hb
    have NB806_838 := nL hg BK806
    have NB838_806 := nG hg BK806
    replace BK806 := bB BK806 hb
    have NB807_838 := nL hg BK807
    have NB838_807 := nG hg BK807
    replace BK807 := bB BK807 hb
    have NB814_838 := nL hg BK814
    have NB838_814 := nG hg BK814
    replace BK814 := bB BK814 hb
    clear hb hbox hg
    obtain ⟨Ao51, co51, eo51⟩ := Kd.R_slice HO831.out
    (first | subst eo51 | (injection eo51 with f1_ f2_ f3_; have f4_ := f1_.symm; have f5_ := f3_.symm; clear f1_ f2_ f3_; subst f4_; subst f5_))
    refine hK.out _ _ ⟨(blk_cell BK806.out 0).trans rfl, (blk_cell BK806.out 1).trans rfl, (blk_cell BK806.out 2).trans rfl, (blk_cell BK806.out 3).trans rfl⟩ (fun hHeld => ?_)
    clear hK K
    refine norm_ (a' := ?_) ?_ ?_
    rotate_left
    ·show Act.put _ (some 6) _ = _
     refine pZ ?_
     rfl
    refine one_ (i := 6) (N := some 42) (bA 9 255) rfl rfl (one_of HT_.out (by kernel_rfl)) (by decide) (fun K hK => ?_)
    refine goes_ Try.func31 (by kernel_rfl) rfl #[.int .i64 t795, .int .i64 t796, .slice Ao51 t829.length co51] (by rfl) rfl rfl qM ?_
    with_reducible refine (impl_FillImage.calls kj4 t795 t796 _ _ t829 t832 t833 t834 t835 _ ?side1 ?side2 A41.out).mono ?_
    (case side1 => exact qC (Kd.R_reads' HO831.out).2.2)
    (case side2 => exact (Kd.R_reads' HO831.out).2.1)
    rintro e w52 ⟨v836, rfl, ho0, hb⟩
    refine ⟨_, rfl, ?_⟩
    have HO837 := aM (Kd.R_lower (Kd.R_new' (Kd.R_new' (Kd.R_new' (Kd.R_new' ho0 (Kd.Q_lt (qQ HO_807003.out))) (Kd.R_lt (qR HO_808001.out))) (Kd.Q_lt (qQ HO_815003.out))) (Kd.R_lt (qR HO831.out))) (below_size (qW HB.out)))
    replace HO_807003 := aM (Kd.Q_elder' (qQ HO_807003.out) (Kd.R_base ho0) hb)
    replace HO_808001 := aM (Kd.R_elder' (qR HO_808001.out) (Kd.R_base ho0) hb)
    replace HO_815003 := aM (Kd.Q_elder' (qQ HO_815003.out) (Kd.R_base ho0) hb)
    replace HO831 := aM (Kd.R_elder' (qR HO831.out) (Kd.R_base ho0) hb)
    replace BK806 := bB BK806 hb
    replace BK807 := bB BK807 hb
    replace BK814 := bB BK814 hb
    replace BK838 := bB BK838 hb
    replace HB := bS HB hb
    (try clear hb)
    (try clear hb2)
    (try clear hk)
    (try clear hi)
    (try clear ho0)
    refine hK.out _ _ ⟨(blk_cell BK806.out 0).trans rfl, (blk_cell BK806.out 1).trans rfl, (blk_cell BK806.out 2).trans rfl, (blk_cell BK806.out 3).trans rfl⟩ (fun hHeld => ?_)
    clear hK K
    refine norm_ (a' := ?_) ?_ ?_
    rotate_left
    ·show Act.put _ (some 42) _ = _
     refine pZ ?_
     rfl
    exact norm_ (by simp only [putAll, Act.put, List.setIfInBounds_toArray, List.set_cons_zero, List.set_cons_succ]) (hCont (.slice Ao51 t829.length co51, v836, gb838) _ ⟨hHeld, (by refine qR ?_; exact Kd.R_mono HO831.out (fun _ hk => ⟨hk.2, ⟨hk.1.1.1.2, ⟨hk.1.1.2, hk.1.2⟩⟩⟩)), (by refine qR ?_; exact Kd.R_mono HO837.out (fun _ hk => ⟨hk.2, ⟨hk.1.1.1.2, ⟨hk.1.1.2, hk.1.2⟩⟩⟩)), (by (with_reducible repeat (first | apply Kd.Q_alloc | apply Kd.Q_drewN | apply Kd.Q_drew)); exact Kd.Q_mono HO_807003.out (fun _ hk => ⟨hk.1.2, ⟨hk.2, ⟨hk.1.1.1, hk.1.1.2⟩⟩⟩)), (by refine qR ?_; exact Kd.R_mono HO_808001.out (fun _ hk => ⟨hk.1.2, ⟨hk.2, ⟨hk.1.1.1, hk.1.1.2⟩⟩⟩)), (by (with_reducible repeat (first | apply Kd.Q_alloc | apply Kd.Q_drewN | apply Kd.Q_drew)); exact Kd.Q_mono HO_815003.out (fun _ hk => ⟨hk.1.2, ⟨hk.2, ⟨hk.1.1.1, hk.1.1.2⟩⟩⟩)), (qB BK806.out), (qB BK807.out), (qB BK814.out), (qB BK838.out), GW838.out, GE838.out, NB806_838.out, NB838_806.out, NB807_838.out, NB838_807.out, NB814_838.out, NB838_814.out, (qW HB.out)⟩)
   rintro ⟨v830, v836, gb838⟩ w53 ⟨hS_, h0_, h1_, h2_, h3_, h4_, h5_, h6_, h7_, h8_, h9_, h10_, h11_, h12_, h13_, h14_, h15_, h16_, h17_⟩
   have HO831 : Aside0 (Kd.R (Kd.int .i64) 3 w53 w.heap.size (fun k_ => some k_ ≠ (v836 : Value).ownBlock ∧ some k_ ≠ (.slice Ao11 t798.length co11 : Value).ownBlock ∧ some k_ ≠ (.slice Ao13 t802.length co13 : Value).ownBlock ∧ some k_ ≠ (.slice Ao19 t811.length co19 : Value).ownBlock) v830 t829) := ⟨h0_⟩
   have HO837 : Aside0 (Kd.R (Kd.int .i64) 3 w53 w.heap.size (fun k_ => some k_ ≠ (v830 : Value).ownBlock ∧ some k_ ≠ (.slice Ao11 t798.length co11 : Value).ownBlock ∧ some k_ ≠ (.slice Ao13 t802.length co13 : Value).ownBlock ∧ some k_ ≠ (.slice Ao19 t811.length co19 : Value).ownBlock) v836 t835) := ⟨h1_⟩
   replace HO_807003 : Aside0 (Kd.Q (Kd.int .i64) 3 w53 w.heap.size (fun k_ => some k_ ≠ (v830 : Value).ownBlock ∧ some k_ ≠ (v836 : Value).ownBlock ∧ some k_ ≠ (.slice Ao13 t802.length co13 : Value).ownBlock ∧ some k_ ≠ (.slice Ao19 t811.length co19 : Value).ownBlock) (.slice Ao11 t798.length co11) t798) := ⟨h2_⟩
   replace HO_808001 : Aside0 (Kd.R (Kd.int .i64) 3 w53 w.heap.size (fun k_ => some k_ ≠ (v830 : Value).ownBlock ∧ some k_ ≠ (v836 : Value).ownBlock ∧ some k_ ≠ (.slice Ao11 t798.length co11 : Value).ownBlock ∧ some k_ ≠ (.slice Ao19 t811.length co19 : Value).ownBlock) (.slice Ao13 t802.length co13) t802) := ⟨h3_⟩
   replace HO_815003 : Aside0 (Kd.Q (Kd.int .i64) 3 w53 w.heap.size (fun k_ => some k_ ≠ (v830 : Value).ownBlock ∧ some k_ ≠ (v836 : Value).ownBlock ∧ some k_ ≠ (.slice Ao11 t798.length co11 : Value).ownBlock ∧ some k_ ≠ (.slice Ao13 t802.length co13 : Value).ownBlock) (.slice Ao19 t811.length co19) t811) := ⟨h4_⟩
   replace BK806 : Aside0 (w53.heap[gb806]? = some (.cells #[.int .i64 t795, .int .i64 t796, .int .i64 t797, .slice Ao11 t798.length co11] 27 (0, 0))) := ⟨h5_⟩
   replace BK807 : Aside0 (w53.heap[gb807]? = some (.cells #[.int .i64 t801, .slice Ao13 t802.length co13, .int .i64 t805] 49 (0, 0))) := ⟨h6_⟩
   replace BK814 : Aside0 (w53.heap[gb814]? = some (.cells #[.int .i64 t808, .int .i64 t809, .int .i64 t810, .slice Ao19 t811.length co19] 27 (0, 0))) := ⟨h7_⟩
   have BK838 : Aside0 (w53.heap[gb838]? = some (.cells #[.int .i64 0, .int .i64 0, .int .i64 0, .slice none 0 0] 27 (0, 0))) := ⟨h8_⟩
   have GW838 : Aside0 (w.heap.size ≤ gb838) := ⟨h9_⟩
   have GE838 : Aside0 (w.heap.size ≤ gb838) := ⟨h10_⟩
   have NB806_838 : Aside0 (gb806 ≠ gb838) := ⟨h11_⟩
   have NB838_806 : Aside0 (gb838 ≠ gb806) := ⟨h12_⟩
   have NB807_838 : Aside0 (gb807 ≠ gb838) := ⟨h13_⟩
   have NB838_807 : Aside0 (gb838 ≠ gb807) := ⟨h14_⟩
   have NB814_838 : Aside0 (gb814 ≠ gb838) := ⟨h15_⟩
   have NB838_814 : Aside0 (gb838 ≠ gb814) := ⟨h16_⟩
   replace HB : Aside0 (Below w.heap.size w w53) := ⟨h17_⟩
   clear h0_ h1_ h2_ h3_ h4_ h5_ h6_ h7_ h8_ h9_ h10_ h11_ h12_ h13_ h14_ h15_ h16_ h17_
   have hHeld : w53.cell? ⟨gb806, 0, none⟩ = some (.int .i64 t795) ∧ w53.cell? ⟨gb806, 1, none⟩ = some (.int .i64 t796) ∧ w53.cell? ⟨gb806, 2, none⟩ = some (.int .i64 t797) ∧ w53.cell? ⟨gb806, 3, none⟩ = some (.slice Ao11 t798.length co11) := hS_
   obtain ⟨Ao57, co57, eo57⟩ := Kd.R_slice HO837.out
   (first | subst eo57 | (injection eo57 with f1_ f2_ f3_; have f4_ := f1_.symm; have f5_ := f3_.symm; clear f1_ f2_ f3_; subst f4_; subst f5_))
   refine norm_ (a' := ?_) ?_ ?_
   rotate_left
   ·simp only [putAll, Act.put, List.setIfInBounds_toArray, List.set_cons_zero, List.set_cons_succ]
    rfl
   refine one_ (i := 8) (N := none) (bA 9 511) rfl rfl (one_of HT_.out (by kernel_rfl)) (by decide) (fun K hK => ?_)
   have hs54 : w53.cell? ⟨gb838, 0, none⟩ = some (.int .i64 0) := (blk_cell BK838.out 0).trans rfl
   have hfs54 := blk_frozen BK838.out 0
   have hns54_0 := NB806_838.out
   have hns54_1 := NB807_838.out
   have hns54_2 := NB814_838.out
   have hms54_0 := NB838_806.out
   have hms54_1 := NB838_807.out
   have hms54_2 := NB838_814.out
   have hs55 : w53.cell? ⟨gb838, 1, none⟩ = some (.int .i64 0) := (blk_cell BK838.out 1).trans rfl
   have hfs55 := blk_frozen BK838.out 1
   have hns55_0 := NB806_838.out
   have hns55_1 := NB807_838.out
   have hns55_2 := NB814_838.out
   have hms55_0 := NB838_806.out
   have hms55_1 := NB838_807.out
   have hms55_2 := NB838_814.out
   have hs56 : w53.cell? ⟨gb838, 2, none⟩ = some (.int .i64 0) := (blk_cell BK838.out 2).trans rfl
   have hfs56 := blk_frozen BK838.out 2
   have hns56_0 := NB806_838.out
   have hns56_1 := NB807_838.out
   have hns56_2 := NB814_838.out
   have hms56_0 := NB838_806.out
   have hms56_1 := NB838_807.out
   have hms56_2 := NB838_814.out
   have hs58 : w53.cell? ⟨gb838, 3, none⟩ = some (.slice none 0 0) := (blk_cell BK838.out 3).trans rfl
   have hfs58 := blk_frozen BK838.out 3
   have hns58_0 := NB806_838.out
   have hns58_1 := NB807_838.out
   have hns58_2 := NB814_838.out
   have hms58_0 := NB838_806.out
   have hms58_1 := NB838_807.out
   have hms58_2 := NB838_814.out
   refine skip_ (w1 := ?_) (by rfl) rfl ?_ ?_
   rotate_left
   ·go_simp
    rfl
   refine hK.out _ _ ⟨((cell_far (p := ⟨gb838, _, none⟩) NB806_838.out _).trans (((cell_far (p := ⟨gb838, _, none⟩) NB806_838.out _).trans (((cell_far (p := ⟨gb838, _, none⟩) NB806_838.out _).trans (((cell_far (p := ⟨gb838, _, none⟩) NB806_838.out _).trans (hHeld.1)))))))), ((cell_far (p := ⟨gb838, _, none⟩) NB806_838.out _).trans (((cell_far (p := ⟨gb838, _, none⟩) NB806_838.out _).trans (((cell_far (p := ⟨gb838, _, none⟩) NB806_838.out _).trans (((cell_far (p := ⟨gb838, _, none⟩) NB806_838.out _).trans (hHeld.2.1)))))))), ((cell_far (p := ⟨gb838, _, none⟩) NB806_838.out _).trans (((cell_far (p := ⟨gb838, _, none⟩) NB806_838.out _).trans (((cell_far (p := ⟨gb838, _, none⟩) NB806_838.out _).trans (((cell_far (p := ⟨gb838, _, none⟩) NB806_838.out _).trans (hHeld.2.2.1)))))))), ((cell_far (p := ⟨gb838, _, none⟩) NB806_838.out _).trans (((cell_far (p := ⟨gb838, _, none⟩) NB806_838.out _).trans (((cell_far (p := ⟨gb838, _, none⟩) NB806_838.out _).trans (((cell_far (p := ⟨gb838, _, none⟩) NB806_838.out _).trans (hHeld.2.2.2))))))))⟩ (fun hHeld => ?_)
   clear hK K
   refine done_ (done_of HT_.out (by kernel_rfl)) ?_
   have hnb59 := NB838_806.out
   have hnc59 := NB806_838.out
   have hnb60 := NB838_807.out
   have hnc60 := NB807_838.out
   have hnb61 := NB838_814.out
   have hnc61 := NB814_838.out
   obtain ⟨⟨hcz62_0, hcz62_1, hcz62_2, hcz62_3⟩, hfz62_0, hfz62_1, hfz62_2, hfz62_3⟩ := cf4 BK838
   have hnb63 := NB807_806.out
   have hnc63 := NB806_807.out
   have hnb64 := NB807_814.out
   have hnc64 := NB814_807.out
   obtain ⟨⟨hcz65_0, hcz65_1, hcz65_2⟩, hfz65_0, hfz65_1, hfz65_2⟩ := cf3 BK807
   try go_wp2_with (first | ((with_reducible refine gate_callee (f := 35) rfl ?_); refine gL (some 46) Try.func35 #[.agg #[.int .i64 t832, .int .i64 t833, .int .i64 t834, .slice Ao57 t835.length co57], .agg #[.int .i64 t801, .slice Ao13 t802.length co13, .int .i64 t805]] ?_; (with_reducible refine (impl_ConvolveImage.calls t832 t833 t834 _ _ t835 t801 _ _ t802 t805 t839 t840 t841 t842 _ ?side1 ?side2 ?side3 ?side4 A42.out).mono ?_); (case side1 => refine (Kd.R_reads' (e := 3) (base := w.heap.size) (ok := fun k_ => (some k_ ≠ (v830 : Value).ownBlock ∧ (some k_ ≠ (.slice Ao11 t798.length co11 : Value).ownBlock ∧ (some k_ ≠ (.slice Ao13 t802.length co13 : Value).ownBlock ∧ some k_ ≠ (.slice Ao19 t811.length co19 : Value).ownBlock)))) (n := t835.length) (c := co57) ?_).2.2; exact (by refine qR ?_; exact (fr4 HO837 BK838))); (case side2 => exact (Kd.R_reads' HO837.out).2.1); (case side3 => refine (Kd.R_reads' (e := 3) (base := w.heap.size) (ok := fun k_ => (some k_ ≠ (v830 : Value).ownBlock ∧ (some k_ ≠ (.slice Ao57 t835.length co57 : Value).ownBlock ∧ (some k_ ≠ (.slice Ao11 t798.length co11 : Value).ownBlock ∧ some k_ ≠ (.slice Ao19 t811.length co19 : Value).ownBlock)))) (n := t802.length) (c := co13) ?_).2.2; exact (by refine qR ?_; exact (fr4 HO_808001 BK838))); (case side4 => exact (Kd.R_reads' HO_808001.out).2.1); rintro e w66 ⟨v843, rfl, ho0, hb⟩; refine ⟨_, rfl, ?_⟩; have HO844 := aM (Kd.R_lower (Kd.R_new' (Kd.R_new' (Kd.R_new' (Kd.R_new' (Kd.R_new' ho0 (Kd.Q_lt (by (with_reducible repeat (first | apply Kd.Q_alloc | apply Kd.Q_drewN | apply Kd.Q_drew)); exact (Kd.Q_mono (qT HO_807003 BK838) (fun _ h_ => h_.1))))) (Kd.R_lt (by refine qR ?_; exact (fr4 HO_808001 BK838)))) (Kd.Q_lt (by (with_reducible repeat (first | apply Kd.Q_alloc | apply Kd.Q_drewN | apply Kd.Q_drew)); exact (Kd.Q_mono (qT HO_815003 BK838) (fun _ h_ => h_.1))))) (Kd.R_lt (by refine qR ?_; exact (fr4 HO831 BK838)))) (Kd.R_lt (by refine qR ?_; exact (fr4 HO837 BK838)))) (below_size (qW HB.out))); replace HO_807003 := aM (Kd.Q_elder' (by (with_reducible repeat (first | apply Kd.Q_alloc | apply Kd.Q_drewN | apply Kd.Q_drew)); exact (Kd.Q_mono (qT HO_807003 BK838) (fun _ h_ => h_.1))) (Kd.R_base ho0) hb); replace HO_808001 := aM (Kd.R_elder' (by refine qR ?_; exact (fr4 HO_808001 BK838)) (Kd.R_base ho0) hb); replace HO_815003 := aM (Kd.Q_elder' (by (with_reducible repeat (first | apply Kd.Q_alloc | apply Kd.Q_drewN | apply Kd.Q_drew)); exact (Kd.Q_mono (qT HO_815003 BK838) (fun _ h_ => h_.1))) (Kd.R_base ho0) hb); replace HO831 := aM (Kd.R_elder' (by refine qR ?_; exact (fr4 HO831 BK838)) (Kd.R_base ho0) hb); replace HO837 := aM (Kd.R_elder' (by refine qR ?_; exact (fr4 HO837 BK838)) (Kd.R_base ho0) hb); replace BK806 := aM (blk_below (g := gb806) (o := .cells #[.int .i64 t795, .int .i64 t796, .int .i64 t797, .slice Ao11 t798.length co11] 27 (0, 0)) (by refine qB ?_; refine blk_far ?_ NB806_838.out _; refine qB ?_; refine blk_far ?_ NB806_838.out _; refine qB ?_; refine blk_far ?_ NB806_838.out _; refine qB ?_; refine blk_far ?_ NB806_838.out _; refine qB ?_; exact BK806.out) hb); replace BK807 := aM (blk_below (g := gb807) (o := .cells #[.int .i64 t801, .slice Ao13 t802.length co13, .int .i64 t805] 49 (0, 0)) (by refine qB ?_; refine blk_far ?_ NB807_838.out _; refine qB ?_; refine blk_far ?_ NB807_838.out _; refine qB ?_; refine blk_far ?_ NB807_838.out _; refine qB ?_; refine blk_far ?_ NB807_838.out _; refine qB ?_; exact BK807.out) hb); replace BK814 := aM (blk_below (g := gb814) (o := .cells #[.int .i64 t808, .int .i64 t809, .int .i64 t810, .slice Ao19 t811.length co19] 27 (0, 0)) (by refine qB ?_; refine blk_far ?_ NB814_838.out _; refine qB ?_; refine blk_far ?_ NB814_838.out _; refine qB ?_; refine blk_far ?_ NB814_838.out _; refine qB ?_; refine blk_far ?_ NB814_838.out _; refine qB ?_; exact BK814.out) hb); replace BK838 := aM (blk_below (g := gb838) (o := .cells #[.int .i64 t832, .int .i64 t833, .int .i64 t834, .slice Ao57 t835.length co57] 27 (0, 0)) (by exact bP BK838.out) hb); replace HB := bS HB hb; clear hb ho0; obtain ⟨Ao67, co67, rfl⟩ := sL HO844) | ((with_reducible refine gate_callee (f := 40) rfl ?_); refine gL (some 47) Try.func40 #[.agg #[.int .i64 t839, .int .i64 t840, .int .i64 t841, .slice Ao67 t842.length co67]] ?_; (with_reducible refine (impl_PaletteOf.calls t839 t840 t841 _ _ t842 t845 true _ ?side1 ?side2 A43.out).mono ?_); (case side1 => exact qC (Kd.R_reads' HO844.out).2.2); (case side2 => exact (Kd.R_reads' HO844.out).2.1); rintro e w68 ⟨v846, rfl, ho0, hb⟩; refine ⟨_, rfl, ?_⟩; have HO847 := aM (Kd.S_lower (Kd.S_new' (Kd.S_new' (Kd.S_new' (Kd.S_new' (Kd.S_new' (Kd.S_new' ho0 (Kd.Q_lt (qQ HO_807003.out))) (Kd.R_lt (qR HO_808001.out))) (Kd.Q_lt (qQ HO_815003.out))) (Kd.R_lt (qR HO831.out))) (Kd.R_lt (qR HO837.out))) (Kd.R_lt (qR HO844.out))) (below_size (qW HB.out))); replace HO_807003 := aM (Kd.Q_below (qQ HO_807003.out) hb); replace HO_808001 := aM (Kd.R_below (qR HO_808001.out) hb); replace HO_815003 := aM (Kd.Q_below (qQ HO_815003.out) hb); replace HO831 := aM (Kd.R_below (qR HO831.out) hb); replace HO837 := aM (Kd.R_below (qR HO837.out) hb); replace HO844 := aM (Kd.R_below (qR HO844.out) hb); replace BK806 := bB BK806 hb; replace BK807 := bB BK807 hb; replace BK814 := bB BK814 hb; replace BK838 := bB BK838 hb; replace HB := bS HB hb; clear hb ho0))
   replace HO_807003 := aM (Kd.Q_drew HO_807003.out)
   replace HO_808001 := aM (Kd.R_drew HO_808001.out)
   replace HO_815003 := aM (Kd.Q_drew HO_815003.out)
   replace HO831 := aM (Kd.R_drew HO831.out)
   replace HO837 := aM (Kd.R_drew HO837.out)
   replace HO844 := aM (Kd.R_drew HO844.out)
   replace HO847 := aM (Kd.S_drew HO847.out)
   replace BK806 := aM (blk_drew BK806.out)
   replace BK807 := aM (blk_drew BK807.out)
   replace BK814 := aM (blk_drew BK814.out)
   replace BK838 := aM (blk_drew BK838.out)
   replace HB := aM (below_drew1 HB.out)
   refine start_ (n := 15) (S := fun w' => w'.cell? ⟨gb806, 0, none⟩ = some (.int .i64 t795) ∧ w'.cell? ⟨gb806, 1, none⟩ = some (.int .i64 t796) ∧ w'.cell? ⟨gb806, 2, none⟩ = some (.int .i64 t797) ∧ w'.cell? ⟨gb806, 3, none⟩ = some (.slice Ao11 t798.length co11)) (ds := []) (bA 15 0) (by kernel_rfl) rfl rfl ⟨(blk_cell BK806.out 0).trans rfl, (blk_cell BK806.out 1).trans rfl, (blk_cell BK806.out 2).trans rfl, (blk_cell BK806.out 3).trans rfl⟩ (fun hHeld => ?_); refine with_tabW laws_FnConvolveImage.tab9 laws_FnConvolveImage.bits9 (fun HT_ HW_ => ?_)
   generalize w68.drew = w69 at HO_807003 HO_808001 HO_815003 HO831 HO837 HO844 HO847 BK806 BK807 BK814 BK838 HB hHeld ⊢
   refine take_ (i := 0) (N := some 50) (v := ?_) (a' := ?_) (bA 15 1) rfl rfl (take_ofW HT_.out HW_.out (by kernel_rfl)) (fun _ _ _ h => h) (Or.inl ⟨by rfl, ?_⟩) hHeld ?_ ?_
   rotate_left
   ·rintro w' ⟨s0, s1, s2, s3⟩
    go_simp
    with_reducible rfl
   rotate_left
   ·refine pZ ?_
    rfl
   refine take_ (i := 4) (N := some 54) (v := ?_) (a' := ?_) (bA 15 17) rfl rfl (take_ofW HT_.out HW_.out (by kernel_rfl)) (fun _ _ _ h => h) (Or.inl ⟨by rfl, ?_⟩) hHeld ?_ ?_
   rotate_left
   ·rintro w' ⟨s0, s1, s2, s3⟩
    go_simp
    with_reducible rfl
   rotate_left
   ·refine pZ ?_
    rfl
   refine one_ (i := 1) (N := some 51) (bA 15 19) rfl rfl (one_of HT_.out (by kernel_rfl)) (by decide) (fun K hK => ?_)
   refine Kd.R_lit_step (Kd.int .i64) _ 3 ?hg (N := 51) ?hd (xs := ([1] : List Int)) (inner := [.int .i64 1]) (ok := fun _ => True) (okp := fun _ => True) ?hr ?hp (fun _ hk => hk) trivial (Below.refl _ _) (Nat.le_refl _) (by simp) ?_; (case hd => rfl); (case hg => rfl); (case hr => first | (go_simp; done) | (go_simp; rfl)); (case hp => exact (Reps.one (show Kd.M (Kd.int .i64) _ _ _ 1 [.int .i64 1] from rfl) (Reps.none _ _)))
   intro v850 w70 ho71 hb hg_ hnew_
   clear hg_ hnew_
   (first | rw [← Ny849.out] at ho71 | (simp only [Int.reduceToNat] at ho71; rw [← Ny849.out] at ho71))
   replace HO847 := aM (Kd.S_elder' (by (with_reducible repeat (first | apply Kd.S_alloc | apply Kd.S_drewN | apply Kd.S_drew)); exact HO847.out) (Kd.R_base ho71) hb)
   have HO851 := aM (Kd.R_lower (Kd.R_new' (Kd.R_new' (Kd.R_new' (Kd.R_new' (Kd.R_new' (Kd.R_new' ho71 (Kd.Q_lt (qQ HO_807003.out))) (Kd.R_lt (qR HO_808001.out))) (Kd.Q_lt (qQ HO_815003.out))) (Kd.R_lt (qR HO831.out))) (Kd.R_lt (qR HO837.out))) (Kd.R_lt (qR HO844.out))) (below_size (qW HB.out)))
   replace HO_807003 := aM (Kd.Q_elder' (qQ HO_807003.out) (Kd.R_base ho71) hb)
   replace HO_808001 := aM (Kd.R_elder' (qR HO_808001.out) (Kd.R_base ho71) hb)
   replace HO_815003 := aM (Kd.Q_elder' (qQ HO_815003.out) (Kd.R_base ho71) hb)
   replace HO831 := aM (Kd.R_elder' (qR HO831.out) (Kd.R_base ho71) hb)
   replace HO837 := aM (Kd.R_elder' (qR HO837.out) (Kd.R_base ho71) hb)
   replace HO844 := aM (Kd.R_elder' (qR HO844.out) (Kd.R_base ho71) hb)
   replace BK806 := bB BK806 hb
   replace BK807 := bB BK807 hb
   replace BK814 := bB BK814 hb
   replace BK838 := bB BK838 hb
   replace HB := bS HB hb
   clear hb ho71
   obtain ⟨Ao72, co72, eo72⟩ := Kd.R_slice HO851.out
   (first | subst eo72 | (injection eo72 with f1_ f2_ f3_; have f4_ := f1_.symm; have f5_ := f3_.symm; clear f1_ f2_ f3_; subst f4_; subst f5_))
   refine hK.out _ _ ⟨(blk_cell BK806.out 0).trans rfl, (blk_cell BK806.out 1).trans rfl, (blk_cell BK806.out 2).trans rfl, (blk_cell BK806.out 3).trans rfl⟩ (fun hHeld => ?_)
   clear hK K
   refine norm_ (a' := ?_) ?_ ?_
   rotate_left
   ·show Act.put _ (some 51) _ = _
    refine pZ ?_
    rfl
   refine pQ 2 52 HT_ (bA 15 23) ?_
   refine one_ (i := 3) (N := some 53) (bA 15 31) rfl rfl (one_of HT_.out (by kernel_rfl)) (by decide) (fun K hK => ?_)
   refine goes_ Try.func35 (by kernel_rfl) rfl #[.agg #[.int .i64 t795, .int .i64 t796, .int .i64 t797, .slice Ao11 t798.length co11], .agg #[.int .i64 0, .slice Ao72 y849.length co72, .int .i64 1]] (by rfl) rfl rfl qM ?_
   with_reducible refine (impl_ConvolveImage.calls t795 t796 t797 _ _ t798 0 _ _ y849 1 t852 t853 t854 t855 _ ?side1 ?side2 ?side3 ?side4 A44.out).mono ?_
   (case side1 => exact qC (Kd.Q_reads' HO_807003.out).2.2)
   (case side2 => exact (Kd.Q_reads' HO_807003.out).2.1)
   (case side3 => exact qC (Kd.R_reads' HO851.out).2.2)
   (case side4 => exact (Kd.R_reads' HO851.out).2.1)
   rintro e w73 ⟨v856, rfl, ho0, hb⟩
   refine ⟨_, rfl, ?_⟩
   replace HO847 := aM (Kd.S_elder' (by (with_reducible repeat (first | apply Kd.S_alloc | apply Kd.S_drewN | apply Kd.S_drew)); exact HO847.out) (Kd.R_base ho0) hb)
   have HO857 := aM (Kd.R_lower (Kd.R_new' (Kd.R_new' (Kd.R_new' (Kd.R_new' (Kd.R_new' (Kd.R_new' (Kd.R_new' ho0 (Kd.Q_lt (qQ HO_807003.out))) (Kd.R_lt (qR HO_808001.out))) (Kd.Q_lt (qQ HO_815003.out))) (Kd.R_lt (qR HO831.out))) (Kd.R_lt (qR HO837.out))) (Kd.R_lt (qR HO844.out))) (Kd.R_lt (qR HO851.out))) (below_size (qW HB.out)))
   replace HO_807003 := aM (Kd.Q_elder' (qQ HO_807003.out) (Kd.R_base ho0) hb)
   replace HO_808001 := aM (Kd.R_elder' (qR HO_808001.out) (Kd.R_base ho0) hb)
   replace HO_815003 := aM (Kd.Q_elder' (qQ HO_815003.out) (Kd.R_base ho0) hb)
   replace HO831 := aM (Kd.R_elder' (qR HO831.out) (Kd.R_base ho0) hb)
   replace HO837 := aM (Kd.R_elder' (qR HO837.out) (Kd.R_base ho0) hb)
   replace HO844 := aM (Kd.R_elder' (qR HO844.out) (Kd.R_base ho0) hb)
   replace HO851 := aM (Kd.R_elder' (qR HO851.out) (Kd.R_base ho0) hb)
   replace BK806 := bB BK806 hb
   replace BK807 := bB BK807 hb
   replace BK814 := bB BK814 hb
   replace BK838 := bB BK838 hb
   replace HB := bS HB hb
   (try clear hb)
   (try clear hb2)
   (try clear hk)
   (try clear hi)
   (try clear ho0)
   obtain ⟨Ao74, co74, eo74⟩ := Kd.R_slice HO857.out
   (first | subst eo74 | (injection eo74 with f1_ f2_ f3_; have f4_ := f1_.symm; have f5_ := f3_.symm; clear f1_ f2_ f3_; subst f4_; subst f5_))
   refine hK.out _ _ ⟨(blk_cell BK806.out 0).trans rfl, (blk_cell BK806.out 1).trans rfl, (blk_cell BK806.out 2).trans rfl, (blk_cell BK806.out 3).trans rfl⟩ (fun hHeld => ?_)
   clear hK K
   refine norm_ (a' := ?_) ?_ ?_
   rotate_left
   ·show Act.put _ (some 53) _ = _
    refine pZ ?_
    rfl
   refine one_ (i := 5) (N := some 55) (bA 15 63) rfl rfl (one_of HT_.out (by kernel_rfl)) (by decide) (fun K hK => ?_)
   refine goes_ Try.func15 (by kernel_rfl) rfl #[.agg #[.int .i64 t852, .int .i64 t853, .int .i64 t854, .slice Ao74 t855.length co74], .agg #[.int .i64 t795, .int .i64 t796, .int .i64 t797, .slice Ao11 t798.length co11]] (by rfl) rfl rfl qM ?_
   with_reducible refine (laws_equalImage.calls kj4 t852 t853 t854 _ _ t855 t795 t796 t797 _ _ t798 true _ ?side1 ?side2 ?side3 ?side4 A45.out).mono ?_
   (case side1 => exact qC (Kd.R_reads' HO857.out).2.2)
   (case side2 => exact (Kd.R_reads' HO857.out).2.1)
   (case side3 => exact qC (Kd.Q_reads' HO_807003.out).2.2)
   (case side4 => exact (Kd.Q_reads' HO_807003.out).2.1)
   rintro e w75 ⟨rfl, hb⟩
   refine ⟨_, rfl, ?_⟩
   replace HO_807003 := aM (Kd.Q_below (qQ HO_807003.out) hb)
   replace HO_808001 := aM (Kd.R_below (qR HO_808001.out) hb)
   replace HO_815003 := aM (Kd.Q_below (qQ HO_815003.out) hb)
   replace HO831 := aM (Kd.R_below (qR HO831.out) hb)
   replace HO837 := aM (Kd.R_below (qR HO837.out) hb)
   replace HO844 := aM (Kd.R_below (qR HO844.out) hb)
   replace HO847 := aM (Kd.S_below (by (with_reducible repeat (first | apply Kd.S_alloc | apply Kd.S_drewN | apply Kd.S_drew)); exact HO847.out) hb)
   replace HO851 := aM (Kd.R_below (qR HO851.out) hb)
   replace HO857 := aM (Kd.R_below (qR HO857.out) hb)
   replace BK806 := bB BK806 hb
   replace BK807 := bB BK807 hb
   replace BK814 := bB BK814 hb
   replace BK838 := bB BK838 hb
   replace HB := bS HB hb
   (try clear hb)
   (try clear hb2)
   (try clear hk)
   (try clear hi)
   obtain ⟨Ao76, co76, eo76⟩ := Kd.S_slice HO847.out
   (first | subst eo76 | (injection eo76 with f1_ f2_ f3_; have f4_ := f1_.symm; have f5_ := f3_.symm; clear f1_ f2_ f3_; subst f4_; subst f5_))
   refine hK.out _ _ ⟨(blk_cell BK806.out 0).trans rfl, (blk_cell BK806.out 1).trans rfl, (blk_cell BK806.out 2).trans rfl, (blk_cell BK806.out 3).trans rfl⟩ (fun hHeld => ?_)
   clear hK K
   refine norm_ (a' := ?_) ?_ ?_
   rotate_left
   ·show Act.put _ (some 55) _ = _
    refine pZ ?_
    rfl
   refine pQ 6 56 HT_ (bA 15 127) ?_
   refine pQ 7 57 HT_ (bA 15 255) ?_
   refine pQ 8 58 HT_ (bA 15 511) ?_
   refine pQ 9 59 HT_ (bA 15 1023) ?_
   refine pQ 10 60 HT_ (bA 15 2047) ?_
   refine pQ 11 61 HT_ (bA 15 4095) ?_
   refine pQ 12 62 HT_ (bA 15 8191) ?_
   refine pQ 13 63 HT_ (bA 15 16383) ?_
   refine pQ 14 2 HT_ (bA 15 32767) ?_
   refine done_ (done_of HT_.out (by kernel_rfl)) ?_
   try go_wp2
   go_ret
   exact ⟨qX, by exact qW HB.out⟩
def laws_FnConvolveImage.Pure : Prop := ∀ (l0 : List Int), l0.length ≤ maxLen → l0.length * 1 ≤ 140737488351232 → (∀ x ∈ l0, (Lit.int .u8 x).wf = true) → ∃ k, laws_FnConvolveImage.f k l0 = some true
theorem laws_FnConvolveImage.walk (P : laws_FnConvolveImage.Pure) (a0 : Option Addr) (len0 cap0 : Nat) (z0 : List Int) (w : World) (w0 : (a0 = none ∧ len0 = 0 ∧ cap0 = 0 ∧ z0 = []) ∨ ∃ x, a0 = some x ∧ len0 ≤ cap0 ∧ cap0 ≤ maxLen ∧ z0.length = cap0 ∧ (∀ i, i < z0.length → w.cell? (x.add i) = some (.int .u8 (z0.getD i 0))) ∧ ∀ n ∈ z0, (Lit.int .u8 n).wf = true) (y0 : len0 * 1 ≤ 140737488351232) :
  Calls Try.prog 10 #[.slice a0 len0 cap0] w fun e w' => e = .returned (.bool true) ∧ Below w.heap.size w w' := by
 obtain ⟨l0, rfl, hr0, hm0, hw0, hc0⟩ := ReadsInt.ofRowC w0
 obtain ⟨k, h⟩ := P l0 hm0 y0 hw0
 refine (laws_FnConvolveImage.calls k _ _ l0 true w (Kd.C_of_reads (d := (0 : Int)) (h1 := fun _ => rfl) hr0) hc0 h rfl).mono ?_
 rintro e w' ⟨rfl, hd⟩
 exact ⟨rfl, hd⟩
end Go.Proofs.Yteeeedmmcdlhjaa.P
