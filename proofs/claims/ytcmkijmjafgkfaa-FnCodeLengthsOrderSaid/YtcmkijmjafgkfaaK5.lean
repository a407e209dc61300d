/- Contracts and row, written by a program of this place out of the translation: the call answers true and its argument reads as before, for every input; no condition. -/
import Derived.Test.YtcmkijmjafgkfaaK0
import Derived.Test.YtcmkijmjafgkfaaK1
import Derived.Test.YtcmkijmjafgkfaaK2
import Derived.Test.YtcmkijmjafgkfaaK3
import Derived.Test.YtcmkijmjafgkfaaK4
namespace Go.Proofs.Ytcmkijmjafgkfaa.P
open Go.RowKit Go.Proofs.YtcmkijmjafgkfaaW.PrintWords Go.Proofs.YtcmkijmjafgkfaaW.PrintLast Go.Proofs.YtcmkijmjafgkfaaW.PrintMore
attribute [local go_sem] max2_int min2_int max_two min_two max_three min_three max_four min_four   -- for this text's walks alone
set_option linter.unusedVariables false
set_option linter.unusedSimpArgs false
mutual
def laws_FnCodeLengthsOrder.j0 : Nat → List Int → List Int → Bool → Option (Bool)
 | 0, _, _, _ => none
 | k + 1, x3, x4, x25 => if x25 = true then ((spec_CodeLengths.f k x3).bind fun t578 => ((laws_equalInts.f k x4 t578).bind fun t581 => (some t581))) else (laws_FnCodeLengthsOrder.l0 k x3 x4 0)
def laws_FnCodeLengthsOrder.l0 : Nat → List Int → List Int → Int → Option (Bool)
 | 0, _, _, _ => none
 | k + 1, x3, x4, x5 => if x5 < (x3.length : Int) then (laws_FnCodeLengthsOrder.l1 k x3 x4 x5 0) else (some true)
def laws_FnCodeLengthsOrder.l1 : Nat → List Int → List Int → Int → Int → Option (Bool)
 | 0, _, _, _, _ => none
 | k + 1, x3, x4, x5, x6 => if x6 < (x3.length : Int) then (if 0 ≤ x5 then (if x5 < (x3.length : Int) then (if 0 ≤ x6 then (if (rd x3 x5) > (rd x3 x6) then (if (rd x3 x6) > 0 then (if x5 < (x4.length : Int) then (if x6 < (x4.length : Int) then (if (rd x4 x5) > (rd x4 x6) then (some false) else (laws_FnCodeLengthsOrder.l1 k x3 x4 x5 (wrap64 (x6 + 1)))) else (none)) else (none)) else (laws_FnCodeLengthsOrder.l1 k x3 x4 x5 (wrap64 (x6 + 1)))) else (laws_FnCodeLengthsOrder.l1 k x3 x4 x5 (wrap64 (x6 + 1)))) else (none)) else (none)) else (none)) else (laws_FnCodeLengthsOrder.l0 k x3 x4 (wrap64 (x5 + 1)))
end
def laws_FnCodeLengthsOrder.f (k : Nat) (l0 : List Int) : Option (Bool) := if (l0.length : Int) > 1048576 then (some true) else ((spec_DrawCodeLengths.f k l0).bind fun t568 => ((impl_CodeLengths.f k t568).bind fun t571 => ((spec_CodeLengths.f k t568).bind fun t574 => ((laws_equalInts.f k t571 t574).bind fun t577 => (if t577 = true then (laws_FnCodeLengthsOrder.j0 k t568 t571 ((t571.length : Int) != (t568.length : Int))) else (laws_FnCodeLengthsOrder.j0 k t568 t571 true))))))
theorem laws_FnCodeLengthsOrder.mono_l : ∀ k, (∀ y0 y1 y2, LeO (laws_FnCodeLengthsOrder.j0 k y0 y1 y2) (laws_FnCodeLengthsOrder.j0 (k + 1) y0 y1 y2)) ∧ (∀ y0 y1 y2, LeO (laws_FnCodeLengthsOrder.l0 k y0 y1 y2) (laws_FnCodeLengthsOrder.l0 (k + 1) y0 y1 y2)) ∧ (∀ y0 y1 y2 y3, LeO (laws_FnCodeLengthsOrder.l1 k y0 y1 y2 y3) (laws_FnCodeLengthsOrder.l1 (k + 1) y0 y1 y2 y3))
 | 0 => ⟨fun _ _ _ r h => by simp [laws_FnCodeLengthsOrder.j0] at h, fun _ _ _ r h => by simp [laws_FnCodeLengthsOrder.l0] at h, fun _ _ _ _ r h => by simp [laws_FnCodeLengthsOrder.l1] at h⟩
 | k + 1 => by
  obtain ⟨ih0, ih1, ih2⟩ := laws_FnCodeLengthsOrder.mono_l k
  refine ⟨?_, ?_, ?_⟩
  all_goals intros
  all_goals first | unfold laws_FnCodeLengthsOrder.j0 | unfold laws_FnCodeLengthsOrder.l0 | unfold laws_FnCodeLengthsOrder.l1
  all_goals repeat' first | (with_reducible first | exact ih0 _ _ _ | exact ih1 _ _ _ | exact ih2 _ _ _ _ | exact impl_CodeLengths.mono _ _ | exact laws_equalInts.mono _ _ _ | exact spec_CodeLengths.mono _ _ | exact spec_DrawCodeLengths.mono _ _ | exact lR | exact lN | refine lI ?_ ?_ | refine lB ?_ fun _ => ?_) | exact ih0 _ _ _ | exact ih1 _ _ _ | exact ih2 _ _ _ _ | exact impl_CodeLengths.mono _ _ | exact laws_equalInts.mono _ _ _ | exact spec_CodeLengths.mono _ _ | exact spec_DrawCodeLengths.mono _ _ | exact lN | refine lI ?_ ?_ | refine lB ?_ fun _ => ?_
theorem laws_FnCodeLengthsOrder.mono : ∀ a0 k, LeO (laws_FnCodeLengthsOrder.f k a0) (laws_FnCodeLengthsOrder.f (k + 1) a0) := by
 intro a0 k
 obtain ⟨ih0, ih1, ih2⟩ := laws_FnCodeLengthsOrder.mono_l k
 unfold laws_FnCodeLengthsOrder.f
 repeat' first | (with_reducible first | exact ih0 _ _ _ | exact ih1 _ _ _ | exact ih2 _ _ _ _ | exact impl_CodeLengths.mono _ _ | exact laws_equalInts.mono _ _ _ | exact spec_CodeLengths.mono _ _ | exact spec_DrawCodeLengths.mono _ _ | exact lR | exact lN | refine lI ?_ ?_ | refine lB ?_ fun _ => ?_) | exact ih0 _ _ _ | exact ih1 _ _ _ | exact ih2 _ _ _ _ | exact impl_CodeLengths.mono _ _ | exact laws_equalInts.mono _ _ _ | exact spec_CodeLengths.mono _ _ | exact spec_DrawCodeLengths.mono _ _ | exact lN | refine lI ?_ ?_ | refine lB ?_ fun _ => ?_
set_option maxHeartbeats 8000000 in
set_option maxRecDepth 100000 in
theorem laws_FnCodeLengthsOrder.calls (k : Nat) (A0 : Option Addr) (c0 : Nat) (l0 : List Int) (r : Bool) (w : World) (hr0 : Kd.C (Kd.int .u8) w A0 l0.length l0) (hc0 : l0.length ≤ c0) (h : laws_FnCodeLengthsOrder.f k l0 = some r) :
  Calls Try.prog 9 #[.slice A0 l0.length c0] w fun e w' => e = .returned (.bool r) ∧ Below w.heap.size w w' := by
 have HR0 := aM hr0
 have HC0 := aM hc0
 clear hr0 hc0
 have HB := aM (Below.refl w.heap.size w)
 unfold laws_FnCodeLengthsOrder.f at h
 have H := h
 clear h
 by_cases c2 : (l0.length : Int) > 1048576
 ·rw [if_pos c2] at H
  have c2b0 : decide (1048576 < (l0.length : Int)) = true := decide_eq_true c2
  have c2b1 : decide (1048576 < l0.length) = true := decide_eq_true (by omega)
  clear c2
  obtain rfl := Option.some.inj H
  go_enter Try.func9, Try.ntmps9
  go_wp2
  repeat (go_quiet (fail); try go_wp2)
  go_ret
  exact ⟨qX, by exact qW HB.out⟩
 rw [if_neg c2] at H
 have c2b0 : decide (1048576 < (l0.length : Int)) = false := decide_eq_false c2
 have c2b1 : decide (1048576 < l0.length) = false := decide_eq_false (by omega)
 clear c2
 replace H := Option.bind_eq_some_iff.mp H
 obtain ⟨t568, A30, H⟩ := H
 replace H : ((impl_CodeLengths.f k t568).bind fun t571 => ((spec_CodeLengths.f k t568).bind fun t574 => ((laws_equalInts.f k t571 t574).bind fun t577 => (if t577 = true then (laws_FnCodeLengthsOrder.j0 k t568 t571 ((t571.length : Int) != (t568.length : Int))) else (laws_FnCodeLengthsOrder.j0 k t568 t571 true))))) = some r := H
 have A3 := aM A30
 clear A30
 replace H := Option.bind_eq_some_iff.mp H
 obtain ⟨t571, A40, H⟩ := H
 replace H : ((spec_CodeLengths.f k t568).bind fun t574 => ((laws_equalInts.f k t571 t574).bind fun t577 => (if t577 = true then (laws_FnCodeLengthsOrder.j0 k t568 t571 ((t571.length : Int) != (t568.length : Int))) else (laws_FnCodeLengthsOrder.j0 k t568 t571 true)))) = some r := H
 have A4 := aM A40
 clear A40
 have HC5 := aM H
 clear H
 go_enter Try.func9, Try.ntmps9
 go_upto_region 5 with (first | (go_at_call 26; (with_reducible refine (spec_DrawCodeLengths.calls k _ _ l0 t568 _ ?side1 ?side2 A3.out).mono ?_); (case side1 => exact qC HR0.out); (case side2 => exact HC0.out); rintro e w6 ⟨v569, rfl, ho0, hb⟩; have HO570 := aM (Kd.Q_lower ho0 (below_size (qW HB.out))); replace HB := bS HB hb; clear hb ho0; obtain ⟨Ao7, co7, eo7, _⟩ := Kd.Q_slice HO570.out; subst eo7) | (go_at_call 25; (with_reducible refine (impl_CodeLengths.calls k _ _ t568 t571 _ ?side1 ?side2 A4.out).mono ?_); (case side1 => exact qC (Kd.Q_reads' HO570.out).2.2); (case side2 => exact (Kd.Q_reads' HO570.out).2.1); rintro e w8 ⟨v572, rfl, ho0, hb⟩; have HO573 := aM (Kd.R_lower (Kd.R_new' ho0 (Kd.Q_lt (qQ HO570.out))) (below_size (qW HB.out))); replace HO570 := aM (Kd.Q_elder' (qQ HO570.out) (Kd.R_base ho0) hb); replace HB := bS HB hb; clear hb ho0))
 repeat (go_quiet (first | (go_at_call 26; (with_reducible refine (spec_DrawCodeLengths.calls k _ _ l0 t568 _ ?side1 ?side2 A3.out).mono ?_); (case side1 => exact qC HR0.out); (case side2 => exact HC0.out); rintro e w6 ⟨v569, rfl, ho0, hb⟩; have HO570 := aM (Kd.Q_lower ho0 (below_size (qW HB.out))); replace HB := bS HB hb; clear hb ho0; obtain ⟨Ao7, co7, eo7, _⟩ := Kd.Q_slice HO570.out; subst eo7) | (go_at_call 25; (with_reducible refine (impl_CodeLengths.calls k _ _ t568 t571 _ ?side1 ?side2 A4.out).mono ?_); (case side1 => exact qC (Kd.Q_reads' HO570.out).2.2); (case side2 => exact (Kd.Q_reads' HO570.out).2.1); rintro e w8 ⟨v572, rfl, ho0, hb⟩; have HO573 := aM (Kd.R_lower (Kd.R_new' ho0 (Kd.Q_lt (qQ HO570.out))) (below_size (qW HB.out))); replace HO570 := aM (Kd.Q_elder' (qQ HO570.out) (Kd.R_base ho0) hb); replace HB := bS HB hb; clear hb ho0)); go_upto_region 5 with (first | (go_at_call 26; (with_reducible refine (spec_DrawCodeLengths.calls k _ _ l0 t568 _ ?side1 ?side2 A3.out).mono ?_); (case side1 => exact qC HR0.out); (case side2 => exact HC0.out); rintro e w6 ⟨v569, rfl, ho0, hb⟩; have HO570 := aM (Kd.Q_lower ho0 (below_size (qW HB.out))); replace HB := bS HB hb; clear hb ho0; obtain ⟨Ao7, co7, eo7, _⟩ := Kd.Q_slice HO570.out; subst eo7) | (go_at_call 25; (with_reducible refine (impl_CodeLengths.calls k _ _ t568 t571 _ ?side1 ?side2 A4.out).mono ?_); (case side1 => exact qC (Kd.Q_reads' HO570.out).2.2); (case side2 => exact (Kd.Q_reads' HO570.out).2.1); rintro e w8 ⟨v572, rfl, ho0, hb⟩; have HO573 := aM (Kd.R_lower (Kd.R_new' ho0 (Kd.Q_lt (qQ HO570.out))) (below_size (qW HB.out))); replace HO570 := aM (Kd.Q_elder' (qQ HO570.out) (Kd.R_base ho0) hb); replace HB := bS HB hb; clear hb ho0)))
 (try simp only [Act.put, List.setIfInBounds_toArray, List.set_cons_zero, List.set_cons_succ])
 go_cut [25] (fun v25 wc => ∃ (kq : Nat) (x25_4 : Bool), v25 = .bool x25_4 ∧ Aside0 (laws_FnCodeLengthsOrder.j0 kq t568 t571 x25_4 = some r) ∧ Aside0 (kq ≤ k) ∧ Aside0 (Kd.Q (Kd.int .i64) 3 wc w.heap.size (fun k_ => some k_ ≠ (v572 : Value).ownBlock) (.slice Ao7 t568.length co7) t568) ∧ Aside0 (Kd.R (Kd.int .i64) 3 wc w.heap.size (fun k_ => some k_ ≠ ((.slice Ao7 t568.length co7) : Value).ownBlock) v572 t571) ∧ Aside0 (Below w.heap.size w wc))
 case first =>
  have H := HC5.out
  clear HC5
  replace H := Option.bind_eq_some_iff.mp H
  obtain ⟨t574, A90, H⟩ := H
  replace H : ((laws_equalInts.f k t571 t574).bind fun t577 => (if t577 = true then (laws_FnCodeLengthsOrder.j0 k t568 t571 ((t571.length : Int) != (t568.length : Int))) else (laws_FnCodeLengthsOrder.j0 k t568 t571 true))) = some r := H
  have A9 := aM A90
  clear A90
  replace H := Option.bind_eq_some_iff.mp H
  obtain ⟨t577, A100, H⟩ := H
  replace H : (if t577 = true then (laws_FnCodeLengthsOrder.j0 k t568 t571 ((t571.length : Int) != (t568.length : Int))) else (laws_FnCodeLengthsOrder.j0 k t568 t571 true)) = some r := H
  have A10 := aM A100
  clear A100
  by_cases c11 : t577 = true
  ·subst c11
   have H1 : (laws_FnCodeLengthsOrder.j0 k t568 t571 ((t571.length : Int) != (t568.length : Int))) = some r := by rw [if_pos rfl] at H; exact H
   clear H
   have H := H1
   clear H1
   have H' := aM H
   clear H
   go_wp2_with (first | (go_at_call 24; (with_reducible refine (spec_CodeLengths.calls k _ _ t568 t574 _ ?side1 ?side2 A9.out).mono ?_); (case side1 => exact qC (Kd.Q_reads' HO570.out).2.2); (case side2 => exact (Kd.Q_reads' HO570.out).2.1); rintro e w12 ⟨v575, rfl, ho0, hb⟩; have HO576 := aM (Kd.R_lower (Kd.R_new' (Kd.R_new' ho0 (Kd.Q_lt (qQ HO570.out))) (Kd.R_lt (qR HO573.out))) (below_size (qW HB.out))); replace HO570 := aM (Kd.Q_elder' (qQ HO570.out) (Kd.R_base ho0) hb); replace HO573 := aM (Kd.R_elder' (qR HO573.out) (Kd.R_base ho0) hb); replace HB := bS HB hb; clear hb ho0; obtain ⟨Ao13, co13, rfl⟩ := sL HO573; obtain ⟨Ao14, co14, rfl⟩ := sL HO576) | (go_at_call 19; (with_reducible refine (laws_equalInts.calls k _ _ t571 _ _ t574 true _ ?side1 ?side2 ?side3 ?side4 A10.out).mono ?_); (case side1 => exact qC (Kd.R_reads' HO573.out).2.2); (case side2 => exact (Kd.R_reads' HO573.out).2.1); (case side3 => exact qC (Kd.R_reads' HO576.out).2.2); (case side4 => exact (Kd.R_reads' HO576.out).2.1); rintro e w' ⟨rfl, ⟨nd, rfl⟩⟩; (try first | exact ⟨rfl, _, World.drewN_drewN _ _ _⟩ | exact ⟨rfl, _, Eq.trans (World.drewN_drewN _ _ _) (congrArg (World.drewN _) (Nat.add_assoc _ _ _))⟩)))
   repeat (go_quiet (first | (go_at_call 24; (with_reducible refine (spec_CodeLengths.calls k _ _ t568 t574 _ ?side1 ?side2 A9.out).mono ?_); (case side1 => exact qC (Kd.Q_reads' HO570.out).2.2); (case side2 => exact (Kd.Q_reads' HO570.out).2.1); rintro e w12 ⟨v575, rfl, ho0, hb⟩; have HO576 := aM (Kd.R_lower (Kd.R_new' (Kd.R_new' ho0 (Kd.Q_lt (qQ HO570.out))) (Kd.R_lt (qR HO573.out))) (below_size (qW HB.out))); replace HO570 := aM (Kd.Q_elder' (qQ HO570.out) (Kd.R_base ho0) hb); replace HO573 := aM (Kd.R_elder' (qR HO573.out) (Kd.R_base ho0) hb); replace HB := bS HB hb; clear hb ho0; obtain ⟨Ao13, co13, rfl⟩ := sL HO573; obtain ⟨Ao14, co14, rfl⟩ := sL HO576) | (go_at_call 19; (with_reducible refine (laws_equalInts.calls k _ _ t571 _ _ t574 true _ ?side1 ?side2 ?side3 ?side4 A10.out).mono ?_); (case side1 => exact qC (Kd.R_reads' HO573.out).2.2); (case side2 => exact (Kd.R_reads' HO573.out).2.1); (case side3 => exact qC (Kd.R_reads' HO576.out).2.2); (case side4 => exact (Kd.R_reads' HO576.out).2.1); rintro e w' ⟨rfl, ⟨nd, rfl⟩⟩; (try first | exact ⟨rfl, _, World.drewN_drewN _ _ _⟩ | exact ⟨rfl, _, Eq.trans (World.drewN_drewN _ _ _) (congrArg (World.drewN _) (Nat.add_assoc _ _ _))⟩))); try go_wp2_with (first | (go_at_call 24; (with_reducible refine (spec_CodeLengths.calls k _ _ t568 t574 _ ?side1 ?side2 A9.out).mono ?_); (case side1 => exact qC (Kd.Q_reads' HO570.out).2.2); (case side2 => exact (Kd.Q_reads' HO570.out).2.1); rintro e w12 ⟨v575, rfl, ho0, hb⟩; have HO576 := aM (Kd.R_lower (Kd.R_new' (Kd.R_new' ho0 (Kd.Q_lt (qQ HO570.out))) (Kd.R_lt (qR HO573.out))) (below_size (qW HB.out))); replace HO570 := aM (Kd.Q_elder' (qQ HO570.out) (Kd.R_base ho0) hb); replace HO573 := aM (Kd.R_elder' (qR HO573.out) (Kd.R_base ho0) hb); replace HB := bS HB hb; clear hb ho0; obtain ⟨Ao13, co13, rfl⟩ := sL HO573; obtain ⟨Ao14, co14, rfl⟩ := sL HO576) | (go_at_call 19; (with_reducible refine (laws_equalInts.calls k _ _ t571 _ _ t574 true _ ?side1 ?side2 ?side3 ?side4 A10.out).mono ?_); (case side1 => exact qC (Kd.R_reads' HO573.out).2.2); (case side2 => exact (Kd.R_reads' HO573.out).2.1); (case side3 => exact qC (Kd.R_reads' HO576.out).2.2); (case side4 => exact (Kd.R_reads' HO576.out).2.1); rintro e w' ⟨rfl, ⟨nd, rfl⟩⟩; (try first | exact ⟨rfl, _, World.drewN_drewN _ _ _⟩ | exact ⟨rfl, _, Eq.trans (World.drewN_drewN _ _ _) (congrArg (World.drewN _) (Nat.add_assoc _ _ _))⟩))))
   go_meet
   case rel => exact ⟨_, (((t571.length : Int) != (t568.length : Int))), qE, H', ⟨by first | omega | exact Nat.le_refl _⟩, ⟨by (with_reducible repeat (first | apply Kd.Q_alloc | apply Kd.Q_drewN | apply Kd.Q_drew)); exact Kd.Q_mono HO570.out (fun _ hk => hk.1.2)⟩, ⟨by refine qR ?_; exact Kd.R_mono HO573.out (fun _ hk => hk.1.2)⟩, ⟨by exact qW HB.out⟩⟩
  replace c11 := Bool.eq_false_iff.mpr c11
  subst c11
  have H1 : (laws_FnCodeLengthsOrder.j0 k t568 t571 true) = some r := by rw [if_neg (show ¬ (false = true) by decide)] at H; exact H
  clear H
  have H := H1
  clear H1
  have H' := aM H
  clear H
  go_wp2_with (first | (go_at_call 24; (with_reducible refine (spec_CodeLengths.calls k _ _ t568 t574 _ ?side1 ?side2 A9.out).mono ?_); (case side1 => exact qC (Kd.Q_reads' HO570.out).2.2); (case side2 => exact (Kd.Q_reads' HO570.out).2.1); rintro e w15 ⟨v575, rfl, ho0, hb⟩; have HO576 := aM (Kd.R_lower (Kd.R_new' (Kd.R_new' ho0 (Kd.Q_lt (qQ HO570.out))) (Kd.R_lt (qR HO573.out))) (below_size (qW HB.out))); replace HO570 := aM (Kd.Q_elder' (qQ HO570.out) (Kd.R_base ho0) hb); replace HO573 := aM (Kd.R_elder' (qR HO573.out) (Kd.R_base ho0) hb); replace HB := bS HB hb; clear hb ho0; obtain ⟨Ao16, co16, rfl⟩ := sL HO573; obtain ⟨Ao17, co17, rfl⟩ := sL HO576) | (go_at_call 19; (with_reducible refine (laws_equalInts.calls k _ _ t571 _ _ t574 false _ ?side1 ?side2 ?side3 ?side4 A10.out).mono ?_); (case side1 => exact qC (Kd.R_reads' HO573.out).2.2); (case side2 => exact (Kd.R_reads' HO573.out).2.1); (case side3 => exact qC (Kd.R_reads' HO576.out).2.2); (case side4 => exact (Kd.R_reads' HO576.out).2.1); rintro e w' ⟨rfl, ⟨nd, rfl⟩⟩; (try first | exact ⟨rfl, _, World.drewN_drewN _ _ _⟩ | exact ⟨rfl, _, Eq.trans (World.drewN_drewN _ _ _) (congrArg (World.drewN _) (Nat.add_assoc _ _ _))⟩)))
  repeat (go_quiet (first | (go_at_call 24; (with_reducible refine (spec_CodeLengths.calls k _ _ t568 t574 _ ?side1 ?side2 A9.out).mono ?_); (case side1 => exact qC (Kd.Q_reads' HO570.out).2.2); (case side2 => exact (Kd.Q_reads' HO570.out).2.1); rintro e w15 ⟨v575, rfl, ho0, hb⟩; have HO576 := aM (Kd.R_lower (Kd.R_new' (Kd.R_new' ho0 (Kd.Q_lt (qQ HO570.out))) (Kd.R_lt (qR HO573.out))) (below_size (qW HB.out))); replace HO570 := aM (Kd.Q_elder' (qQ HO570.out) (Kd.R_base ho0) hb); replace HO573 := aM (Kd.R_elder' (qR HO573.out) (Kd.R_base ho0) hb); replace HB := bS HB hb; clear hb ho0; obtain ⟨Ao16, co16, rfl⟩ := sL HO573; obtain ⟨Ao17, co17, rfl⟩ := sL HO576) | (go_at_call 19; (with_reducible refine (laws_equalInts.calls k _ _ t571 _ _ t574 false _ ?side1 ?side2 ?side3 ?side4 A10.out).mono ?_); (case side1 => exact qC (Kd.R_reads' HO573.out).2.2); (case side2 => exact (Kd.R_reads' HO573.out).2.1); (case side3 => exact qC (Kd.R_reads' HO576.out).2.2); (case side4 => exact (Kd.R_reads' HO576.out).2.1); rintro e w' ⟨rfl, ⟨nd, rfl⟩⟩; (try first | exact ⟨rfl, _, World.drewN_drewN _ _ _⟩ | exact ⟨rfl, _, Eq.trans (World.drewN_drewN _ _ _) (congrArg (World.drewN _) (Nat.add_assoc _ _ _))⟩))); try go_wp2_with (first | (go_at_call 24; (with_reducible refine (spec_CodeLengths.calls k _ _ t568 t574 _ ?side1 ?side2 A9.out).mono ?_); (case side1 => exact qC (Kd.Q_reads' HO570.out).2.2); (case side2 => exact (Kd.Q_reads' HO570.out).2.1); rintro e w15 ⟨v575, rfl, ho0, hb⟩; have HO576 := aM (Kd.R_lower (Kd.R_new' (Kd.R_new' ho0 (Kd.Q_lt (qQ HO570.out))) (Kd.R_lt (qR HO573.out))) (below_size (qW HB.out))); replace HO570 := aM (Kd.Q_elder' (qQ HO570.out) (Kd.R_base ho0) hb); replace HO573 := aM (Kd.R_elder' (qR HO573.out) (Kd.R_base ho0) hb); replace HB := bS HB hb; clear hb ho0; obtain ⟨Ao16, co16, rfl⟩ := sL HO573; obtain ⟨Ao17, co17, rfl⟩ := sL HO576) | (go_at_call 19; (with_reducible refine (laws_equalInts.calls k _ _ t571 _ _ t574 false _ ?side1 ?side2 ?side3 ?side4 A10.out).mono ?_); (case side1 => exact qC (Kd.R_reads' HO573.out).2.2); (case side2 => exact (Kd.R_reads' HO573.out).2.1); (case side3 => exact qC (Kd.R_reads' HO576.out).2.2); (case side4 => exact (Kd.R_reads' HO576.out).2.1); rintro e w' ⟨rfl, ⟨nd, rfl⟩⟩; (try first | exact ⟨rfl, _, World.drewN_drewN _ _ _⟩ | exact ⟨rfl, _, Eq.trans (World.drewN_drewN _ _ _) (congrArg (World.drewN _) (Nat.add_assoc _ _ _))⟩))))
  go_meet
  case rel => exact ⟨_, (true), qE, H', ⟨by first | omega | exact Nat.le_refl _⟩, ⟨by (with_reducible repeat (first | apply Kd.Q_alloc | apply Kd.Q_drewN | apply Kd.Q_drew)); exact Kd.Q_mono HO570.out (fun _ hk => hk.1.2)⟩, ⟨by refine qR ?_; exact Kd.R_mono HO573.out (fun _ hk => hk.1.2)⟩, ⟨by exact qW HB.out⟩⟩
 case rest =>
  clear HC5
  try clear c2
  try clear c2b0
  try clear c2b1
  try clear c11
  obtain ⟨kq, x25_4, rfl, HA, HJ4, HO_3, HO_4, HB⟩ := hcut
  cases kq with
  | zero => exact absurd HA.out (by simp [laws_FnCodeLengthsOrder.j0])
  | succ kj4 =>
   have H := HA.out
   clear HA
   simp only [laws_FnCodeLengthsOrder.j0] at H
   by_cases c18 : x25_4 = true
   ·subst c18
    have H1 : ((spec_CodeLengths.f kj4 t568).bind fun t578 => ((laws_equalInts.f kj4 t571 t578).bind fun t581 => (some t581))) = some r := by rw [if_pos rfl] at H; exact H
    clear H
    have H := H1
    clear H1
    replace H := Option.bind_eq_some_iff.mp H
    obtain ⟨t578, A190, H⟩ := H
    replace H : ((laws_equalInts.f kj4 t571 t578).bind fun t581 => (some t581)) = some r := H
    have A19 := aM A190
    clear A190
    replace H := Option.bind_eq_some_iff.mp H
    obtain ⟨t581, A200, H⟩ := H
    replace H : (some t581) = some r := H
    have A20 := aM A200
    clear A200
    obtain rfl := Option.some.inj H
    go_wp2_with (first | (go_at_call 24; (with_reducible refine (spec_CodeLengths.calls kj4 _ _ t568 t578 _ ?side1 ?side2 A19.out).mono ?_); (case side1 => exact qC (Kd.Q_reads' HO_3.out).2.2); (case side2 => exact (Kd.Q_reads' HO_3.out).2.1); rintro e w21 ⟨v579, rfl, ho0, hb⟩; have HO580 := aM (Kd.R_lower (Kd.R_new' (Kd.R_new' ho0 (Kd.Q_lt (qQ HO_3.out))) (Kd.R_lt (qR HO_4.out))) (below_size (qW HB.out))); replace HO_3 := aM (Kd.Q_elder' (qQ HO_3.out) (Kd.R_base ho0) hb); replace HO_4 := aM (Kd.R_elder' (qR HO_4.out) (Kd.R_base ho0) hb); replace HB := bS HB hb; clear hb ho0; obtain ⟨Ao22, co22, rfl⟩ := sL HO_4; obtain ⟨Ao23, co23, rfl⟩ := sL HO580) | (go_at_call 19; (with_reducible refine (laws_equalInts.calls kj4 _ _ t571 _ _ t578 t581 _ ?side1 ?side2 ?side3 ?side4 A20.out).mono ?_); (case side1 => exact qC (Kd.R_reads' HO_4.out).2.2); (case side2 => exact (Kd.R_reads' HO_4.out).2.1); (case side3 => exact qC (Kd.R_reads' HO580.out).2.2); (case side4 => exact (Kd.R_reads' HO580.out).2.1); rintro e w' ⟨rfl, ⟨nd, rfl⟩⟩; (try first | exact ⟨rfl, _, World.drewN_drewN _ _ _⟩ | exact ⟨rfl, _, Eq.trans (World.drewN_drewN _ _ _) (congrArg (World.drewN _) (Nat.add_assoc _ _ _))⟩)))
    repeat (go_quiet (first | (go_at_call 24; (with_reducible refine (spec_CodeLengths.calls kj4 _ _ t568 t578 _ ?side1 ?side2 A19.out).mono ?_); (case side1 => exact qC (Kd.Q_reads' HO_3.out).2.2); (case side2 => exact (Kd.Q_reads' HO_3.out).2.1); rintro e w21 ⟨v579, rfl, ho0, hb⟩; have HO580 := aM (Kd.R_lower (Kd.R_new' (Kd.R_new' ho0 (Kd.Q_lt (qQ HO_3.out))) (Kd.R_lt (qR HO_4.out))) (below_size (qW HB.out))); replace HO_3 := aM (Kd.Q_elder' (qQ HO_3.out) (Kd.R_base ho0) hb); replace HO_4 := aM (Kd.R_elder' (qR HO_4.out) (Kd.R_base ho0) hb); replace HB := bS HB hb; clear hb ho0; obtain ⟨Ao22, co22, rfl⟩ := sL HO_4; obtain ⟨Ao23, co23, rfl⟩ := sL HO580) | (go_at_call 19; (with_reducible refine (laws_equalInts.calls kj4 _ _ t571 _ _ t578 t581 _ ?side1 ?side2 ?side3 ?side4 A20.out).mono ?_); (case side1 => exact qC (Kd.R_reads' HO_4.out).2.2); (case side2 => exact (Kd.R_reads' HO_4.out).2.1); (case side3 => exact qC (Kd.R_reads' HO580.out).2.2); (case side4 => exact (Kd.R_reads' HO580.out).2.1); rintro e w' ⟨rfl, ⟨nd, rfl⟩⟩; (try first | exact ⟨rfl, _, World.drewN_drewN _ _ _⟩ | exact ⟨rfl, _, Eq.trans (World.drewN_drewN _ _ _) (congrArg (World.drewN _) (Nat.add_assoc _ _ _))⟩))); try go_wp2_with (first | (go_at_call 24; (with_reducible refine (spec_CodeLengths.calls kj4 _ _ t568 t578 _ ?side1 ?side2 A19.out).mono ?_); (case side1 => exact qC (Kd.Q_reads' HO_3.out).2.2); (case side2 => exact (Kd.Q_reads' HO_3.out).2.1); rintro e w21 ⟨v579, rfl, ho0, hb⟩; have HO580 := aM (Kd.R_lower (Kd.R_new' (Kd.R_new' ho0 (Kd.Q_lt (qQ HO_3.out))) (Kd.R_lt (qR HO_4.out))) (below_size (qW HB.out))); replace HO_3 := aM (Kd.Q_elder' (qQ HO_3.out) (Kd.R_base ho0) hb); replace HO_4 := aM (Kd.R_elder' (qR HO_4.out) (Kd.R_base ho0) hb); replace HB := bS HB hb; clear hb ho0; obtain ⟨Ao22, co22, rfl⟩ := sL HO_4; obtain ⟨Ao23, co23, rfl⟩ := sL HO580) | (go_at_call 19; (with_reducible refine (laws_equalInts.calls kj4 _ _ t571 _ _ t578 t581 _ ?side1 ?side2 ?side3 ?side4 A20.out).mono ?_); (case side1 => exact qC (Kd.R_reads' HO_4.out).2.2); (case side2 => exact (Kd.R_reads' HO_4.out).2.1); (case side3 => exact qC (Kd.R_reads' HO580.out).2.2); (case side4 => exact (Kd.R_reads' HO580.out).2.1); rintro e w' ⟨rfl, ⟨nd, rfl⟩⟩; (try first | exact ⟨rfl, _, World.drewN_drewN _ _ _⟩ | exact ⟨rfl, _, Eq.trans (World.drewN_drewN _ _ _) (congrArg (World.drewN _) (Nat.add_assoc _ _ _))⟩))))
    go_ret
    exact ⟨qX, by exact qW HB.out⟩
   replace c18 := Bool.eq_false_iff.mpr c18
   subst c18
   have H1 : (laws_FnCodeLengthsOrder.l0 kj4 t568 t571 0) = some r := by rw [if_neg (show ¬ (false = true) by decide)] at H; exact H
   clear H
   have H := H1
   clear H1
   have H' := aM H
   clear H
   go_wp2
   repeat (go_quiet (fail); try go_wp2)
   go_loopg [5] kj4 (fun kq v5 w' => ∃ (x5_2 : Int), v5 = .int .i64 x5_2 ∧ Aside0 (laws_FnCodeLengthsOrder.l0 kq t568 t571 x5_2 = some r) ∧ Aside0 (kq ≤ kj4) ∧ Aside0 (Kd.Q (Kd.int .i64) 3 w' w.heap.size (fun k_ => some k_ ≠ (v572 : Value).ownBlock) (.slice Ao7 t568.length co7) t568) ∧ Aside0 (Kd.R (Kd.int .i64) 3 w' w.heap.size (fun k_ => some k_ ≠ ((.slice Ao7 t568.length co7) : Value).ownBlock) v572 t571) ∧ Aside0 (Below w.heap.size w w'))
   case atStart => exact ⟨(0), qE, H', ⟨Nat.le_refl _⟩, ⟨by (with_reducible repeat (first | apply Kd.Q_alloc | apply Kd.Q_drewN | apply Kd.Q_drew)); exact HO_3.out⟩, ⟨by refine qR ?_; exact HO_4.out⟩, ⟨by exact qW HB.out⟩⟩
   case round =>
    clear H'
    try clear c2
    try clear c2b0
    try clear c2b1
    try clear c11
    try clear c18
    obtain ⟨x5_2, rfl, HA, HK2, HO_3, HO_4, HB⟩ := hrel
    cases gk with
    | zero => exact absurd HA.out (by simp [laws_FnCodeLengthsOrder.l0])
    | succ k2 =>
     have H := HA.out
     clear HA
     simp only [laws_FnCodeLengthsOrder.l0] at H
     by_cases c24 : x5_2 < (t568.length : Int)
     rotate_left
     ·rw [if_neg c24] at H
      have c24b0 : decide (x5_2 < (t568.length : Int)) = false := decide_eq_false c24
      clear c24
      obtain rfl := Option.some.inj H
      go_wp2
      repeat (go_quiet (fail); try go_wp2)
      go_ret
      exact ⟨qX, by exact qW HB.out⟩
     rw [if_pos c24] at H
     have c24b0 : decide (x5_2 < (t568.length : Int)) = true := decide_eq_true c24
     clear c24
     have H' := aM H
     clear H
     go_wp2
     repeat (go_quiet (fail); try go_wp2)
     go_loopg [6] k2 (fun kq v6 w' => ∃ (x6_3 : Int), v6 = .int .i64 x6_3 ∧ Aside0 (laws_FnCodeLengthsOrder.l1 kq t568 t571 x5_2 x6_3 = some r) ∧ Aside0 (kq ≤ k2) ∧ Aside0 (Kd.Q (Kd.int .i64) 3 w' w.heap.size (fun k_ => some k_ ≠ (v572 : Value).ownBlock) (.slice Ao7 t568.length co7) t568) ∧ Aside0 (Kd.R (Kd.int .i64) 3 w' w.heap.size (fun k_ => some k_ ≠ ((.slice Ao7 t568.length co7) : Value).ownBlock) v572 t571) ∧ Aside0 (Below w.heap.size w w'))
     case atStart => exact ⟨(0), qE, H', ⟨Nat.le_refl _⟩, ⟨by (with_reducible repeat (first | apply Kd.Q_alloc | apply Kd.Q_drewN | apply Kd.Q_drew)); exact HO_3.out⟩, ⟨by refine qR ?_; exact HO_4.out⟩, ⟨by exact qW HB.out⟩⟩
     case round =>
      clear H'
      try clear c2
      try clear c2b0
      try clear c2b1
      try clear c11
      try clear c18
      try clear c24
      try clear c24b0
      obtain ⟨x6_3, rfl, HA, HK3, HO_3, HO_4, HB⟩ := hrel
      cases gk with
      | zero => exact absurd HA.out (by simp [laws_FnCodeLengthsOrder.l1])
      | succ k3 =>
       have H := HA.out
       clear HA
       simp only [laws_FnCodeLengthsOrder.l1] at H
       by_cases c25 : x6_3 < (t568.length : Int)
       rotate_left
       ·rw [if_neg c25] at H
        have c25b0 : decide (x6_3 < (t568.length : Int)) = false := decide_eq_false c25
        clear c25
        have H' := aM H
        clear H
        go_wp2
        repeat (go_quiet (fail); try go_wp2)
        go_roundg k3
        case measure => have := HJ4.out; have := HK2.out; have := HK3.out; omega
        case rel => exact ⟨(wrap64 (x5_2 + 1)), qE, H', ⟨by have := HJ4.out; have := HK2.out; have := HK3.out; omega⟩, ⟨by (with_reducible repeat (first | apply Kd.Q_alloc | apply Kd.Q_drewN | apply Kd.Q_drew)); exact HO_3.out⟩, ⟨by refine qR ?_; exact HO_4.out⟩, ⟨by exact qW HB.out⟩⟩
       rw [if_pos c25] at H
       have c25b0 : decide (x6_3 < (t568.length : Int)) = true := decide_eq_true c25
       clear c25
       replace H := iD H
       obtain ⟨c26b0, H⟩ := H
       replace H := iD H
       obtain ⟨c27b0, H⟩ := H
       replace H := iD H
       obtain ⟨c28b0, H⟩ := H
       by_cases c29 : (rd t568 x5_2) > (rd t568 x6_3)
       rotate_left
       ·rw [if_neg c29] at H
        have c29b0 : decide ((rd t568 x6_3) < (rd t568 x5_2)) = false := decide_eq_false c29
        clear c29
        have H' := aM H
        clear H
        obtain ⟨ad582, e582, hx582_0⟩ := Kd.at_int (Kd.Q_reads' HO_3.out).2.2 x5_2 oD oD
        cases e582
        have p582 := eq_true (oD : 0 ≤ (x5_2 : Int))
        have q582 := eq_true (oD : x5_2 < (t568.length : Int))
        obtain ⟨ad583, e583, hx583_0⟩ := Kd.at_int (Kd.Q_reads' HO_3.out).2.2 x6_3 oD oD
        obtain rfl : ad582 = ad583 := (by injection e583)
        have p583 := eq_true (oD : 0 ≤ (x6_3 : Int))
        have q583 := eq_true (oD : x6_3 < (t568.length : Int))
        go_wp2
        repeat (go_quiet (fail); try go_wp2)
        go_roundg k3
        case measure => have := HJ4.out; have := HK2.out; have := HK3.out; omega
        case rel => exact ⟨(wrap64 (x6_3 + 1)), qE, H', ⟨by have := HJ4.out; have := HK2.out; have := HK3.out; omega⟩, ⟨by (with_reducible repeat (first | apply Kd.Q_alloc | apply Kd.Q_drewN | apply Kd.Q_drew)); exact HO_3.out⟩, ⟨by refine qR ?_; exact HO_4.out⟩, ⟨by exact qW HB.out⟩⟩
       rw [if_pos c29] at H
       have c29b0 : decide ((rd t568 x6_3) < (rd t568 x5_2)) = true := decide_eq_true c29
       clear c29
       by_cases c30 : (rd t568 x6_3) > 0
       rotate_left
       ·rw [if_neg c30] at H
        have c30b0 : decide (0 < (rd t568 x6_3)) = false := decide_eq_false c30
        clear c30
        have H' := aM H
        clear H
        obtain ⟨ad582, e582, hx582_0⟩ := Kd.at_int (Kd.Q_reads' HO_3.out).2.2 x5_2 oD oD
        cases e582
        have p582 := eq_true (oD : 0 ≤ (x5_2 : Int))
        have q582 := eq_true (oD : x5_2 < (t568.length : Int))
        obtain ⟨ad583, e583, hx583_0⟩ := Kd.at_int (Kd.Q_reads' HO_3.out).2.2 x6_3 oD oD
        obtain rfl : ad582 = ad583 := (by injection e583)
        have p583 := eq_true (oD : 0 ≤ (x6_3 : Int))
        have q583 := eq_true (oD : x6_3 < (t568.length : Int))
        obtain ⟨ad584, e584, hx584_0⟩ := Kd.at_int (Kd.Q_reads' HO_3.out).2.2 x6_3 oD oD
        obtain rfl : ad582 = ad584 := (by injection e584)
        have p584 := eq_true (oD : 0 ≤ (x6_3 : Int))
        have q584 := eq_true (oD : x6_3 < (t568.length : Int))
        go_wp2
        repeat (go_quiet (fail); try go_wp2)
        go_roundg k3
        case measure => have := HJ4.out; have := HK2.out; have := HK3.out; omega
        case rel => exact ⟨(wrap64 (x6_3 + 1)), qE, H', ⟨by have := HJ4.out; have := HK2.out; have := HK3.out; omega⟩, ⟨by (with_reducible repeat (first | apply Kd.Q_alloc | apply Kd.Q_drewN | apply Kd.Q_drew)); exact HO_3.out⟩, ⟨by refine qR ?_; exact HO_4.out⟩, ⟨by exact qW HB.out⟩⟩
       rw [if_pos c30] at H
       have c30b0 : decide (0 < (rd t568 x6_3)) = true := decide_eq_true c30
       clear c30
       replace H := iD H
       obtain ⟨c31b0, H⟩ := H
       replace H := iD H
       obtain ⟨c32b0, H⟩ := H
       by_cases c33 : (rd t571 x5_2) > (rd t571 x6_3)
       ·rw [if_pos c33] at H
        have c33b0 : decide ((rd t571 x6_3) < (rd t571 x5_2)) = true := decide_eq_true c33
        clear c33
        obtain rfl := Option.some.inj H
        obtain ⟨ad582, e582, hx582_0⟩ := Kd.at_int (Kd.Q_reads' HO_3.out).2.2 x5_2 oD oD
        cases e582
        have p582 := eq_true (oD : 0 ≤ (x5_2 : Int))
        have q582 := eq_true (oD : x5_2 < (t568.length : Int))
        obtain ⟨ad583, e583, hx583_0⟩ := Kd.at_int (Kd.Q_reads' HO_3.out).2.2 x6_3 oD oD
        obtain rfl : ad582 = ad583 := (by injection e583)
        have p583 := eq_true (oD : 0 ≤ (x6_3 : Int))
        have q583 := eq_true (oD : x6_3 < (t568.length : Int))
        obtain ⟨ad584, e584, hx584_0⟩ := Kd.at_int (Kd.Q_reads' HO_3.out).2.2 x6_3 oD oD
        obtain rfl : ad582 = ad584 := (by injection e584)
        have p584 := eq_true (oD : 0 ≤ (x6_3 : Int))
        have q584 := eq_true (oD : x6_3 < (t568.length : Int))
        obtain ⟨Ao34, co34, rfl⟩ := sL HO_4
        obtain ⟨ad585, e585, hx585_0⟩ := Kd.at_int (Kd.R_reads' HO_4.out).2.2 x5_2 oD oD
        cases e585
        have p585 := eq_true (oD : 0 ≤ (x5_2 : Int))
        have q585 := eq_true (oD : x5_2 < (t571.length : Int))
        obtain ⟨ad586, e586, hx586_0⟩ := Kd.at_int (Kd.R_reads' HO_4.out).2.2 x6_3 oD oD
        obtain rfl : ad585 = ad586 := (by injection e586)
        have p586 := eq_true (oD : 0 ≤ (x6_3 : Int))
        have q586 := eq_true (oD : x6_3 < (t571.length : Int))
        go_wp2
        repeat (go_quiet (fail); try go_wp2)
        go_ret
        exact ⟨qX, by exact qW HB.out⟩
       rw [if_neg c33] at H
       have c33b0 : decide ((rd t571 x6_3) < (rd t571 x5_2)) = false := decide_eq_false c33
       clear c33
       have H' := aM H
       clear H
       obtain ⟨ad582, e582, hx582_0⟩ := Kd.at_int (Kd.Q_reads' HO_3.out).2.2 x5_2 oD oD
       cases e582
       have p582 := eq_true (oD : 0 ≤ (x5_2 : Int))
       have q582 := eq_true (oD : x5_2 < (t568.length : Int))
       obtain ⟨ad583, e583, hx583_0⟩ := Kd.at_int (Kd.Q_reads' HO_3.out).2.2 x6_3 oD oD
       obtain rfl : ad582 = ad583 := (by injection e583)
       have p583 := eq_true (oD : 0 ≤ (x6_3 : Int))
       have q583 := eq_true (oD : x6_3 < (t568.length : Int))
       obtain ⟨ad584, e584, hx584_0⟩ := Kd.at_int (Kd.Q_reads' HO_3.out).2.2 x6_3 oD oD
       obtain rfl : ad582 = ad584 := (by injection e584)
       have p584 := eq_true (oD : 0 ≤ (x6_3 : Int))
       have q584 := eq_true (oD : x6_3 < (t568.length : Int))
       obtain ⟨Ao35, co35, rfl⟩ := sL HO_4
       obtain ⟨ad585, e585, hx585_0⟩ := Kd.at_int (Kd.R_reads' HO_4.out).2.2 x5_2 oD oD
       cases e585
       have p585 := eq_true (oD : 0 ≤ (x5_2 : Int))
       have q585 := eq_true (oD : x5_2 < (t571.length : Int))
       obtain ⟨ad586, e586, hx586_0⟩ := Kd.at_int (Kd.R_reads' HO_4.out).2.2 x6_3 oD oD
       obtain rfl : ad585 = ad586 := (by injection e586)
       have p586 := eq_true (oD : 0 ≤ (x6_3 : Int))
       have q586 := eq_true (oD : x6_3 < (t571.length : Int))
       go_wp2
       repeat (go_quiet (fail); try go_wp2)
       go_roundg k3
       case measure => have := HJ4.out; have := HK2.out; have := HK3.out; omega
       case rel => exact ⟨(wrap64 (x6_3 + 1)), qE, H', ⟨by have := HJ4.out; have := HK2.out; have := HK3.out; omega⟩, ⟨by (with_reducible repeat (first | apply Kd.Q_alloc | apply Kd.Q_drewN | apply Kd.Q_drew)); exact HO_3.out⟩, ⟨by refine qR ?_; exact HO_4.out⟩, ⟨by exact qW HB.out⟩⟩
def laws_FnCodeLengthsOrder.Pure : Prop := ∀ (l0 : List Int), l0.length ≤ maxLen → l0.length * 1 ≤ 140737488351232 → (∀ x ∈ l0, (Lit.int .u8 x).wf = true) → ∃ k, laws_FnCodeLengthsOrder.f k l0 = some true
theorem laws_FnCodeLengthsOrder.walk (P : laws_FnCodeLengthsOrder.Pure) (a0 : Option Addr) (len0 cap0 : Nat) (z0 : List Int) (w : World) (w0 : (a0 = none ∧ len0 = 0 ∧ cap0 = 0 ∧ z0 = []) ∨ ∃ x, a0 = some x ∧ len0 ≤ cap0 ∧ cap0 ≤ maxLen ∧ z0.length = cap0 ∧ (∀ i, i < z0.length → w.cell? (x.add i) = some (.int .u8 (z0.getD i 0))) ∧ ∀ n ∈ z0, (Lit.int .u8 n).wf = true) (y0 : len0 * 1 ≤ 140737488351232) :
  Calls Try.prog 9 #[.slice a0 len0 cap0] w fun e w' => e = .returned (.bool true) ∧ Below w.heap.size w w' := by
 obtain ⟨l0, rfl, hr0, hm0, hw0, hc0⟩ := ReadsInt.ofRowC w0
 obtain ⟨k, h⟩ := P l0 hm0 y0 hw0
 refine (laws_FnCodeLengthsOrder.calls k _ _ l0 true w (Kd.C_of_reads (d := (0 : Int)) (h1 := fun _ => rfl) hr0) hc0 h).mono ?_
 rintro e w' ⟨rfl, hd⟩
 exact ⟨rfl, hd⟩
end Go.Proofs.Ytcmkijmjafgkfaa.P
