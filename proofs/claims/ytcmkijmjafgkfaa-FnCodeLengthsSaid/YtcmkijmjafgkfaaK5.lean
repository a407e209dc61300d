/- Contracts and row, written by a program of this place out of the translation: the call answers true and its argument reads as before, for every input; no condition. -/
import Derived.Test.YtcmkijmjafgkfaaK0
import Derived.Test.YtcmkijmjafgkfaaK1
import Derived.Test.YtcmkijmjafgkfaaK2
import Derived.Test.YtcmkijmjafgkfaaK3
import Derived.Test.YtcmkijmjafgkfaaK4
namespace Go.Proofs.Ytcmkijmjafgkfaa.P
open Go.RowKit Go.Proofs.YtcmkijmjafgkfaaW.PrintWords Go.Proofs.YtcmkijmjafgkfaaW.PrintLast Go.Proofs.YtcmkijmjafgkfaaW.PrintMore
attribute [local go_sem] max2_int min2_int max_two min_two max_three min_three max_four min_four   -- for this text's walks alone
set_option linter.unusedVariables false
set_option linter.unusedSimpArgs false
mutual
def laws_FnCodeLengths.j0 : Nat → List Int → List Int → Bool → Option (Bool)
 | 0, _, _, _ => none
 | k + 1, x3, x4, x26 => if x26 = true then ((spec_CodeLengths.f k x3).bind fun t559 => ((laws_equalInts.f k x4 t559).bind fun t562 => (some t562))) else (laws_FnCodeLengths.l0 k x3 x4 0 0 0)
def laws_FnCodeLengths.l0 : Nat → List Int → List Int → Int → Int → Int → Option (Bool)
 | 0, _, _, _, _, _ => none
 | k + 1, x3, x4, x5, x6, x7 => if x7 < (x4.length : Int) then (if 0 ≤ x7 then (if x7 < (x3.length : Int) then (if ((decide ((rd x4 x7) > 0)) != (decide ((rd x3 x7) > 0))) = true then (some false) else (if (rd x4 x7) > 0 then (if (rd x4 x7) ≤ 16 then (if 0 ≤ (wrap64 (16 - (rd x4 x7))) then (laws_FnCodeLengths.l0 k x3 x4 (wrap64 (x5 + 1)) (wrap64 (x6 + (shl .i64 1 (wrap64 (16 - (rd x4 x7)))))) (wrap64 (x7 + 1))) else (none)) else (laws_FnCodeLengths.l0 k x3 x4 x5 x6 (wrap64 (x7 + 1)))) else (laws_FnCodeLengths.l0 k x3 x4 x5 x6 (wrap64 (x7 + 1))))) else (none)) else (none)) else (if x5 < 2 then (some true) else (some (x6 == 65536)))
end
def laws_FnCodeLengths.f (k : Nat) (l0 : List Int) : Option (Bool) := if (l0.length : Int) > 1048576 then (some true) else ((spec_DrawCodeLengths.f k l0).bind fun t549 => ((impl_CodeLengths.f k t549).bind fun t552 => ((spec_CodeLengths.f k t549).bind fun t555 => ((laws_equalInts.f k t552 t555).bind fun t558 => (if t558 = true then (laws_FnCodeLengths.j0 k t549 t552 ((t552.length : Int) != (t549.length : Int))) else (laws_FnCodeLengths.j0 k t549 t552 true))))))
theorem laws_FnCodeLengths.mono_l : ∀ k, (∀ y0 y1 y2, LeO (laws_FnCodeLengths.j0 k y0 y1 y2) (laws_FnCodeLengths.j0 (k + 1) y0 y1 y2)) ∧ (∀ y0 y1 y2 y3 y4, LeO (laws_FnCodeLengths.l0 k y0 y1 y2 y3 y4) (laws_FnCodeLengths.l0 (k + 1) y0 y1 y2 y3 y4))
 | 0 => ⟨fun _ _ _ r h => by simp [laws_FnCodeLengths.j0] at h, fun _ _ _ _ _ r h => by simp [laws_FnCodeLengths.l0] at h⟩
 | k + 1 => by
  obtain ⟨ih0, ih1⟩ := laws_FnCodeLengths.mono_l k
  refine ⟨?_, ?_⟩
  all_goals intros
  all_goals first | unfold laws_FnCodeLengths.j0 | unfold laws_FnCodeLengths.l0
  all_goals repeat' first | (with_reducible first | exact ih0 _ _ _ | exact ih1 _ _ _ _ _ | exact impl_CodeLengths.mono _ _ | exact laws_equalInts.mono _ _ _ | exact spec_CodeLengths.mono _ _ | exact spec_DrawCodeLengths.mono _ _ | exact lR | exact lN | refine lI ?_ ?_ | refine lB ?_ fun _ => ?_) | exact ih0 _ _ _ | exact ih1 _ _ _ _ _ | exact impl_CodeLengths.mono _ _ | exact laws_equalInts.mono _ _ _ | exact spec_CodeLengths.mono _ _ | exact spec_DrawCodeLengths.mono _ _ | exact lN | refine lI ?_ ?_ | refine lB ?_ fun _ => ?_
theorem laws_FnCodeLengths.mono : ∀ a0 k, LeO (laws_FnCodeLengths.f k a0) (laws_FnCodeLengths.f (k + 1) a0) := by
 intro a0 k
 obtain ⟨ih0, ih1⟩ := laws_FnCodeLengths.mono_l k
 unfold laws_FnCodeLengths.f
 repeat' first | (with_reducible first | exact ih0 _ _ _ | exact ih1 _ _ _ _ _ | exact impl_CodeLengths.mono _ _ | exact laws_equalInts.mono _ _ _ | exact spec_CodeLengths.mono _ _ | exact spec_DrawCodeLengths.mono _ _ | exact lR | exact lN | refine lI ?_ ?_ | refine lB ?_ fun _ => ?_) | exact ih0 _ _ _ | exact ih1 _ _ _ _ _ | exact impl_CodeLengths.mono _ _ | exact laws_equalInts.mono _ _ _ | exact spec_CodeLengths.mono _ _ | exact spec_DrawCodeLengths.mono _ _ | exact lN | refine lI ?_ ?_ | refine lB ?_ fun _ => ?_
set_option maxHeartbeats 8000000 in
set_option maxRecDepth 100000 in
theorem laws_FnCodeLengths.calls (k : Nat) (A0 : Option Addr) (c0 : Nat) (l0 : List Int) (r : Bool) (w : World) (hr0 : Kd.C (Kd.int .u8) w A0 l0.length l0) (hc0 : l0.length ≤ c0) (h : laws_FnCodeLengths.f k l0 = some r) :
  Calls Try.prog 8 #[.slice A0 l0.length c0] w fun e w' => e = .returned (.bool r) ∧ Below w.heap.size w w' := by
 have HR0 := aM hr0
 have HC0 := aM hc0
 clear hr0 hc0
 have HB := aM (Below.refl w.heap.size w)
 unfold laws_FnCodeLengths.f at h
 have H := h
 clear h
 by_cases c2 : (l0.length : Int) > 1048576
 ·rw [if_pos c2] at H
  have c2b0 : decide (1048576 < (l0.length : Int)) = true := decide_eq_true c2
  have c2b1 : decide (1048576 < l0.length) = true := decide_eq_true (by omega)
  clear c2
  obtain rfl := Option.some.inj H
  go_enter Try.func8, Try.ntmps8
  go_wp2
  repeat (go_quiet (fail); try go_wp2)
  go_ret
  exact ⟨qX, by exact qW HB.out⟩
 rw [if_neg c2] at H
 have c2b0 : decide (1048576 < (l0.length : Int)) = false := decide_eq_false c2
 have c2b1 : decide (1048576 < l0.length) = false := decide_eq_false (by omega)
 clear c2
 replace H := Option.bind_eq_some_iff.mp H
 obtain ⟨t549, A30, H⟩ := H
 replace H : ((impl_CodeLengths.f k t549).bind fun t552 => ((spec_CodeLengths.f k t549).bind fun t555 => ((laws_equalInts.f k t552 t555).bind fun t558 => (if t558 = true then (laws_FnCodeLengths.j0 k t549 t552 ((t552.length : Int) != (t549.length : Int))) else (laws_FnCodeLengths.j0 k t549 t552 true))))) = some r := H
 have A3 := aM A30
 clear A30
 replace H := Option.bind_eq_some_iff.mp H
 obtain ⟨t552, A40, H⟩ := H
 replace H : ((spec_CodeLengths.f k t549).bind fun t555 => ((laws_equalInts.f k t552 t555).bind fun t558 => (if t558 = true then (laws_FnCodeLengths.j0 k t549 t552 ((t552.length : Int) != (t549.length : Int))) else (laws_FnCodeLengths.j0 k t549 t552 true)))) = some r := H
 have A4 := aM A40
 clear A40
 have HC5 := aM H
 clear H
 go_enter Try.func8, Try.ntmps8
 go_upto_region 5 with (first | (go_at_call 26; (with_reducible refine (spec_DrawCodeLengths.calls k _ _ l0 t549 _ ?side1 ?side2 A3.out).mono ?_); (case side1 => exact qC HR0.out); (case side2 => exact HC0.out); rintro e w6 ⟨v550, rfl, ho0, hb⟩; have HO551 := aM (Kd.Q_lower ho0 (below_size (qW HB.out))); replace HB := bS HB hb; clear hb ho0; obtain ⟨Ao7, co7, eo7, _⟩ := Kd.Q_slice HO551.out; subst eo7) | (go_at_call 25; (with_reducible refine (impl_CodeLengths.calls k _ _ t549 t552 _ ?side1 ?side2 A4.out).mono ?_); (case side1 => exact qC (Kd.Q_reads' HO551.out).2.2); (case side2 => exact (Kd.Q_reads' HO551.out).2.1); rintro e w8 ⟨v553, rfl, ho0, hb⟩; have HO554 := aM (Kd.R_lower (Kd.R_new' ho0 (Kd.Q_lt (qQ HO551.out))) (below_size (qW HB.out))); replace HO551 := aM (Kd.Q_elder' (qQ HO551.out) (Kd.R_base ho0) hb); replace HB := bS HB hb; clear hb ho0))
 repeat (go_quiet (first | (go_at_call 26; (with_reducible refine (spec_DrawCodeLengths.calls k _ _ l0 t549 _ ?side1 ?side2 A3.out).mono ?_); (case side1 => exact qC HR0.out); (case side2 => exact HC0.out); rintro e w6 ⟨v550, rfl, ho0, hb⟩; have HO551 := aM (Kd.Q_lower ho0 (below_size (qW HB.out))); replace HB := bS HB hb; clear hb ho0; obtain ⟨Ao7, co7, eo7, _⟩ := Kd.Q_slice HO551.out; subst eo7) | (go_at_call 25; (with_reducible refine (impl_CodeLengths.calls k _ _ t549 t552 _ ?side1 ?side2 A4.out).mono ?_); (case side1 => exact qC (Kd.Q_reads' HO551.out).2.2); (case side2 => exact (Kd.Q_reads' HO551.out).2.1); rintro e w8 ⟨v553, rfl, ho0, hb⟩; have HO554 := aM (Kd.R_lower (Kd.R_new' ho0 (Kd.Q_lt (qQ HO551.out))) (below_size (qW HB.out))); replace HO551 := aM (Kd.Q_elder' (qQ HO551.out) (Kd.R_base ho0) hb); replace HB := bS HB hb; clear hb ho0)); go_upto_region 5 with (first | (go_at_call 26; (with_reducible refine (spec_DrawCodeLengths.calls k _ _ l0 t549 _ ?side1 ?side2 A3.out).mono ?_); (case side1 => exact qC HR0.out); (case side2 => exact HC0.out); rintro e w6 ⟨v550, rfl, ho0, hb⟩; have HO551 := aM (Kd.Q_lower ho0 (below_size (qW HB.out))); replace HB := bS HB hb; clear hb ho0; obtain ⟨Ao7, co7, eo7, _⟩ := Kd.Q_slice HO551.out; subst eo7) | (go_at_call 25; (with_reducible refine (impl_CodeLengths.calls k _ _ t549 t552 _ ?side1 ?side2 A4.out).mono ?_); (case side1 => exact qC (Kd.Q_reads' HO551.out).2.2); (case side2 => exact (Kd.Q_reads' HO551.out).2.1); rintro e w8 ⟨v553, rfl, ho0, hb⟩; have HO554 := aM (Kd.R_lower (Kd.R_new' ho0 (Kd.Q_lt (qQ HO551.out))) (below_size (qW HB.out))); replace HO551 := aM (Kd.Q_elder' (qQ HO551.out) (Kd.R_base ho0) hb); replace HB := bS HB hb; clear hb ho0)))
 (try simp only [Act.put, List.setIfInBounds_toArray, List.set_cons_zero, List.set_cons_succ])
 go_cut [26] (fun v26 wc => ∃ (kq : Nat) (x26_4 : Bool), v26 = .bool x26_4 ∧ Aside0 (laws_FnCodeLengths.j0 kq t549 t552 x26_4 = some r) ∧ Aside0 (kq ≤ k) ∧ Aside0 (Kd.Q (Kd.int .i64) 3 wc w.heap.size (fun k_ => some k_ ≠ (v553 : Value).ownBlock) (.slice Ao7 t549.length co7) t549) ∧ Aside0 (Kd.R (Kd.int .i64) 3 wc w.heap.size (fun k_ => some k_ ≠ ((.slice Ao7 t549.length co7) : Value).ownBlock) v553 t552) ∧ Aside0 (Below w.heap.size w wc))
 case first =>
  have H := HC5.out
  clear HC5
  replace H := Option.bind_eq_some_iff.mp H
  obtain ⟨t555, A90, H⟩ := H
  replace H : ((laws_equalInts.f k t552 t555).bind fun t558 => (if t558 = true then (laws_FnCodeLengths.j0 k t549 t552 ((t552.length : Int) != (t549.length : Int))) else (laws_FnCodeLengths.j0 k t549 t552 true))) = some r := H
  have A9 := aM A90
  clear A90
  replace H := Option.bind_eq_some_iff.mp H
  obtain ⟨t558, A100, H⟩ := H
  replace H : (if t558 = true then (laws_FnCodeLengths.j0 k t549 t552 ((t552.length : Int) != (t549.length : Int))) else (laws_FnCodeLengths.j0 k t549 t552 true)) = some r := H
  have A10 := aM A100
  clear A100
  by_cases c11 : t558 = true
  ·subst c11
   have H1 : (laws_FnCodeLengths.j0 k t549 t552 ((t552.length : Int) != (t549.length : Int))) = some r := by rw [if_pos rfl] at H; exact H
   clear H
   have H := H1
   clear H1
   have H' := aM H
   clear H
   go_wp2_with (first | (go_at_call 24; (with_reducible refine (spec_CodeLengths.calls k _ _ t549 t555 _ ?side1 ?side2 A9.out).mono ?_); (case side1 => exact qC (Kd.Q_reads' HO551.out).2.2); (case side2 => exact (Kd.Q_reads' HO551.out).2.1); rintro e w12 ⟨v556, rfl, ho0, hb⟩; have HO557 := aM (Kd.R_lower (Kd.R_new' (Kd.R_new' ho0 (Kd.Q_lt (qQ HO551.out))) (Kd.R_lt (qR HO554.out))) (below_size (qW HB.out))); replace HO551 := aM (Kd.Q_elder' (qQ HO551.out) (Kd.R_base ho0) hb); replace HO554 := aM (Kd.R_elder' (qR HO554.out) (Kd.R_base ho0) hb); replace HB := bS HB hb; clear hb ho0; obtain ⟨Ao13, co13, rfl⟩ := sL HO554; obtain ⟨Ao14, co14, rfl⟩ := sL HO557) | (go_at_call 19; (with_reducible refine (laws_equalInts.calls k _ _ t552 _ _ t555 true _ ?side1 ?side2 ?side3 ?side4 A10.out).mono ?_); (case side1 => exact qC (Kd.R_reads' HO554.out).2.2); (case side2 => exact (Kd.R_reads' HO554.out).2.1); (case side3 => exact qC (Kd.R_reads' HO557.out).2.2); (case side4 => exact (Kd.R_reads' HO557.out).2.1); rintro e w' ⟨rfl, ⟨nd, rfl⟩⟩; (try first | exact ⟨rfl, _, World.drewN_drewN _ _ _⟩ | exact ⟨rfl, _, Eq.trans (World.drewN_drewN _ _ _) (congrArg (World.drewN _) (Nat.add_assoc _ _ _))⟩)))
   repeat (go_quiet (first | (go_at_call 24; (with_reducible refine (spec_CodeLengths.calls k _ _ t549 t555 _ ?side1 ?side2 A9.out).mono ?_); (case side1 => exact qC (Kd.Q_reads' HO551.out).2.2); (case side2 => exact (Kd.Q_reads' HO551.out).2.1); rintro e w12 ⟨v556, rfl, ho0, hb⟩; have HO557 := aM (Kd.R_lower (Kd.R_new' (Kd.R_new' ho0 (Kd.Q_lt (qQ HO551.out))) (Kd.R_lt (qR HO554.out))) (below_size (qW HB.out))); replace HO551 := aM (Kd.Q_elder' (qQ HO551.out) (Kd.R_base ho0) hb); replace HO554 := aM (Kd.R_elder' (qR HO554.out) (Kd.R_base ho0) hb); replace HB := bS HB hb; clear hb ho0; obtain ⟨Ao13, co13, rfl⟩ := sL HO554; obtain ⟨Ao14, co14, rfl⟩ := sL HO557) | (go_at_call 19; (with_reducible refine (laws_equalInts.calls k _ _ t552 _ _ t555 true _ ?side1 ?side2 ?side3 ?side4 A10.out).mono ?_); (case side1 => exact qC (Kd.R_reads' HO554.out).2.2); (case side2 => exact (Kd.R_reads' HO554.out).2.1); (case side3 => exact qC (Kd.R_reads' HO557.out).2.2); (case side4 => exact (Kd.R_reads' HO557.out).2.1); rintro e w' ⟨rfl, ⟨nd, rfl⟩⟩; (try first | exact ⟨rfl, _, World.drewN_drewN _ _ _⟩ | exact ⟨rfl, _, Eq.trans (World.drewN_drewN _ _ _) (congrArg (World.drewN _) (Nat.add_assoc _ _ _))⟩))); try go_wp2_with (first | (go_at_call 24; (with_reducible refine (spec_CodeLengths.calls k _ _ t549 t555 _ ?side1 ?side2 A9.out).mono ?_); (case side1 => exact qC (Kd.Q_reads' HO551.out).2.2); (case side2 => exact (Kd.Q_reads' HO551.out).2.1); rintro e w12 ⟨v556, rfl, ho0, hb⟩; have HO557 := aM (Kd.R_lower (Kd.R_new' (Kd.R_new' ho0 (Kd.Q_lt (qQ HO551.out))) (Kd.R_lt (qR HO554.out))) (below_size (qW HB.out))); replace HO551 := aM (Kd.Q_elder' (qQ HO551.out) (Kd.R_base ho0) hb); replace HO554 := aM (Kd.R_elder' (qR HO554.out) (Kd.R_base ho0) hb); replace HB := bS HB hb; clear hb ho0; obtain ⟨Ao13, co13, rfl⟩ := sL HO554; obtain ⟨Ao14, co14, rfl⟩ := sL HO557) | (go_at_call 19; (with_reducible refine (laws_equalInts.calls k _ _ t552 _ _ t555 true _ ?side1 ?side2 ?side3 ?side4 A10.out).mono ?_); (case side1 => exact qC (Kd.R_reads' HO554.out).2.2); (case side2 => exact (Kd.R_reads' HO554.out).2.1); (case side3 => exact qC (Kd.R_reads' HO557.out).2.2); (case side4 => exact (Kd.R_reads' HO557.out).2.1); rintro e w' ⟨rfl, ⟨nd, rfl⟩⟩; (try first | exact ⟨rfl, _, World.drewN_drewN _ _ _⟩ | exact ⟨rfl, _, Eq.trans (World.drewN_drewN _ _ _) (congrArg (World.drewN _) (Nat.add_assoc _ _ _))⟩))))
   go_meet
   case rel => exact ⟨_, (((t552.length : Int) != (t549.length : Int))), qE, H', ⟨by first | omega | exact Nat.le_refl _⟩, ⟨by (with_reducible repeat (first | apply Kd.Q_alloc | apply Kd.Q_drewN | apply Kd.Q_drew)); exact Kd.Q_mono HO551.out (fun _ hk => hk.1.2)⟩, ⟨by refine qR ?_; exact Kd.R_mono HO554.out (fun _ hk => hk.1.2)⟩, ⟨by exact qW HB.out⟩⟩
  replace c11 := Bool.eq_false_iff.mpr c11
  subst c11
  have H1 : (laws_FnCodeLengths.j0 k t549 t552 true) = some r := by rw [if_neg (show ¬ (false = true) by decide)] at H; exact H
  clear H
  have H := H1
  clear H1
  have H' := aM H
  clear H
  go_wp2_with (first | (go_at_call 24; (with_reducible refine (spec_CodeLengths.calls k _ _ t549 t555 _ ?side1 ?side2 A9.out).mono ?_); (case side1 => exact qC (Kd.Q_reads' HO551.out).2.2); (case side2 => exact (Kd.Q_reads' HO551.out).2.1); rintro e w15 ⟨v556, rfl, ho0, hb⟩; have HO557 := aM (Kd.R_lower (Kd.R_new' (Kd.R_new' ho0 (Kd.Q_lt (qQ HO551.out))) (Kd.R_lt (qR HO554.out))) (below_size (qW HB.out))); replace HO551 := aM (Kd.Q_elder' (qQ HO551.out) (Kd.R_base ho0) hb); replace HO554 := aM (Kd.R_elder' (qR HO554.out) (Kd.R_base ho0) hb); replace HB := bS HB hb; clear hb ho0; obtain ⟨Ao16, co16, rfl⟩ := sL HO554; obtain ⟨Ao17, co17, rfl⟩ := sL HO557) | (go_at_call 19; (with_reducible refine (laws_equalInts.calls k _ _ t552 _ _ t555 false _ ?side1 ?side2 ?side3 ?side4 A10.out).mono ?_); (case side1 => exact qC (Kd.R_reads' HO554.out).2.2); (case side2 => exact (Kd.R_reads' HO554.out).2.1); (case side3 => exact qC (Kd.R_reads' HO557.out).2.2); (case side4 => exact (Kd.R_reads' HO557.out).2.1); rintro e w' ⟨rfl, ⟨nd, rfl⟩⟩; (try first | exact ⟨rfl, _, World.drewN_drewN _ _ _⟩ | exact ⟨rfl, _, Eq.trans (World.drewN_drewN _ _ _) (congrArg (World.drewN _) (Nat.add_assoc _ _ _))⟩)))
  repeat (go_quiet (first | (go_at_call 24; (with_reducible refine (spec_CodeLengths.calls k _ _ t549 t555 _ ?side1 ?side2 A9.out).mono ?_); (case side1 => exact qC (Kd.Q_reads' HO551.out).2.2); (case side2 => exact (Kd.Q_reads' HO551.out).2.1); rintro e w15 ⟨v556, rfl, ho0, hb⟩; have HO557 := aM (Kd.R_lower (Kd.R_new' (Kd.R_new' ho0 (Kd.Q_lt (qQ HO551.out))) (Kd.R_lt (qR HO554.out))) (below_size (qW HB.out))); replace HO551 := aM (Kd.Q_elder' (qQ HO551.out) (Kd.R_base ho0) hb); replace HO554 := aM (Kd.R_elder' (qR HO554.out) (Kd.R_base ho0) hb); replace HB := bS HB hb; clear hb ho0; obtain ⟨Ao16, co16, rfl⟩ := sL HO554; obtain ⟨Ao17, co17, rfl⟩ := sL HO557) | (go_at_call 19; (with_reducible refine (laws_equalInts.calls k _ _ t552 _ _ t555 false _ ?side1 ?side2 ?side3 ?side4 A10.out).mono ?_); (case side1 => exact qC (Kd.R_reads' HO554.out).2.2); (case side2 => exact (Kd.R_reads' HO554.out).2.1); (case side3 => exact qC (Kd.R_reads' HO557.out).2.2); (case side4 => exact (Kd.R_reads' HO557.out).2.1); rintro e w' ⟨rfl, ⟨nd, rfl⟩⟩; (try first | exact ⟨rfl, _, World.drewN_drewN _ _ _⟩ | exact ⟨rfl, _, Eq.trans (World.drewN_drewN _ _ _) (congrArg (World.drewN _) (Nat.add_assoc _ _ _))⟩))); try go_wp2_with (first | (go_at_call 24; (with_reducible refine (spec_CodeLengths.calls k _ _ t549 t555 _ ?side1 ?side2 A9.out).mono ?_); (case side1 => exact qC (Kd.Q_reads' HO551.out).2.2); (case side2 => exact (Kd.Q_reads' HO551.out).2.1); rintro e w15 ⟨v556, rfl, ho0, hb⟩; have HO557 := aM (Kd.R_lower (Kd.R_new' (Kd.R_new' ho0 (Kd.Q_lt (qQ HO551.out))) (Kd.R_lt (qR HO554.out))) (below_size (qW HB.out))); replace HO551 := aM (Kd.Q_elder' (qQ HO551.out) (Kd.R_base ho0) hb); replace HO554 := aM (Kd.R_elder' (qR HO554.out) (Kd.R_base ho0) hb); replace HB := bS HB hb; clear hb ho0; obtain ⟨Ao16, co16, rfl⟩ := sL HO554; obtain ⟨Ao17, co17, rfl⟩ := sL HO557) | (go_at_call 19; (with_reducible refine (laws_equalInts.calls k _ _ t552 _ _ t555 false _ ?side1 ?side2 ?side3 ?side4 A10.out).mono ?_); (case side1 => exact qC (Kd.R_reads' HO554.out).2.2); (case side2 => exact (Kd.R_reads' HO554.out).2.1); (case side3 => exact qC (Kd.R_reads' HO557.out).2.2); (case side4 => exact (Kd.R_reads' HO557.out).2.1); rintro e w' ⟨rfl, ⟨nd, rfl⟩⟩; (try first | exact ⟨rfl, _, World.drewN_drewN _ _ _⟩ | exact ⟨rfl, _, Eq.trans (World.drewN_drewN _ _ _) (congrArg (World.drewN _) (Nat.add_assoc _ _ _))⟩))))
  go_meet
  case rel => exact ⟨_, (true), qE, H', ⟨by first | omega | exact Nat.le_refl _⟩, ⟨by (with_reducible repeat (first | apply Kd.Q_alloc | apply Kd.Q_drewN | apply Kd.Q_drew)); exact Kd.Q_mono HO551.out (fun _ hk => hk.1.2)⟩, ⟨by refine qR ?_; exact Kd.R_mono HO554.out (fun _ hk => hk.1.2)⟩, ⟨by exact qW HB.out⟩⟩
 case rest =>
  clear HC5
  try clear c2
  try clear c2b0
  try clear c2b1
  try clear c11
  obtain ⟨kq, x26_4, rfl, HA, HJ4, HO_3, HO_4, HB⟩ := hcut
  cases kq with
  | zero => exact absurd HA.out (by simp [laws_FnCodeLengths.j0])
  | succ kj4 =>
   have H := HA.out
   clear HA
   simp only [laws_FnCodeLengths.j0] at H
   by_cases c18 : x26_4 = true
   ·subst c18
    have H1 : ((spec_CodeLengths.f kj4 t549).bind fun t559 => ((laws_equalInts.f kj4 t552 t559).bind fun t562 => (some t562))) = some r := by rw [if_pos rfl] at H; exact H
    clear H
    have H := H1
    clear H1
    replace H := Option.bind_eq_some_iff.mp H
    obtain ⟨t559, A190, H⟩ := H
    replace H : ((laws_equalInts.f kj4 t552 t559).bind fun t562 => (some t562)) = some r := H
    have A19 := aM A190
    clear A190
    replace H := Option.bind_eq_some_iff.mp H
    obtain ⟨t562, A200, H⟩ := H
    replace H : (some t562) = some r := H
    have A20 := aM A200
    clear A200
    obtain rfl := Option.some.inj H
    go_wp2_with (first | (go_at_call 24; (with_reducible refine (spec_CodeLengths.calls kj4 _ _ t549 t559 _ ?side1 ?side2 A19.out).mono ?_); (case side1 => exact qC (Kd.Q_reads' HO_3.out).2.2); (case side2 => exact (Kd.Q_reads' HO_3.out).2.1); rintro e w21 ⟨v560, rfl, ho0, hb⟩; have HO561 := aM (Kd.R_lower (Kd.R_new' (Kd.R_new' ho0 (Kd.Q_lt (qQ HO_3.out))) (Kd.R_lt (qR HO_4.out))) (below_size (qW HB.out))); replace HO_3 := aM (Kd.Q_elder' (qQ HO_3.out) (Kd.R_base ho0) hb); replace HO_4 := aM (Kd.R_elder' (qR HO_4.out) (Kd.R_base ho0) hb); replace HB := bS HB hb; clear hb ho0; obtain ⟨Ao22, co22, rfl⟩ := sL HO_4; obtain ⟨Ao23, co23, rfl⟩ := sL HO561) | (go_at_call 19; (with_reducible refine (laws_equalInts.calls kj4 _ _ t552 _ _ t559 t562 _ ?side1 ?side2 ?side3 ?side4 A20.out).mono ?_); (case side1 => exact qC (Kd.R_reads' HO_4.out).2.2); (case side2 => exact (Kd.R_reads' HO_4.out).2.1); (case side3 => exact qC (Kd.R_reads' HO561.out).2.2); (case side4 => exact (Kd.R_reads' HO561.out).2.1); rintro e w' ⟨rfl, ⟨nd, rfl⟩⟩; (try first | exact ⟨rfl, _, World.drewN_drewN _ _ _⟩ | exact ⟨rfl, _, Eq.trans (World.drewN_drewN _ _ _) (congrArg (World.drewN _) (Nat.add_assoc _ _ _))⟩)))
    repeat (go_quiet (first | (go_at_call 24; (with_reducible refine (spec_CodeLengths.calls kj4 _ _ t549 t559 _ ?side1 ?side2 A19.out).mono ?_); (case side1 => exact qC (Kd.Q_reads' HO_3.out).2.2); (case side2 => exact (Kd.Q_reads' HO_3.out).2.1); rintro e w21 ⟨v560, rfl, ho0, hb⟩; have HO561 := aM (Kd.R_lower (Kd.R_new' (Kd.R_new' ho0 (Kd.Q_lt (qQ HO_3.out))) (Kd.R_lt (qR HO_4.out))) (below_size (qW HB.out))); replace HO_3 := aM (Kd.Q_elder' (qQ HO_3.out) (Kd.R_base ho0) hb); replace HO_4 := aM (Kd.R_elder' (qR HO_4.out) (Kd.R_base ho0) hb); replace HB := bS HB hb; clear hb ho0; obtain ⟨Ao22, co22, rfl⟩ := sL HO_4; obtain ⟨Ao23, co23, rfl⟩ := sL HO561) | (go_at_call 19; (with_reducible refine (laws_equalInts.calls kj4 _ _ t552 _ _ t559 t562 _ ?side1 ?side2 ?side3 ?side4 A20.out).mono ?_); (case side1 => exact qC (Kd.R_reads' HO_4.out).2.2); (case side2 => exact (Kd.R_reads' HO_4.out).2.1); (case side3 => exact qC (Kd.R_reads' HO561.out).2.2); (case side4 => exact (Kd.R_reads' HO561.out).2.1); rintro e w' ⟨rfl, ⟨nd, rfl⟩⟩; (try first | exact ⟨rfl, _, World.drewN_drewN _ _ _⟩ | exact ⟨rfl, _, Eq.trans (World.drewN_drewN _ _ _) (congrArg (World.drewN _) (Nat.add_assoc _ _ _))⟩))); try go_wp2_with (first | (go_at_call 24; (with_reducible refine (spec_CodeLengths.calls kj4 _ _ t549 t559 _ ?side1 ?side2 A19.out).mono ?_); (case side1 => exact qC (Kd.Q_reads' HO_3.out).2.2); (case side2 => exact (Kd.Q_reads' HO_3.out).2.1); rintro e w21 ⟨v560, rfl, ho0, hb⟩; have HO561 := aM (Kd.R_lower (Kd.R_new' (Kd.R_new' ho0 (Kd.Q_lt (qQ HO_3.out))) (Kd.R_lt (qR HO_4.out))) (below_size (qW HB.out))); replace HO_3 := aM (Kd.Q_elder' (qQ HO_3.out) (Kd.R_base ho0) hb); replace HO_4 := aM (Kd.R_elder' (qR HO_4.out) (Kd.R_base ho0) hb); replace HB := bS HB hb; clear hb ho0; obtain ⟨Ao22, co22, rfl⟩ := sL HO_4; obtain ⟨Ao23, co23, rfl⟩ := sL HO561) | (go_at_call 19; (with_reducible refine (laws_equalInts.calls kj4 _ _ t552 _ _ t559 t562 _ ?side1 ?side2 ?side3 ?side4 A20.out).mono ?_); (case side1 => exact qC (Kd.R_reads' HO_4.out).2.2); (case side2 => exact (Kd.R_reads' HO_4.out).2.1); (case side3 => exact qC (Kd.R_reads' HO561.out).2.2); (case side4 => exact (Kd.R_reads' HO561.out).2.1); rintro e w' ⟨rfl, ⟨nd, rfl⟩⟩; (try first | exact ⟨rfl, _, World.drewN_drewN _ _ _⟩ | exact ⟨rfl, _, Eq.trans (World.drewN_drewN _ _ _) (congrArg (World.drewN _) (Nat.add_assoc _ _ _))⟩))))
    go_ret
    exact ⟨qX, by exact qW HB.out⟩
   replace c18 := Bool.eq_false_iff.mpr c18
   subst c18
   have H1 : (laws_FnCodeLengths.l0 kj4 t549 t552 0 0 0) = some r := by rw [if_neg (show ¬ (false = true) by decide)] at H; exact H
   clear H
   have H := H1
   clear H1
   have H' := aM H
   clear H
   go_wp2
   repeat (go_quiet (fail); try go_wp2)
   go_loopg [5, 6, 7] kj4 (fun kq v5 v6 v7 w' => ∃ (x5_2 : Int) (x6_2 : Int) (x7_2 : Int), v5 = .int .i64 x5_2 ∧ v6 = .int .i64 x6_2 ∧ v7 = .int .i64 x7_2 ∧ Aside0 (laws_FnCodeLengths.l0 kq t549 t552 x5_2 x6_2 x7_2 = some r) ∧ Aside0 (kq ≤ kj4) ∧ Aside0 (Kd.Q (Kd.int .i64) 3 w' w.heap.size (fun k_ => some k_ ≠ (v553 : Value).ownBlock) (.slice Ao7 t549.length co7) t549) ∧ Aside0 (Kd.R (Kd.int .i64) 3 w' w.heap.size (fun k_ => some k_ ≠ ((.slice Ao7 t549.length co7) : Value).ownBlock) v553 t552) ∧ Aside0 (Below w.heap.size w w'))
   case atStart => exact ⟨(0), (0), (0), qE, qE, qE, H', ⟨Nat.le_refl _⟩, ⟨by (with_reducible repeat (first | apply Kd.Q_alloc | apply Kd.Q_drewN | apply Kd.Q_drew)); exact HO_3.out⟩, ⟨by refine qR ?_; exact HO_4.out⟩, ⟨by exact qW HB.out⟩⟩
   case round =>
    clear H'
    try clear c2
    try clear c2b0
    try clear c2b1
    try clear c11
    try clear c18
    obtain ⟨x5_2, x6_2, x7_2, rfl, rfl, rfl, HA, HK2, HO_3, HO_4, HB⟩ := hrel
    cases gk with
    | zero => exact absurd HA.out (by simp [laws_FnCodeLengths.l0])
    | succ k2 =>
     have H := HA.out
     clear HA
     simp only [laws_FnCodeLengths.l0] at H
     by_cases c24 : x7_2 < (t552.length : Int)
     rotate_left
     ·rw [if_neg c24] at H
      have c24b0 : decide (x7_2 < (t552.length : Int)) = false := decide_eq_false c24
      clear c24
      by_cases c37 : x5_2 < 2
      ·rw [if_pos c37] at H
       have c37b0 : decide (x5_2 < 2) = true := decide_eq_true c37
       clear c37
       obtain rfl := Option.some.inj H
       obtain ⟨Ao38, co38, rfl⟩ := sL HO_4
       go_wp2
       repeat (go_quiet (fail); try go_wp2)
       go_ret
       exact ⟨qX, by exact qW HB.out⟩
      rw [if_neg c37] at H
      have c37b0 : decide (x5_2 < 2) = false := decide_eq_false c37
      clear c37
      obtain rfl := Option.some.inj H
      obtain ⟨Ao39, co39, rfl⟩ := sL HO_4
      go_wp2
      repeat (go_quiet (fail); try go_wp2)
      go_ret
      exact ⟨qX, by exact qW HB.out⟩
     rw [if_pos c24] at H
     have c24b0 : decide (x7_2 < (t552.length : Int)) = true := decide_eq_true c24
     clear c24
     replace H := iD H
     obtain ⟨c25b0, H⟩ := H
     replace H := iD H
     obtain ⟨c26b0, H⟩ := H
     by_cases c27 : ((decide ((rd t552 x7_2) > 0)) != (decide ((rd t549 x7_2) > 0))) = true
     ·rw [if_pos c27] at H
      have c27b0 : ((decide ((rd t552 x7_2) > 0)) != (decide ((rd t549 x7_2) > 0))) = true := c27
      (try (have c27b1 : decide ((decide ((rd t552 x7_2) > 0)) = (decide ((rd t549 x7_2) > 0))) = false := by simpa using c27))
      (try (have c27b2 : ((decide ((rd t552 x7_2) > 0)) == (decide ((rd t549 x7_2) > 0))) = false := by simpa using c27))
      (try (have c27b3 : ¬ ((decide ((rd t552 x7_2) > 0)) = (decide ((rd t549 x7_2) > 0))) := by simpa using c27))
      clear c27
      obtain rfl := Option.some.inj H
      obtain ⟨Ao28, co28, rfl⟩ := sL HO_4
      obtain ⟨ad563, e563, hx563_0⟩ := Kd.at_int (Kd.R_reads' HO_4.out).2.2 x7_2 oD oD
      cases e563
      have p563 := eq_true (oD : 0 ≤ (x7_2 : Int))
      have q563 := eq_true (oD : x7_2 < (t552.length : Int))
      obtain ⟨ad564, e564, hx564_0⟩ := Kd.at_int (Kd.Q_reads' HO_3.out).2.2 x7_2 oD oD
      cases e564
      have p564 := eq_true (oD : 0 ≤ (x7_2 : Int))
      have q564 := eq_true (oD : x7_2 < (t549.length : Int))
      go_wp2
      repeat (go_quiet (fail); try go_wp2)
      go_ret
      exact ⟨qX, by exact qW HB.out⟩
     rw [if_neg c27] at H
     have c27b0 : ((decide ((rd t552 x7_2) > 0)) != (decide ((rd t549 x7_2) > 0))) = false := by simpa using c27
     have c27e : decide (0 < rd t549 x7_2) = decide (0 < rd t552 x7_2) := (bne_eq_false_iff_eq.mp c27b0).symm
     (try (have c27b1 : decide ((decide ((rd t552 x7_2) > 0)) = (decide ((rd t549 x7_2) > 0))) = true := by simpa using c27))
     (try (have c27b2 : ((decide ((rd t552 x7_2) > 0)) == (decide ((rd t549 x7_2) > 0))) = true := by simpa using c27))
     clear c27
     by_cases c29 : (rd t552 x7_2) > 0
     rotate_left
     ·rw [if_neg c29] at H
      have c29b0 : decide (0 < (rd t552 x7_2)) = false := decide_eq_false c29
      clear c29
      have H' := aM H
      clear H
      obtain ⟨Ao36, co36, rfl⟩ := sL HO_4
      obtain ⟨ad563, e563, hx563_0⟩ := Kd.at_int (Kd.R_reads' HO_4.out).2.2 x7_2 oD oD
      cases e563
      have p563 := eq_true (oD : 0 ≤ (x7_2 : Int))
      have q563 := eq_true (oD : x7_2 < (t552.length : Int))
      obtain ⟨ad564, e564, hx564_0⟩ := Kd.at_int (Kd.Q_reads' HO_3.out).2.2 x7_2 oD oD
      cases e564
      have p564 := eq_true (oD : 0 ≤ (x7_2 : Int))
      have q564 := eq_true (oD : x7_2 < (t549.length : Int))
      obtain ⟨ad565, e565, hx565_0⟩ := Kd.at_int (Kd.R_reads' HO_4.out).2.2 x7_2 oD oD
      obtain rfl : ad563 = ad565 := (by injection e565)
      have p565 := eq_true (oD : 0 ≤ (x7_2 : Int))
      have q565 := eq_true (oD : x7_2 < (t552.length : Int))
      go_wp2
      repeat (go_quiet (fail); try go_wp2)
      go_roundg k2
      case measure => have := HJ4.out; have := HK2.out; omega
      case rel => exact ⟨(x5_2), (x6_2), (wrap64 (x7_2 + 1)), qE, qE, qE, H', ⟨by have := HJ4.out; have := HK2.out; omega⟩, ⟨by (with_reducible repeat (first | apply Kd.Q_alloc | apply Kd.Q_drewN | apply Kd.Q_drew)); exact HO_3.out⟩, ⟨by refine qR ?_; exact HO_4.out⟩, ⟨by exact qW HB.out⟩⟩
     rw [if_pos c29] at H
     have c29b0 : decide (0 < (rd t552 x7_2)) = true := decide_eq_true c29
     clear c29
     by_cases c30 : (rd t552 x7_2) ≤ 16
     rotate_left
     ·rw [if_neg c30] at H
      have c30b0 : decide ((rd t552 x7_2) ≤ 16) = false := decide_eq_false c30
      clear c30
      have H' := aM H
      clear H
      obtain ⟨Ao35, co35, rfl⟩ := sL HO_4
      obtain ⟨ad563, e563, hx563_0⟩ := Kd.at_int (Kd.R_reads' HO_4.out).2.2 x7_2 oD oD
      cases e563
      have p563 := eq_true (oD : 0 ≤ (x7_2 : Int))
      have q563 := eq_true (oD : x7_2 < (t552.length : Int))
      obtain ⟨ad564, e564, hx564_0⟩ := Kd.at_int (Kd.Q_reads' HO_3.out).2.2 x7_2 oD oD
      cases e564
      have p564 := eq_true (oD : 0 ≤ (x7_2 : Int))
      have q564 := eq_true (oD : x7_2 < (t549.length : Int))
      obtain ⟨ad565, e565, hx565_0⟩ := Kd.at_int (Kd.R_reads' HO_4.out).2.2 x7_2 oD oD
      obtain rfl : ad563 = ad565 := (by injection e565)
      have p565 := eq_true (oD : 0 ≤ (x7_2 : Int))
      have q565 := eq_true (oD : x7_2 < (t552.length : Int))
      obtain ⟨ad566, e566, hx566_0⟩ := Kd.at_int (Kd.R_reads' HO_4.out).2.2 x7_2 oD oD
      obtain rfl : ad563 = ad566 := (by injection e566)
      have p566 := eq_true (oD : 0 ≤ (x7_2 : Int))
      have q566 := eq_true (oD : x7_2 < (t552.length : Int))
      go_wp2
      repeat (go_quiet (fail); try go_wp2)
      go_roundg k2
      case measure => have := HJ4.out; have := HK2.out; omega
      case rel => exact ⟨(x5_2), (x6_2), (wrap64 (x7_2 + 1)), qE, qE, qE, H', ⟨by have := HJ4.out; have := HK2.out; omega⟩, ⟨by (with_reducible repeat (first | apply Kd.Q_alloc | apply Kd.Q_drewN | apply Kd.Q_drew)); exact HO_3.out⟩, ⟨by refine qR ?_; exact HO_4.out⟩, ⟨by exact qW HB.out⟩⟩
     rw [if_pos c30] at H
     have c30b0 : decide ((rd t552 x7_2) ≤ 16) = true := decide_eq_true c30
     clear c30
     obtain ⟨ji31, hji31⟩ : ∃ j_ : Int, (wrap64 (16 - (rd t552 x7_2))) = j_ := ⟨_, rfl⟩
     replace H : (if 0 ≤ (ji31) then (laws_FnCodeLengths.l0 k2 t549 t552 (wrap64 (x5_2 + 1)) (wrap64 (x6_2 + (shl .i64 1 (ji31)))) (wrap64 (x7_2 + 1))) else (none)) = some r := by first | (rw [hji31] at H; exact H) | (simp only [hji31] at H ⊢; exact H)
     have hji31w : (IntKind.i64.wrap (16 - (rd t552 x7_2))) = ji31 := (i64_w _).trans hji31
     replace H := iS H
     obtain ⟨c32, H⟩ := H
     have c32b0 := eq_true c32
     have c32b1 : decide (0 ≤ (ji31)) = true := decide_eq_true c32
     clear c32
     obtain ⟨ji33, hji33⟩ : ∃ j_ : Int, (shl .i64 1 (ji31)) = j_ := ⟨_, rfl⟩
     replace H : (laws_FnCodeLengths.l0 k2 t549 t552 (wrap64 (x5_2 + 1)) (wrap64 (x6_2 + (ji33))) (wrap64 (x7_2 + 1))) = some r := by first | (rw [hji33] at H; exact H) | (simp only [hji33] at H ⊢; exact H)
     have hji33_ : (IntKind.i64.wrap (1 * 2 ^ min (ji31).toNat 64)) = ji33 := hji33
     have hji33z : (ji31) ≤ 64 → (IntKind.i64.wrap (1 * 2 ^ (ji31).toNat)) = ji33 := shl_small hji33
     have hji33u : (IntKind.i64.wrap (2 ^ min (ji31).toNat 64)) = ji33 := by have h_ := hji33_; rw [Int.one_mul] at h_; exact h_
     have hji33v : (ji31) ≤ 64 → (IntKind.i64.wrap (2 ^ (ji31).toNat)) = ji33 := fun hle_ => by have h_ := hji33z hle_; rw [Int.one_mul] at h_; exact h_
     have hji33y : (wrap64 (1 * 2 ^ min (ji31).toNat 64)) = ji33 := (i64_w _).symm.trans hji33_
     have hji33x : (ji31) ≤ 64 → (wrap64 (1 * 2 ^ (ji31).toNat)) = ji33 := fun h_ => (i64_w _).symm.trans (hji33z h_)
     have H' := aM H
     clear H
     obtain ⟨Ao34, co34, rfl⟩ := sL HO_4
     obtain ⟨ad563, e563, hx563_0⟩ := Kd.at_int (Kd.R_reads' HO_4.out).2.2 x7_2 oD oD
     cases e563
     have p563 := eq_true (oD : 0 ≤ (x7_2 : Int))
     have q563 := eq_true (oD : x7_2 < (t552.length : Int))
     obtain ⟨ad564, e564, hx564_0⟩ := Kd.at_int (Kd.Q_reads' HO_3.out).2.2 x7_2 oD oD
     cases e564
     have p564 := eq_true (oD : 0 ≤ (x7_2 : Int))
     have q564 := eq_true (oD : x7_2 < (t549.length : Int))
     obtain ⟨ad565, e565, hx565_0⟩ := Kd.at_int (Kd.R_reads' HO_4.out).2.2 x7_2 oD oD
     obtain rfl : ad563 = ad565 := (by injection e565)
     have p565 := eq_true (oD : 0 ≤ (x7_2 : Int))
     have q565 := eq_true (oD : x7_2 < (t552.length : Int))
     obtain ⟨ad566, e566, hx566_0⟩ := Kd.at_int (Kd.R_reads' HO_4.out).2.2 x7_2 oD oD
     obtain rfl : ad563 = ad566 := (by injection e566)
     have p566 := eq_true (oD : 0 ≤ (x7_2 : Int))
     have q566 := eq_true (oD : x7_2 < (t552.length : Int))
     obtain ⟨ad567, e567, hx567_0⟩ := Kd.at_int (Kd.R_reads' HO_4.out).2.2 x7_2 oD oD
     obtain rfl : ad563 = ad567 := (by injection e567)
     have p567 := eq_true (oD : 0 ≤ (x7_2 : Int))
     have q567 := eq_true (oD : x7_2 < (t552.length : Int))
     go_wp2
     repeat (go_quiet (fail); try go_wp2)
     go_roundg k2
     case measure => have := HJ4.out; have := HK2.out; omega
     case rel => exact ⟨(wrap64 (x5_2 + 1)), (wrap64 (x6_2 + (ji33))), (wrap64 (x7_2 + 1)), qE, (by first | rfl | (simp; done) | (simp only [← hji33] <;> (first | rfl | simp)) | (simp [*]; done)), qE, H', ⟨by have := HJ4.out; have := HK2.out; omega⟩, ⟨by (with_reducible repeat (first | apply Kd.Q_alloc | apply Kd.Q_drewN | apply Kd.Q_drew)); exact HO_3.out⟩, ⟨by refine qR ?_; exact HO_4.out⟩, ⟨by exact qW HB.out⟩⟩
def laws_FnCodeLengths.Pure : Prop := ∀ (l0 : List Int), l0.length ≤ maxLen → l0.length * 1 ≤ 140737488351232 → (∀ x ∈ l0, (Lit.int .u8 x).wf = true) → ∃ k, laws_FnCodeLengths.f k l0 = some true
theorem laws_FnCodeLengths.walk (P : laws_FnCodeLengths.Pure) (a0 : Option Addr) (len0 cap0 : Nat) (z0 : List Int) (w : World) (w0 : (a0 = none ∧ len0 = 0 ∧ cap0 = 0 ∧ z0 = []) ∨ ∃ x, a0 = some x ∧ len0 ≤ cap0 ∧ cap0 ≤ maxLen ∧ z0.length = cap0 ∧ (∀ i, i < z0.length → w.cell? (x.add i) = some (.int .u8 (z0.getD i 0))) ∧ ∀ n ∈ z0, (Lit.int .u8 n).wf = true) (y0 : len0 * 1 ≤ 140737488351232) :
  Calls Try.prog 8 #[.slice a0 len0 cap0] w fun e w' => e = .returned (.bool true) ∧ Below w.heap.size w w' := by
 obtain ⟨l0, rfl, hr0, hm0, hw0, hc0⟩ := ReadsInt.ofRowC w0
 obtain ⟨k, h⟩ := P l0 hm0 y0 hw0
 refine (laws_FnCodeLengths.calls k _ _ l0 true w (Kd.C_of_reads (d := (0 : Int)) (h1 := fun _ => rfl) hr0) hc0 h).mono ?_
 rintro e w' ⟨rfl, hd⟩
 exact ⟨rfl, hd⟩
end Go.Proofs.Ytcmkijmjafgkfaa.P
