/- Contracts and row, written by a program of this place out of the translation: the call answers true and its argument reads as before, for every input; no condition. -/
import Derived.Test.YtcmkijmjafgkfaaK0
import Derived.Test.YtcmkijmjafgkfaaK1
import Derived.Test.YtcmkijmjafgkfaaK2
import Derived.Test.YtcmkijmjafgkfaaK3
namespace Go.Proofs.Ytcmkijmjafgkfaa.P
open Go.RowKit Go.Proofs.YtcmkijmjafgkfaaW.PrintWords Go.Proofs.YtcmkijmjafgkfaaW.PrintLast Go.Proofs.YtcmkijmjafgkfaaW.PrintMore
attribute [local go_sem] max2_int min2_int max_two min_two max_three min_three max_four min_four   -- for this text's walks alone
set_option linter.unusedVariables false
set_option linter.unusedSimpArgs false
def laws_FnExactCodeLengths.j0 : Nat → List Int → List Int → List Int → Bool → Option (Bool)
 | 0, _, _, _, _ => none
 | k + 1, x0, x3, x5, x39 => if x39 = true then (some false) else ((laws_markIntS.f k x5 1).bind fun bt531 => ((laws_heldIntS.f k bt531.2 1).bind fun t533 => (if t533 < 0 then (some false) else (if t533 = bt531.1 then ((laws_toIntS.f k x0).bind fun t534 => ((impl_CodeLengths.f k t534).bind fun t537 => ((laws_eqIntS.f k t537 x3).bind fun t540 => (if t540 = true then ((laws_heldIntS.f k bt531.2 1).bind fun t541 => (if t541 < 0 then (some false) else (if t541 = bt531.1 then (some true) else (some false)))) else (some false))))) else (some false)))))
def laws_FnExactCodeLengths.f (k : Nat) (l0 : List Int) : Option (Bool) := if (l0.length : Int) > 1048576 then (some true) else ((laws_toIntS.f k l0).bind fun t511 => ((spec_CodeLengths.f k t511).bind fun t514 => ((laws_toIntS.f k l0).bind fun t517 => ((impl_CodeLengths.f k t517).bind fun t520 => ((laws_eqIntS.f k t520 t514).bind fun t523 => (if t523 = true then ((laws_toIntS.f k l0).bind fun t524 => ((laws_eqIntS.f k t517 t524).bind fun t527 => (if t527 = true then ((laws_markIntS.f k t517 1).bind fun bt528 => (if bt528.1 < 0 then (laws_FnExactCodeLengths.j0 k l0 t514 t520 true) else ((laws_eqIntS.f k t520 t514).bind fun t530 => (laws_FnExactCodeLengths.j0 k l0 t514 t520 (!t530))))) else (some false)))) else (some false)))))))
theorem laws_FnExactCodeLengths.mono_l : ∀ k, (∀ y0 y1 y2 y3, LeO (laws_FnExactCodeLengths.j0 k y0 y1 y2 y3) (laws_FnExactCodeLengths.j0 (k + 1) y0 y1 y2 y3))
 | 0 => fun _ _ _ _ r h => by simp [laws_FnExactCodeLengths.j0] at h
 | k + 1 => by
  have ih0 := laws_FnExactCodeLengths.mono_l k
  ·intro y0 y1 y2 y3
   unfold laws_FnExactCodeLengths.j0
   repeat' first | (with_reducible first | exact ih0 _ _ _ _ | exact impl_CodeLengths.mono _ _ | exact laws_eqIntS.mono _ _ _ | exact laws_heldIntS.mono _ _ _ | exact laws_markIntS.mono _ _ _ | exact laws_toIntS.mono _ _ | exact spec_CodeLengths.mono _ _ | exact lR | exact lN | refine lI ?_ ?_ | refine lB ?_ fun _ => ?_) | exact ih0 _ _ _ _ | exact impl_CodeLengths.mono _ _ | exact laws_eqIntS.mono _ _ _ | exact laws_heldIntS.mono _ _ _ | exact laws_markIntS.mono _ _ _ | exact laws_toIntS.mono _ _ | exact spec_CodeLengths.mono _ _ | exact lN | refine lI ?_ ?_ | refine lB ?_ fun _ => ?_
theorem laws_FnExactCodeLengths.mono : ∀ a0 k, LeO (laws_FnExactCodeLengths.f k a0) (laws_FnExactCodeLengths.f (k + 1) a0) := by
 intro a0 k
 have ih0 := laws_FnExactCodeLengths.mono_l k
 unfold laws_FnExactCodeLengths.f
 repeat' first | (with_reducible first | exact ih0 _ _ _ _ | exact impl_CodeLengths.mono _ _ | exact laws_eqIntS.mono _ _ _ | exact laws_heldIntS.mono _ _ _ | exact laws_markIntS.mono _ _ _ | exact laws_toIntS.mono _ _ | exact spec_CodeLengths.mono _ _ | exact lR | exact lN | refine lI ?_ ?_ | refine lB ?_ fun _ => ?_) | exact ih0 _ _ _ _ | exact impl_CodeLengths.mono _ _ | exact laws_eqIntS.mono _ _ _ | exact laws_heldIntS.mono _ _ _ | exact laws_markIntS.mono _ _ _ | exact laws_toIntS.mono _ _ | exact spec_CodeLengths.mono _ _ | exact lN | refine lI ?_ ?_ | refine lB ?_ fun _ => ?_
set_option maxHeartbeats 8000000 in
set_option maxRecDepth 100000 in
theorem laws_FnExactCodeLengths.calls (k : Nat) (A0 : Option Addr) (c0 : Nat) (l0 : List Int) (r : Bool) (w : World) (hr0 : Kd.C (Kd.int .i64) w A0 l0.length l0) (hc0 : l0.length ≤ c0) (h : laws_FnExactCodeLengths.f k l0 = some r) (hrt : r = true) :
  Calls Try.prog 7 #[.slice A0 l0.length c0] w fun e w' => e = .returned (.bool r) ∧ Below w.heap.size w w' := by
 have HR0 := aM hr0
 have HC0 := aM hc0
 clear hr0 hc0
 have HB := aM (Below.refl w.heap.size w)
 unfold laws_FnExactCodeLengths.f at h
 have H := h
 clear h
 by_cases c2 : (l0.length : Int) > 1048576
 ·rw [if_pos c2] at H
  have c2b0 : decide (1048576 < (l0.length : Int)) = true := decide_eq_true c2
  have c2b1 : decide (1048576 < l0.length) = true := decide_eq_true (by omega)
  clear c2
  obtain rfl := Option.some.inj H
  go_enter Try.func7, Try.ntmps7
  go_wp2
  go_ret
  exact ⟨qX, by exact qW HB.out⟩
 rw [if_neg c2] at H
 have c2b0 : decide (1048576 < (l0.length : Int)) = false := decide_eq_false c2
 have c2b1 : decide (1048576 < l0.length) = false := decide_eq_false (by omega)
 clear c2
 replace H := Option.bind_eq_some_iff.mp H
 obtain ⟨t511, A30, H⟩ := H
 replace H : ((spec_CodeLengths.f k t511).bind fun t514 => ((laws_toIntS.f k l0).bind fun t517 => ((impl_CodeLengths.f k t517).bind fun t520 => ((laws_eqIntS.f k t520 t514).bind fun t523 => (if t523 = true then ((laws_toIntS.f k l0).bind fun t524 => ((laws_eqIntS.f k t517 t524).bind fun t527 => (if t527 = true then ((laws_markIntS.f k t517 1).bind fun bt528 => (if bt528.1 < 0 then (laws_FnExactCodeLengths.j0 k l0 t514 t520 true) else ((laws_eqIntS.f k t520 t514).bind fun t530 => (laws_FnExactCodeLengths.j0 k l0 t514 t520 (!t530))))) else (some false)))) else (some false)))))) = some r := H
 have A3 := aM A30
 clear A30
 replace H := Option.bind_eq_some_iff.mp H
 obtain ⟨t514, A40, H⟩ := H
 replace H : ((laws_toIntS.f k l0).bind fun t517 => ((impl_CodeLengths.f k t517).bind fun t520 => ((laws_eqIntS.f k t520 t514).bind fun t523 => (if t523 = true then ((laws_toIntS.f k l0).bind fun t524 => ((laws_eqIntS.f k t517 t524).bind fun t527 => (if t527 = true then ((laws_markIntS.f k t517 1).bind fun bt528 => (if bt528.1 < 0 then (laws_FnExactCodeLengths.j0 k l0 t514 t520 true) else ((laws_eqIntS.f k t520 t514).bind fun t530 => (laws_FnExactCodeLengths.j0 k l0 t514 t520 (!t530))))) else (some false)))) else (some false))))) = some r := H
 have A4 := aM A40
 clear A40
 replace H := Option.bind_eq_some_iff.mp H
 obtain ⟨t517, A50, H⟩ := H
 replace H : ((impl_CodeLengths.f k t517).bind fun t520 => ((laws_eqIntS.f k t520 t514).bind fun t523 => (if t523 = true then ((laws_toIntS.f k l0).bind fun t524 => ((laws_eqIntS.f k t517 t524).bind fun t527 => (if t527 = true then ((laws_markIntS.f k t517 1).bind fun bt528 => (if bt528.1 < 0 then (laws_FnExactCodeLengths.j0 k l0 t514 t520 true) else ((laws_eqIntS.f k t520 t514).bind fun t530 => (laws_FnExactCodeLengths.j0 k l0 t514 t520 (!t530))))) else (some false)))) else (some false)))) = some r := H
 have A5 := aM A50
 clear A50
 replace H := Option.bind_eq_some_iff.mp H
 obtain ⟨t520, A60, H⟩ := H
 replace H : ((laws_eqIntS.f k t520 t514).bind fun t523 => (if t523 = true then ((laws_toIntS.f k l0).bind fun t524 => ((laws_eqIntS.f k t517 t524).bind fun t527 => (if t527 = true then ((laws_markIntS.f k t517 1).bind fun bt528 => (if bt528.1 < 0 then (laws_FnExactCodeLengths.j0 k l0 t514 t520 true) else ((laws_eqIntS.f k t520 t514).bind fun t530 => (laws_FnExactCodeLengths.j0 k l0 t514 t520 (!t530))))) else (some false)))) else (some false))) = some r := H
 have A6 := aM A60
 clear A60
 replace H := Option.bind_eq_some_iff.mp H
 obtain ⟨t523, A70, H⟩ := H
 replace H : (if t523 = true then ((laws_toIntS.f k l0).bind fun t524 => ((laws_eqIntS.f k t517 t524).bind fun t527 => (if t527 = true then ((laws_markIntS.f k t517 1).bind fun bt528 => (if bt528.1 < 0 then (laws_FnExactCodeLengths.j0 k l0 t514 t520 true) else ((laws_eqIntS.f k t520 t514).bind fun t530 => (laws_FnExactCodeLengths.j0 k l0 t514 t520 (!t530))))) else (some false)))) else (some false)) = some r := H
 have A7 := aM A70
 clear A70
 by_cases c8 : t523 = true
 rotate_left
 ·replace c8 := Bool.eq_false_iff.mpr c8
  subst c8
  have H1 : (some false) = some r := by rw [if_neg (show ¬ (false = true) by decide)] at H; exact H
  clear H
  have H := H1
  clear H1
  obtain rfl := Option.some.inj H
  exact absurd hrt (by decide)
 subst c8
 have H1 : ((laws_toIntS.f k l0).bind fun t524 => ((laws_eqIntS.f k t517 t524).bind fun t527 => (if t527 = true then ((laws_markIntS.f k t517 1).bind fun bt528 => (if bt528.1 < 0 then (laws_FnExactCodeLengths.j0 k l0 t514 t520 true) else ((laws_eqIntS.f k t520 t514).bind fun t530 => (laws_FnExactCodeLengths.j0 k l0 t514 t520 (!t530))))) else (some false)))) = some r := by rw [if_pos rfl] at H; exact H
 clear H
 have H := H1
 clear H1
 replace H := Option.bind_eq_some_iff.mp H
 obtain ⟨t524, A90, H⟩ := H
 replace H : ((laws_eqIntS.f k t517 t524).bind fun t527 => (if t527 = true then ((laws_markIntS.f k t517 1).bind fun bt528 => (if bt528.1 < 0 then (laws_FnExactCodeLengths.j0 k l0 t514 t520 true) else ((laws_eqIntS.f k t520 t514).bind fun t530 => (laws_FnExactCodeLengths.j0 k l0 t514 t520 (!t530))))) else (some false))) = some r := H
 have A9 := aM A90
 clear A90
 replace H := Option.bind_eq_some_iff.mp H
 obtain ⟨t527, A100, H⟩ := H
 replace H : (if t527 = true then ((laws_markIntS.f k t517 1).bind fun bt528 => (if bt528.1 < 0 then (laws_FnExactCodeLengths.j0 k l0 t514 t520 true) else ((laws_eqIntS.f k t520 t514).bind fun t530 => (laws_FnExactCodeLengths.j0 k l0 t514 t520 (!t530))))) else (some false)) = some r := H
 have A10 := aM A100
 clear A100
 by_cases c11 : t527 = true
 rotate_left
 ·replace c11 := Bool.eq_false_iff.mpr c11
  subst c11
  have H1 : (some false) = some r := by rw [if_neg (show ¬ (false = true) by decide)] at H; exact H
  clear H
  have H := H1
  clear H1
  obtain rfl := Option.some.inj H
  exact absurd hrt (by decide)
 subst c11
 have H1 : ((laws_markIntS.f k t517 1).bind fun bt528 => (if bt528.1 < 0 then (laws_FnExactCodeLengths.j0 k l0 t514 t520 true) else ((laws_eqIntS.f k t520 t514).bind fun t530 => (laws_FnExactCodeLengths.j0 k l0 t514 t520 (!t530))))) = some r := by rw [if_pos rfl] at H; exact H
 clear H
 have H := H1
 clear H1
 replace H := Option.bind_eq_some_iff.mp H
 obtain ⟨⟨t528, t529⟩, A120, H⟩ := H
 replace H : (if t528 < 0 then (laws_FnExactCodeLengths.j0 k l0 t514 t520 true) else ((laws_eqIntS.f k t520 t514).bind fun t530 => (laws_FnExactCodeLengths.j0 k l0 t514 t520 (!t530)))) = some r := H
 have A12 := aM A120
 clear A120
 have HC13 := aM H
 clear H
 go_enter Try.func7, Try.ntmps7
 go_upto_region 12 with (first | ((with_reducible refine gate_callee (f := 14) rfl ?_); refine gL (some 14) Try.func14 #[.slice A0 l0.length c0] ?_; (with_reducible refine (laws_toIntS.calls k _ _ l0 t511 _ ?side1 ?side2 A3.out).mono ?_); (case side1 => exact qC HR0.out); (case side2 => exact HC0.out); rintro e w14 ⟨v512, rfl, ho0, hb⟩; refine ⟨_, rfl, ?_⟩; have HO513 := oR ho0 HB; replace HB := bS HB hb; clear hb ho0; obtain ⟨Ao15, co15, rfl⟩ := sL HO513) | ((with_reducible refine gate_callee (f := 24) rfl ?_); refine gL (some 15) Try.func24 #[.slice Ao15 t511.length co15] ?_; (with_reducible refine (spec_CodeLengths.calls k _ _ t511 t514 _ ?side1 ?side2 A4.out).mono ?_); (case side1 => exact qC (Kd.R_reads' HO513.out).2.2); (case side2 => exact (Kd.R_reads' HO513.out).2.1); rintro e w16 ⟨v515, rfl, ho0, hb⟩; refine ⟨_, rfl, ?_⟩; have HO516 := nR ho0 HO513 HB; replace HO513 := aM (Kd.R_elder' (qR HO513.out) (Kd.R_base ho0) hb); replace HB := bS HB hb; clear hb ho0) | ((with_reducible refine gate_callee (f := 14) rfl ?_); refine gL (some 17) Try.func14 #[.slice A0 l0.length c0] ?_; (with_reducible refine (laws_toIntS.calls k _ _ l0 t517 _ ?side1 ?side2 A5.out).mono ?_); (case side1 => exact qC (Kd.C_below HR0.out HB.out)); (case side2 => exact HC0.out); rintro e w17 ⟨v518, rfl, ho0, hb⟩; refine ⟨_, rfl, ?_⟩; have HO519 := aM (Kd.R_lower (Kd.R_new' (Kd.R_new' ho0 (Kd.R_lt (qR HO513.out))) (Kd.R_lt (qR HO516.out))) (below_size (qW HB.out))); replace HO513 := aM (Kd.R_elder' (qR HO513.out) (Kd.R_base ho0) hb); replace HO516 := aM (Kd.R_elder' (qR HO516.out) (Kd.R_base ho0) hb); replace HB := bS HB hb; clear hb ho0; obtain ⟨Ao18, co18, rfl⟩ := sL HO519) | ((with_reducible refine gate_callee (f := 25) rfl ?_); refine gL (some 19) Try.func25 #[.slice Ao18 t517.length co18] ?_; (with_reducible refine (impl_CodeLengths.calls k _ _ t517 t520 _ ?side1 ?side2 A6.out).mono ?_); (case side1 => exact qC (Kd.R_reads' HO519.out).2.2); (case side2 => exact (Kd.R_reads' HO519.out).2.1); rintro e w19 ⟨v521, rfl, ho0, hb⟩; refine ⟨_, rfl, ?_⟩; have HO522 := aM (Kd.R_lower (Kd.R_new' (Kd.R_new' (Kd.R_new' ho0 (Kd.R_lt (qR HO513.out))) (Kd.R_lt (qR HO516.out))) (Kd.R_lt (qR HO519.out))) (below_size (qW HB.out))); replace HO513 := aM (Kd.R_elder' (qR HO513.out) (Kd.R_base ho0) hb); replace HO516 := aM (Kd.R_elder' (qR HO516.out) (Kd.R_base ho0) hb); replace HO519 := aM (Kd.R_elder' (qR HO519.out) (Kd.R_base ho0) hb); replace HB := bS HB hb; clear hb ho0; obtain ⟨Ao20, co20, rfl⟩ := sL HO522; obtain ⟨Ao21, co21, rfl⟩ := sL HO516) | ((with_reducible refine gate_callee (f := 16) rfl ?_); refine gL (some 22) Try.func16 #[.slice Ao20 t520.length co20, .slice Ao21 t514.length co21] ?_; (with_reducible refine (laws_eqIntS.calls k _ _ t520 _ _ t514 true _ ?side1 ?side2 ?side3 ?side4 A7.out).mono ?_); (case side1 => exact qC (Kd.R_reads' HO522.out).2.2); (case side2 => exact (Kd.R_reads' HO522.out).2.1); (case side3 => exact qC (Kd.R_reads' HO516.out).2.2); (case side4 => exact (Kd.R_reads' HO516.out).2.1); rintro e w' ⟨rfl, ⟨nd, rfl⟩⟩; refine ⟨_, rfl, ?_⟩) | ((with_reducible refine gate_callee (f := 14) rfl ?_); refine gL (some 26) Try.func14 #[.slice A0 l0.length c0] ?_; (with_reducible refine (laws_toIntS.calls k _ _ l0 t524 _ ?side1 ?side2 A9.out).mono ?_); (case side1 => exact qC (Kd.C_below HR0.out (qW HB.out))); (case side2 => exact HC0.out); rintro e w22 ⟨v525, rfl, ho0, hb⟩; refine ⟨_, rfl, ?_⟩; have HO526 := aM (Kd.R_lower (Kd.R_new' (Kd.R_new' (Kd.R_new' (Kd.R_new' ho0 (Kd.R_lt (qR HO513.out))) (Kd.R_lt (qR HO516.out))) (Kd.R_lt (qR HO519.out))) (Kd.R_lt (qR HO522.out))) (below_size (qW HB.out))); replace HO513 := aM (Kd.R_elder' (qR HO513.out) (Kd.R_base ho0) hb); replace HO516 := aM (Kd.R_elder' (qR HO516.out) (Kd.R_base ho0) hb); replace HO519 := aM (Kd.R_elder' (qR HO519.out) (Kd.R_base ho0) hb); replace HO522 := aM (Kd.R_elder' (qR HO522.out) (Kd.R_base ho0) hb); replace HB := bS HB hb; clear hb ho0; obtain ⟨Ao23, co23, rfl⟩ := sL HO526) | ((with_reducible refine gate_callee (f := 16) rfl ?_); refine gL (some 27) Try.func16 #[.slice Ao18 t517.length co18, .slice Ao23 t524.length co23] ?_; (with_reducible refine (laws_eqIntS.calls k _ _ t517 _ _ t524 true _ ?side1 ?side2 ?side3 ?side4 A10.out).mono ?_); (case side1 => exact qC (Kd.R_reads' HO519.out).2.2); (case side2 => exact (Kd.R_reads' HO519.out).2.1); (case side3 => exact qC (Kd.R_reads' HO526.out).2.2); (case side4 => exact (Kd.R_reads' HO526.out).2.1); rintro e w' ⟨rfl, ⟨nd, rfl⟩⟩; refine ⟨_, rfl, ?_⟩) | ((with_reducible refine gate_callee (f := 21) rfl ?_); refine gL (some 31) Try.func21 #[.slice Ao18 t517.length co18, .int .i64 1] ?_; (with_reducible refine (laws_markIntS.calls k (fun k_ => some k_ = (.slice Ao18 t517.length co18 : Value).ownBlock) (.slice Ao18 t517.length co18) t517 1 t528 t529 w _ ?side1 ?side2 A12.out).mono ?_); (case side1 => exact qW HB.out); (case side2 => exact Kd.R_tight rfl HO519.out); rintro e w24 ⟨rfl, hy0, hb, hkp⟩; refine ⟨_, rfl, ?_⟩; replace HO513 := aM (Kd.R_mono (ok' := fun k_ => some k_ ≠ (.slice Ao21 t514.length co21 : Value).ownBlock ∧ some k_ ≠ (.slice Ao18 t517.length co18 : Value).ownBlock ∧ some k_ ≠ (.slice Ao20 t520.length co20 : Value).ownBlock ∧ some k_ ≠ (.slice Ao23 t524.length co23 : Value).ownBlock) (Kd.R_keptB (HO513.out) hkp (fun k_ hk_ hs_ => by first | exact hk_.1.1.2 hs_ | (revert hk_; simp only [and_imp]; intros; contradiction))) (fun k_ hk_ => by first | exact ⟨hk_.1.1.1.1.2, hk_.1.1.1.2, hk_.1.1.2, hk_.1.2⟩ | (revert hk_; simp only [and_imp]; intros; and_intros <;> assumption))); replace HO516 := aM (Kd.R_mono (ok' := fun k_ => some k_ ≠ (.slice Ao15 t511.length co15 : Value).ownBlock ∧ some k_ ≠ (.slice Ao18 t517.length co18 : Value).ownBlock ∧ some k_ ≠ (.slice Ao20 t520.length co20 : Value).ownBlock ∧ some k_ ≠ (.slice Ao23 t524.length co23 : Value).ownBlock) (Kd.R_keptB (HO516.out) hkp (fun k_ hk_ hs_ => by first | exact hk_.1.1.2 hs_ | (revert hk_; simp only [and_imp]; intros; contradiction))) (fun k_ hk_ => by first | exact ⟨hk_.1.1.1.1.2, hk_.1.1.1.2, hk_.1.1.2, hk_.1.2⟩ | (revert hk_; simp only [and_imp]; intros; and_intros <;> assumption))); replace HO519 := aM (Kd.R_reok rfl hy0 (fun k_ e_ => HO519.out.1 k_ e_)); replace HO522 := aM (Kd.R_mono (ok' := fun k_ => some k_ ≠ (.slice Ao15 t511.length co15 : Value).ownBlock ∧ some k_ ≠ (.slice Ao21 t514.length co21 : Value).ownBlock ∧ some k_ ≠ (.slice Ao18 t517.length co18 : Value).ownBlock ∧ some k_ ≠ (.slice Ao23 t524.length co23 : Value).ownBlock) (Kd.R_keptB (HO522.out) hkp (fun k_ hk_ hs_ => by first | exact hk_.1.2 hs_ | (revert hk_; simp only [and_imp]; intros; contradiction))) (fun k_ hk_ => by first | exact ⟨hk_.1.1.1.1.2, hk_.1.1.1.2, hk_.1.1.2, hk_.1.2⟩ | (revert hk_; simp only [and_imp]; intros; and_intros <;> assumption))); replace HO526 := aM (Kd.R_mono (ok' := fun k_ => some k_ ≠ (.slice Ao15 t511.length co15 : Value).ownBlock ∧ some k_ ≠ (.slice Ao21 t514.length co21 : Value).ownBlock ∧ some k_ ≠ (.slice Ao18 t517.length co18 : Value).ownBlock ∧ some k_ ≠ (.slice Ao20 t520.length co20 : Value).ownBlock) (Kd.R_keptB (HO526.out) hkp (fun k_ hk_ hs_ => by first | exact hk_.1.2 hs_ | (revert hk_; simp only [and_imp]; intros; contradiction))) (fun k_ hk_ => by first | exact ⟨hk_.1.1.1.1.2, hk_.1.1.1.2, hk_.1.1.2, hk_.1.2⟩ | (revert hk_; simp only [and_imp]; intros; and_intros <;> assumption))); replace HB := aM (hb); clear hb hkp hy0))
 (try simp only [Act.put, List.setIfInBounds_toArray, List.set_cons_zero, List.set_cons_succ])
 go_cut [39] (fun v39 wc => ∃ (kq : Nat) (x39_12 : Bool), v39 = .bool x39_12 ∧ Aside0 (laws_FnExactCodeLengths.j0 kq l0 t514 t520 x39_12 = some r) ∧ Aside0 (kq ≤ k) ∧ Aside0 (Kd.R (Kd.int .i64) 3 wc w.heap.size (fun k_ => some k_ ≠ ((.slice Ao20 t520.length co20) : Value).ownBlock) (.slice Ao21 t514.length co21) t514) ∧ Aside0 (Kd.R (Kd.int .i64) 3 wc w.heap.size (fun k_ => some k_ ≠ ((.slice Ao21 t514.length co21) : Value).ownBlock) (.slice Ao20 t520.length co20) t520) ∧ Aside0 (Below w.heap.size w wc))
 case first =>
  have H := HC13.out
  clear HC13
  by_cases c25 : t528 < 0
  ·rw [if_pos c25] at H
   have c25b0 : decide (t528 < 0) = true := decide_eq_true c25
   clear c25
   (first | rw [c25b0] | (simp only [i64_w, i32_w]; rw [c25b0]) | skip)
   have H' := aM H
   clear H
   go_wp2
   go_meet
   case rel => exact ⟨_, (true), qE, H', ⟨by first | omega | exact Nat.le_refl _⟩, ⟨by refine qR ?_; exact Kd.R_mono HO516.out (fun _ hk => hk.2.2.1)⟩, ⟨by refine qR ?_; exact Kd.R_mono HO522.out (fun _ hk => hk.2.1)⟩, ⟨by exact qW HB.out⟩⟩
  rw [if_neg c25] at H
  have c25b0 : decide (t528 < 0) = false := decide_eq_false c25
  clear c25
  (first | rw [c25b0] | (simp only [i64_w, i32_w]; rw [c25b0]) | skip)
  replace H := Option.bind_eq_some_iff.mp H
  obtain ⟨t530, A260, H⟩ := H
  replace H : (laws_FnExactCodeLengths.j0 k l0 t514 t520 (!t530)) = some r := H
  have A26 := aM A260
  clear A260
  have H' := aM H
  clear H
  go_wp2_with (first | (go_at_call 16; (with_reducible refine (laws_eqIntS.calls k _ _ t520 _ _ t514 t530 _ ?side1 ?side2 ?side3 ?side4 A26.out).mono ?_); (case side1 => exact qC (Kd.R_reads' HO522.out).2.2); (case side2 => exact (Kd.R_reads' HO522.out).2.1); (case side3 => exact qC (Kd.R_reads' HO516.out).2.2); (case side4 => exact (Kd.R_reads' HO516.out).2.1); rintro e w' ⟨rfl, ⟨nd, rfl⟩⟩))
  go_meet
  case rel => exact ⟨_, (!t530), qE, H', ⟨by first | omega | exact Nat.le_refl _⟩, ⟨by refine qR ?_; exact Kd.R_mono HO516.out (fun _ hk => hk.2.2.1)⟩, ⟨by refine qR ?_; exact Kd.R_mono HO522.out (fun _ hk => hk.2.1)⟩, ⟨by exact qW HB.out⟩⟩
 case rest =>
  clear HC13
  try clear c2
  try clear c2b0
  try clear c2b1
  try clear c8
  try clear c11
  try clear c25
  try clear c25b0
  obtain ⟨kq, x39_12, rfl, HA, HJ12, HO_3, HO_5, HB⟩ := hcut
  cases kq with
  | zero => exact absurd HA.out (by simp [laws_FnExactCodeLengths.j0])
  | succ kj12 =>
   have H := HA.out
   clear HA
   simp only [laws_FnExactCodeLengths.j0] at H
   by_cases c27 : x39_12 = true
   ·subst c27
    have H1 : (some false) = some r := by rw [if_pos rfl] at H; exact H
    clear H
    have H := H1
    clear H1
    obtain rfl := Option.some.inj H
    exact absurd hrt (by decide)
   replace c27 := Bool.eq_false_iff.mpr c27
   subst c27
   have H1 : ((laws_markIntS.f kj12 t520 1).bind fun bt531 => ((laws_heldIntS.f kj12 bt531.2 1).bind fun t533 => (if t533 < 0 then (some false) else (if t533 = bt531.1 then ((laws_toIntS.f kj12 l0).bind fun t534 => ((impl_CodeLengths.f kj12 t534).bind fun t537 => ((laws_eqIntS.f kj12 t537 t514).bind fun t540 => (if t540 = true then ((laws_heldIntS.f kj12 bt531.2 1).bind fun t541 => (if t541 < 0 then (some false) else (if t541 = bt531.1 then (some true) else (some false)))) else (some false))))) else (some false))))) = some r := by rw [if_neg (show ¬ (false = true) by decide)] at H; exact H
   clear H
   have H := H1
   clear H1
   replace H := Option.bind_eq_some_iff.mp H
   obtain ⟨⟨t531, t532⟩, A280, H⟩ := H
   replace H : ((laws_heldIntS.f kj12 t532 1).bind fun t533 => (if t533 < 0 then (some false) else (if t533 = t531 then ((laws_toIntS.f kj12 l0).bind fun t534 => ((impl_CodeLengths.f kj12 t534).bind fun t537 => ((laws_eqIntS.f kj12 t537 t514).bind fun t540 => (if t540 = true then ((laws_heldIntS.f kj12 t532 1).bind fun t541 => (if t541 < 0 then (some false) else (if t541 = t531 then (some true) else (some false)))) else (some false))))) else (some false)))) = some r := H
   have A28 := aM A280
   clear A280
   replace H := Option.bind_eq_some_iff.mp H
   obtain ⟨t533, A290, H⟩ := H
   replace H : (if t533 < 0 then (some false) else (if t533 = t531 then ((laws_toIntS.f kj12 l0).bind fun t534 => ((impl_CodeLengths.f kj12 t534).bind fun t537 => ((laws_eqIntS.f kj12 t537 t514).bind fun t540 => (if t540 = true then ((laws_heldIntS.f kj12 t532 1).bind fun t541 => (if t541 < 0 then (some false) else (if t541 = t531 then (some true) else (some false)))) else (some false))))) else (some false))) = some r := H
   have A29 := aM A290
   clear A290
   by_cases c30 : t533 < 0
   ·rw [if_pos c30] at H
    have c30b0 : decide (t533 < 0) = true := decide_eq_true c30
    clear c30
    obtain rfl := Option.some.inj H
    exact absurd hrt (by decide)
   rw [if_neg c30] at H
   have c30b0 : decide (t533 < 0) = false := decide_eq_false c30
   clear c30
   by_cases c32 : t533 = t531
   rotate_left
   ·rw [if_neg c32] at H
    have c32b0 : (t533 == t531) = false := beq_eq_false_iff_ne.mpr c32
    have c32b1 : (t533 != t531) = true := bne_iff_ne.mpr c32
    obtain rfl := Option.some.inj H
    exact absurd hrt (by decide)
   rw [if_pos c32] at H
   have c32b0 : (t533 == t531) = true := beq_iff_eq.mpr c32
   have c32b1 : (t533 != t531) = false := bne_eq_false_iff_eq.mpr c32
   clear c32
   replace H := Option.bind_eq_some_iff.mp H
   obtain ⟨t534, A330, H⟩ := H
   replace H : ((impl_CodeLengths.f kj12 t534).bind fun t537 => ((laws_eqIntS.f kj12 t537 t514).bind fun t540 => (if t540 = true then ((laws_heldIntS.f kj12 t532 1).bind fun t541 => (if t541 < 0 then (some false) else (if t541 = t531 then (some true) else (some false)))) else (some false)))) = some r := H
   have A33 := aM A330
   clear A330
   replace H := Option.bind_eq_some_iff.mp H
   obtain ⟨t537, A340, H⟩ := H
   replace H : ((laws_eqIntS.f kj12 t537 t514).bind fun t540 => (if t540 = true then ((laws_heldIntS.f kj12 t532 1).bind fun t541 => (if t541 < 0 then (some false) else (if t541 = t531 then (some true) else (some false)))) else (some false))) = some r := H
   have A34 := aM A340
   clear A340
   replace H := Option.bind_eq_some_iff.mp H
   obtain ⟨t540, A350, H⟩ := H
   replace H : (if t540 = true then ((laws_heldIntS.f kj12 t532 1).bind fun t541 => (if t541 < 0 then (some false) else (if t541 = t531 then (some true) else (some false)))) else (some false)) = some r := H
   have A35 := aM A350
   clear A350
   by_cases c36 : t540 = true
   rotate_left
   ·replace c36 := Bool.eq_false_iff.mpr c36
    subst c36
    have H1 : (some false) = some r := by rw [if_neg (show ¬ (false = true) by decide)] at H; exact H
    clear H
    have H := H1
    clear H1
    obtain rfl := Option.some.inj H
    exact absurd hrt (by decide)
   subst c36
   have H1 : ((laws_heldIntS.f kj12 t532 1).bind fun t541 => (if t541 < 0 then (some false) else (if t541 = t531 then (some true) else (some false)))) = some r := by rw [if_pos rfl] at H; exact H
   clear H
   have H := H1
   clear H1
   replace H := Option.bind_eq_some_iff.mp H
   obtain ⟨t541, A370, H⟩ := H
   replace H : (if t541 < 0 then (some false) else (if t541 = t531 then (some true) else (some false))) = some r := H
   have A37 := aM A370
   clear A370
   by_cases c38 : t541 < 0
   ·rw [if_pos c38] at H
    have c38b0 : decide (t541 < 0) = true := decide_eq_true c38
    clear c38
    obtain rfl := Option.some.inj H
    exact absurd hrt (by decide)
   rw [if_neg c38] at H
   have c38b0 : decide (t541 < 0) = false := decide_eq_false c38
   clear c38
   by_cases c44 : t541 = t531
   rotate_left
   ·rw [if_neg c44] at H
    have c44b0 : (t541 == t531) = false := beq_eq_false_iff_ne.mpr c44
    have c44b1 : (t541 != t531) = true := bne_iff_ne.mpr c44
    obtain rfl := Option.some.inj H
    exact absurd hrt (by decide)
   rw [if_pos c44] at H
   have c44b0 : (t541 == t531) = true := beq_iff_eq.mpr c44
   have c44b1 : (t541 != t531) = false := bne_eq_false_iff_eq.mpr c44
   clear c44
   obtain rfl := Option.some.inj H
   go_wp2_with (first | ((with_reducible refine gate_callee (f := 21) rfl ?_); refine gL (some 42) Try.func21 #[.slice Ao20 t520.length co20, .int .i64 1] ?_; (with_reducible refine (laws_markIntS.calls kj12 (fun k_ => some k_ = (.slice Ao20 t520.length co20 : Value).ownBlock) (.slice Ao20 t520.length co20) t520 1 t531 t532 w _ ?side1 ?side2 A28.out).mono ?_); (case side1 => exact qW HB.out); (case side2 => exact Kd.R_tight rfl HO_5.out); rintro e w45 ⟨rfl, hy0, hb, hkp⟩; refine ⟨_, rfl, ?_⟩; replace HO_3 := aM (Kd.R_mono (ok' := fun k_ => some k_ ≠ (.slice Ao20 t520.length co20 : Value).ownBlock) (Kd.R_keptB (HO_3.out) hkp (fun k_ hk_ hs_ => (hk_) hs_)) (fun k_ hk_ => hk_.1)); replace HO_5 := aM (Kd.R_reok rfl hy0 (fun k_ e_ => HO_5.out.1 k_ e_)); replace HB := aM (hb); clear hb hkp hy0) | ((with_reducible refine gate_callee (f := 22) rfl ?_); refine goesL_ (some 45) rfl rfl Try.func22 (by kernel_rfl) rfl #[.slice Ao20 t532.length co20, .int .i64 1] rfl (by (try simp only [List.map_toArray, List.map_cons, List.map_nil]); first | done | (rw [show t532.length = t520.length from (Kd.R_reads' HO_5.out).1.symm] <;> rfl) | rfl | (simp only [List.length_drop, List.length_take]; rfl)) ?_; (with_reducible refine (laws_heldIntS.calls kj12 _ _ t532 1 t533 _ ?side1 ?side2 A29.out).mono ?_); (case side1 => exact qC (Kd.R_reads' HO_5.out).2.2); (case side2 => rw [show t532.length = t520.length from (Kd.R_reads' HO_5.out).1.symm]; exact (Kd.R_reads' HO_5.out).2.1); rintro e w' ⟨rfl, ⟨nd, rfl⟩⟩; refine ⟨_, rfl, ?_⟩) | ((with_reducible refine gate_callee (f := 14) rfl ?_); refine gL (some 52) Try.func14 #[.slice A0 l0.length c0] ?_; (with_reducible refine (laws_toIntS.calls kj12 _ _ l0 t534 _ ?side1 ?side2 A33.out).mono ?_); (case side1 => exact qC (Kd.C_below HR0.out (qW HB.out))); (case side2 => exact HC0.out); rintro e w46 ⟨v535, rfl, ho0, hb⟩; refine ⟨_, rfl, ?_⟩; have HO536 := aM (Kd.R_lower (Kd.R_new' (Kd.R_new' ho0 (Kd.R_lt (qR HO_3.out))) (Kd.R_lt (qR HO_5.out))) (below_size (qW HB.out))); replace HO_3 := aM (Kd.R_elder' (qR HO_3.out) (Kd.R_base ho0) hb); replace HO_5 := aM (Kd.R_elder' (qR HO_5.out) (Kd.R_base ho0) hb); replace HB := bS HB hb; clear hb ho0; obtain ⟨Ao47, co47, rfl⟩ := sL HO536) | ((with_reducible refine gate_callee (f := 25) rfl ?_); refine gL (some 53) Try.func25 #[.slice Ao47 t534.length co47] ?_; (with_reducible refine (impl_CodeLengths.calls kj12 _ _ t534 t537 _ ?side1 ?side2 A34.out).mono ?_); (case side1 => exact qC (Kd.R_reads' HO536.out).2.2); (case side2 => exact (Kd.R_reads' HO536.out).2.1); rintro e w48 ⟨v538, rfl, ho0, hb⟩; refine ⟨_, rfl, ?_⟩; have HO539 := aM (Kd.R_lower (Kd.R_new' (Kd.R_new' (Kd.R_new' ho0 (Kd.R_lt (qR HO_3.out))) (Kd.R_lt (qR HO_5.out))) (Kd.R_lt (qR HO536.out))) (below_size (qW HB.out))); replace HO_3 := aM (Kd.R_elder' (qR HO_3.out) (Kd.R_base ho0) hb); replace HO_5 := aM (Kd.R_elder' (qR HO_5.out) (Kd.R_base ho0) hb); replace HO536 := aM (Kd.R_elder' (qR HO536.out) (Kd.R_base ho0) hb); replace HB := bS HB hb; clear hb ho0; obtain ⟨Ao49, co49, rfl⟩ := sL HO539) | ((with_reducible refine gate_callee (f := 16) rfl ?_); refine gL (some 56) Try.func16 #[.slice Ao49 t537.length co49, .slice Ao21 t514.length co21] ?_; (with_reducible refine (laws_eqIntS.calls kj12 _ _ t537 _ _ t514 true _ ?side1 ?side2 ?side3 ?side4 A35.out).mono ?_); (case side1 => exact qC (Kd.R_reads' HO539.out).2.2); (case side2 => exact (Kd.R_reads' HO539.out).2.1); (case side3 => exact qC (Kd.R_reads' HO_3.out).2.2); (case side4 => exact (Kd.R_reads' HO_3.out).2.1); rintro e w' ⟨rfl, ⟨nd, rfl⟩⟩; refine ⟨_, rfl, ?_⟩) | ((with_reducible refine gate_callee (f := 22) rfl ?_); refine goesL_ (some 60) rfl rfl Try.func22 (by kernel_rfl) rfl #[.slice Ao20 t532.length co20, .int .i64 1] rfl (by (try simp only [List.map_toArray, List.map_cons, List.map_nil]); first | done | (rw [show t532.length = t520.length from (Kd.R_reads' HO_5.out).1.symm] <;> rfl) | rfl | (simp only [List.length_drop, List.length_take]; rfl)) ?_; (with_reducible refine (laws_heldIntS.calls kj12 _ _ t532 1 t541 _ ?side1 ?side2 A37.out).mono ?_); (case side1 => exact qC (Kd.R_reads' HO_5.out).2.2); (case side2 => rw [show t532.length = t520.length from (Kd.R_reads' HO_5.out).1.symm]; exact (Kd.R_reads' HO_5.out).2.1); rintro e w' ⟨rfl, ⟨nd, rfl⟩⟩; refine ⟨_, rfl, ?_⟩))
   go_ret
   exact ⟨qX, by exact qW HB.out⟩
def laws_FnExactCodeLengths.Pure : Prop := ∀ (l0 : List Int), l0.length ≤ maxLen → l0.length * 8 ≤ 140737488351232 → (∀ x ∈ l0, (Lit.int .i64 x).wf = true) → ∃ k, laws_FnExactCodeLengths.f k l0 = some true
theorem laws_FnExactCodeLengths.walk (P : laws_FnExactCodeLengths.Pure) (a0 : Option Addr) (len0 cap0 : Nat) (z0 : List Int) (w : World) (w0 : (a0 = none ∧ len0 = 0 ∧ cap0 = 0 ∧ z0 = []) ∨ ∃ x, a0 = some x ∧ len0 ≤ cap0 ∧ cap0 ≤ maxLen ∧ z0.length = cap0 ∧ (∀ i, i < z0.length → w.cell? (x.add i) = some (.int .i64 (z0.getD i 0))) ∧ ∀ n ∈ z0, (Lit.int .i64 n).wf = true) (y0 : len0 * 8 ≤ 140737488351232) :
  Calls Try.prog 7 #[.slice a0 len0 cap0] w fun e w' => e = .returned (.bool true) ∧ Below w.heap.size w w' := by
 obtain ⟨l0, rfl, hr0, hm0, hw0, hc0⟩ := ReadsInt.ofRowC w0
 obtain ⟨k, h⟩ := P l0 hm0 y0 hw0
 refine (laws_FnExactCodeLengths.calls k _ _ l0 true w (Kd.C_of_reads (d := (0 : Int)) (h1 := fun _ => rfl) hr0) hc0 h rfl).mono ?_
 rintro e w' ⟨rfl, hd⟩
 exact ⟨rfl, hd⟩
end Go.Proofs.Ytcmkijmjafgkfaa.P
