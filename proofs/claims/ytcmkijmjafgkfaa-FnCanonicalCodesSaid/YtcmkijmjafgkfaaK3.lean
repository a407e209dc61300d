/- Contracts and row, written by a program of this place out of the translation: the call answers true and its argument reads as before, for every input; no condition. -/
import Derived.Test.YtcmkijmjafgkfaaK0
import Derived.Test.YtcmkijmjafgkfaaK1
import Derived.Test.YtcmkijmjafgkfaaK2
namespace Go.Proofs.Ytcmkijmjafgkfaa.P
open Go.RowKit Go.Proofs.YtcmkijmjafgkfaaW.PrintWords Go.Proofs.YtcmkijmjafgkfaaW.PrintLast Go.Proofs.YtcmkijmjafgkfaaW.PrintMore
attribute [local go_sem] max2_int min2_int max_two min_two max_three min_three max_four min_four   -- for this text's walks alone
set_option linter.unusedVariables false
set_option linter.unusedSimpArgs false

/-! ### laws_FnCanonicalCodes: function 11 -/
mutual
def laws_FnCanonicalCodes.j0 : Nat → List Int → List Int → Bool → Option (Bool)
 | 0, _, _, _ => none
 | k + 1, x3, x4, x25 => if x25 = true then ((spec_CanonicalCodes.f k x3).bind fun t513 => ((laws_equalInts.f k x4 t513).bind fun t516 => (some t516))) else (laws_FnCanonicalCodes.l0 k x3 x4 0)
def laws_FnCanonicalCodes.l0 : Nat → List Int → List Int → Int → Option (Bool)
 | 0, _, _, _ => none
 | k + 1, x3, x4, x5 => if x5 < (x4.length : Int) then (laws_FnCanonicalCodes.l1 k x3 x4 x5 0) else (some true)
def laws_FnCanonicalCodes.l1 : Nat → List Int → List Int → Int → Int → Option (Bool)
 | 0, _, _, _, _ => none
 | k + 1, x3, x4, x5, x6 => if x6 < (x4.length : Int) then (if x5 = x6 then (laws_FnCanonicalCodes.l1 k x3 x4 x5 (wrap64 (x6 + 1))) else (if 0 ≤ x5 then (if x5 < (x3.length : Int) then (if (rd x3 x5) > 0 then (if 0 ≤ x6 then (if x6 < (x3.length : Int) then (if (rd x3 x6) ≥ (rd x3 x5) then (if 0 ≤ (wrap64 ((rd x3 x6) - (rd x3 x5))) then (if x5 < (x4.length : Int) then (if (shr .i64 (rd x4 x6) (wrap64 ((rd x3 x6) - (rd x3 x5)))) = (rd x4 x5) then (some false) else (laws_FnCanonicalCodes.l1 k x3 x4 x5 (wrap64 (x6 + 1)))) else (none)) else (none)) else (laws_FnCanonicalCodes.l1 k x3 x4 x5 (wrap64 (x6 + 1)))) else (none)) else (none)) else (laws_FnCanonicalCodes.l1 k x3 x4 x5 (wrap64 (x6 + 1)))) else (none)) else (none))) else (laws_FnCanonicalCodes.l0 k x3 x4 (wrap64 (x5 + 1)))
end
def laws_FnCanonicalCodes.f (k : Nat) (l0 : List Int) : Option (Bool) := if (l0.length : Int) > 1048576 then (some true) else ((spec_DrawCanonicalCodes.f k l0).bind fun t503 => ((impl_CanonicalCodes.f k t503).bind fun t506 => ((spec_CanonicalCodes.f k t503).bind fun t509 => ((laws_equalInts.f k t506 t509).bind fun t512 => (if t512 = true then (laws_FnCanonicalCodes.j0 k t503 t506 ((t506.length : Int) != (t503.length : Int))) else (laws_FnCanonicalCodes.j0 k t503 t506 true))))))
theorem laws_FnCanonicalCodes.mono_l : ∀ k, (∀ y0 y1 y2, LeO (laws_FnCanonicalCodes.j0 k y0 y1 y2) (laws_FnCanonicalCodes.j0 (k + 1) y0 y1 y2)) ∧ (∀ y0 y1 y2, LeO (laws_FnCanonicalCodes.l0 k y0 y1 y2) (laws_FnCanonicalCodes.l0 (k + 1) y0 y1 y2)) ∧ (∀ y0 y1 y2 y3, LeO (laws_FnCanonicalCodes.l1 k y0 y1 y2 y3) (laws_FnCanonicalCodes.l1 (k + 1) y0 y1 y2 y3))
 | 0 => ⟨fun _ _ _ r h => by simp [laws_FnCanonicalCodes.j0] at h, fun _ _ _ r h => by simp [laws_FnCanonicalCodes.l0] at h, fun _ _ _ _ r h => by simp [laws_FnCanonicalCodes.l1] at h⟩
 | k + 1 => by
  obtain ⟨ih0, ih1, ih2⟩ := laws_FnCanonicalCodes.mono_l k
  refine ⟨?_, ?_, ?_⟩
  ·
   intro y0 y1 y2
   unfold laws_FnCanonicalCodes.j0
   repeat' first
   | (with_reducible exact ih0 _ _ _)
   | (with_reducible exact ih1 _ _ _)
   | (with_reducible exact ih2 _ _ _ _)
   | (with_reducible exact impl_CanonicalCodes.mono _ _)
   | (with_reducible exact laws_equalInts.mono _ _ _)
   | (with_reducible exact spec_CanonicalCodes.mono _ _)
   | (with_reducible exact spec_DrawCanonicalCodes.mono _ _)
   | (with_reducible exact LeO.refl _)
   | (with_reducible exact LeO.none _)
   | (with_reducible refine LeO.ite ?_ ?_)
   | (with_reducible refine LeO.bind ?_ (fun _ => ?_))
   | exact ih0 _ _ _
   | exact ih1 _ _ _
   | exact ih2 _ _ _ _
   | exact impl_CanonicalCodes.mono _ _
   | exact laws_equalInts.mono _ _ _
   | exact spec_CanonicalCodes.mono _ _
   | exact spec_DrawCanonicalCodes.mono _ _
   | exact LeO.none _
   | refine LeO.ite ?_ ?_
   | refine LeO.bind ?_ (fun _ => ?_)
  ·
   intro y0 y1 y2
   unfold laws_FnCanonicalCodes.l0
   repeat' first
   | (with_reducible exact ih0 _ _ _)
   | (with_reducible exact ih1 _ _ _)
   | (with_reducible exact ih2 _ _ _ _)
   | (with_reducible exact impl_CanonicalCodes.mono _ _)
   | (with_reducible exact laws_equalInts.mono _ _ _)
   | (with_reducible exact spec_CanonicalCodes.mono _ _)
   | (with_reducible exact spec_DrawCanonicalCodes.mono _ _)
   | (with_reducible exact LeO.refl _)
   | (with_reducible exact LeO.none _)
   | (with_reducible refine LeO.ite ?_ ?_)
   | (with_reducible refine LeO.bind ?_ (fun _ => ?_))
   | exact ih0 _ _ _
   | exact ih1 _ _ _
   | exact ih2 _ _ _ _
   | exact impl_CanonicalCodes.mono _ _
   | exact laws_equalInts.mono _ _ _
   | exact spec_CanonicalCodes.mono _ _
   | exact spec_DrawCanonicalCodes.mono _ _
   | exact LeO.none _
   | refine LeO.ite ?_ ?_
   | refine LeO.bind ?_ (fun _ => ?_)
  ·
   intro y0 y1 y2 y3
   unfold laws_FnCanonicalCodes.l1
   repeat' first
   | (with_reducible exact ih0 _ _ _)
   | (with_reducible exact ih1 _ _ _)
   | (with_reducible exact ih2 _ _ _ _)
   | (with_reducible exact impl_CanonicalCodes.mono _ _)
   | (with_reducible exact laws_equalInts.mono _ _ _)
   | (with_reducible exact spec_CanonicalCodes.mono _ _)
   | (with_reducible exact spec_DrawCanonicalCodes.mono _ _)
   | (with_reducible exact LeO.refl _)
   | (with_reducible exact LeO.none _)
   | (with_reducible refine LeO.ite ?_ ?_)
   | (with_reducible refine LeO.bind ?_ (fun _ => ?_))
   | exact ih0 _ _ _
   | exact ih1 _ _ _
   | exact ih2 _ _ _ _
   | exact impl_CanonicalCodes.mono _ _
   | exact laws_equalInts.mono _ _ _
   | exact spec_CanonicalCodes.mono _ _
   | exact spec_DrawCanonicalCodes.mono _ _
   | exact LeO.none _
   | refine LeO.ite ?_ ?_
   | refine LeO.bind ?_ (fun _ => ?_)
theorem laws_FnCanonicalCodes.mono : ∀ a0 k, LeO (laws_FnCanonicalCodes.f k a0) (laws_FnCanonicalCodes.f (k + 1) a0) := by
 intro a0 k
 obtain ⟨ih0, ih1, ih2⟩ := laws_FnCanonicalCodes.mono_l k
 unfold laws_FnCanonicalCodes.f
 repeat' first
   | (with_reducible exact ih0 _ _ _)
   | (with_reducible exact ih1 _ _ _)
   | (with_reducible exact ih2 _ _ _ _)
   | (with_reducible exact impl_CanonicalCodes.mono _ _)
   | (with_reducible exact laws_equalInts.mono _ _ _)
   | (with_reducible exact spec_CanonicalCodes.mono _ _)
   | (with_reducible exact spec_DrawCanonicalCodes.mono _ _)
   | (with_reducible exact LeO.refl _)
   | (with_reducible exact LeO.none _)
   | (with_reducible refine LeO.ite ?_ ?_)
   | (with_reducible refine LeO.bind ?_ (fun _ => ?_))
   | exact ih0 _ _ _
   | exact ih1 _ _ _
   | exact ih2 _ _ _ _
   | exact impl_CanonicalCodes.mono _ _
   | exact laws_equalInts.mono _ _ _
   | exact spec_CanonicalCodes.mono _ _
   | exact spec_DrawCanonicalCodes.mono _ _
   | exact LeO.none _
   | refine LeO.ite ?_ ?_
   | refine LeO.bind ?_ (fun _ => ?_)
set_option maxHeartbeats 8000000 in
set_option maxRecDepth 100000 in
theorem laws_FnCanonicalCodes.calls (k : Nat) (A0 : Option Addr) (c0 : Nat) (l0 : List Int) (r : Bool) (w : World) (hr0 : Kd.C (Kd.int .u8) w A0 l0.length l0) (hc0 : l0.length ≤ c0) (h : laws_FnCanonicalCodes.f k l0 = some r) (hrt : r = true) :
  Calls Try.prog 11 #[.slice A0 l0.length c0] w fun e w' => e = .returned (.bool r) ∧ Below w.heap.size w w' := by
 have HR0 := Aside0.mk hr0
 have HC0 := Aside0.mk hc0
 clear hr0 hc0
 have HB := Aside0.mk (Below.refl w.heap.size w)
 have H : (if (l0.length : Int) > 1048576 then (some true) else ((spec_DrawCanonicalCodes.f k l0).bind fun t503 => ((impl_CanonicalCodes.f k t503).bind fun t506 => ((spec_CanonicalCodes.f k t503).bind fun t509 => ((laws_equalInts.f k t506 t509).bind fun t512 => (if t512 = true then (laws_FnCanonicalCodes.j0 k t503 t506 ((t506.length : Int) != (t503.length : Int))) else (laws_FnCanonicalCodes.j0 k t503 t506 true))))))) = some r := h
 clear h
 by_cases c2 : (l0.length : Int) > 1048576
 ·
  rw [if_pos c2] at H
  have c2b0 : decide (1048576 < (l0.length : Int)) = true := decide_eq_true c2
  have c2b1 : decide (1048576 < l0.length) = true := decide_eq_true (by omega)
  clear c2
  obtain rfl := Option.some.inj H
  go_enter Try.func11, Try.ntmps11
  go_wp2
  repeat (go_quiet (fail); try go_wp2)
  go_ret
  exact ⟨by first | rfl | (simp [errW_none, errW_some] <;> rfl) | (simp [*, errW_none, errW_some] <;> rfl), by repeat (first | (with_reducible first | exact HB.out | apply below_alloc | apply pw_below_drewN | apply below_drew1) | exact HB.out)⟩
 ·
  rw [if_neg c2] at H
  have c2b0 : decide (1048576 < (l0.length : Int)) = false := decide_eq_false c2
  have c2b1 : decide (1048576 < l0.length) = false := decide_eq_false (by omega)
  clear c2
  replace H := Option.bind_eq_some_iff.mp H
  obtain ⟨t503, A30, H⟩ := H
  replace H : ((impl_CanonicalCodes.f k t503).bind fun t506 => ((spec_CanonicalCodes.f k t503).bind fun t509 => ((laws_equalInts.f k t506 t509).bind fun t512 => (if t512 = true then (laws_FnCanonicalCodes.j0 k t503 t506 ((t506.length : Int) != (t503.length : Int))) else (laws_FnCanonicalCodes.j0 k t503 t506 true))))) = some r := H
  have A3 := Aside0.mk A30
  clear A30
  replace H := Option.bind_eq_some_iff.mp H
  obtain ⟨t506, A40, H⟩ := H
  replace H : ((spec_CanonicalCodes.f k t503).bind fun t509 => ((laws_equalInts.f k t506 t509).bind fun t512 => (if t512 = true then (laws_FnCanonicalCodes.j0 k t503 t506 ((t506.length : Int) != (t503.length : Int))) else (laws_FnCanonicalCodes.j0 k t503 t506 true)))) = some r := H
  have A4 := Aside0.mk A40
  clear A40
  have HC5 := Aside0.mk H
  clear H
  go_enter Try.func11, Try.ntmps11
  go_upto_region 5 with (first | (go_at_call 27; (with_reducible refine (spec_DrawCanonicalCodes.calls k _ _ l0 t503 _ ?side1 ?side2 A3.out).mono ?_); (case side1 => repeat (first | exact HR0.out | (with_reducible refine Kd.C_alloc ?_ _) | (with_reducible refine Kd.C_drewN ?_ _) | (with_reducible refine Kd.C_drew ?_))); (case side2 => exact HC0.out); rintro e w6 ⟨v504, rfl, ho0, hb⟩; have n0_ := Aside0.mk (Kd.Q_lower ho0 (below_size (qW HB.out))); have n1_ := Aside0.mk (below_step (qW HB.out) hb); clear HB; have HO505 := n0_; have HB := n1_; clear n0_ n1_; (try clear hb); (try clear hb2); (try clear hk); (try clear hi); (try clear ho0); obtain ⟨Ao7, co7, eo7, _⟩ := Kd.Q_slice HO505.out; subst eo7) | (go_at_call 28; (with_reducible refine (impl_CanonicalCodes.calls k _ _ t503 t506 _ ?side1 ?side2 A4.out).mono ?_); (case side1 => repeat (first | exact (Kd.Q_reads' HO505.out).2.2 | (with_reducible refine Kd.C_alloc ?_ _) | (with_reducible refine Kd.C_drewN ?_ _) | (with_reducible refine Kd.C_drew ?_))); (case side2 => exact (Kd.Q_reads' HO505.out).2.1); rintro e w8 ⟨v507, rfl, ho0, hb⟩; have n0_ := Aside0.mk (Kd.Q_elder' (qQ HO505.out) (Kd.R_base ho0) hb); have n1_ := Aside0.mk (Kd.R_lower (Kd.R_new' ho0 (Kd.Q_lt (qQ HO505.out))) (below_size (qW HB.out))); have n2_ := Aside0.mk (below_step (qW HB.out) hb); clear HO505; clear HB; have HO505 := n0_; have HO508 := n1_; have HB := n2_; clear n0_ n1_ n2_; (try clear hb); (try clear hb2); (try clear hk); (try clear hi); (try clear ho0)))
  repeat (go_quiet (first | (go_at_call 27; (with_reducible refine (spec_DrawCanonicalCodes.calls k _ _ l0 t503 _ ?side1 ?side2 A3.out).mono ?_); (case side1 => repeat (first | exact HR0.out | (with_reducible refine Kd.C_alloc ?_ _) | (with_reducible refine Kd.C_drewN ?_ _) | (with_reducible refine Kd.C_drew ?_))); (case side2 => exact HC0.out); rintro e w6 ⟨v504, rfl, ho0, hb⟩; have n0_ := Aside0.mk (Kd.Q_lower ho0 (below_size (qW HB.out))); have n1_ := Aside0.mk (below_step (qW HB.out) hb); clear HB; have HO505 := n0_; have HB := n1_; clear n0_ n1_; (try clear hb); (try clear hb2); (try clear hk); (try clear hi); (try clear ho0); obtain ⟨Ao7, co7, eo7, _⟩ := Kd.Q_slice HO505.out; subst eo7) | (go_at_call 28; (with_reducible refine (impl_CanonicalCodes.calls k _ _ t503 t506 _ ?side1 ?side2 A4.out).mono ?_); (case side1 => repeat (first | exact (Kd.Q_reads' HO505.out).2.2 | (with_reducible refine Kd.C_alloc ?_ _) | (with_reducible refine Kd.C_drewN ?_ _) | (with_reducible refine Kd.C_drew ?_))); (case side2 => exact (Kd.Q_reads' HO505.out).2.1); rintro e w8 ⟨v507, rfl, ho0, hb⟩; have n0_ := Aside0.mk (Kd.Q_elder' (qQ HO505.out) (Kd.R_base ho0) hb); have n1_ := Aside0.mk (Kd.R_lower (Kd.R_new' ho0 (Kd.Q_lt (qQ HO505.out))) (below_size (qW HB.out))); have n2_ := Aside0.mk (below_step (qW HB.out) hb); clear HO505; clear HB; have HO505 := n0_; have HO508 := n1_; have HB := n2_; clear n0_ n1_ n2_; (try clear hb); (try clear hb2); (try clear hk); (try clear hi); (try clear ho0))); go_upto_region 5 with (first | (go_at_call 27; (with_reducible refine (spec_DrawCanonicalCodes.calls k _ _ l0 t503 _ ?side1 ?side2 A3.out).mono ?_); (case side1 => repeat (first | exact HR0.out | (with_reducible refine Kd.C_alloc ?_ _) | (with_reducible refine Kd.C_drewN ?_ _) | (with_reducible refine Kd.C_drew ?_))); (case side2 => exact HC0.out); rintro e w6 ⟨v504, rfl, ho0, hb⟩; have n0_ := Aside0.mk (Kd.Q_lower ho0 (below_size (qW HB.out))); have n1_ := Aside0.mk (below_step (qW HB.out) hb); clear HB; have HO505 := n0_; have HB := n1_; clear n0_ n1_; (try clear hb); (try clear hb2); (try clear hk); (try clear hi); (try clear ho0); obtain ⟨Ao7, co7, eo7, _⟩ := Kd.Q_slice HO505.out; subst eo7) | (go_at_call 28; (with_reducible refine (impl_CanonicalCodes.calls k _ _ t503 t506 _ ?side1 ?side2 A4.out).mono ?_); (case side1 => repeat (first | exact (Kd.Q_reads' HO505.out).2.2 | (with_reducible refine Kd.C_alloc ?_ _) | (with_reducible refine Kd.C_drewN ?_ _) | (with_reducible refine Kd.C_drew ?_))); (case side2 => exact (Kd.Q_reads' HO505.out).2.1); rintro e w8 ⟨v507, rfl, ho0, hb⟩; have n0_ := Aside0.mk (Kd.Q_elder' (qQ HO505.out) (Kd.R_base ho0) hb); have n1_ := Aside0.mk (Kd.R_lower (Kd.R_new' ho0 (Kd.Q_lt (qQ HO505.out))) (below_size (qW HB.out))); have n2_ := Aside0.mk (below_step (qW HB.out) hb); clear HO505; clear HB; have HO505 := n0_; have HO508 := n1_; have HB := n2_; clear n0_ n1_ n2_; (try clear hb); (try clear hb2); (try clear hk); (try clear hi); (try clear ho0))))
  (try simp only [Act.put, List.setIfInBounds_toArray, List.set_cons_zero, List.set_cons_succ])
  go_cut [25] (fun v25 wc => ∃ (kq : Nat) (x25_4 : Bool), v25 = .bool x25_4 ∧ Aside0 (laws_FnCanonicalCodes.j0 kq t503 t506 x25_4 = some r) ∧ Aside0 (kq ≤ k) ∧ Aside0 (Kd.Q (Kd.int .i64) 3 wc w.heap.size (fun k_ => some k_ ≠ (v507 : Value).ownBlock) (.slice Ao7 t503.length co7) t503) ∧ Aside0 (Kd.R (Kd.int .i64) 3 wc w.heap.size (fun k_ => some k_ ≠ ((.slice Ao7 t503.length co7) : Value).ownBlock) v507 t506) ∧ Aside0 (Below w.heap.size w wc))
  case first =>
   have H := HC5.out
   clear HC5
   replace H := Option.bind_eq_some_iff.mp H
   obtain ⟨t509, A90, H⟩ := H
   replace H : ((laws_equalInts.f k t506 t509).bind fun t512 => (if t512 = true then (laws_FnCanonicalCodes.j0 k t503 t506 ((t506.length : Int) != (t503.length : Int))) else (laws_FnCanonicalCodes.j0 k t503 t506 true))) = some r := H
   have A9 := Aside0.mk A90
   clear A90
   replace H := Option.bind_eq_some_iff.mp H
   obtain ⟨t512, A100, H⟩ := H
   replace H : (if t512 = true then (laws_FnCanonicalCodes.j0 k t503 t506 ((t506.length : Int) != (t503.length : Int))) else (laws_FnCanonicalCodes.j0 k t503 t506 true)) = some r := H
   have A10 := Aside0.mk A100
   clear A100
   by_cases c11 : t512 = true
   ·
    subst c11
    have H1 : (laws_FnCanonicalCodes.j0 k t503 t506 ((t506.length : Int) != (t503.length : Int))) = some r := by rw [if_pos rfl] at H; exact H
    clear H
    have H := H1
    clear H1
    have H' := Aside0.mk H
    clear H
    go_wp2_with (first | (go_at_call 29; (with_reducible refine (spec_CanonicalCodes.calls k _ _ t503 t509 _ ?side1 ?side2 A9.out).mono ?_); (case side1 => repeat (first | exact (Kd.Q_reads' HO505.out).2.2 | (with_reducible refine Kd.C_alloc ?_ _) | (with_reducible refine Kd.C_drewN ?_ _) | (with_reducible refine Kd.C_drew ?_))); (case side2 => exact (Kd.Q_reads' HO505.out).2.1); rintro e w12 ⟨v510, rfl, ho0, hb⟩; have n0_ := Aside0.mk (Kd.Q_elder' (qQ HO505.out) (Kd.R_base ho0) hb); have n1_ := Aside0.mk (Kd.R_elder' (qR HO508.out) (Kd.R_base ho0) hb); have n2_ := Aside0.mk (Kd.R_lower (Kd.R_new' (Kd.R_new' ho0 (Kd.Q_lt (qQ HO505.out))) (Kd.R_lt (qR HO508.out))) (below_size (qW HB.out))); have n3_ := Aside0.mk (below_step (qW HB.out) hb); clear HO505; clear HO508; clear HB; have HO505 := n0_; have HO508 := n1_; have HO511 := n2_; have HB := n3_; clear n0_ n1_ n2_ n3_; (try clear hb); (try clear hb2); (try clear hk); (try clear hi); (try clear ho0); obtain ⟨Ao13, co13, eo13⟩ := Kd.R_slice HO508.out; subst eo13; obtain ⟨Ao14, co14, eo14⟩ := Kd.R_slice HO511.out; subst eo14) | (go_at_call 19; (with_reducible refine (laws_equalInts.calls k _ _ t506 _ _ t509 true _ ?side1 ?side2 ?side3 ?side4 A10.out).mono ?_); (case side1 => repeat (first | exact (Kd.R_reads' HO508.out).2.2 | (with_reducible refine Kd.C_alloc ?_ _) | (with_reducible refine Kd.C_drewN ?_ _) | (with_reducible refine Kd.C_drew ?_))); (case side2 => exact (Kd.R_reads' HO508.out).2.1); (case side3 => repeat (first | exact (Kd.R_reads' HO511.out).2.2 | (with_reducible refine Kd.C_alloc ?_ _) | (with_reducible refine Kd.C_drewN ?_ _) | (with_reducible refine Kd.C_drew ?_))); (case side4 => exact (Kd.R_reads' HO511.out).2.1); rintro e w' ⟨rfl, ⟨nd, rfl⟩⟩; (try first | exact ⟨rfl, _, World.drewN_drewN _ _ _⟩ | exact ⟨rfl, _, Eq.trans (World.drewN_drewN _ _ _) (congrArg (World.drewN _) (Nat.add_assoc _ _ _))⟩)))
    repeat (go_quiet (first | (go_at_call 29; (with_reducible refine (spec_CanonicalCodes.calls k _ _ t503 t509 _ ?side1 ?side2 A9.out).mono ?_); (case side1 => repeat (first | exact (Kd.Q_reads' HO505.out).2.2 | (with_reducible refine Kd.C_alloc ?_ _) | (with_reducible refine Kd.C_drewN ?_ _) | (with_reducible refine Kd.C_drew ?_))); (case side2 => exact (Kd.Q_reads' HO505.out).2.1); rintro e w12 ⟨v510, rfl, ho0, hb⟩; have n0_ := Aside0.mk (Kd.Q_elder' (qQ HO505.out) (Kd.R_base ho0) hb); have n1_ := Aside0.mk (Kd.R_elder' (qR HO508.out) (Kd.R_base ho0) hb); have n2_ := Aside0.mk (Kd.R_lower (Kd.R_new' (Kd.R_new' ho0 (Kd.Q_lt (qQ HO505.out))) (Kd.R_lt (qR HO508.out))) (below_size (qW HB.out))); have n3_ := Aside0.mk (below_step (qW HB.out) hb); clear HO505; clear HO508; clear HB; have HO505 := n0_; have HO508 := n1_; have HO511 := n2_; have HB := n3_; clear n0_ n1_ n2_ n3_; (try clear hb); (try clear hb2); (try clear hk); (try clear hi); (try clear ho0); obtain ⟨Ao13, co13, eo13⟩ := Kd.R_slice HO508.out; subst eo13; obtain ⟨Ao14, co14, eo14⟩ := Kd.R_slice HO511.out; subst eo14) | (go_at_call 19; (with_reducible refine (laws_equalInts.calls k _ _ t506 _ _ t509 true _ ?side1 ?side2 ?side3 ?side4 A10.out).mono ?_); (case side1 => repeat (first | exact (Kd.R_reads' HO508.out).2.2 | (with_reducible refine Kd.C_alloc ?_ _) | (with_reducible refine Kd.C_drewN ?_ _) | (with_reducible refine Kd.C_drew ?_))); (case side2 => exact (Kd.R_reads' HO508.out).2.1); (case side3 => repeat (first | exact (Kd.R_reads' HO511.out).2.2 | (with_reducible refine Kd.C_alloc ?_ _) | (with_reducible refine Kd.C_drewN ?_ _) | (with_reducible refine Kd.C_drew ?_))); (case side4 => exact (Kd.R_reads' HO511.out).2.1); rintro e w' ⟨rfl, ⟨nd, rfl⟩⟩; (try first | exact ⟨rfl, _, World.drewN_drewN _ _ _⟩ | exact ⟨rfl, _, Eq.trans (World.drewN_drewN _ _ _) (congrArg (World.drewN _) (Nat.add_assoc _ _ _))⟩))); try go_wp2_with (first | (go_at_call 29; (with_reducible refine (spec_CanonicalCodes.calls k _ _ t503 t509 _ ?side1 ?side2 A9.out).mono ?_); (case side1 => repeat (first | exact (Kd.Q_reads' HO505.out).2.2 | (with_reducible refine Kd.C_alloc ?_ _) | (with_reducible refine Kd.C_drewN ?_ _) | (with_reducible refine Kd.C_drew ?_))); (case side2 => exact (Kd.Q_reads' HO505.out).2.1); rintro e w12 ⟨v510, rfl, ho0, hb⟩; have n0_ := Aside0.mk (Kd.Q_elder' (qQ HO505.out) (Kd.R_base ho0) hb); have n1_ := Aside0.mk (Kd.R_elder' (qR HO508.out) (Kd.R_base ho0) hb); have n2_ := Aside0.mk (Kd.R_lower (Kd.R_new' (Kd.R_new' ho0 (Kd.Q_lt (qQ HO505.out))) (Kd.R_lt (qR HO508.out))) (below_size (qW HB.out))); have n3_ := Aside0.mk (below_step (qW HB.out) hb); clear HO505; clear HO508; clear HB; have HO505 := n0_; have HO508 := n1_; have HO511 := n2_; have HB := n3_; clear n0_ n1_ n2_ n3_; (try clear hb); (try clear hb2); (try clear hk); (try clear hi); (try clear ho0); obtain ⟨Ao13, co13, eo13⟩ := Kd.R_slice HO508.out; subst eo13; obtain ⟨Ao14, co14, eo14⟩ := Kd.R_slice HO511.out; subst eo14) | (go_at_call 19; (with_reducible refine (laws_equalInts.calls k _ _ t506 _ _ t509 true _ ?side1 ?side2 ?side3 ?side4 A10.out).mono ?_); (case side1 => repeat (first | exact (Kd.R_reads' HO508.out).2.2 | (with_reducible refine Kd.C_alloc ?_ _) | (with_reducible refine Kd.C_drewN ?_ _) | (with_reducible refine Kd.C_drew ?_))); (case side2 => exact (Kd.R_reads' HO508.out).2.1); (case side3 => repeat (first | exact (Kd.R_reads' HO511.out).2.2 | (with_reducible refine Kd.C_alloc ?_ _) | (with_reducible refine Kd.C_drewN ?_ _) | (with_reducible refine Kd.C_drew ?_))); (case side4 => exact (Kd.R_reads' HO511.out).2.1); rintro e w' ⟨rfl, ⟨nd, rfl⟩⟩; (try first | exact ⟨rfl, _, World.drewN_drewN _ _ _⟩ | exact ⟨rfl, _, Eq.trans (World.drewN_drewN _ _ _) (congrArg (World.drewN _) (Nat.add_assoc _ _ _))⟩))))
    go_meet
    case rel => exact ⟨_, (((t506.length : Int) != (t503.length : Int))), (by first | rfl | (simp; done) | (simp [*]; done)), H', ⟨by first | omega | exact Nat.le_refl _⟩, ⟨by (with_reducible repeat (first | apply Kd.Q_alloc | apply Kd.Q_drewN | apply Kd.Q_drew)); exact Kd.Q_mono HO505.out (fun _ hk => hk.1.2)⟩, ⟨by (with_reducible repeat (first | apply Kd.R_alloc | apply Kd.R_drewN | apply Kd.R_drew)); exact Kd.R_mono HO508.out (fun _ hk => hk.1.2)⟩, ⟨by repeat (first | (with_reducible first | exact HB.out | apply below_alloc | apply pw_below_drewN | apply below_drew1) | exact HB.out)⟩⟩
   ·
    replace c11 := Bool.eq_false_iff.mpr c11
    subst c11
    have H1 : (laws_FnCanonicalCodes.j0 k t503 t506 true) = some r := by rw [if_neg (show ¬ (false = true) by decide)] at H; exact H
    clear H
    have H := H1
    clear H1
    have H' := Aside0.mk H
    clear H
    go_wp2_with (first | (go_at_call 29; (with_reducible refine (spec_CanonicalCodes.calls k _ _ t503 t509 _ ?side1 ?side2 A9.out).mono ?_); (case side1 => repeat (first | exact (Kd.Q_reads' HO505.out).2.2 | (with_reducible refine Kd.C_alloc ?_ _) | (with_reducible refine Kd.C_drewN ?_ _) | (with_reducible refine Kd.C_drew ?_))); (case side2 => exact (Kd.Q_reads' HO505.out).2.1); rintro e w15 ⟨v510, rfl, ho0, hb⟩; have n0_ := Aside0.mk (Kd.Q_elder' (qQ HO505.out) (Kd.R_base ho0) hb); have n1_ := Aside0.mk (Kd.R_elder' (qR HO508.out) (Kd.R_base ho0) hb); have n2_ := Aside0.mk (Kd.R_lower (Kd.R_new' (Kd.R_new' ho0 (Kd.Q_lt (qQ HO505.out))) (Kd.R_lt (qR HO508.out))) (below_size (qW HB.out))); have n3_ := Aside0.mk (below_step (qW HB.out) hb); clear HO505; clear HO508; clear HB; have HO505 := n0_; have HO508 := n1_; have HO511 := n2_; have HB := n3_; clear n0_ n1_ n2_ n3_; (try clear hb); (try clear hb2); (try clear hk); (try clear hi); (try clear ho0); obtain ⟨Ao16, co16, eo16⟩ := Kd.R_slice HO508.out; subst eo16; obtain ⟨Ao17, co17, eo17⟩ := Kd.R_slice HO511.out; subst eo17) | (go_at_call 19; (with_reducible refine (laws_equalInts.calls k _ _ t506 _ _ t509 false _ ?side1 ?side2 ?side3 ?side4 A10.out).mono ?_); (case side1 => repeat (first | exact (Kd.R_reads' HO508.out).2.2 | (with_reducible refine Kd.C_alloc ?_ _) | (with_reducible refine Kd.C_drewN ?_ _) | (with_reducible refine Kd.C_drew ?_))); (case side2 => exact (Kd.R_reads' HO508.out).2.1); (case side3 => repeat (first | exact (Kd.R_reads' HO511.out).2.2 | (with_reducible refine Kd.C_alloc ?_ _) | (with_reducible refine Kd.C_drewN ?_ _) | (with_reducible refine Kd.C_drew ?_))); (case side4 => exact (Kd.R_reads' HO511.out).2.1); rintro e w' ⟨rfl, ⟨nd, rfl⟩⟩; (try first | exact ⟨rfl, _, World.drewN_drewN _ _ _⟩ | exact ⟨rfl, _, Eq.trans (World.drewN_drewN _ _ _) (congrArg (World.drewN _) (Nat.add_assoc _ _ _))⟩)))
    repeat (go_quiet (first | (go_at_call 29; (with_reducible refine (spec_CanonicalCodes.calls k _ _ t503 t509 _ ?side1 ?side2 A9.out).mono ?_); (case side1 => repeat (first | exact (Kd.Q_reads' HO505.out).2.2 | (with_reducible refine Kd.C_alloc ?_ _) | (with_reducible refine Kd.C_drewN ?_ _) | (with_reducible refine Kd.C_drew ?_))); (case side2 => exact (Kd.Q_reads' HO505.out).2.1); rintro e w15 ⟨v510, rfl, ho0, hb⟩; have n0_ := Aside0.mk (Kd.Q_elder' (qQ HO505.out) (Kd.R_base ho0) hb); have n1_ := Aside0.mk (Kd.R_elder' (qR HO508.out) (Kd.R_base ho0) hb); have n2_ := Aside0.mk (Kd.R_lower (Kd.R_new' (Kd.R_new' ho0 (Kd.Q_lt (qQ HO505.out))) (Kd.R_lt (qR HO508.out))) (below_size (qW HB.out))); have n3_ := Aside0.mk (below_step (qW HB.out) hb); clear HO505; clear HO508; clear HB; have HO505 := n0_; have HO508 := n1_; have HO511 := n2_; have HB := n3_; clear n0_ n1_ n2_ n3_; (try clear hb); (try clear hb2); (try clear hk); (try clear hi); (try clear ho0); obtain ⟨Ao16, co16, eo16⟩ := Kd.R_slice HO508.out; subst eo16; obtain ⟨Ao17, co17, eo17⟩ := Kd.R_slice HO511.out; subst eo17) | (go_at_call 19; (with_reducible refine (laws_equalInts.calls k _ _ t506 _ _ t509 false _ ?side1 ?side2 ?side3 ?side4 A10.out).mono ?_); (case side1 => repeat (first | exact (Kd.R_reads' HO508.out).2.2 | (with_reducible refine Kd.C_alloc ?_ _) | (with_reducible refine Kd.C_drewN ?_ _) | (with_reducible refine Kd.C_drew ?_))); (case side2 => exact (Kd.R_reads' HO508.out).2.1); (case side3 => repeat (first | exact (Kd.R_reads' HO511.out).2.2 | (with_reducible refine Kd.C_alloc ?_ _) | (with_reducible refine Kd.C_drewN ?_ _) | (with_reducible refine Kd.C_drew ?_))); (case side4 => exact (Kd.R_reads' HO511.out).2.1); rintro e w' ⟨rfl, ⟨nd, rfl⟩⟩; (try first | exact ⟨rfl, _, World.drewN_drewN _ _ _⟩ | exact ⟨rfl, _, Eq.trans (World.drewN_drewN _ _ _) (congrArg (World.drewN _) (Nat.add_assoc _ _ _))⟩))); try go_wp2_with (first | (go_at_call 29; (with_reducible refine (spec_CanonicalCodes.calls k _ _ t503 t509 _ ?side1 ?side2 A9.out).mono ?_); (case side1 => repeat (first | exact (Kd.Q_reads' HO505.out).2.2 | (with_reducible refine Kd.C_alloc ?_ _) | (with_reducible refine Kd.C_drewN ?_ _) | (with_reducible refine Kd.C_drew ?_))); (case side2 => exact (Kd.Q_reads' HO505.out).2.1); rintro e w15 ⟨v510, rfl, ho0, hb⟩; have n0_ := Aside0.mk (Kd.Q_elder' (qQ HO505.out) (Kd.R_base ho0) hb); have n1_ := Aside0.mk (Kd.R_elder' (qR HO508.out) (Kd.R_base ho0) hb); have n2_ := Aside0.mk (Kd.R_lower (Kd.R_new' (Kd.R_new' ho0 (Kd.Q_lt (qQ HO505.out))) (Kd.R_lt (qR HO508.out))) (below_size (qW HB.out))); have n3_ := Aside0.mk (below_step (qW HB.out) hb); clear HO505; clear HO508; clear HB; have HO505 := n0_; have HO508 := n1_; have HO511 := n2_; have HB := n3_; clear n0_ n1_ n2_ n3_; (try clear hb); (try clear hb2); (try clear hk); (try clear hi); (try clear ho0); obtain ⟨Ao16, co16, eo16⟩ := Kd.R_slice HO508.out; subst eo16; obtain ⟨Ao17, co17, eo17⟩ := Kd.R_slice HO511.out; subst eo17) | (go_at_call 19; (with_reducible refine (laws_equalInts.calls k _ _ t506 _ _ t509 false _ ?side1 ?side2 ?side3 ?side4 A10.out).mono ?_); (case side1 => repeat (first | exact (Kd.R_reads' HO508.out).2.2 | (with_reducible refine Kd.C_alloc ?_ _) | (with_reducible refine Kd.C_drewN ?_ _) | (with_reducible refine Kd.C_drew ?_))); (case side2 => exact (Kd.R_reads' HO508.out).2.1); (case side3 => repeat (first | exact (Kd.R_reads' HO511.out).2.2 | (with_reducible refine Kd.C_alloc ?_ _) | (with_reducible refine Kd.C_drewN ?_ _) | (with_reducible refine Kd.C_drew ?_))); (case side4 => exact (Kd.R_reads' HO511.out).2.1); rintro e w' ⟨rfl, ⟨nd, rfl⟩⟩; (try first | exact ⟨rfl, _, World.drewN_drewN _ _ _⟩ | exact ⟨rfl, _, Eq.trans (World.drewN_drewN _ _ _) (congrArg (World.drewN _) (Nat.add_assoc _ _ _))⟩))))
    go_meet
    case rel => exact ⟨_, (true), (by first | rfl | (simp; done) | (simp [*]; done)), H', ⟨by first | omega | exact Nat.le_refl _⟩, ⟨by (with_reducible repeat (first | apply Kd.Q_alloc | apply Kd.Q_drewN | apply Kd.Q_drew)); exact Kd.Q_mono HO505.out (fun _ hk => hk.1.2)⟩, ⟨by (with_reducible repeat (first | apply Kd.R_alloc | apply Kd.R_drewN | apply Kd.R_drew)); exact Kd.R_mono HO508.out (fun _ hk => hk.1.2)⟩, ⟨by repeat (first | (with_reducible first | exact HB.out | apply below_alloc | apply pw_below_drewN | apply below_drew1) | exact HB.out)⟩⟩
  case rest =>
   clear HC5
   try clear c1
   try clear c2
   try clear c2b0
   try clear c2b1
   try clear p2
   try clear c11
   obtain ⟨kq, x25_4, rfl, HA, HJ4, HO_3, HO_4, HB⟩ := hcut
   cases kq with
   | zero => exact absurd HA.out (by simp [laws_FnCanonicalCodes.j0])
   | succ kj4 =>
    have H := HA.out
    clear HA
    simp only [laws_FnCanonicalCodes.j0] at H
    by_cases c18 : x25_4 = true
    ·
     subst c18
     have H1 : ((spec_CanonicalCodes.f kj4 t503).bind fun t513 => ((laws_equalInts.f kj4 t506 t513).bind fun t516 => (some t516))) = some r := by rw [if_pos rfl] at H; exact H
     clear H
     have H := H1
     clear H1
     replace H := Option.bind_eq_some_iff.mp H
     obtain ⟨t513, A190, H⟩ := H
     replace H : ((laws_equalInts.f kj4 t506 t513).bind fun t516 => (some t516)) = some r := H
     have A19 := Aside0.mk A190
     clear A190
     replace H := Option.bind_eq_some_iff.mp H
     obtain ⟨t516, A200, H⟩ := H
     replace H : (some t516) = some r := H
     have A20 := Aside0.mk A200
     clear A200
     obtain rfl := Option.some.inj H
     go_wp2_with (first | (go_at_call 29; (with_reducible refine (spec_CanonicalCodes.calls kj4 _ _ t503 t513 _ ?side1 ?side2 A19.out).mono ?_); (case side1 => repeat (first | exact (Kd.Q_reads' HO_3.out).2.2 | (with_reducible refine Kd.C_alloc ?_ _) | (with_reducible refine Kd.C_drewN ?_ _) | (with_reducible refine Kd.C_drew ?_))); (case side2 => exact (Kd.Q_reads' HO_3.out).2.1); rintro e w21 ⟨v514, rfl, ho0, hb⟩; have n0_ := Aside0.mk (Kd.Q_elder' (qQ HO_3.out) (Kd.R_base ho0) hb); have n1_ := Aside0.mk (Kd.R_elder' (qR HO_4.out) (Kd.R_base ho0) hb); have n2_ := Aside0.mk (Kd.R_lower (Kd.R_new' (Kd.R_new' ho0 (Kd.Q_lt (qQ HO_3.out))) (Kd.R_lt (qR HO_4.out))) (below_size (qW HB.out))); have n3_ := Aside0.mk (below_step (qW HB.out) hb); clear HO_3; clear HO_4; clear HB; have HO_3 := n0_; have HO_4 := n1_; have HO515 := n2_; have HB := n3_; clear n0_ n1_ n2_ n3_; (try clear hb); (try clear hb2); (try clear hk); (try clear hi); (try clear ho0); obtain ⟨Ao22, co22, eo22⟩ := Kd.R_slice HO_4.out; subst eo22; obtain ⟨Ao23, co23, eo23⟩ := Kd.R_slice HO515.out; subst eo23) | (go_at_call 19; (with_reducible refine (laws_equalInts.calls kj4 _ _ t506 _ _ t513 t516 _ ?side1 ?side2 ?side3 ?side4 A20.out).mono ?_); (case side1 => repeat (first | exact (Kd.R_reads' HO_4.out).2.2 | (with_reducible refine Kd.C_alloc ?_ _) | (with_reducible refine Kd.C_drewN ?_ _) | (with_reducible refine Kd.C_drew ?_))); (case side2 => exact (Kd.R_reads' HO_4.out).2.1); (case side3 => repeat (first | exact (Kd.R_reads' HO515.out).2.2 | (with_reducible refine Kd.C_alloc ?_ _) | (with_reducible refine Kd.C_drewN ?_ _) | (with_reducible refine Kd.C_drew ?_))); (case side4 => exact (Kd.R_reads' HO515.out).2.1); rintro e w' ⟨rfl, ⟨nd, rfl⟩⟩; (try first | exact ⟨rfl, _, World.drewN_drewN _ _ _⟩ | exact ⟨rfl, _, Eq.trans (World.drewN_drewN _ _ _) (congrArg (World.drewN _) (Nat.add_assoc _ _ _))⟩)))
     repeat (go_quiet (first | (go_at_call 29; (with_reducible refine (spec_CanonicalCodes.calls kj4 _ _ t503 t513 _ ?side1 ?side2 A19.out).mono ?_); (case side1 => repeat (first | exact (Kd.Q_reads' HO_3.out).2.2 | (with_reducible refine Kd.C_alloc ?_ _) | (with_reducible refine Kd.C_drewN ?_ _) | (with_reducible refine Kd.C_drew ?_))); (case side2 => exact (Kd.Q_reads' HO_3.out).2.1); rintro e w21 ⟨v514, rfl, ho0, hb⟩; have n0_ := Aside0.mk (Kd.Q_elder' (qQ HO_3.out) (Kd.R_base ho0) hb); have n1_ := Aside0.mk (Kd.R_elder' (qR HO_4.out) (Kd.R_base ho0) hb); have n2_ := Aside0.mk (Kd.R_lower (Kd.R_new' (Kd.R_new' ho0 (Kd.Q_lt (qQ HO_3.out))) (Kd.R_lt (qR HO_4.out))) (below_size (qW HB.out))); have n3_ := Aside0.mk (below_step (qW HB.out) hb); clear HO_3; clear HO_4; clear HB; have HO_3 := n0_; have HO_4 := n1_; have HO515 := n2_; have HB := n3_; clear n0_ n1_ n2_ n3_; (try clear hb); (try clear hb2); (try clear hk); (try clear hi); (try clear ho0); obtain ⟨Ao22, co22, eo22⟩ := Kd.R_slice HO_4.out; subst eo22; obtain ⟨Ao23, co23, eo23⟩ := Kd.R_slice HO515.out; subst eo23) | (go_at_call 19; (with_reducible refine (laws_equalInts.calls kj4 _ _ t506 _ _ t513 t516 _ ?side1 ?side2 ?side3 ?side4 A20.out).mono ?_); (case side1 => repeat (first | exact (Kd.R_reads' HO_4.out).2.2 | (with_reducible refine Kd.C_alloc ?_ _) | (with_reducible refine Kd.C_drewN ?_ _) | (with_reducible refine Kd.C_drew ?_))); (case side2 => exact (Kd.R_reads' HO_4.out).2.1); (case side3 => repeat (first | exact (Kd.R_reads' HO515.out).2.2 | (with_reducible refine Kd.C_alloc ?_ _) | (with_reducible refine Kd.C_drewN ?_ _) | (with_reducible refine Kd.C_drew ?_))); (case side4 => exact (Kd.R_reads' HO515.out).2.1); rintro e w' ⟨rfl, ⟨nd, rfl⟩⟩; (try first | exact ⟨rfl, _, World.drewN_drewN _ _ _⟩ | exact ⟨rfl, _, Eq.trans (World.drewN_drewN _ _ _) (congrArg (World.drewN _) (Nat.add_assoc _ _ _))⟩))); try go_wp2_with (first | (go_at_call 29; (with_reducible refine (spec_CanonicalCodes.calls kj4 _ _ t503 t513 _ ?side1 ?side2 A19.out).mono ?_); (case side1 => repeat (first | exact (Kd.Q_reads' HO_3.out).2.2 | (with_reducible refine Kd.C_alloc ?_ _) | (with_reducible refine Kd.C_drewN ?_ _) | (with_reducible refine Kd.C_drew ?_))); (case side2 => exact (Kd.Q_reads' HO_3.out).2.1); rintro e w21 ⟨v514, rfl, ho0, hb⟩; have n0_ := Aside0.mk (Kd.Q_elder' (qQ HO_3.out) (Kd.R_base ho0) hb); have n1_ := Aside0.mk (Kd.R_elder' (qR HO_4.out) (Kd.R_base ho0) hb); have n2_ := Aside0.mk (Kd.R_lower (Kd.R_new' (Kd.R_new' ho0 (Kd.Q_lt (qQ HO_3.out))) (Kd.R_lt (qR HO_4.out))) (below_size (qW HB.out))); have n3_ := Aside0.mk (below_step (qW HB.out) hb); clear HO_3; clear HO_4; clear HB; have HO_3 := n0_; have HO_4 := n1_; have HO515 := n2_; have HB := n3_; clear n0_ n1_ n2_ n3_; (try clear hb); (try clear hb2); (try clear hk); (try clear hi); (try clear ho0); obtain ⟨Ao22, co22, eo22⟩ := Kd.R_slice HO_4.out; subst eo22; obtain ⟨Ao23, co23, eo23⟩ := Kd.R_slice HO515.out; subst eo23) | (go_at_call 19; (with_reducible refine (laws_equalInts.calls kj4 _ _ t506 _ _ t513 t516 _ ?side1 ?side2 ?side3 ?side4 A20.out).mono ?_); (case side1 => repeat (first | exact (Kd.R_reads' HO_4.out).2.2 | (with_reducible refine Kd.C_alloc ?_ _) | (with_reducible refine Kd.C_drewN ?_ _) | (with_reducible refine Kd.C_drew ?_))); (case side2 => exact (Kd.R_reads' HO_4.out).2.1); (case side3 => repeat (first | exact (Kd.R_reads' HO515.out).2.2 | (with_reducible refine Kd.C_alloc ?_ _) | (with_reducible refine Kd.C_drewN ?_ _) | (with_reducible refine Kd.C_drew ?_))); (case side4 => exact (Kd.R_reads' HO515.out).2.1); rintro e w' ⟨rfl, ⟨nd, rfl⟩⟩; (try first | exact ⟨rfl, _, World.drewN_drewN _ _ _⟩ | exact ⟨rfl, _, Eq.trans (World.drewN_drewN _ _ _) (congrArg (World.drewN _) (Nat.add_assoc _ _ _))⟩))))
     go_ret
     exact ⟨by first | rfl | (simp [errW_none, errW_some] <;> rfl) | (simp [*, errW_none, errW_some] <;> rfl), by repeat (first | (with_reducible first | exact HB.out | apply below_alloc | apply pw_below_drewN | apply below_drew1) | exact HB.out)⟩
    ·
     replace c18 := Bool.eq_false_iff.mpr c18
     subst c18
     have H1 : (laws_FnCanonicalCodes.l0 kj4 t503 t506 0) = some r := by rw [if_neg (show ¬ (false = true) by decide)] at H; exact H
     clear H
     have H := H1
     clear H1
     have H' := Aside0.mk H
     clear H
     go_wp2
     repeat (go_quiet (fail); try go_wp2)
     go_loopg [5] kj4 (fun kq v5 w' => ∃ (x5_2 : Int), v5 = .int .i64 x5_2 ∧ Aside0 (laws_FnCanonicalCodes.l0 kq t503 t506 x5_2 = some r) ∧ Aside0 (kq ≤ kj4) ∧ Aside0 (Kd.Q (Kd.int .i64) 3 w' w.heap.size (fun k_ => some k_ ≠ (v507 : Value).ownBlock) (.slice Ao7 t503.length co7) t503) ∧ Aside0 (Kd.R (Kd.int .i64) 3 w' w.heap.size (fun k_ => some k_ ≠ ((.slice Ao7 t503.length co7) : Value).ownBlock) v507 t506) ∧ Aside0 (Below w.heap.size w w'))
     case atStart => exact ⟨(0), (by first | rfl | (simp; done) | (simp [*]; done)), H', ⟨Nat.le_refl _⟩, ⟨by (with_reducible repeat (first | apply Kd.Q_alloc | apply Kd.Q_drewN | apply Kd.Q_drew)); exact HO_3.out⟩, ⟨by (with_reducible repeat (first | apply Kd.R_alloc | apply Kd.R_drewN | apply Kd.R_drew)); exact HO_4.out⟩, ⟨by repeat (first | (with_reducible first | exact HB.out | apply below_alloc | apply pw_below_drewN | apply below_drew1) | exact HB.out)⟩⟩
     case round =>
      clear H'
      try clear c1
      try clear c2
      try clear c2b0
      try clear c2b1
      try clear p2
      try clear c11
      try clear c18
      try clear p2
      obtain ⟨x5_2, rfl, HA, HK2, HO_3, HO_4, HB⟩ := hrel
      cases gk with
      | zero => exact absurd HA.out (by simp [laws_FnCanonicalCodes.l0])
      | succ k2 =>
       have H := HA.out
       clear HA
       simp only [laws_FnCanonicalCodes.l0] at H
       by_cases c24 : x5_2 < (t506.length : Int)
       ·
        rw [if_pos c24] at H
        have c24b0 : decide (x5_2 < (t506.length : Int)) = true := decide_eq_true c24
        clear c24
        have H' := Aside0.mk H
        clear H
        obtain ⟨Ao25, co25, eo25⟩ := Kd.R_slice HO_4.out
        subst eo25
        go_wp2
        repeat (go_quiet (fail); try go_wp2)
        go_loopg [6] k2 (fun kq v6 w' => ∃ (x6_3 : Int), v6 = .int .i64 x6_3 ∧ Aside0 (laws_FnCanonicalCodes.l1 kq t503 t506 x5_2 x6_3 = some r) ∧ Aside0 (kq ≤ k2) ∧ Aside0 (Kd.Q (Kd.int .i64) 3 w' w.heap.size (fun k_ => some k_ ≠ ((.slice Ao25 t506.length co25) : Value).ownBlock) (.slice Ao7 t503.length co7) t503) ∧ Aside0 (Kd.R (Kd.int .i64) 3 w' w.heap.size (fun k_ => some k_ ≠ ((.slice Ao7 t503.length co7) : Value).ownBlock) (.slice Ao25 t506.length co25) t506) ∧ Aside0 (Below w.heap.size w w'))
        case atStart => exact ⟨(0), (by first | rfl | (simp; done) | (simp [*]; done)), H', ⟨Nat.le_refl _⟩, ⟨by (with_reducible repeat (first | apply Kd.Q_alloc | apply Kd.Q_drewN | apply Kd.Q_drew)); exact HO_3.out⟩, ⟨by (with_reducible repeat (first | apply Kd.R_alloc | apply Kd.R_drewN | apply Kd.R_drew)); exact HO_4.out⟩, ⟨by repeat (first | (with_reducible first | exact HB.out | apply below_alloc | apply pw_below_drewN | apply below_drew1) | exact HB.out)⟩⟩
        case round =>
         clear H'
         try clear c1
         try clear c2
         try clear c2b0
         try clear c2b1
         try clear p2
         try clear c11
         try clear c18
         try clear c24
         try clear c24b0
         try clear p2
         obtain ⟨x6_3, rfl, HA, HK3, HO_3, HO_4, HB⟩ := hrel
         cases gk with
         | zero => exact absurd HA.out (by simp [laws_FnCanonicalCodes.l1])
         | succ k3 =>
          have H := HA.out
          clear HA
          simp only [laws_FnCanonicalCodes.l1] at H
          by_cases c26 : x6_3 < (t506.length : Int)
          ·
           rw [if_pos c26] at H
           have c26b0 : decide (x6_3 < (t506.length : Int)) = true := decide_eq_true c26
           clear c26
           by_cases c27 : x5_2 = x6_3
           ·
            rw [if_pos c27] at H
            have c27b0 : (x5_2 == x6_3) = true := beq_iff_eq.mpr c27
            have c27b1 : (x5_2 != x6_3) = false := bne_eq_false_iff_eq.mpr c27
            clear c27
            have H' := Aside0.mk H
            clear H
            go_wp2
            repeat (go_quiet (fail); try go_wp2)
            go_roundg k3
            case measure => have := HJ4.out; have := HK2.out; have := HK3.out; omega
            case rel => exact ⟨(wrap64 (x6_3 + 1)), (by first | rfl | (simp; done) | (simp [*]; done)), H', ⟨by have := HJ4.out; have := HK2.out; have := HK3.out; omega⟩, ⟨by (with_reducible repeat (first | apply Kd.Q_alloc | apply Kd.Q_drewN | apply Kd.Q_drew)); exact HO_3.out⟩, ⟨by (with_reducible repeat (first | apply Kd.R_alloc | apply Kd.R_drewN | apply Kd.R_drew)); exact HO_4.out⟩, ⟨by repeat (first | (with_reducible first | exact HB.out | apply below_alloc | apply pw_below_drewN | apply below_drew1) | exact HB.out)⟩⟩
           ·
            rw [if_neg c27] at H
            have c27b0 : (x5_2 == x6_3) = false := beq_eq_false_iff_ne.mpr c27
            have c27b1 : (x5_2 != x6_3) = true := bne_iff_ne.mpr c27
            by_cases c28 : 0 ≤ x5_2
            ·
             rw [if_pos c28] at H
             have c28b0 : decide (0 ≤ x5_2) = true := decide_eq_true c28
             clear c28
             by_cases c29 : x5_2 < (t503.length : Int)
             ·
              rw [if_pos c29] at H
              have c29b0 : decide (x5_2 < (t503.length : Int)) = true := decide_eq_true c29
              clear c29
              by_cases c30 : (rd t503 x5_2) > 0
              ·
               rw [if_pos c30] at H
               have c30b0 : decide (0 < (rd t503 x5_2)) = true := decide_eq_true c30
               clear c30
               by_cases c31 : 0 ≤ x6_3
               ·
                rw [if_pos c31] at H
                have c31b0 : decide (0 ≤ x6_3) = true := decide_eq_true c31
                clear c31
                by_cases c32 : x6_3 < (t503.length : Int)
                ·
                 rw [if_pos c32] at H
                 have c32b0 : decide (x6_3 < (t503.length : Int)) = true := decide_eq_true c32
                 clear c32
                 by_cases c33 : (rd t503 x6_3) ≥ (rd t503 x5_2)
                 ·
                  rw [if_pos c33] at H
                  have c33b0 : decide ((rd t503 x5_2) ≤ (rd t503 x6_3)) = true := decide_eq_true c33
                  clear c33
                  obtain ⟨ji34, hji34⟩ : ∃ j_ : Int, (wrap64 ((rd t503 x6_3) - (rd t503 x5_2))) = j_ := ⟨_, rfl⟩
                  replace H : (if 0 ≤ (ji34) then (if x5_2 < (t506.length : Int) then (if (shr .i64 (rd t506 x6_3) (ji34)) = (rd t506 x5_2) then (some false) else (laws_FnCanonicalCodes.l1 k3 t503 t506 x5_2 (wrap64 (x6_3 + 1)))) else (none)) else (none)) = some r := by first | (rw [hji34] at H; exact H) | (simp only [hji34] at H ⊢; exact H)
                  have hji34w : (IntKind.i64.wrap ((rd t503 x6_3) - (rd t503 x5_2))) = ji34 := (i64_w _).trans hji34
                  by_cases c35 : 0 ≤ (ji34)
                  ·
                   rw [if_pos c35] at H
                   have c35b0 := eq_true c35
                   have c35b1 : decide (0 ≤ (ji34)) = true := decide_eq_true c35
                   clear c35
                   obtain ⟨ji36, hji36⟩ : ∃ j_ : Int, (shr .i64 (rd t506 x6_3) (ji34)) = j_ := ⟨_, rfl⟩
                   replace H : (if x5_2 < (t506.length : Int) then (if (ji36) = (rd t506 x5_2) then (some false) else (laws_FnCanonicalCodes.l1 k3 t503 t506 x5_2 (wrap64 (x6_3 + 1)))) else (none)) = some r := by first | (rw [hji36] at H; exact H) | (simp only [hji36] at H ⊢; exact H)
                   have hji36_ : ((rd t506 x6_3) / 2 ^ min (ji34).toNat 64) = ji36 := hji36
                   have hji36z : (ji34) ≤ 64 → ((rd t506 x6_3) / 2 ^ (ji34).toNat) = ji36 := shr_small hji36
                   by_cases c37 : x5_2 < (t506.length : Int)
                   ·
                    rw [if_pos c37] at H
                    have c37b0 : decide (x5_2 < (t506.length : Int)) = true := decide_eq_true c37
                    clear c37
                    by_cases c38 : (ji36) = (rd t506 x5_2)
                    ·
                     rw [if_pos c38] at H
                     have c38b0 : ((ji36) == (rd t506 x5_2)) = true := beq_iff_eq.mpr c38
                     have c38b1 : ((ji36) != (rd t506 x5_2)) = false := bne_eq_false_iff_eq.mpr c38
                     clear c38
                     obtain rfl := Option.some.inj H
                     exact absurd hrt (by decide)
                    ·
                     rw [if_neg c38] at H
                     have c38b0 : ((ji36) == (rd t506 x5_2)) = false := beq_eq_false_iff_ne.mpr c38
                     have c38b1 : ((ji36) != (rd t506 x5_2)) = true := bne_iff_ne.mpr c38
                     have H' := Aside0.mk H
                     clear H
                     have p517 : 0 ≤ (x5_2 : Int) := of_decide_eq_true (by first | (with_reducible assumption) | assumption)
                     have q517 : x5_2 < (t503.length : Int) := of_decide_eq_true (by first | (with_reducible assumption) | assumption)
                     obtain ⟨ad517, e517, hx517_0⟩ := Kd.at_int (Kd.Q_reads' HO_3.out).2.2 x5_2 p517 q517
                     cases e517
                     replace p517 := eq_true p517
                     replace q517 := eq_true q517
                     have p518 : 0 ≤ (x6_3 : Int) := of_decide_eq_true (by first | (with_reducible assumption) | assumption)
                     have q518 : x6_3 < (t503.length : Int) := of_decide_eq_true (by first | (with_reducible assumption) | assumption)
                     obtain ⟨ad518, e518, hx518_0⟩ := Kd.at_int (Kd.Q_reads' HO_3.out).2.2 x6_3 p518 q518
                     obtain rfl : ad517 = ad518 := (by injection e518)
                     replace p518 := eq_true p518
                     replace q518 := eq_true q518
                     have p519 : 0 ≤ (x5_2 : Int) := of_decide_eq_true (by first | (with_reducible assumption) | assumption)
                     have q519 : x5_2 < (t503.length : Int) := of_decide_eq_true (by first | (with_reducible assumption) | assumption)
                     obtain ⟨ad519, e519, hx519_0⟩ := Kd.at_int (Kd.Q_reads' HO_3.out).2.2 x5_2 p519 q519
                     obtain rfl : ad517 = ad519 := (by injection e519)
                     replace p519 := eq_true p519
                     replace q519 := eq_true q519
                     have p520 : 0 ≤ (x6_3 : Int) := of_decide_eq_true (by first | (with_reducible assumption) | assumption)
                     have q520 : x6_3 < (t506.length : Int) := of_decide_eq_true (by first | (with_reducible assumption) | assumption)
                     obtain ⟨ad520, e520, hx520_0⟩ := Kd.at_int (Kd.R_reads' HO_4.out).2.2 x6_3 p520 q520
                     cases e520
                     replace p520 := eq_true p520
                     replace q520 := eq_true q520
                     have p521 : 0 ≤ (x6_3 : Int) := of_decide_eq_true (by first | (with_reducible assumption) | assumption)
                     have q521 : x6_3 < (t503.length : Int) := of_decide_eq_true (by first | (with_reducible assumption) | assumption)
                     obtain ⟨ad521, e521, hx521_0⟩ := Kd.at_int (Kd.Q_reads' HO_3.out).2.2 x6_3 p521 q521
                     obtain rfl : ad517 = ad521 := (by injection e521)
                     replace p521 := eq_true p521
                     replace q521 := eq_true q521
                     have p522 : 0 ≤ (x5_2 : Int) := of_decide_eq_true (by first | (with_reducible assumption) | assumption)
                     have q522 : x5_2 < (t503.length : Int) := of_decide_eq_true (by first | (with_reducible assumption) | assumption)
                     obtain ⟨ad522, e522, hx522_0⟩ := Kd.at_int (Kd.Q_reads' HO_3.out).2.2 x5_2 p522 q522
                     obtain rfl : ad517 = ad522 := (by injection e522)
                     replace p522 := eq_true p522
                     replace q522 := eq_true q522
                     have p523 : 0 ≤ (x5_2 : Int) := of_decide_eq_true (by first | (with_reducible assumption) | assumption)
                     have q523 : x5_2 < (t506.length : Int) := of_decide_eq_true (by first | (with_reducible assumption) | assumption)
                     obtain ⟨ad523, e523, hx523_0⟩ := Kd.at_int (Kd.R_reads' HO_4.out).2.2 x5_2 p523 q523
                     obtain rfl : ad520 = ad523 := (by injection e523)
                     replace p523 := eq_true p523
                     replace q523 := eq_true q523
                     go_wp2
                     repeat (go_quiet (fail); try go_wp2)
                     go_roundg k3
                     case measure => have := HJ4.out; have := HK2.out; have := HK3.out; omega
                     case rel => exact ⟨(wrap64 (x6_3 + 1)), (by first | rfl | (simp; done) | (simp [*]; done)), H', ⟨by have := HJ4.out; have := HK2.out; have := HK3.out; omega⟩, ⟨by (with_reducible repeat (first | apply Kd.Q_alloc | apply Kd.Q_drewN | apply Kd.Q_drew)); exact HO_3.out⟩, ⟨by (with_reducible repeat (first | apply Kd.R_alloc | apply Kd.R_drewN | apply Kd.R_drew)); exact HO_4.out⟩, ⟨by repeat (first | (with_reducible first | exact HB.out | apply below_alloc | apply pw_below_drewN | apply below_drew1) | exact HB.out)⟩⟩
                   ·
                    rw [if_neg c37] at H
                    exact absurd H (by simp)
                  ·
                   rw [if_neg c35] at H
                   exact absurd H (by simp)
                 ·
                  rw [if_neg c33] at H
                  have c33b0 : decide ((rd t503 x5_2) ≤ (rd t503 x6_3)) = false := decide_eq_false c33
                  clear c33
                  have H' := Aside0.mk H
                  clear H
                  have p517 : 0 ≤ (x5_2 : Int) := of_decide_eq_true (by first | (with_reducible assumption) | assumption)
                  have q517 : x5_2 < (t503.length : Int) := of_decide_eq_true (by first | (with_reducible assumption) | assumption)
                  obtain ⟨ad517, e517, hx517_0⟩ := Kd.at_int (Kd.Q_reads' HO_3.out).2.2 x5_2 p517 q517
                  cases e517
                  replace p517 := eq_true p517
                  replace q517 := eq_true q517
                  have p518 : 0 ≤ (x6_3 : Int) := of_decide_eq_true (by first | (with_reducible assumption) | assumption)
                  have q518 : x6_3 < (t503.length : Int) := of_decide_eq_true (by first | (with_reducible assumption) | assumption)
                  obtain ⟨ad518, e518, hx518_0⟩ := Kd.at_int (Kd.Q_reads' HO_3.out).2.2 x6_3 p518 q518
                  obtain rfl : ad517 = ad518 := (by injection e518)
                  replace p518 := eq_true p518
                  replace q518 := eq_true q518
                  have p519 : 0 ≤ (x5_2 : Int) := of_decide_eq_true (by first | (with_reducible assumption) | assumption)
                  have q519 : x5_2 < (t503.length : Int) := of_decide_eq_true (by first | (with_reducible assumption) | assumption)
                  obtain ⟨ad519, e519, hx519_0⟩ := Kd.at_int (Kd.Q_reads' HO_3.out).2.2 x5_2 p519 q519
                  obtain rfl : ad517 = ad519 := (by injection e519)
                  replace p519 := eq_true p519
                  replace q519 := eq_true q519
                  go_wp2
                  repeat (go_quiet (fail); try go_wp2)
                  go_roundg k3
                  case measure => have := HJ4.out; have := HK2.out; have := HK3.out; omega
                  case rel => exact ⟨(wrap64 (x6_3 + 1)), (by first | rfl | (simp; done) | (simp [*]; done)), H', ⟨by have := HJ4.out; have := HK2.out; have := HK3.out; omega⟩, ⟨by (with_reducible repeat (first | apply Kd.Q_alloc | apply Kd.Q_drewN | apply Kd.Q_drew)); exact HO_3.out⟩, ⟨by (with_reducible repeat (first | apply Kd.R_alloc | apply Kd.R_drewN | apply Kd.R_drew)); exact HO_4.out⟩, ⟨by repeat (first | (with_reducible first | exact HB.out | apply below_alloc | apply pw_below_drewN | apply below_drew1) | exact HB.out)⟩⟩
                ·
                 rw [if_neg c32] at H
                 exact absurd H (by simp)
               ·
                rw [if_neg c31] at H
                exact absurd H (by simp)
              ·
               rw [if_neg c30] at H
               have c30b0 : decide (0 < (rd t503 x5_2)) = false := decide_eq_false c30
               clear c30
               have H' := Aside0.mk H
               clear H
               have p517 : 0 ≤ (x5_2 : Int) := of_decide_eq_true (by first | (with_reducible assumption) | assumption)
               have q517 : x5_2 < (t503.length : Int) := of_decide_eq_true (by first | (with_reducible assumption) | assumption)
               obtain ⟨ad517, e517, hx517_0⟩ := Kd.at_int (Kd.Q_reads' HO_3.out).2.2 x5_2 p517 q517
               cases e517
               replace p517 := eq_true p517
               replace q517 := eq_true q517
               go_wp2
               repeat (go_quiet (fail); try go_wp2)
               go_roundg k3
               case measure => have := HJ4.out; have := HK2.out; have := HK3.out; omega
               case rel => exact ⟨(wrap64 (x6_3 + 1)), (by first | rfl | (simp; done) | (simp [*]; done)), H', ⟨by have := HJ4.out; have := HK2.out; have := HK3.out; omega⟩, ⟨by (with_reducible repeat (first | apply Kd.Q_alloc | apply Kd.Q_drewN | apply Kd.Q_drew)); exact HO_3.out⟩, ⟨by (with_reducible repeat (first | apply Kd.R_alloc | apply Kd.R_drewN | apply Kd.R_drew)); exact HO_4.out⟩, ⟨by repeat (first | (with_reducible first | exact HB.out | apply below_alloc | apply pw_below_drewN | apply below_drew1) | exact HB.out)⟩⟩
             ·
              rw [if_neg c29] at H
              exact absurd H (by simp)
            ·
             rw [if_neg c28] at H
             exact absurd H (by simp)
          ·
           rw [if_neg c26] at H
           have c26b0 : decide (x6_3 < (t506.length : Int)) = false := decide_eq_false c26
           clear c26
           have H' := Aside0.mk H
           clear H
           go_wp2
           repeat (go_quiet (fail); try go_wp2)
           go_roundg k3
           case measure => have := HJ4.out; have := HK2.out; have := HK3.out; omega
           case rel => exact ⟨(wrap64 (x5_2 + 1)), (by first | rfl | (simp; done) | (simp [*]; done)), H', ⟨by have := HJ4.out; have := HK2.out; have := HK3.out; omega⟩, ⟨by (with_reducible repeat (first | apply Kd.Q_alloc | apply Kd.Q_drewN | apply Kd.Q_drew)); exact HO_3.out⟩, ⟨by (with_reducible repeat (first | apply Kd.R_alloc | apply Kd.R_drewN | apply Kd.R_drew)); exact HO_4.out⟩, ⟨by repeat (first | (with_reducible first | exact HB.out | apply below_alloc | apply pw_below_drewN | apply below_drew1) | exact HB.out)⟩⟩
       ·
        rw [if_neg c24] at H
        have c24b0 : decide (x5_2 < (t506.length : Int)) = false := decide_eq_false c24
        clear c24
        obtain rfl := Option.some.inj H
        obtain ⟨Ao39, co39, eo39⟩ := Kd.R_slice HO_4.out
        subst eo39
        go_wp2
        repeat (go_quiet (fail); try go_wp2)
        go_ret
        exact ⟨by first | rfl | (simp [errW_none, errW_some] <;> rfl) | (simp [*, errW_none, errW_some] <;> rfl), by repeat (first | (with_reducible first | exact HB.out | apply below_alloc | apply pw_below_drewN | apply below_drew1) | exact HB.out)⟩

/-- THE ONE PURE STATEMENT of laws_FnCanonicalCodes: yours. -/
def laws_FnCanonicalCodes.Pure : Prop := ∀ (l0 : List Int), l0.length ≤ maxLen → l0.length * 1 ≤ 140737488351232 → (∀ x ∈ l0, (Lit.int .u8 x).wf = true) → ∃ k, laws_FnCanonicalCodes.f k l0 = some true
theorem laws_FnCanonicalCodes.walk (P : laws_FnCanonicalCodes.Pure) (a0 : Option Addr) (len0 cap0 : Nat) (z0 : List Int) (w : World) (w0 : (a0 = none ∧ len0 = 0 ∧ cap0 = 0 ∧ z0 = []) ∨ ∃ x, a0 = some x ∧ len0 ≤ cap0 ∧ cap0 ≤ maxLen ∧ z0.length = cap0 ∧ (∀ i, i < z0.length → w.cell? (x.add i) = some (.int .u8 (z0.getD i 0))) ∧ ∀ n ∈ z0, (Lit.int .u8 n).wf = true) (y0 : len0 * 1 ≤ 140737488351232) :
  Calls Try.prog 11 #[.slice a0 len0 cap0] w fun e w' => e = .returned (.bool true) ∧ Below w.heap.size w w' := by
 obtain ⟨l0, rfl, hr0, hm0, hw0, hc0⟩ := ReadsInt.ofRowC w0
 obtain ⟨k, h⟩ := P l0 hm0 y0 hw0
 refine (laws_FnCanonicalCodes.calls k _ _ l0 true w (Kd.C_of_reads (d := (0 : Int)) (h1 := fun _ => rfl) hr0) hc0 h rfl).mono ?_
 rintro e w' ⟨rfl, hd⟩
 exact ⟨rfl, hd⟩

end Go.Proofs.Ytcmkijmjafgkfaa.P
