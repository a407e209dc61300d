/- Contracts and row, written by a program of this place out of the translation: the call answers true and its argument reads as before, for every input; no condition. -/
import Derived.Test.YtcmkijmjafgkfaaK0
import Derived.Test.YtcmkijmjafgkfaaK1
import Derived.Test.YtcmkijmjafgkfaaK2
namespace Go.Proofs.Ytcmkijmjafgkfaa.P
open Go.RowKit Go.Proofs.YtcmkijmjafgkfaaW.PrintWords Go.Proofs.YtcmkijmjafgkfaaW.PrintLast Go.Proofs.YtcmkijmjafgkfaaW.PrintMore
attribute [local go_sem] max2_int min2_int max_two min_two max_three min_three max_four min_four   -- for this text's walks alone
set_option linter.unusedVariables false
set_option linter.unusedSimpArgs false

/-! ### laws_FnCanonicalCodesOrder: function 12 -/
mutual
def laws_FnCanonicalCodesOrder.j0 : Nat → List Int → List Int → Bool → Option (Bool)
 | 0, _, _, _ => none
 | k + 1, x3, x4, x26 => if x26 = true then ((spec_CanonicalCodes.f k x3).bind fun t543 => ((laws_equalInts.f k x4 t543).bind fun t546 => (some t546))) else (laws_FnCanonicalCodesOrder.l0 k x3 x4 0)
def laws_FnCanonicalCodesOrder.l0 : Nat → List Int → List Int → Int → Option (Bool)
 | 0, _, _, _ => none
 | k + 1, x3, x4, x5 => if x5 < (x4.length : Int) then (laws_FnCanonicalCodesOrder.l1 k x3 x4 x5 0) else (some true)
def laws_FnCanonicalCodesOrder.l1 : Nat → List Int → List Int → Int → Int → Option (Bool)
 | 0, _, _, _, _ => none
 | k + 1, x3, x4, x5, x6 => if x6 < (x4.length : Int) then (if 0 ≤ x5 then (if x5 < (x3.length : Int) then (if (rd x3 x5) > 0 then (if 0 ≤ x6 then (if x6 < (x3.length : Int) then (if (rd x3 x5) < (rd x3 x6) then (if x5 < (x4.length : Int) then (if 0 ≤ (wrap64 (16 - (rd x3 x5))) then (if 0 ≤ (wrap64 (16 - (rd x3 x6))) then (if (shl .i64 (rd x4 x5) (wrap64 (16 - (rd x3 x5)))) ≥ (shl .i64 (rd x4 x6) (wrap64 (16 - (rd x3 x6)))) then (some false) else (laws_FnCanonicalCodesOrder.l1 k x3 x4 x5 (wrap64 (x6 + 1)))) else (none)) else (none)) else (none)) else (if (rd x3 x5) = (rd x3 x6) then (if x5 < x6 then (if x5 < (x4.length : Int) then (if 0 ≤ (wrap64 (16 - (rd x3 x5))) then (if 0 ≤ (wrap64 (16 - (rd x3 x6))) then (if (shl .i64 (rd x4 x5) (wrap64 (16 - (rd x3 x5)))) ≥ (shl .i64 (rd x4 x6) (wrap64 (16 - (rd x3 x6)))) then (some false) else (laws_FnCanonicalCodesOrder.l1 k x3 x4 x5 (wrap64 (x6 + 1)))) else (none)) else (none)) else (none)) else (laws_FnCanonicalCodesOrder.l1 k x3 x4 x5 (wrap64 (x6 + 1)))) else (laws_FnCanonicalCodesOrder.l1 k x3 x4 x5 (wrap64 (x6 + 1))))) else (none)) else (none)) else (laws_FnCanonicalCodesOrder.l1 k x3 x4 x5 (wrap64 (x6 + 1)))) else (none)) else (none)) else (laws_FnCanonicalCodesOrder.l0 k x3 x4 (wrap64 (x5 + 1)))
end
def laws_FnCanonicalCodesOrder.f (k : Nat) (l0 : List Int) : Option (Bool) := if (l0.length : Int) > 1048576 then (some true) else ((spec_DrawCanonicalCodes.f k l0).bind fun t533 => ((impl_CanonicalCodes.f k t533).bind fun t536 => ((spec_CanonicalCodes.f k t533).bind fun t539 => ((laws_equalInts.f k t536 t539).bind fun t542 => (if t542 = true then (laws_FnCanonicalCodesOrder.j0 k t533 t536 ((t536.length : Int) != (t533.length : Int))) else (laws_FnCanonicalCodesOrder.j0 k t533 t536 true))))))
theorem laws_FnCanonicalCodesOrder.mono_l : ∀ k, (∀ y0 y1 y2, LeO (laws_FnCanonicalCodesOrder.j0 k y0 y1 y2) (laws_FnCanonicalCodesOrder.j0 (k + 1) y0 y1 y2)) ∧ (∀ y0 y1 y2, LeO (laws_FnCanonicalCodesOrder.l0 k y0 y1 y2) (laws_FnCanonicalCodesOrder.l0 (k + 1) y0 y1 y2)) ∧ (∀ y0 y1 y2 y3, LeO (laws_FnCanonicalCodesOrder.l1 k y0 y1 y2 y3) (laws_FnCanonicalCodesOrder.l1 (k + 1) y0 y1 y2 y3))
 | 0 => ⟨fun _ _ _ r h => by simp [laws_FnCanonicalCodesOrder.j0] at h, fun _ _ _ r h => by simp [laws_FnCanonicalCodesOrder.l0] at h, fun _ _ _ _ r h => by simp [laws_FnCanonicalCodesOrder.l1] at h⟩
 | k + 1 => by
  obtain ⟨ih0, ih1, ih2⟩ := laws_FnCanonicalCodesOrder.mono_l k
  refine ⟨?_, ?_, ?_⟩
  ·
   intro y0 y1 y2
   unfold laws_FnCanonicalCodesOrder.j0
   repeat' first
   | (with_reducible exact ih0 _ _ _)
   | (with_reducible exact ih1 _ _ _)
   | (with_reducible exact ih2 _ _ _ _)
   | (with_reducible exact impl_CanonicalCodes.mono _ _)
   | (with_reducible exact laws_equalInts.mono _ _ _)
   | (with_reducible exact spec_CanonicalCodes.mono _ _)
   | (with_reducible exact spec_DrawCanonicalCodes.mono _ _)
   | (with_reducible exact LeO.refl _)
   | (with_reducible exact LeO.none _)
   | (with_reducible refine LeO.ite ?_ ?_)
   | (with_reducible refine LeO.bind ?_ (fun _ => ?_))
   | exact ih0 _ _ _
   | exact ih1 _ _ _
   | exact ih2 _ _ _ _
   | exact impl_CanonicalCodes.mono _ _
   | exact laws_equalInts.mono _ _ _
   | exact spec_CanonicalCodes.mono _ _
   | exact spec_DrawCanonicalCodes.mono _ _
   | exact LeO.none _
   | refine LeO.ite ?_ ?_
   | refine LeO.bind ?_ (fun _ => ?_)
  ·
   intro y0 y1 y2
   unfold laws_FnCanonicalCodesOrder.l0
   repeat' first
   | (with_reducible exact ih0 _ _ _)
   | (with_reducible exact ih1 _ _ _)
   | (with_reducible exact ih2 _ _ _ _)
   | (with_reducible exact impl_CanonicalCodes.mono _ _)
   | (with_reducible exact laws_equalInts.mono _ _ _)
   | (with_reducible exact spec_CanonicalCodes.mono _ _)
   | (with_reducible exact spec_DrawCanonicalCodes.mono _ _)
   | (with_reducible exact LeO.refl _)
   | (with_reducible exact LeO.none _)
   | (with_reducible refine LeO.ite ?_ ?_)
   | (with_reducible refine LeO.bind ?_ (fun _ => ?_))
   | exact ih0 _ _ _
   | exact ih1 _ _ _
   | exact ih2 _ _ _ _
   | exact impl_CanonicalCodes.mono _ _
   | exact laws_equalInts.mono _ _ _
   | exact spec_CanonicalCodes.mono _ _
   | exact spec_DrawCanonicalCodes.mono _ _
   | exact LeO.none _
   | refine LeO.ite ?_ ?_
   | refine LeO.bind ?_ (fun _ => ?_)
  ·
   intro y0 y1 y2 y3
   unfold laws_FnCanonicalCodesOrder.l1
   repeat' first
   | (with_reducible exact ih0 _ _ _)
   | (with_reducible exact ih1 _ _ _)
   | (with_reducible exact ih2 _ _ _ _)
   | (with_reducible exact impl_CanonicalCodes.mono _ _)
   | (with_reducible exact laws_equalInts.mono _ _ _)
   | (with_reducible exact spec_CanonicalCodes.mono _ _)
   | (with_reducible exact spec_DrawCanonicalCodes.mono _ _)
   | (with_reducible exact LeO.refl _)
   | (with_reducible exact LeO.none _)
   | (with_reducible refine LeO.ite ?_ ?_)
   | (with_reducible refine LeO.bind ?_ (fun _ => ?_))
   | exact ih0 _ _ _
   | exact ih1 _ _ _
   | exact ih2 _ _ _ _
   | exact impl_CanonicalCodes.mono _ _
   | exact laws_equalInts.mono _ _ _
   | exact spec_CanonicalCodes.mono _ _
   | exact spec_DrawCanonicalCodes.mono _ _
   | exact LeO.none _
   | refine LeO.ite ?_ ?_
   | refine LeO.bind ?_ (fun _ => ?_)
theorem laws_FnCanonicalCodesOrder.mono : ∀ a0 k, LeO (laws_FnCanonicalCodesOrder.f k a0) (laws_FnCanonicalCodesOrder.f (k + 1) a0) := by
 intro a0 k
 obtain ⟨ih0, ih1, ih2⟩ := laws_FnCanonicalCodesOrder.mono_l k
 unfold laws_FnCanonicalCodesOrder.f
 repeat' first
   | (with_reducible exact ih0 _ _ _)
   | (with_reducible exact ih1 _ _ _)
   | (with_reducible exact ih2 _ _ _ _)
   | (with_reducible exact impl_CanonicalCodes.mono _ _)
   | (with_reducible exact laws_equalInts.mono _ _ _)
   | (with_reducible exact spec_CanonicalCodes.mono _ _)
   | (with_reducible exact spec_DrawCanonicalCodes.mono _ _)
   | (with_reducible exact LeO.refl _)
   | (with_reducible exact LeO.none _)
   | (with_reducible refine LeO.ite ?_ ?_)
   | (with_reducible refine LeO.bind ?_ (fun _ => ?_))
   | exact ih0 _ _ _
   | exact ih1 _ _ _
   | exact ih2 _ _ _ _
   | exact impl_CanonicalCodes.mono _ _
   | exact laws_equalInts.mono _ _ _
   | exact spec_CanonicalCodes.mono _ _
   | exact spec_DrawCanonicalCodes.mono _ _
   | exact LeO.none _
   | refine LeO.ite ?_ ?_
   | refine LeO.bind ?_ (fun _ => ?_)
set_option maxHeartbeats 8000000 in
set_option maxRecDepth 100000 in
theorem laws_FnCanonicalCodesOrder.calls (k : Nat) (A0 : Option Addr) (c0 : Nat) (l0 : List Int) (r : Bool) (w : World) (hr0 : Kd.C (Kd.int .u8) w A0 l0.length l0) (hc0 : l0.length ≤ c0) (h : laws_FnCanonicalCodesOrder.f k l0 = some r) (hrt : r = true) :
  Calls Try.prog 12 #[.slice A0 l0.length c0] w fun e w' => e = .returned (.bool r) ∧ Below w.heap.size w w' := by
 have HR0 := Aside0.mk hr0
 have HC0 := Aside0.mk hc0
 clear hr0 hc0
 have HB := Aside0.mk (Below.refl w.heap.size w)
 have H : (if (l0.length : Int) > 1048576 then (some true) else ((spec_DrawCanonicalCodes.f k l0).bind fun t533 => ((impl_CanonicalCodes.f k t533).bind fun t536 => ((spec_CanonicalCodes.f k t533).bind fun t539 => ((laws_equalInts.f k t536 t539).bind fun t542 => (if t542 = true then (laws_FnCanonicalCodesOrder.j0 k t533 t536 ((t536.length : Int) != (t533.length : Int))) else (laws_FnCanonicalCodesOrder.j0 k t533 t536 true))))))) = some r := h
 clear h
 by_cases c2 : (l0.length : Int) > 1048576
 ·
  rw [if_pos c2] at H
  have c2b0 : decide (1048576 < (l0.length : Int)) = true := decide_eq_true c2
  have c2b1 : decide (1048576 < l0.length) = true := decide_eq_true (by omega)
  clear c2
  obtain rfl := Option.some.inj H
  go_enter Try.func12, Try.ntmps12
  go_wp2
  repeat (go_quiet (fail); try go_wp2)
  go_ret
  exact ⟨by first | rfl | (simp [errW_none, errW_some] <;> rfl) | (simp [*, errW_none, errW_some] <;> rfl), by repeat (first | (with_reducible first | exact HB.out | apply below_alloc | apply pw_below_drewN | apply below_drew1) | exact HB.out)⟩
 ·
  rw [if_neg c2] at H
  have c2b0 : decide (1048576 < (l0.length : Int)) = false := decide_eq_false c2
  have c2b1 : decide (1048576 < l0.length) = false := decide_eq_false (by omega)
  clear c2
  replace H := Option.bind_eq_some_iff.mp H
  obtain ⟨t533, A30, H⟩ := H
  replace H : ((impl_CanonicalCodes.f k t533).bind fun t536 => ((spec_CanonicalCodes.f k t533).bind fun t539 => ((laws_equalInts.f k t536 t539).bind fun t542 => (if t542 = true then (laws_FnCanonicalCodesOrder.j0 k t533 t536 ((t536.length : Int) != (t533.length : Int))) else (laws_FnCanonicalCodesOrder.j0 k t533 t536 true))))) = some r := H
  have A3 := Aside0.mk A30
  clear A30
  replace H := Option.bind_eq_some_iff.mp H
  obtain ⟨t536, A40, H⟩ := H
  replace H : ((spec_CanonicalCodes.f k t533).bind fun t539 => ((laws_equalInts.f k t536 t539).bind fun t542 => (if t542 = true then (laws_FnCanonicalCodesOrder.j0 k t533 t536 ((t536.length : Int) != (t533.length : Int))) else (laws_FnCanonicalCodesOrder.j0 k t533 t536 true)))) = some r := H
  have A4 := Aside0.mk A40
  clear A40
  have HC5 := Aside0.mk H
  clear H
  go_enter Try.func12, Try.ntmps12
  go_upto_region 5 with (first | (go_at_call 27; (with_reducible refine (spec_DrawCanonicalCodes.calls k _ _ l0 t533 _ ?side1 ?side2 A3.out).mono ?_); (case side1 => repeat (first | exact HR0.out | (with_reducible refine Kd.C_alloc ?_ _) | (with_reducible refine Kd.C_drewN ?_ _) | (with_reducible refine Kd.C_drew ?_))); (case side2 => exact HC0.out); rintro e w6 ⟨v534, rfl, ho0, hb⟩; have n0_ := Aside0.mk (Kd.Q_lower ho0 (below_size (qW HB.out))); have n1_ := Aside0.mk (below_step (qW HB.out) hb); clear HB; have HO535 := n0_; have HB := n1_; clear n0_ n1_; (try clear hb); (try clear hb2); (try clear hk); (try clear hi); (try clear ho0); obtain ⟨Ao7, co7, eo7, _⟩ := Kd.Q_slice HO535.out; subst eo7) | (go_at_call 28; (with_reducible refine (impl_CanonicalCodes.calls k _ _ t533 t536 _ ?side1 ?side2 A4.out).mono ?_); (case side1 => repeat (first | exact (Kd.Q_reads' HO535.out).2.2 | (with_reducible refine Kd.C_alloc ?_ _) | (with_reducible refine Kd.C_drewN ?_ _) | (with_reducible refine Kd.C_drew ?_))); (case side2 => exact (Kd.Q_reads' HO535.out).2.1); rintro e w8 ⟨v537, rfl, ho0, hb⟩; have n0_ := Aside0.mk (Kd.Q_elder' (qQ HO535.out) (Kd.R_base ho0) hb); have n1_ := Aside0.mk (Kd.R_lower (Kd.R_new' ho0 (Kd.Q_lt (qQ HO535.out))) (below_size (qW HB.out))); have n2_ := Aside0.mk (below_step (qW HB.out) hb); clear HO535; clear HB; have HO535 := n0_; have HO538 := n1_; have HB := n2_; clear n0_ n1_ n2_; (try clear hb); (try clear hb2); (try clear hk); (try clear hi); (try clear ho0)))
  repeat (go_quiet (first | (go_at_call 27; (with_reducible refine (spec_DrawCanonicalCodes.calls k _ _ l0 t533 _ ?side1 ?side2 A3.out).mono ?_); (case side1 => repeat (first | exact HR0.out | (with_reducible refine Kd.C_alloc ?_ _) | (with_reducible refine Kd.C_drewN ?_ _) | (with_reducible refine Kd.C_drew ?_))); (case side2 => exact HC0.out); rintro e w6 ⟨v534, rfl, ho0, hb⟩; have n0_ := Aside0.mk (Kd.Q_lower ho0 (below_size (qW HB.out))); have n1_ := Aside0.mk (below_step (qW HB.out) hb); clear HB; have HO535 := n0_; have HB := n1_; clear n0_ n1_; (try clear hb); (try clear hb2); (try clear hk); (try clear hi); (try clear ho0); obtain ⟨Ao7, co7, eo7, _⟩ := Kd.Q_slice HO535.out; subst eo7) | (go_at_call 28; (with_reducible refine (impl_CanonicalCodes.calls k _ _ t533 t536 _ ?side1 ?side2 A4.out).mono ?_); (case side1 => repeat (first | exact (Kd.Q_reads' HO535.out).2.2 | (with_reducible refine Kd.C_alloc ?_ _) | (with_reducible refine Kd.C_drewN ?_ _) | (with_reducible refine Kd.C_drew ?_))); (case side2 => exact (Kd.Q_reads' HO535.out).2.1); rintro e w8 ⟨v537, rfl, ho0, hb⟩; have n0_ := Aside0.mk (Kd.Q_elder' (qQ HO535.out) (Kd.R_base ho0) hb); have n1_ := Aside0.mk (Kd.R_lower (Kd.R_new' ho0 (Kd.Q_lt (qQ HO535.out))) (below_size (qW HB.out))); have n2_ := Aside0.mk (below_step (qW HB.out) hb); clear HO535; clear HB; have HO535 := n0_; have HO538 := n1_; have HB := n2_; clear n0_ n1_ n2_; (try clear hb); (try clear hb2); (try clear hk); (try clear hi); (try clear ho0))); go_upto_region 5 with (first | (go_at_call 27; (with_reducible refine (spec_DrawCanonicalCodes.calls k _ _ l0 t533 _ ?side1 ?side2 A3.out).mono ?_); (case side1 => repeat (first | exact HR0.out | (with_reducible refine Kd.C_alloc ?_ _) | (with_reducible refine Kd.C_drewN ?_ _) | (with_reducible refine Kd.C_drew ?_))); (case side2 => exact HC0.out); rintro e w6 ⟨v534, rfl, ho0, hb⟩; have n0_ := Aside0.mk (Kd.Q_lower ho0 (below_size (qW HB.out))); have n1_ := Aside0.mk (below_step (qW HB.out) hb); clear HB; have HO535 := n0_; have HB := n1_; clear n0_ n1_; (try clear hb); (try clear hb2); (try clear hk); (try clear hi); (try clear ho0); obtain ⟨Ao7, co7, eo7, _⟩ := Kd.Q_slice HO535.out; subst eo7) | (go_at_call 28; (with_reducible refine (impl_CanonicalCodes.calls k _ _ t533 t536 _ ?side1 ?side2 A4.out).mono ?_); (case side1 => repeat (first | exact (Kd.Q_reads' HO535.out).2.2 | (with_reducible refine Kd.C_alloc ?_ _) | (with_reducible refine Kd.C_drewN ?_ _) | (with_reducible refine Kd.C_drew ?_))); (case side2 => exact (Kd.Q_reads' HO535.out).2.1); rintro e w8 ⟨v537, rfl, ho0, hb⟩; have n0_ := Aside0.mk (Kd.Q_elder' (qQ HO535.out) (Kd.R_base ho0) hb); have n1_ := Aside0.mk (Kd.R_lower (Kd.R_new' ho0 (Kd.Q_lt (qQ HO535.out))) (below_size (qW HB.out))); have n2_ := Aside0.mk (below_step (qW HB.out) hb); clear HO535; clear HB; have HO535 := n0_; have HO538 := n1_; have HB := n2_; clear n0_ n1_ n2_; (try clear hb); (try clear hb2); (try clear hk); (try clear hi); (try clear ho0))))
  (try simp only [Act.put, List.setIfInBounds_toArray, List.set_cons_zero, List.set_cons_succ])
  go_cut [26] (fun v26 wc => ∃ (kq : Nat) (x26_4 : Bool), v26 = .bool x26_4 ∧ Aside0 (laws_FnCanonicalCodesOrder.j0 kq t533 t536 x26_4 = some r) ∧ Aside0 (kq ≤ k) ∧ Aside0 (Kd.Q (Kd.int .i64) 3 wc w.heap.size (fun k_ => some k_ ≠ (v537 : Value).ownBlock) (.slice Ao7 t533.length co7) t533) ∧ Aside0 (Kd.R (Kd.int .i64) 3 wc w.heap.size (fun k_ => some k_ ≠ ((.slice Ao7 t533.length co7) : Value).ownBlock) v537 t536) ∧ Aside0 (Below w.heap.size w wc))
  case first =>
   have H := HC5.out
   clear HC5
   replace H := Option.bind_eq_some_iff.mp H
   obtain ⟨t539, A90, H⟩ := H
   replace H : ((laws_equalInts.f k t536 t539).bind fun t542 => (if t542 = true then (laws_FnCanonicalCodesOrder.j0 k t533 t536 ((t536.length : Int) != (t533.length : Int))) else (laws_FnCanonicalCodesOrder.j0 k t533 t536 true))) = some r := H
   have A9 := Aside0.mk A90
   clear A90
   replace H := Option.bind_eq_some_iff.mp H
   obtain ⟨t542, A100, H⟩ := H
   replace H : (if t542 = true then (laws_FnCanonicalCodesOrder.j0 k t533 t536 ((t536.length : Int) != (t533.length : Int))) else (laws_FnCanonicalCodesOrder.j0 k t533 t536 true)) = some r := H
   have A10 := Aside0.mk A100
   clear A100
   by_cases c11 : t542 = true
   ·
    subst c11
    have H1 : (laws_FnCanonicalCodesOrder.j0 k t533 t536 ((t536.length : Int) != (t533.length : Int))) = some r := by rw [if_pos rfl] at H; exact H
    clear H
    have H := H1
    clear H1
    have H' := Aside0.mk H
    clear H
    go_wp2_with (first | (go_at_call 29; (with_reducible refine (spec_CanonicalCodes.calls k _ _ t533 t539 _ ?side1 ?side2 A9.out).mono ?_); (case side1 => repeat (first | exact (Kd.Q_reads' HO535.out).2.2 | (with_reducible refine Kd.C_alloc ?_ _) | (with_reducible refine Kd.C_drewN ?_ _) | (with_reducible refine Kd.C_drew ?_))); (case side2 => exact (Kd.Q_reads' HO535.out).2.1); rintro e w12 ⟨v540, rfl, ho0, hb⟩; have n0_ := Aside0.mk (Kd.Q_elder' (qQ HO535.out) (Kd.R_base ho0) hb); have n1_ := Aside0.mk (Kd.R_elder' (qR HO538.out) (Kd.R_base ho0) hb); have n2_ := Aside0.mk (Kd.R_lower (Kd.R_new' (Kd.R_new' ho0 (Kd.Q_lt (qQ HO535.out))) (Kd.R_lt (qR HO538.out))) (below_size (qW HB.out))); have n3_ := Aside0.mk (below_step (qW HB.out) hb); clear HO535; clear HO538; clear HB; have HO535 := n0_; have HO538 := n1_; have HO541 := n2_; have HB := n3_; clear n0_ n1_ n2_ n3_; (try clear hb); (try clear hb2); (try clear hk); (try clear hi); (try clear ho0); obtain ⟨Ao13, co13, eo13⟩ := Kd.R_slice HO538.out; subst eo13; obtain ⟨Ao14, co14, eo14⟩ := Kd.R_slice HO541.out; subst eo14) | (go_at_call 19; (with_reducible refine (laws_equalInts.calls k _ _ t536 _ _ t539 true _ ?side1 ?side2 ?side3 ?side4 A10.out).mono ?_); (case side1 => repeat (first | exact (Kd.R_reads' HO538.out).2.2 | (with_reducible refine Kd.C_alloc ?_ _) | (with_reducible refine Kd.C_drewN ?_ _) | (with_reducible refine Kd.C_drew ?_))); (case side2 => exact (Kd.R_reads' HO538.out).2.1); (case side3 => repeat (first | exact (Kd.R_reads' HO541.out).2.2 | (with_reducible refine Kd.C_alloc ?_ _) | (with_reducible refine Kd.C_drewN ?_ _) | (with_reducible refine Kd.C_drew ?_))); (case side4 => exact (Kd.R_reads' HO541.out).2.1); rintro e w' ⟨rfl, ⟨nd, rfl⟩⟩; (try first | exact ⟨rfl, _, World.drewN_drewN _ _ _⟩ | exact ⟨rfl, _, Eq.trans (World.drewN_drewN _ _ _) (congrArg (World.drewN _) (Nat.add_assoc _ _ _))⟩)))
    repeat (go_quiet (first | (go_at_call 29; (with_reducible refine (spec_CanonicalCodes.calls k _ _ t533 t539 _ ?side1 ?side2 A9.out).mono ?_); (case side1 => repeat (first | exact (Kd.Q_reads' HO535.out).2.2 | (with_reducible refine Kd.C_alloc ?_ _) | (with_reducible refine Kd.C_drewN ?_ _) | (with_reducible refine Kd.C_drew ?_))); (case side2 => exact (Kd.Q_reads' HO535.out).2.1); rintro e w12 ⟨v540, rfl, ho0, hb⟩; have n0_ := Aside0.mk (Kd.Q_elder' (qQ HO535.out) (Kd.R_base ho0) hb); have n1_ := Aside0.mk (Kd.R_elder' (qR HO538.out) (Kd.R_base ho0) hb); have n2_ := Aside0.mk (Kd.R_lower (Kd.R_new' (Kd.R_new' ho0 (Kd.Q_lt (qQ HO535.out))) (Kd.R_lt (qR HO538.out))) (below_size (qW HB.out))); have n3_ := Aside0.mk (below_step (qW HB.out) hb); clear HO535; clear HO538; clear HB; have HO535 := n0_; have HO538 := n1_; have HO541 := n2_; have HB := n3_; clear n0_ n1_ n2_ n3_; (try clear hb); (try clear hb2); (try clear hk); (try clear hi); (try clear ho0); obtain ⟨Ao13, co13, eo13⟩ := Kd.R_slice HO538.out; subst eo13; obtain ⟨Ao14, co14, eo14⟩ := Kd.R_slice HO541.out; subst eo14) | (go_at_call 19; (with_reducible refine (laws_equalInts.calls k _ _ t536 _ _ t539 true _ ?side1 ?side2 ?side3 ?side4 A10.out).mono ?_); (case side1 => repeat (first | exact (Kd.R_reads' HO538.out).2.2 | (with_reducible refine Kd.C_alloc ?_ _) | (with_reducible refine Kd.C_drewN ?_ _) | (with_reducible refine Kd.C_drew ?_))); (case side2 => exact (Kd.R_reads' HO538.out).2.1); (case side3 => repeat (first | exact (Kd.R_reads' HO541.out).2.2 | (with_reducible refine Kd.C_alloc ?_ _) | (with_reducible refine Kd.C_drewN ?_ _) | (with_reducible refine Kd.C_drew ?_))); (case side4 => exact (Kd.R_reads' HO541.out).2.1); rintro e w' ⟨rfl, ⟨nd, rfl⟩⟩; (try first | exact ⟨rfl, _, World.drewN_drewN _ _ _⟩ | exact ⟨rfl, _, Eq.trans (World.drewN_drewN _ _ _) (congrArg (World.drewN _) (Nat.add_assoc _ _ _))⟩))); try go_wp2_with (first | (go_at_call 29; (with_reducible refine (spec_CanonicalCodes.calls k _ _ t533 t539 _ ?side1 ?side2 A9.out).mono ?_); (case side1 => repeat (first | exact (Kd.Q_reads' HO535.out).2.2 | (with_reducible refine Kd.C_alloc ?_ _) | (with_reducible refine Kd.C_drewN ?_ _) | (with_reducible refine Kd.C_drew ?_))); (case side2 => exact (Kd.Q_reads' HO535.out).2.1); rintro e w12 ⟨v540, rfl, ho0, hb⟩; have n0_ := Aside0.mk (Kd.Q_elder' (qQ HO535.out) (Kd.R_base ho0) hb); have n1_ := Aside0.mk (Kd.R_elder' (qR HO538.out) (Kd.R_base ho0) hb); have n2_ := Aside0.mk (Kd.R_lower (Kd.R_new' (Kd.R_new' ho0 (Kd.Q_lt (qQ HO535.out))) (Kd.R_lt (qR HO538.out))) (below_size (qW HB.out))); have n3_ := Aside0.mk (below_step (qW HB.out) hb); clear HO535; clear HO538; clear HB; have HO535 := n0_; have HO538 := n1_; have HO541 := n2_; have HB := n3_; clear n0_ n1_ n2_ n3_; (try clear hb); (try clear hb2); (try clear hk); (try clear hi); (try clear ho0); obtain ⟨Ao13, co13, eo13⟩ := Kd.R_slice HO538.out; subst eo13; obtain ⟨Ao14, co14, eo14⟩ := Kd.R_slice HO541.out; subst eo14) | (go_at_call 19; (with_reducible refine (laws_equalInts.calls k _ _ t536 _ _ t539 true _ ?side1 ?side2 ?side3 ?side4 A10.out).mono ?_); (case side1 => repeat (first | exact (Kd.R_reads' HO538.out).2.2 | (with_reducible refine Kd.C_alloc ?_ _) | (with_reducible refine Kd.C_drewN ?_ _) | (with_reducible refine Kd.C_drew ?_))); (case side2 => exact (Kd.R_reads' HO538.out).2.1); (case side3 => repeat (first | exact (Kd.R_reads' HO541.out).2.2 | (with_reducible refine Kd.C_alloc ?_ _) | (with_reducible refine Kd.C_drewN ?_ _) | (with_reducible refine Kd.C_drew ?_))); (case side4 => exact (Kd.R_reads' HO541.out).2.1); rintro e w' ⟨rfl, ⟨nd, rfl⟩⟩; (try first | exact ⟨rfl, _, World.drewN_drewN _ _ _⟩ | exact ⟨rfl, _, Eq.trans (World.drewN_drewN _ _ _) (congrArg (World.drewN _) (Nat.add_assoc _ _ _))⟩))))
    go_meet
    case rel => exact ⟨_, (((t536.length : Int) != (t533.length : Int))), (by first | rfl | (simp; done) | (simp [*]; done)), H', ⟨by first | omega | exact Nat.le_refl _⟩, ⟨by (with_reducible repeat (first | apply Kd.Q_alloc | apply Kd.Q_drewN | apply Kd.Q_drew)); exact Kd.Q_mono HO535.out (fun _ hk => hk.1.2)⟩, ⟨by (with_reducible repeat (first | apply Kd.R_alloc | apply Kd.R_drewN | apply Kd.R_drew)); exact Kd.R_mono HO538.out (fun _ hk => hk.1.2)⟩, ⟨by repeat (first | (with_reducible first | exact HB.out | apply below_alloc | apply pw_below_drewN | apply below_drew1) | exact HB.out)⟩⟩
   ·
    replace c11 := Bool.eq_false_iff.mpr c11
    subst c11
    have H1 : (laws_FnCanonicalCodesOrder.j0 k t533 t536 true) = some r := by rw [if_neg (show ¬ (false = true) by decide)] at H; exact H
    clear H
    have H := H1
    clear H1
    have H' := Aside0.mk H
    clear H
    go_wp2_with (first | (go_at_call 29; (with_reducible refine (spec_CanonicalCodes.calls k _ _ t533 t539 _ ?side1 ?side2 A9.out).mono ?_); (case side1 => repeat (first | exact (Kd.Q_reads' HO535.out).2.2 | (with_reducible refine Kd.C_alloc ?_ _) | (with_reducible refine Kd.C_drewN ?_ _) | (with_reducible refine Kd.C_drew ?_))); (case side2 => exact (Kd.Q_reads' HO535.out).2.1); rintro e w15 ⟨v540, rfl, ho0, hb⟩; have n0_ := Aside0.mk (Kd.Q_elder' (qQ HO535.out) (Kd.R_base ho0) hb); have n1_ := Aside0.mk (Kd.R_elder' (qR HO538.out) (Kd.R_base ho0) hb); have n2_ := Aside0.mk (Kd.R_lower (Kd.R_new' (Kd.R_new' ho0 (Kd.Q_lt (qQ HO535.out))) (Kd.R_lt (qR HO538.out))) (below_size (qW HB.out))); have n3_ := Aside0.mk (below_step (qW HB.out) hb); clear HO535; clear HO538; clear HB; have HO535 := n0_; have HO538 := n1_; have HO541 := n2_; have HB := n3_; clear n0_ n1_ n2_ n3_; (try clear hb); (try clear hb2); (try clear hk); (try clear hi); (try clear ho0); obtain ⟨Ao16, co16, eo16⟩ := Kd.R_slice HO538.out; subst eo16; obtain ⟨Ao17, co17, eo17⟩ := Kd.R_slice HO541.out; subst eo17) | (go_at_call 19; (with_reducible refine (laws_equalInts.calls k _ _ t536 _ _ t539 false _ ?side1 ?side2 ?side3 ?side4 A10.out).mono ?_); (case side1 => repeat (first | exact (Kd.R_reads' HO538.out).2.2 | (with_reducible refine Kd.C_alloc ?_ _) | (with_reducible refine Kd.C_drewN ?_ _) | (with_reducible refine Kd.C_drew ?_))); (case side2 => exact (Kd.R_reads' HO538.out).2.1); (case side3 => repeat (first | exact (Kd.R_reads' HO541.out).2.2 | (with_reducible refine Kd.C_alloc ?_ _) | (with_reducible refine Kd.C_drewN ?_ _) | (with_reducible refine Kd.C_drew ?_))); (case side4 => exact (Kd.R_reads' HO541.out).2.1); rintro e w' ⟨rfl, ⟨nd, rfl⟩⟩; (try first | exact ⟨rfl, _, World.drewN_drewN _ _ _⟩ | exact ⟨rfl, _, Eq.trans (World.drewN_drewN _ _ _) (congrArg (World.drewN _) (Nat.add_assoc _ _ _))⟩)))
    repeat (go_quiet (first | (go_at_call 29; (with_reducible refine (spec_CanonicalCodes.calls k _ _ t533 t539 _ ?side1 ?side2 A9.out).mono ?_); (case side1 => repeat (first | exact (Kd.Q_reads' HO535.out).2.2 | (with_reducible refine Kd.C_alloc ?_ _) | (with_reducible refine Kd.C_drewN ?_ _) | (with_reducible refine Kd.C_drew ?_))); (case side2 => exact (Kd.Q_reads' HO535.out).2.1); rintro e w15 ⟨v540, rfl, ho0, hb⟩; have n0_ := Aside0.mk (Kd.Q_elder' (qQ HO535.out) (Kd.R_base ho0) hb); have n1_ := Aside0.mk (Kd.R_elder' (qR HO538.out) (Kd.R_base ho0) hb); have n2_ := Aside0.mk (Kd.R_lower (Kd.R_new' (Kd.R_new' ho0 (Kd.Q_lt (qQ HO535.out))) (Kd.R_lt (qR HO538.out))) (below_size (qW HB.out))); have n3_ := Aside0.mk (below_step (qW HB.out) hb); clear HO535; clear HO538; clear HB; have HO535 := n0_; have HO538 := n1_; have HO541 := n2_; have HB := n3_; clear n0_ n1_ n2_ n3_; (try clear hb); (try clear hb2); (try clear hk); (try clear hi); (try clear ho0); obtain ⟨Ao16, co16, eo16⟩ := Kd.R_slice HO538.out; subst eo16; obtain ⟨Ao17, co17, eo17⟩ := Kd.R_slice HO541.out; subst eo17) | (go_at_call 19; (with_reducible refine (laws_equalInts.calls k _ _ t536 _ _ t539 false _ ?side1 ?side2 ?side3 ?side4 A10.out).mono ?_); (case side1 => repeat (first | exact (Kd.R_reads' HO538.out).2.2 | (with_reducible refine Kd.C_alloc ?_ _) | (with_reducible refine Kd.C_drewN ?_ _) | (with_reducible refine Kd.C_drew ?_))); (case side2 => exact (Kd.R_reads' HO538.out).2.1); (case side3 => repeat (first | exact (Kd.R_reads' HO541.out).2.2 | (with_reducible refine Kd.C_alloc ?_ _) | (with_reducible refine Kd.C_drewN ?_ _) | (with_reducible refine Kd.C_drew ?_))); (case side4 => exact (Kd.R_reads' HO541.out).2.1); rintro e w' ⟨rfl, ⟨nd, rfl⟩⟩; (try first | exact ⟨rfl, _, World.drewN_drewN _ _ _⟩ | exact ⟨rfl, _, Eq.trans (World.drewN_drewN _ _ _) (congrArg (World.drewN _) (Nat.add_assoc _ _ _))⟩))); try go_wp2_with (first | (go_at_call 29; (with_reducible refine (spec_CanonicalCodes.calls k _ _ t533 t539 _ ?side1 ?side2 A9.out).mono ?_); (case side1 => repeat (first | exact (Kd.Q_reads' HO535.out).2.2 | (with_reducible refine Kd.C_alloc ?_ _) | (with_reducible refine Kd.C_drewN ?_ _) | (with_reducible refine Kd.C_drew ?_))); (case side2 => exact (Kd.Q_reads' HO535.out).2.1); rintro e w15 ⟨v540, rfl, ho0, hb⟩; have n0_ := Aside0.mk (Kd.Q_elder' (qQ HO535.out) (Kd.R_base ho0) hb); have n1_ := Aside0.mk (Kd.R_elder' (qR HO538.out) (Kd.R_base ho0) hb); have n2_ := Aside0.mk (Kd.R_lower (Kd.R_new' (Kd.R_new' ho0 (Kd.Q_lt (qQ HO535.out))) (Kd.R_lt (qR HO538.out))) (below_size (qW HB.out))); have n3_ := Aside0.mk (below_step (qW HB.out) hb); clear HO535; clear HO538; clear HB; have HO535 := n0_; have HO538 := n1_; have HO541 := n2_; have HB := n3_; clear n0_ n1_ n2_ n3_; (try clear hb); (try clear hb2); (try clear hk); (try clear hi); (try clear ho0); obtain ⟨Ao16, co16, eo16⟩ := Kd.R_slice HO538.out; subst eo16; obtain ⟨Ao17, co17, eo17⟩ := Kd.R_slice HO541.out; subst eo17) | (go_at_call 19; (with_reducible refine (laws_equalInts.calls k _ _ t536 _ _ t539 false _ ?side1 ?side2 ?side3 ?side4 A10.out).mono ?_); (case side1 => repeat (first | exact (Kd.R_reads' HO538.out).2.2 | (with_reducible refine Kd.C_alloc ?_ _) | (with_reducible refine Kd.C_drewN ?_ _) | (with_reducible refine Kd.C_drew ?_))); (case side2 => exact (Kd.R_reads' HO538.out).2.1); (case side3 => repeat (first | exact (Kd.R_reads' HO541.out).2.2 | (with_reducible refine Kd.C_alloc ?_ _) | (with_reducible refine Kd.C_drewN ?_ _) | (with_reducible refine Kd.C_drew ?_))); (case side4 => exact (Kd.R_reads' HO541.out).2.1); rintro e w' ⟨rfl, ⟨nd, rfl⟩⟩; (try first | exact ⟨rfl, _, World.drewN_drewN _ _ _⟩ | exact ⟨rfl, _, Eq.trans (World.drewN_drewN _ _ _) (congrArg (World.drewN _) (Nat.add_assoc _ _ _))⟩))))
    go_meet
    case rel => exact ⟨_, (true), (by first | rfl | (simp; done) | (simp [*]; done)), H', ⟨by first | omega | exact Nat.le_refl _⟩, ⟨by (with_reducible repeat (first | apply Kd.Q_alloc | apply Kd.Q_drewN | apply Kd.Q_drew)); exact Kd.Q_mono HO535.out (fun _ hk => hk.1.2)⟩, ⟨by (with_reducible repeat (first | apply Kd.R_alloc | apply Kd.R_drewN | apply Kd.R_drew)); exact Kd.R_mono HO538.out (fun _ hk => hk.1.2)⟩, ⟨by repeat (first | (with_reducible first | exact HB.out | apply below_alloc | apply pw_below_drewN | apply below_drew1) | exact HB.out)⟩⟩
  case rest =>
   clear HC5
   try clear c1
   try clear c2
   try clear c2b0
   try clear c2b1
   try clear p2
   try clear c11
   try clear c12
   obtain ⟨kq, x26_4, rfl, HA, HJ4, HO_3, HO_4, HB⟩ := hcut
   cases kq with
   | zero => exact absurd HA.out (by simp [laws_FnCanonicalCodesOrder.j0])
   | succ kj4 =>
    have H := HA.out
    clear HA
    simp only [laws_FnCanonicalCodesOrder.j0] at H
    by_cases c18 : x26_4 = true
    ·
     subst c18
     have H1 : ((spec_CanonicalCodes.f kj4 t533).bind fun t543 => ((laws_equalInts.f kj4 t536 t543).bind fun t546 => (some t546))) = some r := by rw [if_pos rfl] at H; exact H
     clear H
     have H := H1
     clear H1
     replace H := Option.bind_eq_some_iff.mp H
     obtain ⟨t543, A190, H⟩ := H
     replace H : ((laws_equalInts.f kj4 t536 t543).bind fun t546 => (some t546)) = some r := H
     have A19 := Aside0.mk A190
     clear A190
     replace H := Option.bind_eq_some_iff.mp H
     obtain ⟨t546, A200, H⟩ := H
     replace H : (some t546) = some r := H
     have A20 := Aside0.mk A200
     clear A200
     obtain rfl := Option.some.inj H
     go_wp2_with (first | (go_at_call 29; (with_reducible refine (spec_CanonicalCodes.calls kj4 _ _ t533 t543 _ ?side1 ?side2 A19.out).mono ?_); (case side1 => repeat (first | exact (Kd.Q_reads' HO_3.out).2.2 | (with_reducible refine Kd.C_alloc ?_ _) | (with_reducible refine Kd.C_drewN ?_ _) | (with_reducible refine Kd.C_drew ?_))); (case side2 => exact (Kd.Q_reads' HO_3.out).2.1); rintro e w21 ⟨v544, rfl, ho0, hb⟩; have n0_ := Aside0.mk (Kd.Q_elder' (qQ HO_3.out) (Kd.R_base ho0) hb); have n1_ := Aside0.mk (Kd.R_elder' (qR HO_4.out) (Kd.R_base ho0) hb); have n2_ := Aside0.mk (Kd.R_lower (Kd.R_new' (Kd.R_new' ho0 (Kd.Q_lt (qQ HO_3.out))) (Kd.R_lt (qR HO_4.out))) (below_size (qW HB.out))); have n3_ := Aside0.mk (below_step (qW HB.out) hb); clear HO_3; clear HO_4; clear HB; have HO_3 := n0_; have HO_4 := n1_; have HO545 := n2_; have HB := n3_; clear n0_ n1_ n2_ n3_; (try clear hb); (try clear hb2); (try clear hk); (try clear hi); (try clear ho0); obtain ⟨Ao22, co22, eo22⟩ := Kd.R_slice HO_4.out; subst eo22; obtain ⟨Ao23, co23, eo23⟩ := Kd.R_slice HO545.out; subst eo23) | (go_at_call 19; (with_reducible refine (laws_equalInts.calls kj4 _ _ t536 _ _ t543 t546 _ ?side1 ?side2 ?side3 ?side4 A20.out).mono ?_); (case side1 => repeat (first | exact (Kd.R_reads' HO_4.out).2.2 | (with_reducible refine Kd.C_alloc ?_ _) | (with_reducible refine Kd.C_drewN ?_ _) | (with_reducible refine Kd.C_drew ?_))); (case side2 => exact (Kd.R_reads' HO_4.out).2.1); (case side3 => repeat (first | exact (Kd.R_reads' HO545.out).2.2 | (with_reducible refine Kd.C_alloc ?_ _) | (with_reducible refine Kd.C_drewN ?_ _) | (with_reducible refine Kd.C_drew ?_))); (case side4 => exact (Kd.R_reads' HO545.out).2.1); rintro e w' ⟨rfl, ⟨nd, rfl⟩⟩; (try first | exact ⟨rfl, _, World.drewN_drewN _ _ _⟩ | exact ⟨rfl, _, Eq.trans (World.drewN_drewN _ _ _) (congrArg (World.drewN _) (Nat.add_assoc _ _ _))⟩)))
     repeat (go_quiet (first | (go_at_call 29; (with_reducible refine (spec_CanonicalCodes.calls kj4 _ _ t533 t543 _ ?side1 ?side2 A19.out).mono ?_); (case side1 => repeat (first | exact (Kd.Q_reads' HO_3.out).2.2 | (with_reducible refine Kd.C_alloc ?_ _) | (with_reducible refine Kd.C_drewN ?_ _) | (with_reducible refine Kd.C_drew ?_))); (case side2 => exact (Kd.Q_reads' HO_3.out).2.1); rintro e w21 ⟨v544, rfl, ho0, hb⟩; have n0_ := Aside0.mk (Kd.Q_elder' (qQ HO_3.out) (Kd.R_base ho0) hb); have n1_ := Aside0.mk (Kd.R_elder' (qR HO_4.out) (Kd.R_base ho0) hb); have n2_ := Aside0.mk (Kd.R_lower (Kd.R_new' (Kd.R_new' ho0 (Kd.Q_lt (qQ HO_3.out))) (Kd.R_lt (qR HO_4.out))) (below_size (qW HB.out))); have n3_ := Aside0.mk (below_step (qW HB.out) hb); clear HO_3; clear HO_4; clear HB; have HO_3 := n0_; have HO_4 := n1_; have HO545 := n2_; have HB := n3_; clear n0_ n1_ n2_ n3_; (try clear hb); (try clear hb2); (try clear hk); (try clear hi); (try clear ho0); obtain ⟨Ao22, co22, eo22⟩ := Kd.R_slice HO_4.out; subst eo22; obtain ⟨Ao23, co23, eo23⟩ := Kd.R_slice HO545.out; subst eo23) | (go_at_call 19; (with_reducible refine (laws_equalInts.calls kj4 _ _ t536 _ _ t543 t546 _ ?side1 ?side2 ?side3 ?side4 A20.out).mono ?_); (case side1 => repeat (first | exact (Kd.R_reads' HO_4.out).2.2 | (with_reducible refine Kd.C_alloc ?_ _) | (with_reducible refine Kd.C_drewN ?_ _) | (with_reducible refine Kd.C_drew ?_))); (case side2 => exact (Kd.R_reads' HO_4.out).2.1); (case side3 => repeat (first | exact (Kd.R_reads' HO545.out).2.2 | (with_reducible refine Kd.C_alloc ?_ _) | (with_reducible refine Kd.C_drewN ?_ _) | (with_reducible refine Kd.C_drew ?_))); (case side4 => exact (Kd.R_reads' HO545.out).2.1); rintro e w' ⟨rfl, ⟨nd, rfl⟩⟩; (try first | exact ⟨rfl, _, World.drewN_drewN _ _ _⟩ | exact ⟨rfl, _, Eq.trans (World.drewN_drewN _ _ _) (congrArg (World.drewN _) (Nat.add_assoc _ _ _))⟩))); try go_wp2_with (first | (go_at_call 29; (with_reducible refine (spec_CanonicalCodes.calls kj4 _ _ t533 t543 _ ?side1 ?side2 A19.out).mono ?_); (case side1 => repeat (first | exact (Kd.Q_reads' HO_3.out).2.2 | (with_reducible refine Kd.C_alloc ?_ _) | (with_reducible refine Kd.C_drewN ?_ _) | (with_reducible refine Kd.C_drew ?_))); (case side2 => exact (Kd.Q_reads' HO_3.out).2.1); rintro e w21 ⟨v544, rfl, ho0, hb⟩; have n0_ := Aside0.mk (Kd.Q_elder' (qQ HO_3.out) (Kd.R_base ho0) hb); have n1_ := Aside0.mk (Kd.R_elder' (qR HO_4.out) (Kd.R_base ho0) hb); have n2_ := Aside0.mk (Kd.R_lower (Kd.R_new' (Kd.R_new' ho0 (Kd.Q_lt (qQ HO_3.out))) (Kd.R_lt (qR HO_4.out))) (below_size (qW HB.out))); have n3_ := Aside0.mk (below_step (qW HB.out) hb); clear HO_3; clear HO_4; clear HB; have HO_3 := n0_; have HO_4 := n1_; have HO545 := n2_; have HB := n3_; clear n0_ n1_ n2_ n3_; (try clear hb); (try clear hb2); (try clear hk); (try clear hi); (try clear ho0); obtain ⟨Ao22, co22, eo22⟩ := Kd.R_slice HO_4.out; subst eo22; obtain ⟨Ao23, co23, eo23⟩ := Kd.R_slice HO545.out; subst eo23) | (go_at_call 19; (with_reducible refine (laws_equalInts.calls kj4 _ _ t536 _ _ t543 t546 _ ?side1 ?side2 ?side3 ?side4 A20.out).mono ?_); (case side1 => repeat (first | exact (Kd.R_reads' HO_4.out).2.2 | (with_reducible refine Kd.C_alloc ?_ _) | (with_reducible refine Kd.C_drewN ?_ _) | (with_reducible refine Kd.C_drew ?_))); (case side2 => exact (Kd.R_reads' HO_4.out).2.1); (case side3 => repeat (first | exact (Kd.R_reads' HO545.out).2.2 | (with_reducible refine Kd.C_alloc ?_ _) | (with_reducible refine Kd.C_drewN ?_ _) | (with_reducible refine Kd.C_drew ?_))); (case side4 => exact (Kd.R_reads' HO545.out).2.1); rintro e w' ⟨rfl, ⟨nd, rfl⟩⟩; (try first | exact ⟨rfl, _, World.drewN_drewN _ _ _⟩ | exact ⟨rfl, _, Eq.trans (World.drewN_drewN _ _ _) (congrArg (World.drewN _) (Nat.add_assoc _ _ _))⟩))))
     go_ret
     exact ⟨by first | rfl | (simp [errW_none, errW_some] <;> rfl) | (simp [*, errW_none, errW_some] <;> rfl), by repeat (first | (with_reducible first | exact HB.out | apply below_alloc | apply pw_below_drewN | apply below_drew1) | exact HB.out)⟩
    ·
     replace c18 := Bool.eq_false_iff.mpr c18
     subst c18
     have H1 : (laws_FnCanonicalCodesOrder.l0 kj4 t533 t536 0) = some r := by rw [if_neg (show ¬ (false = true) by decide)] at H; exact H
     clear H
     have H := H1
     clear H1
     have H' := Aside0.mk H
     clear H
     go_wp2
     repeat (go_quiet (fail); try go_wp2)
     go_loopg [5] kj4 (fun kq v5 w' => ∃ (x5_2 : Int), v5 = .int .i64 x5_2 ∧ Aside0 (laws_FnCanonicalCodesOrder.l0 kq t533 t536 x5_2 = some r) ∧ Aside0 (kq ≤ kj4) ∧ Aside0 (Kd.Q (Kd.int .i64) 3 w' w.heap.size (fun k_ => some k_ ≠ (v537 : Value).ownBlock) (.slice Ao7 t533.length co7) t533) ∧ Aside0 (Kd.R (Kd.int .i64) 3 w' w.heap.size (fun k_ => some k_ ≠ ((.slice Ao7 t533.length co7) : Value).ownBlock) v537 t536) ∧ Aside0 (Below w.heap.size w w'))
     case atStart => exact ⟨(0), (by first | rfl | (simp; done) | (simp [*]; done)), H', ⟨Nat.le_refl _⟩, ⟨by (with_reducible repeat (first | apply Kd.Q_alloc | apply Kd.Q_drewN | apply Kd.Q_drew)); exact HO_3.out⟩, ⟨by (with_reducible repeat (first | apply Kd.R_alloc | apply Kd.R_drewN | apply Kd.R_drew)); exact HO_4.out⟩, ⟨by repeat (first | (with_reducible first | exact HB.out | apply below_alloc | apply pw_below_drewN | apply below_drew1) | exact HB.out)⟩⟩
     case round =>
      clear H'
      try clear c1
      try clear c2
      try clear c2b0
      try clear c2b1
      try clear p2
      try clear c11
      try clear c12
      try clear c18
      try clear p2
      obtain ⟨x5_2, rfl, HA, HK2, HO_3, HO_4, HB⟩ := hrel
      cases gk with
      | zero => exact absurd HA.out (by simp [laws_FnCanonicalCodesOrder.l0])
      | succ k2 =>
       have H := HA.out
       clear HA
       simp only [laws_FnCanonicalCodesOrder.l0] at H
       by_cases c24 : x5_2 < (t536.length : Int)
       ·
        rw [if_pos c24] at H
        have c24b0 : decide (x5_2 < (t536.length : Int)) = true := decide_eq_true c24
        clear c24
        have H' := Aside0.mk H
        clear H
        obtain ⟨Ao25, co25, eo25⟩ := Kd.R_slice HO_4.out
        subst eo25
        go_wp2
        repeat (go_quiet (fail); try go_wp2)
        go_loopg [6] k2 (fun kq v6 w' => ∃ (x6_3 : Int), v6 = .int .i64 x6_3 ∧ Aside0 (laws_FnCanonicalCodesOrder.l1 kq t533 t536 x5_2 x6_3 = some r) ∧ Aside0 (kq ≤ k2) ∧ Aside0 (Kd.Q (Kd.int .i64) 3 w' w.heap.size (fun k_ => some k_ ≠ ((.slice Ao25 t536.length co25) : Value).ownBlock) (.slice Ao7 t533.length co7) t533) ∧ Aside0 (Kd.R (Kd.int .i64) 3 w' w.heap.size (fun k_ => some k_ ≠ ((.slice Ao7 t533.length co7) : Value).ownBlock) (.slice Ao25 t536.length co25) t536) ∧ Aside0 (Below w.heap.size w w'))
        case atStart => exact ⟨(0), (by first | rfl | (simp; done) | (simp [*]; done)), H', ⟨Nat.le_refl _⟩, ⟨by (with_reducible repeat (first | apply Kd.Q_alloc | apply Kd.Q_drewN | apply Kd.Q_drew)); exact HO_3.out⟩, ⟨by (with_reducible repeat (first | apply Kd.R_alloc | apply Kd.R_drewN | apply Kd.R_drew)); exact HO_4.out⟩, ⟨by repeat (first | (with_reducible first | exact HB.out | apply below_alloc | apply pw_below_drewN | apply below_drew1) | exact HB.out)⟩⟩
        case round =>
         clear H'
         try clear c1
         try clear c2
         try clear c2b0
         try clear c2b1
         try clear p2
         try clear c11
         try clear c12
         try clear c18
         try clear c24
         try clear c24b0
         try clear p2
         obtain ⟨x6_3, rfl, HA, HK3, HO_3, HO_4, HB⟩ := hrel
         cases gk with
         | zero => exact absurd HA.out (by simp [laws_FnCanonicalCodesOrder.l1])
         | succ k3 =>
          have H := HA.out
          clear HA
          simp only [laws_FnCanonicalCodesOrder.l1] at H
          by_cases c26 : x6_3 < (t536.length : Int)
          ·
           rw [if_pos c26] at H
           have c26b0 : decide (x6_3 < (t536.length : Int)) = true := decide_eq_true c26
           clear c26
           by_cases c27 : 0 ≤ x5_2
           ·
            rw [if_pos c27] at H
            have c27b0 : decide (0 ≤ x5_2) = true := decide_eq_true c27
            clear c27
            by_cases c28 : x5_2 < (t533.length : Int)
            ·
             rw [if_pos c28] at H
             have c28b0 : decide (x5_2 < (t533.length : Int)) = true := decide_eq_true c28
             clear c28
             by_cases c29 : (rd t533 x5_2) > 0
             ·
              rw [if_pos c29] at H
              have c29b0 : decide (0 < (rd t533 x5_2)) = true := decide_eq_true c29
              clear c29
              by_cases c30 : 0 ≤ x6_3
              ·
               rw [if_pos c30] at H
               have c30b0 : decide (0 ≤ x6_3) = true := decide_eq_true c30
               clear c30
               by_cases c31 : x6_3 < (t533.length : Int)
               ·
                rw [if_pos c31] at H
                have c31b0 : decide (x6_3 < (t533.length : Int)) = true := decide_eq_true c31
                clear c31
                by_cases c32 : (rd t533 x5_2) < (rd t533 x6_3)
                ·
                 rw [if_pos c32] at H
                 have c32b0 : decide ((rd t533 x5_2) < (rd t533 x6_3)) = true := decide_eq_true c32
                 clear c32
                 by_cases c33 : x5_2 < (t536.length : Int)
                 ·
                  rw [if_pos c33] at H
                  have c33b0 : decide (x5_2 < (t536.length : Int)) = true := decide_eq_true c33
                  clear c33
                  obtain ⟨ji34, hji34⟩ : ∃ j_ : Int, (wrap64 (16 - (rd t533 x5_2))) = j_ := ⟨_, rfl⟩
                  replace H : (if 0 ≤ (ji34) then (if 0 ≤ (wrap64 (16 - (rd t533 x6_3))) then (if (shl .i64 (rd t536 x5_2) (ji34)) ≥ (shl .i64 (rd t536 x6_3) (wrap64 (16 - (rd t533 x6_3)))) then (some false) else (laws_FnCanonicalCodesOrder.l1 k3 t533 t536 x5_2 (wrap64 (x6_3 + 1)))) else (none)) else (none)) = some r := by first | (rw [hji34] at H; exact H) | (simp only [hji34] at H ⊢; exact H)
                  have hji34w : (IntKind.i64.wrap (16 - (rd t533 x5_2))) = ji34 := (i64_w _).trans hji34
                  by_cases c35 : 0 ≤ (ji34)
                  ·
                   rw [if_pos c35] at H
                   have c35b0 := eq_true c35
                   have c35b1 : decide (0 ≤ (ji34)) = true := decide_eq_true c35
                   clear c35
                   obtain ⟨ji36, hji36⟩ : ∃ j_ : Int, (shl .i64 (rd t536 x5_2) (ji34)) = j_ := ⟨_, rfl⟩
                   replace H : (if 0 ≤ (wrap64 (16 - (rd t533 x6_3))) then (if (ji36) ≥ (shl .i64 (rd t536 x6_3) (wrap64 (16 - (rd t533 x6_3)))) then (some false) else (laws_FnCanonicalCodesOrder.l1 k3 t533 t536 x5_2 (wrap64 (x6_3 + 1)))) else (none)) = some r := by first | (rw [hji36] at H; exact H) | (simp only [hji36] at H ⊢; exact H)
                   have hji36_ : (IntKind.i64.wrap ((rd t536 x5_2) * 2 ^ min (ji34).toNat 64)) = ji36 := hji36
                   have hji36z : (ji34) ≤ 64 → (IntKind.i64.wrap ((rd t536 x5_2) * 2 ^ (ji34).toNat)) = ji36 := shl_small hji36
                   have hji36y : (wrap64 ((rd t536 x5_2) * 2 ^ min (ji34).toNat 64)) = ji36 := (i64_w _).symm.trans hji36_
                   have hji36x : (ji34) ≤ 64 → (wrap64 ((rd t536 x5_2) * 2 ^ (ji34).toNat)) = ji36 := fun h_ => (i64_w _).symm.trans (hji36z h_)
                   obtain ⟨ji37, hji37⟩ : ∃ j_ : Int, (wrap64 (16 - (rd t533 x6_3))) = j_ := ⟨_, rfl⟩
                   replace H : (if 0 ≤ (ji37) then (if (ji36) ≥ (shl .i64 (rd t536 x6_3) (ji37)) then (some false) else (laws_FnCanonicalCodesOrder.l1 k3 t533 t536 x5_2 (wrap64 (x6_3 + 1)))) else (none)) = some r := by first | (rw [hji37] at H; exact H) | (simp only [hji37] at H ⊢; exact H)
                   have hji37w : (IntKind.i64.wrap (16 - (rd t533 x6_3))) = ji37 := (i64_w _).trans hji37
                   by_cases c38 : 0 ≤ (ji37)
                   ·
                    rw [if_pos c38] at H
                    have c38b0 := eq_true c38
                    have c38b1 : decide (0 ≤ (ji37)) = true := decide_eq_true c38
                    clear c38
                    obtain ⟨ji39, hji39⟩ : ∃ j_ : Int, (shl .i64 (rd t536 x6_3) (ji37)) = j_ := ⟨_, rfl⟩
                    replace H : (if (ji36) ≥ (ji39) then (some false) else (laws_FnCanonicalCodesOrder.l1 k3 t533 t536 x5_2 (wrap64 (x6_3 + 1)))) = some r := by first | (rw [hji39] at H; exact H) | (simp only [hji39] at H ⊢; exact H)
                    have hji39_ : (IntKind.i64.wrap ((rd t536 x6_3) * 2 ^ min (ji37).toNat 64)) = ji39 := hji39
                    have hji39z : (ji37) ≤ 64 → (IntKind.i64.wrap ((rd t536 x6_3) * 2 ^ (ji37).toNat)) = ji39 := shl_small hji39
                    have hji39y : (wrap64 ((rd t536 x6_3) * 2 ^ min (ji37).toNat 64)) = ji39 := (i64_w _).symm.trans hji39_
                    have hji39x : (ji37) ≤ 64 → (wrap64 ((rd t536 x6_3) * 2 ^ (ji37).toNat)) = ji39 := fun h_ => (i64_w _).symm.trans (hji39z h_)
                    by_cases c40 : (ji36) ≥ (ji39)
                    ·
                     rw [if_pos c40] at H
                     have c40b0 : decide ((ji39) ≤ (ji36)) = true := decide_eq_true c40
                     clear c40
                     obtain rfl := Option.some.inj H
                     exact absurd hrt (by decide)
                    ·
                     rw [if_neg c40] at H
                     have c40b0 : decide ((ji39) ≤ (ji36)) = false := decide_eq_false c40
                     clear c40
                     have H' := Aside0.mk H
                     clear H
                     have p547 : 0 ≤ (x5_2 : Int) := of_decide_eq_true (by first | (with_reducible assumption) | assumption)
                     have q547 : x5_2 < (t533.length : Int) := of_decide_eq_true (by first | (with_reducible assumption) | assumption)
                     obtain ⟨ad547, e547, hx547_0⟩ := Kd.at_int (Kd.Q_reads' HO_3.out).2.2 x5_2 p547 q547
                     cases e547
                     replace p547 := eq_true p547
                     replace q547 := eq_true q547
                     have p548 : 0 ≤ (x5_2 : Int) := of_decide_eq_true (by first | (with_reducible assumption) | assumption)
                     have q548 : x5_2 < (t533.length : Int) := of_decide_eq_true (by first | (with_reducible assumption) | assumption)
                     obtain ⟨ad548, e548, hx548_0⟩ := Kd.at_int (Kd.Q_reads' HO_3.out).2.2 x5_2 p548 q548
                     obtain rfl : ad547 = ad548 := (by injection e548)
                     replace p548 := eq_true p548
                     replace q548 := eq_true q548
                     have p549 : 0 ≤ (x6_3 : Int) := of_decide_eq_true (by first | (with_reducible assumption) | assumption)
                     have q549 : x6_3 < (t533.length : Int) := of_decide_eq_true (by first | (with_reducible assumption) | assumption)
                     obtain ⟨ad549, e549, hx549_0⟩ := Kd.at_int (Kd.Q_reads' HO_3.out).2.2 x6_3 p549 q549
                     obtain rfl : ad547 = ad549 := (by injection e549)
                     replace p549 := eq_true p549
                     replace q549 := eq_true q549
                     have p550 : 0 ≤ (x5_2 : Int) := of_decide_eq_true (by first | (with_reducible assumption) | assumption)
                     have q550 : x5_2 < (t536.length : Int) := of_decide_eq_true (by first | (with_reducible assumption) | assumption)
                     obtain ⟨ad550, e550, hx550_0⟩ := Kd.at_int (Kd.R_reads' HO_4.out).2.2 x5_2 p550 q550
                     cases e550
                     replace p550 := eq_true p550
                     replace q550 := eq_true q550
                     have p551 : 0 ≤ (x5_2 : Int) := of_decide_eq_true (by first | (with_reducible assumption) | assumption)
                     have q551 : x5_2 < (t533.length : Int) := of_decide_eq_true (by first | (with_reducible assumption) | assumption)
                     obtain ⟨ad551, e551, hx551_0⟩ := Kd.at_int (Kd.Q_reads' HO_3.out).2.2 x5_2 p551 q551
                     obtain rfl : ad547 = ad551 := (by injection e551)
                     replace p551 := eq_true p551
                     replace q551 := eq_true q551
                     have p552 : 0 ≤ (x6_3 : Int) := of_decide_eq_true (by first | (with_reducible assumption) | assumption)
                     have q552 : x6_3 < (t536.length : Int) := of_decide_eq_true (by first | (with_reducible assumption) | assumption)
                     obtain ⟨ad552, e552, hx552_0⟩ := Kd.at_int (Kd.R_reads' HO_4.out).2.2 x6_3 p552 q552
                     obtain rfl : ad550 = ad552 := (by injection e552)
                     replace p552 := eq_true p552
                     replace q552 := eq_true q552
                     have p553 : 0 ≤ (x6_3 : Int) := of_decide_eq_true (by first | (with_reducible assumption) | assumption)
                     have q553 : x6_3 < (t533.length : Int) := of_decide_eq_true (by first | (with_reducible assumption) | assumption)
                     obtain ⟨ad553, e553, hx553_0⟩ := Kd.at_int (Kd.Q_reads' HO_3.out).2.2 x6_3 p553 q553
                     obtain rfl : ad547 = ad553 := (by injection e553)
                     replace p553 := eq_true p553
                     replace q553 := eq_true q553
                     go_wp2
                     repeat (go_quiet (fail); try go_wp2)
                     go_roundg k3
                     case measure => have := HJ4.out; have := HK2.out; have := HK3.out; omega
                     case rel => exact ⟨(wrap64 (x6_3 + 1)), (by first | rfl | (simp; done) | (simp [*]; done)), H', ⟨by have := HJ4.out; have := HK2.out; have := HK3.out; omega⟩, ⟨by (with_reducible repeat (first | apply Kd.Q_alloc | apply Kd.Q_drewN | apply Kd.Q_drew)); exact HO_3.out⟩, ⟨by (with_reducible repeat (first | apply Kd.R_alloc | apply Kd.R_drewN | apply Kd.R_drew)); exact HO_4.out⟩, ⟨by repeat (first | (with_reducible first | exact HB.out | apply below_alloc | apply pw_below_drewN | apply below_drew1) | exact HB.out)⟩⟩
                   ·
                    rw [if_neg c38] at H
                    exact absurd H (by simp)
                  ·
                   rw [if_neg c35] at H
                   exact absurd H (by simp)
                 ·
                  rw [if_neg c33] at H
                  exact absurd H (by simp)
                ·
                 rw [if_neg c32] at H
                 have c32b0 : decide ((rd t533 x5_2) < (rd t533 x6_3)) = false := decide_eq_false c32
                 clear c32
                 by_cases c41 : (rd t533 x5_2) = (rd t533 x6_3)
                 ·
                  rw [if_pos c41] at H
                  have c41b0 : ((rd t533 x5_2) == (rd t533 x6_3)) = true := beq_iff_eq.mpr c41
                  have c41b1 : ((rd t533 x5_2) != (rd t533 x6_3)) = false := bne_eq_false_iff_eq.mpr c41
                  clear c41
                  by_cases c42 : x5_2 < x6_3
                  ·
                   rw [if_pos c42] at H
                   have c42b0 : decide (x5_2 < x6_3) = true := decide_eq_true c42
                   clear c42
                   by_cases c43 : x5_2 < (t536.length : Int)
                   ·
                    rw [if_pos c43] at H
                    have c43b0 : decide (x5_2 < (t536.length : Int)) = true := decide_eq_true c43
                    clear c43
                    obtain ⟨ji44, hji44⟩ : ∃ j_ : Int, (wrap64 (16 - (rd t533 x5_2))) = j_ := ⟨_, rfl⟩
                    replace H : (if 0 ≤ (ji44) then (if 0 ≤ (wrap64 (16 - (rd t533 x6_3))) then (if (shl .i64 (rd t536 x5_2) (ji44)) ≥ (shl .i64 (rd t536 x6_3) (wrap64 (16 - (rd t533 x6_3)))) then (some false) else (laws_FnCanonicalCodesOrder.l1 k3 t533 t536 x5_2 (wrap64 (x6_3 + 1)))) else (none)) else (none)) = some r := by first | (rw [hji44] at H; exact H) | (simp only [hji44] at H ⊢; exact H)
                    have hji44w : (IntKind.i64.wrap (16 - (rd t533 x5_2))) = ji44 := (i64_w _).trans hji44
                    by_cases c45 : 0 ≤ (ji44)
                    ·
                     rw [if_pos c45] at H
                     have c45b0 := eq_true c45
                     have c45b1 : decide (0 ≤ (ji44)) = true := decide_eq_true c45
                     clear c45
                     obtain ⟨ji46, hji46⟩ : ∃ j_ : Int, (shl .i64 (rd t536 x5_2) (ji44)) = j_ := ⟨_, rfl⟩
                     replace H : (if 0 ≤ (wrap64 (16 - (rd t533 x6_3))) then (if (ji46) ≥ (shl .i64 (rd t536 x6_3) (wrap64 (16 - (rd t533 x6_3)))) then (some false) else (laws_FnCanonicalCodesOrder.l1 k3 t533 t536 x5_2 (wrap64 (x6_3 + 1)))) else (none)) = some r := by first | (rw [hji46] at H; exact H) | (simp only [hji46] at H ⊢; exact H)
                     have hji46_ : (IntKind.i64.wrap ((rd t536 x5_2) * 2 ^ min (ji44).toNat 64)) = ji46 := hji46
                     have hji46z : (ji44) ≤ 64 → (IntKind.i64.wrap ((rd t536 x5_2) * 2 ^ (ji44).toNat)) = ji46 := shl_small hji46
                     have hji46y : (wrap64 ((rd t536 x5_2) * 2 ^ min (ji44).toNat 64)) = ji46 := (i64_w _).symm.trans hji46_
                     have hji46x : (ji44) ≤ 64 → (wrap64 ((rd t536 x5_2) * 2 ^ (ji44).toNat)) = ji46 := fun h_ => (i64_w _).symm.trans (hji46z h_)
                     obtain ⟨ji47, hji47⟩ : ∃ j_ : Int, (wrap64 (16 - (rd t533 x6_3))) = j_ := ⟨_, rfl⟩
                     replace H : (if 0 ≤ (ji47) then (if (ji46) ≥ (shl .i64 (rd t536 x6_3) (ji47)) then (some false) else (laws_FnCanonicalCodesOrder.l1 k3 t533 t536 x5_2 (wrap64 (x6_3 + 1)))) else (none)) = some r := by first | (rw [hji47] at H; exact H) | (simp only [hji47] at H ⊢; exact H)
                     have hji47w : (IntKind.i64.wrap (16 - (rd t533 x6_3))) = ji47 := (i64_w _).trans hji47
                     by_cases c48 : 0 ≤ (ji47)
                     ·
                      rw [if_pos c48] at H
                      have c48b0 := eq_true c48
                      have c48b1 : decide (0 ≤ (ji47)) = true := decide_eq_true c48
                      clear c48
                      obtain ⟨ji49, hji49⟩ : ∃ j_ : Int, (shl .i64 (rd t536 x6_3) (ji47)) = j_ := ⟨_, rfl⟩
                      replace H : (if (ji46) ≥ (ji49) then (some false) else (laws_FnCanonicalCodesOrder.l1 k3 t533 t536 x5_2 (wrap64 (x6_3 + 1)))) = some r := by first | (rw [hji49] at H; exact H) | (simp only [hji49] at H ⊢; exact H)
                      have hji49_ : (IntKind.i64.wrap ((rd t536 x6_3) * 2 ^ min (ji47).toNat 64)) = ji49 := hji49
                      have hji49z : (ji47) ≤ 64 → (IntKind.i64.wrap ((rd t536 x6_3) * 2 ^ (ji47).toNat)) = ji49 := shl_small hji49
                      have hji49y : (wrap64 ((rd t536 x6_3) * 2 ^ min (ji47).toNat 64)) = ji49 := (i64_w _).symm.trans hji49_
                      have hji49x : (ji47) ≤ 64 → (wrap64 ((rd t536 x6_3) * 2 ^ (ji47).toNat)) = ji49 := fun h_ => (i64_w _).symm.trans (hji49z h_)
                      by_cases c50 : (ji46) ≥ (ji49)
                      ·
                       rw [if_pos c50] at H
                       have c50b0 : decide ((ji49) ≤ (ji46)) = true := decide_eq_true c50
                       clear c50
                       obtain rfl := Option.some.inj H
                       exact absurd hrt (by decide)
                      ·
                       rw [if_neg c50] at H
                       have c50b0 : decide ((ji49) ≤ (ji46)) = false := decide_eq_false c50
                       clear c50
                       have H' := Aside0.mk H
                       clear H
                       have p547 : 0 ≤ (x5_2 : Int) := of_decide_eq_true (by first | (with_reducible assumption) | assumption)
                       have q547 : x5_2 < (t533.length : Int) := of_decide_eq_true (by first | (with_reducible assumption) | assumption)
                       obtain ⟨ad547, e547, hx547_0⟩ := Kd.at_int (Kd.Q_reads' HO_3.out).2.2 x5_2 p547 q547
                       cases e547
                       replace p547 := eq_true p547
                       replace q547 := eq_true q547
                       have p548 : 0 ≤ (x5_2 : Int) := of_decide_eq_true (by first | (with_reducible assumption) | assumption)
                       have q548 : x5_2 < (t533.length : Int) := of_decide_eq_true (by first | (with_reducible assumption) | assumption)
                       obtain ⟨ad548, e548, hx548_0⟩ := Kd.at_int (Kd.Q_reads' HO_3.out).2.2 x5_2 p548 q548
                       obtain rfl : ad547 = ad548 := (by injection e548)
                       replace p548 := eq_true p548
                       replace q548 := eq_true q548
                       have p549 : 0 ≤ (x6_3 : Int) := of_decide_eq_true (by first | (with_reducible assumption) | assumption)
                       have q549 : x6_3 < (t533.length : Int) := of_decide_eq_true (by first | (with_reducible assumption) | assumption)
                       obtain ⟨ad549, e549, hx549_0⟩ := Kd.at_int (Kd.Q_reads' HO_3.out).2.2 x6_3 p549 q549
                       obtain rfl : ad547 = ad549 := (by injection e549)
                       replace p549 := eq_true p549
                       replace q549 := eq_true q549
                       have p554 : 0 ≤ (x5_2 : Int) := of_decide_eq_true (by first | (with_reducible assumption) | assumption)
                       have q554 : x5_2 < (t533.length : Int) := of_decide_eq_true (by first | (with_reducible assumption) | assumption)
                       obtain ⟨ad554, e554, hx554_0⟩ := Kd.at_int (Kd.Q_reads' HO_3.out).2.2 x5_2 p554 q554
                       obtain rfl : ad547 = ad554 := (by injection e554)
                       replace p554 := eq_true p554
                       replace q554 := eq_true q554
                       have p555 : 0 ≤ (x6_3 : Int) := of_decide_eq_true (by first | (with_reducible assumption) | assumption)
                       have q555 : x6_3 < (t533.length : Int) := of_decide_eq_true (by first | (with_reducible assumption) | assumption)
                       obtain ⟨ad555, e555, hx555_0⟩ := Kd.at_int (Kd.Q_reads' HO_3.out).2.2 x6_3 p555 q555
                       obtain rfl : ad547 = ad555 := (by injection e555)
                       replace p555 := eq_true p555
                       replace q555 := eq_true q555
                       have p556 : 0 ≤ (x5_2 : Int) := of_decide_eq_true (by first | (with_reducible assumption) | assumption)
                       have q556 : x5_2 < (t536.length : Int) := of_decide_eq_true (by first | (with_reducible assumption) | assumption)
                       obtain ⟨ad556, e556, hx556_0⟩ := Kd.at_int (Kd.R_reads' HO_4.out).2.2 x5_2 p556 q556
                       cases e556
                       replace p556 := eq_true p556
                       replace q556 := eq_true q556
                       have p557 : 0 ≤ (x5_2 : Int) := of_decide_eq_true (by first | (with_reducible assumption) | assumption)
                       have q557 : x5_2 < (t533.length : Int) := of_decide_eq_true (by first | (with_reducible assumption) | assumption)
                       obtain ⟨ad557, e557, hx557_0⟩ := Kd.at_int (Kd.Q_reads' HO_3.out).2.2 x5_2 p557 q557
                       obtain rfl : ad547 = ad557 := (by injection e557)
                       replace p557 := eq_true p557
                       replace q557 := eq_true q557
                       have p558 : 0 ≤ (x6_3 : Int) := of_decide_eq_true (by first | (with_reducible assumption) | assumption)
                       have q558 : x6_3 < (t536.length : Int) := of_decide_eq_true (by first | (with_reducible assumption) | assumption)
                       obtain ⟨ad558, e558, hx558_0⟩ := Kd.at_int (Kd.R_reads' HO_4.out).2.2 x6_3 p558 q558
                       obtain rfl : ad556 = ad558 := (by injection e558)
                       replace p558 := eq_true p558
                       replace q558 := eq_true q558
                       have p559 : 0 ≤ (x6_3 : Int) := of_decide_eq_true (by first | (with_reducible assumption) | assumption)
                       have q559 : x6_3 < (t533.length : Int) := of_decide_eq_true (by first | (with_reducible assumption) | assumption)
                       obtain ⟨ad559, e559, hx559_0⟩ := Kd.at_int (Kd.Q_reads' HO_3.out).2.2 x6_3 p559 q559
                       obtain rfl : ad547 = ad559 := (by injection e559)
                       replace p559 := eq_true p559
                       replace q559 := eq_true q559
                       go_wp2
                       repeat (go_quiet (fail); try go_wp2)
                       go_roundg k3
                       case measure => have := HJ4.out; have := HK2.out; have := HK3.out; omega
                       case rel => exact ⟨(wrap64 (x6_3 + 1)), (by first | rfl | (simp; done) | (simp [*]; done)), H', ⟨by have := HJ4.out; have := HK2.out; have := HK3.out; omega⟩, ⟨by (with_reducible repeat (first | apply Kd.Q_alloc | apply Kd.Q_drewN | apply Kd.Q_drew)); exact HO_3.out⟩, ⟨by (with_reducible repeat (first | apply Kd.R_alloc | apply Kd.R_drewN | apply Kd.R_drew)); exact HO_4.out⟩, ⟨by repeat (first | (with_reducible first | exact HB.out | apply below_alloc | apply pw_below_drewN | apply below_drew1) | exact HB.out)⟩⟩
                     ·
                      rw [if_neg c48] at H
                      exact absurd H (by simp)
                    ·
                     rw [if_neg c45] at H
                     exact absurd H (by simp)
                   ·
                    rw [if_neg c43] at H
                    exact absurd H (by simp)
                  ·
                   rw [if_neg c42] at H
                   have c42b0 : decide (x5_2 < x6_3) = false := decide_eq_false c42
                   clear c42
                   have H' := Aside0.mk H
                   clear H
                   have p547 : 0 ≤ (x5_2 : Int) := of_decide_eq_true (by first | (with_reducible assumption) | assumption)
                   have q547 : x5_2 < (t533.length : Int) := of_decide_eq_true (by first | (with_reducible assumption) | assumption)
                   obtain ⟨ad547, e547, hx547_0⟩ := Kd.at_int (Kd.Q_reads' HO_3.out).2.2 x5_2 p547 q547
                   cases e547
                   replace p547 := eq_true p547
                   replace q547 := eq_true q547
                   have p548 : 0 ≤ (x5_2 : Int) := of_decide_eq_true (by first | (with_reducible assumption) | assumption)
                   have q548 : x5_2 < (t533.length : Int) := of_decide_eq_true (by first | (with_reducible assumption) | assumption)
                   obtain ⟨ad548, e548, hx548_0⟩ := Kd.at_int (Kd.Q_reads' HO_3.out).2.2 x5_2 p548 q548
                   obtain rfl : ad547 = ad548 := (by injection e548)
                   replace p548 := eq_true p548
                   replace q548 := eq_true q548
                   have p549 : 0 ≤ (x6_3 : Int) := of_decide_eq_true (by first | (with_reducible assumption) | assumption)
                   have q549 : x6_3 < (t533.length : Int) := of_decide_eq_true (by first | (with_reducible assumption) | assumption)
                   obtain ⟨ad549, e549, hx549_0⟩ := Kd.at_int (Kd.Q_reads' HO_3.out).2.2 x6_3 p549 q549
                   obtain rfl : ad547 = ad549 := (by injection e549)
                   replace p549 := eq_true p549
                   replace q549 := eq_true q549
                   have p554 : 0 ≤ (x5_2 : Int) := of_decide_eq_true (by first | (with_reducible assumption) | assumption)
                   have q554 : x5_2 < (t533.length : Int) := of_decide_eq_true (by first | (with_reducible assumption) | assumption)
                   obtain ⟨ad554, e554, hx554_0⟩ := Kd.at_int (Kd.Q_reads' HO_3.out).2.2 x5_2 p554 q554
                   obtain rfl : ad547 = ad554 := (by injection e554)
                   replace p554 := eq_true p554
                   replace q554 := eq_true q554
                   have p555 : 0 ≤ (x6_3 : Int) := of_decide_eq_true (by first | (with_reducible assumption) | assumption)
                   have q555 : x6_3 < (t533.length : Int) := of_decide_eq_true (by first | (with_reducible assumption) | assumption)
                   obtain ⟨ad555, e555, hx555_0⟩ := Kd.at_int (Kd.Q_reads' HO_3.out).2.2 x6_3 p555 q555
                   obtain rfl : ad547 = ad555 := (by injection e555)
                   replace p555 := eq_true p555
                   replace q555 := eq_true q555
                   go_wp2
                   repeat (go_quiet (fail); try go_wp2)
                   go_roundg k3
                   case measure => have := HJ4.out; have := HK2.out; have := HK3.out; omega
                   case rel => exact ⟨(wrap64 (x6_3 + 1)), (by first | rfl | (simp; done) | (simp [*]; done)), H', ⟨by have := HJ4.out; have := HK2.out; have := HK3.out; omega⟩, ⟨by (with_reducible repeat (first | apply Kd.Q_alloc | apply Kd.Q_drewN | apply Kd.Q_drew)); exact HO_3.out⟩, ⟨by (with_reducible repeat (first | apply Kd.R_alloc | apply Kd.R_drewN | apply Kd.R_drew)); exact HO_4.out⟩, ⟨by repeat (first | (with_reducible first | exact HB.out | apply below_alloc | apply pw_below_drewN | apply below_drew1) | exact HB.out)⟩⟩
                 ·
                  rw [if_neg c41] at H
                  have c41b0 : ((rd t533 x5_2) == (rd t533 x6_3)) = false := beq_eq_false_iff_ne.mpr c41
                  have c41b1 : ((rd t533 x5_2) != (rd t533 x6_3)) = true := bne_iff_ne.mpr c41
                  have H' := Aside0.mk H
                  clear H
                  have p547 : 0 ≤ (x5_2 : Int) := of_decide_eq_true (by first | (with_reducible assumption) | assumption)
                  have q547 : x5_2 < (t533.length : Int) := of_decide_eq_true (by first | (with_reducible assumption) | assumption)
                  obtain ⟨ad547, e547, hx547_0⟩ := Kd.at_int (Kd.Q_reads' HO_3.out).2.2 x5_2 p547 q547
                  cases e547
                  replace p547 := eq_true p547
                  replace q547 := eq_true q547
                  have p548 : 0 ≤ (x5_2 : Int) := of_decide_eq_true (by first | (with_reducible assumption) | assumption)
                  have q548 : x5_2 < (t533.length : Int) := of_decide_eq_true (by first | (with_reducible assumption) | assumption)
                  obtain ⟨ad548, e548, hx548_0⟩ := Kd.at_int (Kd.Q_reads' HO_3.out).2.2 x5_2 p548 q548
                  obtain rfl : ad547 = ad548 := (by injection e548)
                  replace p548 := eq_true p548
                  replace q548 := eq_true q548
                  have p549 : 0 ≤ (x6_3 : Int) := of_decide_eq_true (by first | (with_reducible assumption) | assumption)
                  have q549 : x6_3 < (t533.length : Int) := of_decide_eq_true (by first | (with_reducible assumption) | assumption)
                  obtain ⟨ad549, e549, hx549_0⟩ := Kd.at_int (Kd.Q_reads' HO_3.out).2.2 x6_3 p549 q549
                  obtain rfl : ad547 = ad549 := (by injection e549)
                  replace p549 := eq_true p549
                  replace q549 := eq_true q549
                  have p554 : 0 ≤ (x5_2 : Int) := of_decide_eq_true (by first | (with_reducible assumption) | assumption)
                  have q554 : x5_2 < (t533.length : Int) := of_decide_eq_true (by first | (with_reducible assumption) | assumption)
                  obtain ⟨ad554, e554, hx554_0⟩ := Kd.at_int (Kd.Q_reads' HO_3.out).2.2 x5_2 p554 q554
                  obtain rfl : ad547 = ad554 := (by injection e554)
                  replace p554 := eq_true p554
                  replace q554 := eq_true q554
                  have p555 : 0 ≤ (x6_3 : Int) := of_decide_eq_true (by first | (with_reducible assumption) | assumption)
                  have q555 : x6_3 < (t533.length : Int) := of_decide_eq_true (by first | (with_reducible assumption) | assumption)
                  obtain ⟨ad555, e555, hx555_0⟩ := Kd.at_int (Kd.Q_reads' HO_3.out).2.2 x6_3 p555 q555
                  obtain rfl : ad547 = ad555 := (by injection e555)
                  replace p555 := eq_true p555
                  replace q555 := eq_true q555
                  go_wp2
                  repeat (go_quiet (fail); try go_wp2)
                  go_roundg k3
                  case measure => have := HJ4.out; have := HK2.out; have := HK3.out; omega
                  case rel => exact ⟨(wrap64 (x6_3 + 1)), (by first | rfl | (simp; done) | (simp [*]; done)), H', ⟨by have := HJ4.out; have := HK2.out; have := HK3.out; omega⟩, ⟨by (with_reducible repeat (first | apply Kd.Q_alloc | apply Kd.Q_drewN | apply Kd.Q_drew)); exact HO_3.out⟩, ⟨by (with_reducible repeat (first | apply Kd.R_alloc | apply Kd.R_drewN | apply Kd.R_drew)); exact HO_4.out⟩, ⟨by repeat (first | (with_reducible first | exact HB.out | apply below_alloc | apply pw_below_drewN | apply below_drew1) | exact HB.out)⟩⟩
               ·
                rw [if_neg c31] at H
                exact absurd H (by simp)
              ·
               rw [if_neg c30] at H
               exact absurd H (by simp)
             ·
              rw [if_neg c29] at H
              have c29b0 : decide (0 < (rd t533 x5_2)) = false := decide_eq_false c29
              clear c29
              have H' := Aside0.mk H
              clear H
              have p547 : 0 ≤ (x5_2 : Int) := of_decide_eq_true (by first | (with_reducible assumption) | assumption)
              have q547 : x5_2 < (t533.length : Int) := of_decide_eq_true (by first | (with_reducible assumption) | assumption)
              obtain ⟨ad547, e547, hx547_0⟩ := Kd.at_int (Kd.Q_reads' HO_3.out).2.2 x5_2 p547 q547
              cases e547
              replace p547 := eq_true p547
              replace q547 := eq_true q547
              go_wp2
              repeat (go_quiet (fail); try go_wp2)
              go_roundg k3
              case measure => have := HJ4.out; have := HK2.out; have := HK3.out; omega
              case rel => exact ⟨(wrap64 (x6_3 + 1)), (by first | rfl | (simp; done) | (simp [*]; done)), H', ⟨by have := HJ4.out; have := HK2.out; have := HK3.out; omega⟩, ⟨by (with_reducible repeat (first | apply Kd.Q_alloc | apply Kd.Q_drewN | apply Kd.Q_drew)); exact HO_3.out⟩, ⟨by (with_reducible repeat (first | apply Kd.R_alloc | apply Kd.R_drewN | apply Kd.R_drew)); exact HO_4.out⟩, ⟨by repeat (first | (with_reducible first | exact HB.out | apply below_alloc | apply pw_below_drewN | apply below_drew1) | exact HB.out)⟩⟩
            ·
             rw [if_neg c28] at H
             exact absurd H (by simp)
           ·
            rw [if_neg c27] at H
            exact absurd H (by simp)
          ·
           rw [if_neg c26] at H
           have c26b0 : decide (x6_3 < (t536.length : Int)) = false := decide_eq_false c26
           clear c26
           have H' := Aside0.mk H
           clear H
           go_wp2
           repeat (go_quiet (fail); try go_wp2)
           go_roundg k3
           case measure => have := HJ4.out; have := HK2.out; have := HK3.out; omega
           case rel => exact ⟨(wrap64 (x5_2 + 1)), (by first | rfl | (simp; done) | (simp [*]; done)), H', ⟨by have := HJ4.out; have := HK2.out; have := HK3.out; omega⟩, ⟨by (with_reducible repeat (first | apply Kd.Q_alloc | apply Kd.Q_drewN | apply Kd.Q_drew)); exact HO_3.out⟩, ⟨by (with_reducible repeat (first | apply Kd.R_alloc | apply Kd.R_drewN | apply Kd.R_drew)); exact HO_4.out⟩, ⟨by repeat (first | (with_reducible first | exact HB.out | apply below_alloc | apply pw_below_drewN | apply below_drew1) | exact HB.out)⟩⟩
       ·
        rw [if_neg c24] at H
        have c24b0 : decide (x5_2 < (t536.length : Int)) = false := decide_eq_false c24
        clear c24
        obtain rfl := Option.some.inj H
        obtain ⟨Ao51, co51, eo51⟩ := Kd.R_slice HO_4.out
        subst eo51
        go_wp2
        repeat (go_quiet (fail); try go_wp2)
        go_ret
        exact ⟨by first | rfl | (simp [errW_none, errW_some] <;> rfl) | (simp [*, errW_none, errW_some] <;> rfl), by repeat (first | (with_reducible first | exact HB.out | apply below_alloc | apply pw_below_drewN | apply below_drew1) | exact HB.out)⟩

/-- THE ONE PURE STATEMENT of laws_FnCanonicalCodesOrder: yours. -/
def laws_FnCanonicalCodesOrder.Pure : Prop := ∀ (l0 : List Int), l0.length ≤ maxLen → l0.length * 1 ≤ 140737488351232 → (∀ x ∈ l0, (Lit.int .u8 x).wf = true) → ∃ k, laws_FnCanonicalCodesOrder.f k l0 = some true
theorem laws_FnCanonicalCodesOrder.walk (P : laws_FnCanonicalCodesOrder.Pure) (a0 : Option Addr) (len0 cap0 : Nat) (z0 : List Int) (w : World) (w0 : (a0 = none ∧ len0 = 0 ∧ cap0 = 0 ∧ z0 = []) ∨ ∃ x, a0 = some x ∧ len0 ≤ cap0 ∧ cap0 ≤ maxLen ∧ z0.length = cap0 ∧ (∀ i, i < z0.length → w.cell? (x.add i) = some (.int .u8 (z0.getD i 0))) ∧ ∀ n ∈ z0, (Lit.int .u8 n).wf = true) (y0 : len0 * 1 ≤ 140737488351232) :
  Calls Try.prog 12 #[.slice a0 len0 cap0] w fun e w' => e = .returned (.bool true) ∧ Below w.heap.size w w' := by
 obtain ⟨l0, rfl, hr0, hm0, hw0, hc0⟩ := ReadsInt.ofRowC w0
 obtain ⟨k, h⟩ := P l0 hm0 y0 hw0
 refine (laws_FnCanonicalCodesOrder.calls k _ _ l0 true w (Kd.C_of_reads (d := (0 : Int)) (h1 := fun _ => rfl) hr0) hc0 h rfl).mono ?_
 rintro e w' ⟨rfl, hd⟩
 exact ⟨rfl, hd⟩

end Go.Proofs.Ytcmkijmjafgkfaa.P
