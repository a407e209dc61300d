/- Contracts and row, written by a program of this place out of the translation: the call answers true and its argument reads as before, for every input; no condition. -/
import Derived.Test.YtbldmekplkjfiaaK0
import Derived.Test.YtbldmekplkjfiaaK1
import Derived.Test.YtbldmekplkjfiaaK2
namespace Go.Proofs.Ytbldmekplkjfiaa.P
open Go.RowKit Go.Proofs.YtbldmekplkjfiaaW.PrintWords Go.Proofs.YtbldmekplkjfiaaW.PrintLast Go.Proofs.YtbldmekplkjfiaaW.PrintMore
attribute [local go_sem] max2_int min2_int max_two min_two max_three min_three max_four min_four   -- for this text's walks alone
set_option linter.unusedVariables false
set_option linter.unusedSimpArgs false
def spec_reader_spoil.f (k : Nat) (s0_0 : List Int) (s0_1 : Int) (l1 : List Int) (a2 : Int) : Option (List Int × Int) := (spec_copyInts.f l1).bind fun t190 => ((spec_reader_pick.f k s0_0 s0_1 20).bind fun bt193 => (if bt193.1 = 0 then (if t190.length < 17592186044416 then (some ((t190 ++ [a2]), bt193.2)) else (none)) else (if bt193.1 = 1 then (if (t190.length : Int) > 0 then (if 1 ≤ (t190.length : Int) then (some ((t190.drop (1 : Int).toNat), bt193.2)) else (none)) else (some (t190, bt193.2))) else (if bt193.1 = 2 then (if (t190.length : Int) > 0 then ((spec_reader_pick.f k s0_0 bt193.2 (t190.length : Int)).bind fun bt201 => ((spec_reader_one.f k s0_0 bt201.2 (([(-1), a2, 0, 1] : List Int))).bind fun bt206 => (if 0 ≤ bt201.1 then (if bt201.1 < (t190.length : Int) then (some ((t190.set (bt201.1 : Int).toNat bt206.1), bt206.2)) else (none)) else (none)))) else (some (t190, bt193.2))) else (some (t190, bt193.2))))))
theorem spec_reader_spoil.mono : ∀ a0 a1 a2 a3 k, LeO (spec_reader_spoil.f k a0 a1 a2 a3) (spec_reader_spoil.f (k + 1) a0 a1 a2 a3) := by
 intro a0 a1 a2 a3 k
 unfold spec_reader_spoil.f
 repeat' first | (with_reducible first | exact spec_reader_one.mono _ _ _ _ | exact spec_reader_pick.mono _ _ _ _ | exact lR | exact lN | refine lI ?_ ?_ | refine lB ?_ fun _ => ?_) | exact spec_reader_one.mono _ _ _ _ | exact spec_reader_pick.mono _ _ _ _ | exact lN | refine lI ?_ ?_ | refine lB ?_ fun _ => ?_
set_option maxHeartbeats 8000000 in
set_option maxRecDepth 100000 in
theorem spec_reader_spoil.calls (k : Nat) (g : Nat) (s0_0 : List Int) (s0_1 : Int) (A1 : Option Addr) (c1 : Nat) (l1 : List Int) (a2 : Int) (r1 : List Int) (r2 : Int) (w0 w : World) (hI : IsS71 w0 w g s0_0 s0_1) (hB : Below w0.heap.size w0 w) (hr1 : Kd.C (Kd.int .i64) w A1 l1.length l1) (hc1 : l1.length ≤ c1) (hf1 : ∀ ad, A1 = some ad → 0 < l1.length → ad.block ≠ g) (h : spec_reader_spoil.f k s0_0 s0_1 l1 a2 = some (r1, r2)) :
  Calls Try.prog 67 #[.pointer (some ⟨g, 0, none⟩), .slice A1 l1.length c1, .int .i64 a2] w fun e w' => ∃ v0_ : Value, e = .returned (v0_) ∧ Kd.Q (Kd.int .i64) 3 w' w.heap.size (fun _ => True) v0_ r1 ∧ IsS71 w0 w' g s0_0 r2 ∧ Below w0.heap.size w0 w' ∧ KeepBut w w' g none := by
 have HR1 := aM hr1
 have HC1 := aM hc1
 clear hr1 hc1
 have HI0 := aM hI
 have HK := aM (KeepBut.refl w g none)
 have HL := aM hB.size
 clear hI
 have HW0 := aM hB.size
 have HB := aM hB
 clear hB
 unfold spec_reader_spoil.f at h
 have H := h
 clear h
 replace H := Option.bind_eq_some_iff.mp H
 obtain ⟨t190, A40, H⟩ := H
 replace H : ((spec_reader_pick.f k s0_0 s0_1 20).bind fun bt193 => (if bt193.1 = 0 then (if t190.length < 17592186044416 then (some ((t190 ++ [a2]), bt193.2)) else (none)) else (if bt193.1 = 1 then (if (t190.length : Int) > 0 then (if 1 ≤ (t190.length : Int) then (some ((t190.drop (1 : Int).toNat), bt193.2)) else (none)) else (some (t190, bt193.2))) else (if bt193.1 = 2 then (if (t190.length : Int) > 0 then ((spec_reader_pick.f k s0_0 bt193.2 (t190.length : Int)).bind fun bt201 => ((spec_reader_one.f k s0_0 bt201.2 (([(-1), a2, 0, 1] : List Int))).bind fun bt206 => (if 0 ≤ bt201.1 then (if bt201.1 < (t190.length : Int) then (some ((t190.set (bt201.1 : Int).toNat bt206.1), bt206.2)) else (none)) else (none)))) else (some (t190, bt193.2))) else (some (t190, bt193.2)))))) = some (r1, r2) := H
 have A4 := aM A40
 clear A40
 replace H := Option.bind_eq_some_iff.mp H
 obtain ⟨⟨t193, t194⟩, A50, H⟩ := H
 replace H : (if t193 = 0 then (if t190.length < 17592186044416 then (some ((t190 ++ [a2]), t194)) else (none)) else (if t193 = 1 then (if (t190.length : Int) > 0 then (if 1 ≤ (t190.length : Int) then (some ((t190.drop (1 : Int).toNat), t194)) else (none)) else (some (t190, t194))) else (if t193 = 2 then (if (t190.length : Int) > 0 then ((spec_reader_pick.f k s0_0 t194 (t190.length : Int)).bind fun bt201 => ((spec_reader_one.f k s0_0 bt201.2 (([(-1), a2, 0, 1] : List Int))).bind fun bt206 => (if 0 ≤ bt201.1 then (if bt201.1 < (t190.length : Int) then (some ((t190.set (bt201.1 : Int).toNat bt206.1), bt206.2)) else (none)) else (none)))) else (some (t190, t194))) else (some (t190, t194))))) = some (r1, r2) := H
 have A5 := aM A50
 clear A50
 by_cases c6 : t193 = 0
 ·rw [if_pos c6] at H
  have c6b0 : (t193 == 0) = true := beq_iff_eq.mpr c6
  have c6b1 : (t193 != 0) = false := bne_eq_false_iff_eq.mpr c6
  clear c6
  replace H := iS H
  obtain ⟨c7, H⟩ := H
  have LMc7 := aM c7
  clear c7
  obtain ⟨y195, hy195⟩ : ∃ y_ : List Int, y_ = (t190 ++ [a2]) := ⟨_, rfl⟩
  replace H : (some (y195, t194)) = some (r1, r2) := rY hy195 H
  have Ny195 := aM hy195
  clear hy195
  simp only [Option.some.injEq, Prod.mk.injEq] at H
  obtain ⟨rfl, rfl⟩ := H
  go_enter Try.func67, Try.ntmps67
  go_wp2_with (first | ((with_reducible refine gate_callee (f := 88) rfl ?_); refine gL (some 9) Try.func88 #[.slice A1 l1.length c1] ?_; (with_reducible refine (spec_copyInts.calls _ _ l1 t190 _ ?side1 ?side2 A4.out).mono ?_); (case side1 => exact Kd.C_keep 0 HR1.out (kB HK.out) hf1); (case side2 => exact HC1.out); rintro e w8 ⟨v191, rfl, ho0, hb⟩; refine ⟨_, rfl, ?_⟩; have HO192 := lK ho0 HK; replace HK := aM (KeepBut.trans (kB HK.out) (KeepBut.of_below hb g none) (.inl rfl)); replace HB := aM (below_step (wS71 HB.out) hb); replace HI0 := aM (IsS71.below (iS71 HI0.out) hb); clear hb ho0) | ((with_reducible refine gate_callee (f := 51) rfl ?_); refine gL (some 11) Try.func51 #[.pointer (some ⟨g, 0, none⟩), .int .i64 20] ?_; (with_reducible refine (spec_reader_pick.calls k g s0_0 s0_1 20 t193 t194 w0 _ ?side1 ?side2 A5.out).mono ?_); (case side1 => exact iS71 HI0.out); (case side2 => exact wS71 HB.out); rintro e w9 ⟨rfl, hi, hb, hk⟩; refine ⟨_, rfl, ?_⟩; replace HO192 := aM (Kd.R_mono (Kd.R_keep (IsS71.apart (show IsS71 w0 _ g s0_0 s0_1 from iS71 HI0.out) (qR HO192.out) (by decide)) hk (fun _ h => h.2)) (fun _ h => h.1)); replace HK := aM (KeepBut.trans (kB HK.out) hk (.inl rfl)); replace HB := aM (hb); replace HI0 := aM (hi); clear hb hk hi) | ((with_reducible refine gate_builtin (b := .append) (xs := #[.tmp 14, .tmp 16]) rfl ?_); at_builtin; refine Kd.R_append (Kd.int .i64) w.heap.size rfl (.tmp 14) (.tmp 16) 28 3 (.int .i64 0) 8 rfl Try.underlying28 info3 rfl (by decide) (by omega) v191 t190 a2 [.int .i64 a2] (fun _ => True) (fun _ => False) rfl rfl ?aP (fun _ hk => hk.elim) ?aF ?aO (Below.refl _ _) ?aS ?aL ?_; (case aP => exact rfl); (case aF => exact (fun _ _ => trivial)); (case aO => exact (qR HO192.out)); (case aS => exact (keep_size (w := w) (g := g) (row := none) (kB HK.out))); (case aL => have := LMc7.out; omega); intro v196 w10 ho hb hg hat; rw [← Ny195.out] at ho; replace HB := aM (below_weaken (wS71 HB.out) HL.out hb); replace HI0 := aM (IsS71.grown (iS71 HI0.out) hg (IsS71.own_ne HI0.out HO192.out (by decide))); replace HK := aM (KeepBut.trans (kB HK.out) (KeepBut.of_grown hg g) (Kd.R_base2 HO192.out)); have HO197 := aM (ho); clear HO192; clear ho hb hg hat))
  go_ret
  exact ⟨_, qX, Kd.Q_of_R (qR HO197.out), iS71 HI0.out, wS71 HB.out, kB HK.out⟩
 rw [if_neg c6] at H
 have c6b0 : (t193 == 0) = false := beq_eq_false_iff_ne.mpr c6
 have c6b1 : (t193 != 0) = true := bne_iff_ne.mpr c6
 by_cases c11 : t193 = 1
 ·rw [if_pos c11] at H
  have c11b0 : (t193 == 1) = true := beq_iff_eq.mpr c11
  have c11b1 : (t193 != 1) = false := bne_eq_false_iff_eq.mpr c11
  clear c11
  by_cases c12 : (t190.length : Int) > 0
  rotate_left
  ·rw [if_neg c12] at H
   have c12b0 : decide (0 < (t190.length : Int)) = false := decide_eq_false c12
   have c12b1 : decide (0 < t190.length) = false := decide_eq_false (by omega)
   clear c12
   simp only [Option.some.injEq, Prod.mk.injEq] at H
   obtain ⟨rfl, rfl⟩ := H
   go_enter Try.func67, Try.ntmps67
   go_wp2_with (first | ((with_reducible refine gate_callee (f := 88) rfl ?_); refine gL (some 9) Try.func88 #[.slice A1 l1.length c1] ?_; (with_reducible refine (spec_copyInts.calls _ _ l1 t190 _ ?side1 ?side2 A4.out).mono ?_); (case side1 => exact Kd.C_keep 0 HR1.out (kB HK.out) hf1); (case side2 => exact HC1.out); rintro e w18 ⟨v191, rfl, ho0, hb⟩; refine ⟨_, rfl, ?_⟩; have HO192 := lK ho0 HK; replace HK := aM (KeepBut.trans (kB HK.out) (KeepBut.of_below hb g none) (.inl rfl)); replace HB := aM (below_step (wS71 HB.out) hb); replace HI0 := aM (IsS71.below (iS71 HI0.out) hb); clear hb ho0) | ((with_reducible refine gate_callee (f := 51) rfl ?_); refine gL (some 11) Try.func51 #[.pointer (some ⟨g, 0, none⟩), .int .i64 20] ?_; (with_reducible refine (spec_reader_pick.calls k g s0_0 s0_1 20 t193 t194 w0 _ ?side1 ?side2 A5.out).mono ?_); (case side1 => exact iS71 HI0.out); (case side2 => exact wS71 HB.out); rintro e w19 ⟨rfl, hi, hb, hk⟩; refine ⟨_, rfl, ?_⟩; replace HO192 := aM (Kd.R_mono (Kd.R_keep (IsS71.apart (show IsS71 w0 _ g s0_0 s0_1 from iS71 HI0.out) (qR HO192.out) (by decide)) hk (fun _ h => h.2)) (fun _ h => h.1)); replace HK := aM (KeepBut.trans (kB HK.out) hk (.inl rfl)); replace HB := aM (hb); replace HI0 := aM (hi); clear hb hk hi; obtain ⟨Ao20, co20, rfl⟩ := sL HO192))
   go_ret
   exact ⟨_, qX, Kd.Q_of_R (qR HO192.out), iS71 HI0.out, wS71 HB.out, kB HK.out⟩
  rw [if_pos c12] at H
  have c12b0 : decide (0 < (t190.length : Int)) = true := decide_eq_true c12
  have c12b1 : decide (0 < t190.length) = true := decide_eq_true (by omega)
  clear c12
  replace H := iS H
  obtain ⟨c13, H⟩ := H
  have c13b0 := eq_true c13
  have c13b1 : decide (1 ≤ (t190.length : Int)) = true := decide_eq_true c13
  clear c13
  obtain ⟨y198, hy198⟩ : ∃ y_ : List Int, y_ = (t190.drop (1 : Int).toNat) := ⟨_, rfl⟩
  replace H : (some (y198, t194)) = some (r1, r2) := rY hy198 H
  have Ny198 := aM hy198
  clear hy198
  simp only [Option.some.injEq, Prod.mk.injEq] at H
  obtain ⟨rfl, rfl⟩ := H
  go_enter Try.func67, Try.ntmps67
  go_wp2_with (first | ((with_reducible refine gate_callee (f := 88) rfl ?_); refine gL (some 9) Try.func88 #[.slice A1 l1.length c1] ?_; (with_reducible refine (spec_copyInts.calls _ _ l1 t190 _ ?side1 ?side2 A4.out).mono ?_); (case side1 => exact Kd.C_keep 0 HR1.out (kB HK.out) hf1); (case side2 => exact HC1.out); rintro e w14 ⟨v191, rfl, ho0, hb⟩; refine ⟨_, rfl, ?_⟩; have HO192 := lK ho0 HK; replace HK := aM (KeepBut.trans (kB HK.out) (KeepBut.of_below hb g none) (.inl rfl)); replace HB := aM (below_step (wS71 HB.out) hb); replace HI0 := aM (IsS71.below (iS71 HI0.out) hb); clear hb ho0) | ((with_reducible refine gate_callee (f := 51) rfl ?_); refine gL (some 11) Try.func51 #[.pointer (some ⟨g, 0, none⟩), .int .i64 20] ?_; (with_reducible refine (spec_reader_pick.calls k g s0_0 s0_1 20 t193 t194 w0 _ ?side1 ?side2 A5.out).mono ?_); (case side1 => exact iS71 HI0.out); (case side2 => exact wS71 HB.out); rintro e w15 ⟨rfl, hi, hb, hk⟩; refine ⟨_, rfl, ?_⟩; replace HO192 := aM (Kd.R_mono (Kd.R_keep (IsS71.apart (show IsS71 w0 _ g s0_0 s0_1 from iS71 HI0.out) (qR HO192.out) (by decide)) hk (fun _ h => h.2)) (fun _ h => h.1)); replace HK := aM (KeepBut.trans (kB HK.out) hk (.inl rfl)); replace HB := aM (hb); replace HI0 := aM (hi); clear hb hk hi; obtain ⟨Ao16, co16, rfl⟩ := sL HO192; have q17 : (1 : Int) ≤ ((t190.length : Int) : Int) := oD; obtain ⟨i017, hi017, _, hsz17, _⟩ := info_parts info3; have hcut17 := cut_from (P := Try.prog) 28 3 .i64 Try.underlying28 hi017 1 hsz17 Ao16 t190.length co16 1 (by omega) q17; have hr17 := Kd.Q_drop (k := (1 : Int).toNat) (Kd.Q_of_R HO192.out) (by omega); obtain ⟨A17, hA17⟩ : ∃ A1, A1 = (if co16 = (1 : Int).toNat then Ao16 else (Ao16 : Option Addr).map (·.add ((1 : Int).toNat * 1))) := ⟨_, rfl⟩; obtain ⟨c17, hc17⟩ : ∃ c1, c1 = co16 - (1 : Int).toNat := ⟨_, rfl⟩; have hy17 : y198.length = t190.length - (1 : Int).toNat := (by rw [Ny198.out, List.length_drop]); rw [← Ny198.out] at hr17; rw [← hy17, ← hA17, ← hc17] at hcut17; replace hr17 : Kd.Q (Kd.int .i64) 3 w15 w.heap.size (fun _ => True) (.slice A17 y198.length c17) y198 := (by rw [hA17, hc17, hy17]; exact hr17); have HE17 : Aside0 ((Value.slice A17 y198.length c17).ownBlock = (.slice Ao16 t190.length co16 : Value).ownBlock) := ⟨by rw [hA17]; split <;> (cases (Ao16 : Option Addr) <;> rfl)⟩; clear hy17 hi017 hsz17 HO192 hA17 hc17; have HO200 := aM hr17; clear hr17; replace q17 := eq_true q17))
  go_ret
  exact ⟨_, qX, by (with_reducible repeat (first | apply Kd.Q_alloc | apply Kd.Q_drewN | apply Kd.Q_drew)); exact HO200.out, iS71 HI0.out, wS71 HB.out, kB HK.out⟩
 rw [if_neg c11] at H
 have c11b0 : (t193 == 1) = false := beq_eq_false_iff_ne.mpr c11
 have c11b1 : (t193 != 1) = true := bne_iff_ne.mpr c11
 by_cases c21 : t193 = 2
 rotate_left
 ·rw [if_neg c21] at H
  have c21b0 : (t193 == 2) = false := beq_eq_false_iff_ne.mpr c21
  have c21b1 : (t193 != 2) = true := bne_iff_ne.mpr c21
  simp only [Option.some.injEq, Prod.mk.injEq] at H
  obtain ⟨rfl, rfl⟩ := H
  go_enter Try.func67, Try.ntmps67
  go_wp2_with (first | ((with_reducible refine gate_callee (f := 88) rfl ?_); refine gL (some 9) Try.func88 #[.slice A1 l1.length c1] ?_; (with_reducible refine (spec_copyInts.calls _ _ l1 t190 _ ?side1 ?side2 A4.out).mono ?_); (case side1 => exact Kd.C_keep 0 HR1.out (kB HK.out) hf1); (case side2 => exact HC1.out); rintro e w41 ⟨v191, rfl, ho0, hb⟩; refine ⟨_, rfl, ?_⟩; have HO192 := lK ho0 HK; replace HK := aM (KeepBut.trans (kB HK.out) (KeepBut.of_below hb g none) (.inl rfl)); replace HB := aM (below_step (wS71 HB.out) hb); replace HI0 := aM (IsS71.below (iS71 HI0.out) hb); clear hb ho0) | ((with_reducible refine gate_callee (f := 51) rfl ?_); refine gL (some 11) Try.func51 #[.pointer (some ⟨g, 0, none⟩), .int .i64 20] ?_; (with_reducible refine (spec_reader_pick.calls k g s0_0 s0_1 20 t193 t194 w0 _ ?side1 ?side2 A5.out).mono ?_); (case side1 => exact iS71 HI0.out); (case side2 => exact wS71 HB.out); rintro e w42 ⟨rfl, hi, hb, hk⟩; refine ⟨_, rfl, ?_⟩; replace HO192 := aM (Kd.R_mono (Kd.R_keep (IsS71.apart (show IsS71 w0 _ g s0_0 s0_1 from iS71 HI0.out) (qR HO192.out) (by decide)) hk (fun _ h => h.2)) (fun _ h => h.1)); replace HK := aM (KeepBut.trans (kB HK.out) hk (.inl rfl)); replace HB := aM (hb); replace HI0 := aM (hi); clear hb hk hi))
  go_ret
  exact ⟨_, qX, Kd.Q_of_R (qR HO192.out), iS71 HI0.out, wS71 HB.out, kB HK.out⟩
 rw [if_pos c21] at H
 have c21b0 : (t193 == 2) = true := beq_iff_eq.mpr c21
 have c21b1 : (t193 != 2) = false := bne_eq_false_iff_eq.mpr c21
 clear c21
 by_cases c22 : (t190.length : Int) > 0
 rotate_left
 ·rw [if_neg c22] at H
  have c22b0 : decide (0 < (t190.length : Int)) = false := decide_eq_false c22
  have c22b1 : decide (0 < t190.length) = false := decide_eq_false (by omega)
  clear c22
  simp only [Option.some.injEq, Prod.mk.injEq] at H
  obtain ⟨rfl, rfl⟩ := H
  go_enter Try.func67, Try.ntmps67
  go_wp2_with (first | ((with_reducible refine gate_callee (f := 88) rfl ?_); refine gL (some 9) Try.func88 #[.slice A1 l1.length c1] ?_; (with_reducible refine (spec_copyInts.calls _ _ l1 t190 _ ?side1 ?side2 A4.out).mono ?_); (case side1 => exact Kd.C_keep 0 HR1.out (kB HK.out) hf1); (case side2 => exact HC1.out); rintro e w38 ⟨v191, rfl, ho0, hb⟩; refine ⟨_, rfl, ?_⟩; have HO192 := lK ho0 HK; replace HK := aM (KeepBut.trans (kB HK.out) (KeepBut.of_below hb g none) (.inl rfl)); replace HB := aM (below_step (wS71 HB.out) hb); replace HI0 := aM (IsS71.below (iS71 HI0.out) hb); clear hb ho0) | ((with_reducible refine gate_callee (f := 51) rfl ?_); refine gL (some 11) Try.func51 #[.pointer (some ⟨g, 0, none⟩), .int .i64 20] ?_; (with_reducible refine (spec_reader_pick.calls k g s0_0 s0_1 20 t193 t194 w0 _ ?side1 ?side2 A5.out).mono ?_); (case side1 => exact iS71 HI0.out); (case side2 => exact wS71 HB.out); rintro e w39 ⟨rfl, hi, hb, hk⟩; refine ⟨_, rfl, ?_⟩; replace HO192 := aM (Kd.R_mono (Kd.R_keep (IsS71.apart (show IsS71 w0 _ g s0_0 s0_1 from iS71 HI0.out) (qR HO192.out) (by decide)) hk (fun _ h => h.2)) (fun _ h => h.1)); replace HK := aM (KeepBut.trans (kB HK.out) hk (.inl rfl)); replace HB := aM (hb); replace HI0 := aM (hi); clear hb hk hi; obtain ⟨Ao40, co40, rfl⟩ := sL HO192))
  go_ret
  exact ⟨_, qX, Kd.Q_of_R (qR HO192.out), iS71 HI0.out, wS71 HB.out, kB HK.out⟩
 rw [if_pos c22] at H
 have c22b0 : decide (0 < (t190.length : Int)) = true := decide_eq_true c22
 have c22b1 : decide (0 < t190.length) = true := decide_eq_true (by omega)
 clear c22
 replace H := Option.bind_eq_some_iff.mp H
 obtain ⟨⟨t201, t202⟩, A230, H⟩ := H
 replace H : ((spec_reader_one.f k s0_0 t202 (([(-1), a2, 0, 1] : List Int))).bind fun bt206 => (if 0 ≤ t201 then (if t201 < (t190.length : Int) then (some ((t190.set (t201 : Int).toNat bt206.1), bt206.2)) else (none)) else (none))) = some (r1, r2) := H
 have A23 := aM A230
 clear A230
 obtain ⟨y203, hy203⟩ : ∃ y_ : List Int, y_ = (([(-1), a2, 0, 1] : List Int)) := ⟨_, rfl⟩
 replace H : ((spec_reader_one.f k s0_0 t202 y203).bind fun bt206 => (if 0 ≤ t201 then (if t201 < (t190.length : Int) then (some ((t190.set (t201 : Int).toNat bt206.1), bt206.2)) else (none)) else (none))) = some (r1, r2) := rY hy203 H
 have Ny203 := aM hy203
 clear hy203
 replace H := Option.bind_eq_some_iff.mp H
 obtain ⟨⟨t206, t207⟩, A240, H⟩ := H
 replace H : (if 0 ≤ t201 then (if t201 < (t190.length : Int) then (some ((t190.set (t201 : Int).toNat t206), t207)) else (none)) else (none)) = some (r1, r2) := H
 have A24 := aM A240
 clear A240
 replace H := iD H
 obtain ⟨c25b0, H⟩ := H
 replace H := iD H
 obtain ⟨c26b0, H⟩ := H
 obtain ⟨y208, hy208⟩ : ∃ y_ : List Int, y_ = (t190.set (t201 : Int).toNat t206) := ⟨_, rfl⟩
 replace H : (some (y208, t207)) = some (r1, r2) := rY hy208 H
 have Ny208 := aM hy208
 clear hy208
 simp only [Option.some.injEq, Prod.mk.injEq] at H
 obtain ⟨rfl, rfl⟩ := H
 go_enter Try.func67, Try.ntmps67
 go_wp2_with (first | ((with_reducible refine gate_callee (f := 88) rfl ?_); refine gL (some 9) Try.func88 #[.slice A1 l1.length c1] ?_; (with_reducible refine (spec_copyInts.calls _ _ l1 t190 _ ?side1 ?side2 A4.out).mono ?_); (case side1 => exact Kd.C_keep 0 HR1.out (kB HK.out) hf1); (case side2 => exact HC1.out); rintro e w28 ⟨v191, rfl, ho0, hb⟩; refine ⟨_, rfl, ?_⟩; have HO192 := lK ho0 HK; replace HK := aM (KeepBut.trans (kB HK.out) (KeepBut.of_below hb g none) (.inl rfl)); replace HB := aM (below_step (wS71 HB.out) hb); replace HI0 := aM (IsS71.below (iS71 HI0.out) hb); clear hb ho0) | ((with_reducible refine gate_callee (f := 51) rfl ?_); refine gL (some 11) Try.func51 #[.pointer (some ⟨g, 0, none⟩), .int .i64 20] ?_; (with_reducible refine (spec_reader_pick.calls k g s0_0 s0_1 20 t193 t194 w0 _ ?side1 ?side2 A5.out).mono ?_); (case side1 => exact iS71 HI0.out); (case side2 => exact wS71 HB.out); rintro e w29 ⟨rfl, hi, hb, hk⟩; refine ⟨_, rfl, ?_⟩; replace HO192 := aM (Kd.R_mono (Kd.R_keep (IsS71.apart (show IsS71 w0 _ g s0_0 s0_1 from iS71 HI0.out) (qR HO192.out) (by decide)) hk (fun _ h => h.2)) (fun _ h => h.1)); replace HK := aM (KeepBut.trans (kB HK.out) hk (.inl rfl)); replace HB := aM (hb); replace HI0 := aM (hi); clear hb hk hi; obtain ⟨Ao30, co30, rfl⟩ := sL HO192) | ((with_reducible refine gate_callee (f := 51) rfl ?_); refine gL (some 34) Try.func51 #[.pointer (some ⟨g, 0, none⟩), .int .i64 (t190.length : Int)] ?_; (with_reducible refine (spec_reader_pick.calls k g s0_0 t194 (t190.length : Int) t201 t202 w0 _ ?side1 ?side2 A23.out).mono ?_); (case side1 => exact iS71 HI0.out); (case side2 => exact wS71 HB.out); rintro e w31 ⟨rfl, hi, hb, hk⟩; refine ⟨_, rfl, ?_⟩; replace HO192 := aM (Kd.R_mono (Kd.R_keep (IsS71.apart (show IsS71 w0 _ g s0_0 t194 from iS71 HI0.out) (qR HO192.out) (by decide)) hk (fun _ h => h.2)) (fun _ h => h.1)); replace HK := aM (KeepBut.trans (kB HK.out) hk (.inl rfl)); replace HB := aM (hb); replace HI0 := aM (hi); clear hb hk hi) | ((with_reducible refine gate_dst (N := 37) rfl ?_); refine iL ([(-1), a2, 0, 1] : List Int) [.int .i64 (-1), .int .i64 a2, .int .i64 0, .int .i64 1] ?_; intro v204 w32 ho33 hb hg_ hnew_; clear hg_ hnew_; (first | rw [← Ny203.out] at ho33 | (simp only [Int.reduceToNat] at ho33; rw [← Ny203.out] at ho33)); have HO205 := aM (Kd.R_lower (Kd.R_new' ho33 (Kd.R_lt (qR HO192.out))) (keep_size (w := w) (g := g) (row := none) (kB HK.out))); replace HO192 := aM (Kd.R_elder' (qR HO192.out) (Kd.R_base ho33) hb); replace HK := aM (KeepBut.trans (kB HK.out) (KeepBut.of_below hb g none) (.inl rfl)); replace HB := aM (below_step (wS71 HB.out) hb); replace HI0 := aM (IsS71.below (iS71 HI0.out) hb); clear hb ho33; obtain ⟨Ao34, co34, rfl⟩ := sL HO205) | ((with_reducible refine gate_callee (f := 52) rfl ?_); refine gL (some 38) Try.func52 #[.pointer (some ⟨g, 0, none⟩), .slice Ao34 y203.length co34] ?_; (with_reducible refine (spec_reader_one.calls k g s0_0 t202 _ _ y203 t206 t207 w0 _ ?side1 ?side2 ?side3 ?side4 ?side5 A24.out).mono ?_); (case side1 => exact iS71 HI0.out); (case side2 => exact wS71 HB.out); (case side3 => exact qC (Kd.R_reads' HO205.out).2.2); (case side4 => exact (Kd.R_reads' HO205.out).2.1); (case side5 => exact far_slice (IsS71.own_ne HI0.out HO205.out (by decide))); rintro e w35 ⟨rfl, hi, hb, hk⟩; refine ⟨_, rfl, ?_⟩; replace HO192 := aM (Kd.R_mono (Kd.R_keep (IsS71.apart (show IsS71 w0 _ g s0_0 t202 from iS71 HI0.out) (qR HO192.out) (by decide)) hk (fun _ h => h.2)) (fun _ h => h.1)); replace HO205 := aM (Kd.R_mono (Kd.R_keep (IsS71.apart (show IsS71 w0 _ g s0_0 t202 from iS71 HI0.out) (qR HO205.out) (by decide)) hk (fun _ h => h.2)) (fun _ h => h.1)); replace HK := aM (KeepBut.trans (kB HK.out) hk (.inl rfl)); replace HB := aM (hb); replace HI0 := aM (hi); clear hb hk hi; have p27 : 0 ≤ (t201 : Int) := oD; have q27 : (t201 : Int) < ((t190.length : Int) : Int) := oD; obtain ⟨go27, co27, eo27, gb27, gl27, cl27, HG27⟩ := Kd.R_form HO192.out (by omega); (first | cases eo27 | (injection eo27 with ea_ en_ ec_; (first | subst ea_ | (injection ea_ with ea_; subst ea_)); subst ec_; clear en_)); have GB27 := aM gb27; have GG27 := aM HG27; clear gb27 gl27 HG27; obtain ⟨hx27_0, hf27_0⟩ := Kd.R_celln 0 HO192.out (t201 : Int) p27 q27; replace p27 := eq_true p27; replace q27 := eq_true q27; have n_ := aM (Kd.R_mono (ok' := (fun k_ => some k_ ≠ (.slice Ao34 y203.length co34 : Value).ownBlock)) HO192.out (fun k_ hk => hk.2)); clear HO192; have HO192 := n_; clear n_; obtain ⟨hy36_, hz36_⟩ := Kd.R_celln 0 HO192.out (t201 : Int) oD oD; have HP36 := Kd.R_putg HO192.out (t201 : Int) t206) | ((with_reducible refine gate_store (t := 3) (p := 39) rfl ?_); refine store_event (t := 3) (p := 39) (v := ?vo_w37) (w1 := (w35.setCell ⟨go27, (t201 : Int).toNat, none⟩ (.int .i64 t206))) ?hg ?ho ?hn ?hr ?_; (case ho => rfl); (case hg => rfl); (case hn => rfl); (case hr => first | (go_simp; done) | (go_simp; rfl)); intro w37 hw; have hg : w35.grownBy w37 (some go27) := (by rw [hw]; exact HP36.2); have hp_ : Kd.R (Kd.int .i64) 3 w37 w.heap.size (fun k_ => some k_ ≠ (.slice Ao34 y203.length co34 : Value).ownBlock) (.slice (some ⟨go27, 0, none⟩) t190.length co30) y208 := (by rw [hw, Ny208.out]; exact HP36.1); clear HP36; replace HI0 := aM (IsS71.grown (iS71 HI0.out) hg (IsS71.own_ne HI0.out HO192.out (by decide))); replace HO205 := aM (Kd.R_after (v := (.slice (some ⟨go27, 0, none⟩) t190.length co30)) (v1 := (.slice (some ⟨go27, 0, none⟩) t190.length co30)) (ok := (fun _ => True)) (qR HO205.out) hg (.inl rfl)); replace HB := aM ((by rw [hw]; exact below_set (HB.out) (Nat.le_trans HL.out GB27.out) : Below w0.heap.size w0 w37)); replace HK := aM (KeepBut.trans (kB HK.out) (KeepBut.of_grown hg g) (Kd.R_base2 HO192.out)); replace HO192 := aM (hp_); clear hg hw hp_))
 go_ret
 exact ⟨_, qX, Kd.Q_of_R (by refine qR ?_; exact Kd.R_mono HO192.out (fun _ hk => trivial)), iS71 HI0.out, wS71 HB.out, kB HK.out⟩
def spec_anyPixel.l0 : Nat → Int → List Int → Int → List Int → Int → Option (List Int × Int)
 | 0, _, _, _, _, _ => none
 | k + 1, x1, x5, x6, x1000, x1001 => if x6 < x1 then ((spec_reader_pick.f k x1000 x1001 256).bind fun bt321 => (if x5.length < 17592186044416 then (spec_anyPixel.l0 k x1 (x5 ++ [bt321.1]) (wrap64 (x6 + 1)) x1000 bt321.2) else (none))) else ((spec_reader_spoil.f k x1000 x1001 x5 256).bind fun bt326 => (some (bt326.1, bt326.2)))
def spec_anyPixel.f (k : Nat) (s0_0 : List Int) (s0_1 : Int) (a1 : Int) : Option (List Int × Int) := spec_anyPixel.l0 k a1 (([] : List Int)) 0 s0_0 s0_1
theorem spec_anyPixel.mono_l : ∀ k, (∀ y0 y1 y2 y3 y4, LeO (spec_anyPixel.l0 k y0 y1 y2 y3 y4) (spec_anyPixel.l0 (k + 1) y0 y1 y2 y3 y4))
 | 0 => fun _ _ _ _ _ r h => by simp [spec_anyPixel.l0] at h
 | k + 1 => by
  have ih0 := spec_anyPixel.mono_l k
  ·intro y0 y1 y2 y3 y4
   unfold spec_anyPixel.l0
   repeat' first | (with_reducible first | exact ih0 _ _ _ _ _ | exact spec_reader_pick.mono _ _ _ _ | exact spec_reader_spoil.mono _ _ _ _ _ | exact lR | exact lN | refine lI ?_ ?_ | refine lB ?_ fun _ => ?_) | exact ih0 _ _ _ _ _ | exact spec_reader_pick.mono _ _ _ _ | exact spec_reader_spoil.mono _ _ _ _ _ | exact lN | refine lI ?_ ?_ | refine lB ?_ fun _ => ?_
theorem spec_anyPixel.mono : ∀ a0 a1 a2 k, LeO (spec_anyPixel.f k a0 a1 a2) (spec_anyPixel.f (k + 1) a0 a1 a2) := by
 intro a0 a1 a2 k
 have ih0 := spec_anyPixel.mono_l k
 unfold spec_anyPixel.f
 repeat' first | (with_reducible first | exact ih0 _ _ _ _ _ | exact spec_reader_pick.mono _ _ _ _ | exact spec_reader_spoil.mono _ _ _ _ _ | exact lR | exact lN | refine lI ?_ ?_ | refine lB ?_ fun _ => ?_) | exact ih0 _ _ _ _ _ | exact spec_reader_pick.mono _ _ _ _ | exact spec_reader_spoil.mono _ _ _ _ _ | exact lN | refine lI ?_ ?_ | refine lB ?_ fun _ => ?_
set_option maxHeartbeats 8000000 in
set_option maxRecDepth 100000 in
theorem spec_anyPixel.calls (k : Nat) (g : Nat) (s0_0 : List Int) (s0_1 : Int) (a1 : Int) (r1 : List Int) (r2 : Int) (w0 w : World) (hI : IsS71 w0 w g s0_0 s0_1) (hB : Below w0.heap.size w0 w) (h : spec_anyPixel.f k s0_0 s0_1 a1 = some (r1, r2)) :
  Calls Try.prog 63 #[.pointer (some ⟨g, 0, none⟩), .int .i64 a1] w fun e w' => ∃ v0_ : Value, e = .returned (v0_) ∧ Kd.Q (Kd.int .i64) 3 w' w.heap.size (fun _ => True) v0_ r1 ∧ IsS71 w0 w' g s0_0 r2 ∧ Below w0.heap.size w0 w' ∧ KeepBut w w' g none := by
 have HI0 := aM hI
 have HK := aM (KeepBut.refl w g none)
 have HL := aM hB.size
 clear hI
 have HW0 := aM hB.size
 have HB := aM hB
 clear hB
 unfold spec_anyPixel.f at h
 have H := h
 clear h
 obtain ⟨y318, hy318⟩ : ∃ y_ : List Int, y_ = (([] : List Int)) := ⟨_, rfl⟩
 replace H : (spec_anyPixel.l0 k a1 y318 0 s0_0 s0_1) = some (r1, r2) := rY hy318 H
 have Ny318 := aM hy318
 clear hy318
 have H' := aM H
 clear H
 go_enter Try.func63, Try.ntmps63
 go_wp2_with (first | ((with_reducible refine gate_dst (N := 7) rfl ?_); refine iL ([] : List Int) [] ?_; intro v319 w3 ho4 hb hg_ hnew_; clear hg_ hnew_; (first | rw [← Ny318.out] at ho4 | (simp only [Int.reduceToNat] at ho4; rw [← Ny318.out] at ho4)); have HO320 := lK ho4 HK; replace HK := aM (KeepBut.trans (kB HK.out) (KeepBut.of_below hb g none) (.inl rfl)); replace HB := aM (below_step (wS71 HB.out) hb); replace HI0 := aM (IsS71.below (iS71 HI0.out) hb); clear hb ho4))
 go_loopg [5, 6] k (fun kq v5 v6 w' => ∃ (x5_1 : List Int) (x6_1 : Int) (x1001_1 : Int), v6 = .int .i64 x6_1 ∧ Aside0 (spec_anyPixel.l0 kq a1 x5_1 x6_1 s0_0 x1001_1 = some (r1, r2)) ∧ Aside0 (kq ≤ k) ∧ Aside0 (Kd.R (Kd.int .i64) 3 w' w.heap.size (fun _ => True) v5 x5_1) ∧ Aside0 (IsS71 w0 w' g s0_0 x1001_1) ∧ Aside0 (KeepBut w w' g none) ∧ Aside0 (Below w0.heap.size w0 w'))
 case atStart => exact ⟨(y318), (0), (s0_1), qE, H', ⟨Nat.le_refl _⟩, ⟨by refine qR ?_; exact HO320.out⟩, ⟨iS71 HI0.out⟩, ⟨kB HK.out⟩, ⟨wS71 HB.out⟩⟩
 case round =>
  clear H'
  obtain ⟨x5_1, x6_1, x1001_1, rfl, HA, HK1, HO_5, HI0, HK, HB⟩ := hrel
  cases gk with
  | zero => exact absurd HA.out (by simp [spec_anyPixel.l0])
  | succ k1 =>
   have H := HA.out
   clear HA
   simp only [spec_anyPixel.l0] at H
   by_cases c5 : x6_1 < a1
   rotate_left
   ·rw [if_neg c5] at H
    have c5b0 : decide (x6_1 < a1) = false := decide_eq_false c5
    clear c5
    replace H := Option.bind_eq_some_iff.mp H
    obtain ⟨⟨t326, t329⟩, A100, H⟩ := H
    replace H : (some (t326, t329)) = some (r1, r2) := H
    have A10 := aM A100
    clear A100
    simp only [Option.some.injEq, Prod.mk.injEq] at H
    obtain ⟨rfl, rfl⟩ := H
    obtain ⟨Ao11, co11, rfl⟩ := sL HO_5
    go_wp2_with (first | ((with_reducible refine gate_callee (f := 67) rfl ?_); refine gL (some 20) Try.func67 #[.pointer (some ⟨g, 0, none⟩), .slice Ao11 x5_1.length co11, .int .i64 256] ?_; (with_reducible refine (spec_reader_spoil.calls k1 g s0_0 x1001_1 _ _ x5_1 256 t326 t329 w0 _ ?side1 ?side2 ?side3 ?side4 ?side5 A10.out).mono ?_); (case side1 => exact iS71 HI0.out); (case side2 => exact wS71 HB.out); (case side3 => exact qC (Kd.R_reads' HO_5.out).2.2); (case side4 => exact (Kd.R_reads' HO_5.out).2.1); (case side5 => exact far_slice (IsS71.own_ne HI0.out HO_5.out (by decide))); rintro e w12 ⟨v327, rfl, ho0, hi, hb, hk⟩; refine ⟨_, rfl, ?_⟩; have HO328 := aM (Kd.Q_lower (Kd.Q_new' ho0 (Kd.R_lt (qR HO_5.out))) (keep_size (w := w) (g := g) (row := none) (kB HK.out))); replace HO_5 := aM (Kd.R_mono (Kd.R_told (Kd.R_oldK (IsS71.apart (show IsS71 w0 _ g s0_0 x1001_1 from iS71 HI0.out) (qR HO_5.out) (by decide)) hk) (Kd.Q_base ho0)) (fun _ h_ => h_.1)); replace HK := aM (KeepBut.trans (kB HK.out) hk (.inl rfl)); replace HB := aM (hb); replace HI0 := aM (hi); clear hb hk hi ho0))
    go_ret
    exact ⟨_, qX, by (with_reducible repeat (first | apply Kd.Q_alloc | apply Kd.Q_drewN | apply Kd.Q_drew)); exact Kd.Q_mono HO328.out (fun _ hk => trivial), iS71 HI0.out, wS71 HB.out, kB HK.out⟩
   rw [if_pos c5] at H
   have c5b0 : decide (x6_1 < a1) = true := decide_eq_true c5
   clear c5
   replace H := Option.bind_eq_some_iff.mp H
   obtain ⟨⟨t321, t322⟩, A60, H⟩ := H
   replace H : (if x5_1.length < 17592186044416 then (spec_anyPixel.l0 k1 a1 (x5_1 ++ [t321]) (wrap64 (x6_1 + 1)) s0_0 t322) else (none)) = some (r1, r2) := H
   have A6 := aM A60
   clear A60
   replace H := iS H
   obtain ⟨c7, H⟩ := H
   have LMc7 := aM c7
   clear c7
   obtain ⟨y323, hy323⟩ : ∃ y_ : List Int, y_ = (x5_1 ++ [t321]) := ⟨_, rfl⟩
   replace H : (spec_anyPixel.l0 k1 a1 y323 (wrap64 (x6_1 + 1)) s0_0 t322) = some (r1, r2) := rY hy323 H
   have Ny323 := aM hy323
   clear hy323
   have H' := aM H
   clear H
   go_wp2_with (first | ((with_reducible refine gate_callee (f := 51) rfl ?_); refine gL (some 15) Try.func51 #[.pointer (some ⟨g, 0, none⟩), .int .i64 256] ?_; (with_reducible refine (spec_reader_pick.calls k1 g s0_0 x1001_1 256 t321 t322 w0 _ ?side1 ?side2 A6.out).mono ?_); (case side1 => exact iS71 HI0.out); (case side2 => exact wS71 HB.out); rintro e w8 ⟨rfl, hi, hb, hk⟩; refine ⟨_, rfl, ?_⟩; replace HO_5 := aM (Kd.R_mono (Kd.R_keep (IsS71.apart (show IsS71 w0 _ g s0_0 x1001_1 from iS71 HI0.out) (qR HO_5.out) (by decide)) hk (fun _ h => h.2)) (fun _ h => h.1)); replace HK := aM (KeepBut.trans (kB HK.out) hk (.inl rfl)); replace HB := aM (hb); replace HI0 := aM (hi); clear hb hk hi) | ((with_reducible refine gate_builtin (b := .append) (xs := #[.tmp 13, .tmp 16]) rfl ?_); at_builtin; refine Kd.R_append (Kd.int .i64) w.heap.size rfl (.tmp 13) (.tmp 16) 28 3 (.int .i64 0) 8 rfl Try.underlying28 info3 rfl (by decide) (by omega) u5 x5_1 t321 [.int .i64 t321] (fun _ => True) (fun _ => False) rfl rfl ?aP (fun _ hk => hk.elim) ?aF ?aO (Below.refl _ _) ?aS ?aL ?_; (case aP => exact rfl); (case aF => exact (fun _ _ => trivial)); (case aO => exact (qR HO_5.out)); (case aS => exact (keep_size (w := w) (g := g) (row := none) (kB HK.out))); (case aL => have := LMc7.out; omega); intro v324 w9 ho hb hg hat; rw [← Ny323.out] at ho; replace HB := aM (below_weaken (wS71 HB.out) HL.out hb); replace HI0 := aM (IsS71.grown (iS71 HI0.out) hg (IsS71.own_ne HI0.out HO_5.out (by decide))); replace HK := aM (KeepBut.trans (kB HK.out) (KeepBut.of_grown hg g) (Kd.R_base2 HO_5.out)); have HO325 := aM (ho); clear HO_5; clear ho hb hg hat))
   go_roundg k1
   case measure => have := HK1.out; omega
   case rel => exact ⟨(y323), (wrap64 (x6_1 + 1)), (t322), qE, H', ⟨by have := HK1.out; omega⟩, ⟨by refine qR ?_; exact HO325.out⟩, ⟨iS71 HI0.out⟩, ⟨kB HK.out⟩, ⟨wS71 HB.out⟩⟩
def laws_equalImage.f (k : Nat) (a0_0 : Int) (a0_1 : Int) (a0_2 : Int) (l0_3 : List Int) (a1_0 : Int) (a1_1 : Int) (a1_2 : Int) (l1_3 : List Int) : Option (Bool) := if a0_0 = a1_0 then (if a0_1 = a1_1 then (if a0_2 = a1_2 then ((laws_equalInts.f k l0_3 l1_3).bind fun t626 => (some t626)) else (some false)) else (some false)) else (some false)
theorem laws_equalImage.mono : ∀ a0 a1 a2 a3 a4 a5 a6 a7 k, LeO (laws_equalImage.f k a0 a1 a2 a3 a4 a5 a6 a7) (laws_equalImage.f (k + 1) a0 a1 a2 a3 a4 a5 a6 a7) := by
 intro a0 a1 a2 a3 a4 a5 a6 a7 k
 unfold laws_equalImage.f
 repeat' first | (with_reducible first | exact laws_equalInts.mono _ _ _ | exact lR | exact lN | refine lI ?_ ?_ | refine lB ?_ fun _ => ?_) | exact laws_equalInts.mono _ _ _ | exact lN | refine lI ?_ ?_ | refine lB ?_ fun _ => ?_
set_option maxHeartbeats 8000000 in
set_option maxRecDepth 100000 in
theorem laws_equalImage.calls (k : Nat) (a0_0 : Int) (a0_1 : Int) (a0_2 : Int) (A0_3 : Option Addr) (c0_3 : Nat) (l0_3 : List Int) (a1_0 : Int) (a1_1 : Int) (a1_2 : Int) (A1_3 : Option Addr) (c1_3 : Nat) (l1_3 : List Int) (r : Bool) (w : World) (hr0_3 : Kd.C (Kd.int .i64) w A0_3 l0_3.length l0_3) (hc0_3 : l0_3.length ≤ c0_3) (hr1_3 : Kd.C (Kd.int .i64) w A1_3 l1_3.length l1_3) (hc1_3 : l1_3.length ≤ c1_3) (h : laws_equalImage.f k a0_0 a0_1 a0_2 l0_3 a1_0 a1_1 a1_2 l1_3 = some r) :
  Calls Try.prog 40 #[.agg #[.int .i64 a0_0, .int .i64 a0_1, .int .i64 a0_2, .slice A0_3 l0_3.length c0_3], .agg #[.int .i64 a1_0, .int .i64 a1_1, .int .i64 a1_2, .slice A1_3 l1_3.length c1_3]] w fun e w' => e = .returned (.bool r) ∧ Below w.heap.size w w' := by
 have hu48 := Try.underlying48
 have HR0_3 := aM hr0_3
 have HC0_3 := aM hc0_3
 clear hr0_3 hc0_3
 have HR1_3 := aM hr1_3
 have HC1_3 := aM hc1_3
 clear hr1_3 hc1_3
 have HB := aM (Below.refl w.heap.size w)
 unfold laws_equalImage.f at h
 have H := h
 clear h
 by_cases c3 : a0_0 = a1_0
 rotate_left
 ·rw [if_neg c3] at H
  have c3b0 : (a0_0 == a1_0) = false := beq_eq_false_iff_ne.mpr c3
  have c3b1 : (a0_0 != a1_0) = true := bne_iff_ne.mpr c3
  obtain rfl := Option.some.inj H
  go_enter Try.func40, Try.ntmps40
  go_wp2_with (first | ((with_reducible refine gate_dst (N := 2) rfl ?_); refine bxE (N := 2) (cs := #[.int .i64 a0_0, .int .i64 a0_1, .int .i64 a0_2, .slice A0_3 l0_3.length c0_3]) (t := 48) ?_; intro gb624 hg w22 hbox hb; have BK624 := aM (hbox); have GW624 := gW hg HB; have GE624 := gW hg HB; replace HB := bS HB hb; clear hb hbox hg) | ((with_reducible refine gate_dst (N := 3) rfl ?_); refine bxE (N := 3) (cs := #[.int .i64 a1_0, .int .i64 a1_1, .int .i64 a1_2, .slice A1_3 l1_3.length c1_3]) (t := 48) ?_; intro gb625 hg w23 hbox hb; have BK625 := aM (hbox); have GW625 := gW hg HB; have GE625 := gW hg HB; replace HB := bS HB hb; have NB624_625 := nL hg BK624; have NB625_624 := nG hg BK624; replace BK624 := bB BK624 hb; clear hb hbox hg; have hnb24 := NB624_625.out; have hnc24 := NB625_624.out; obtain ⟨⟨hcz25_0, hcz25_1, hcz25_2, hcz25_3⟩, hfz25_0, hfz25_1, hfz25_2, hfz25_3⟩ := cf4 BK624; obtain ⟨⟨hcz26_0, hcz26_1, hcz26_2, hcz26_3⟩, hfz26_0, hfz26_1, hfz26_2, hfz26_3⟩ := cf4 BK625))
  go_ret
  exact ⟨qX, by exact qW HB.out⟩
 rw [if_pos c3] at H
 have c3b0 : (a0_0 == a1_0) = true := beq_iff_eq.mpr c3
 have c3b1 : (a0_0 != a1_0) = false := bne_eq_false_iff_eq.mpr c3
 clear c3
 by_cases c4 : a0_1 = a1_1
 rotate_left
 ·rw [if_neg c4] at H
  have c4b0 : (a0_1 == a1_1) = false := beq_eq_false_iff_ne.mpr c4
  have c4b1 : (a0_1 != a1_1) = true := bne_iff_ne.mpr c4
  obtain rfl := Option.some.inj H
  go_enter Try.func40, Try.ntmps40
  go_wp2_with (first | ((with_reducible refine gate_dst (N := 2) rfl ?_); refine bxE (N := 2) (cs := #[.int .i64 a0_0, .int .i64 a0_1, .int .i64 a0_2, .slice A0_3 l0_3.length c0_3]) (t := 48) ?_; intro gb624 hg w17 hbox hb; have BK624 := aM (hbox); have GW624 := gW hg HB; have GE624 := gW hg HB; replace HB := bS HB hb; clear hb hbox hg) | ((with_reducible refine gate_dst (N := 3) rfl ?_); refine bxE (N := 3) (cs := #[.int .i64 a1_0, .int .i64 a1_1, .int .i64 a1_2, .slice A1_3 l1_3.length c1_3]) (t := 48) ?_; intro gb625 hg w18 hbox hb; have BK625 := aM (hbox); have GW625 := gW hg HB; have GE625 := gW hg HB; replace HB := bS HB hb; have NB624_625 := nL hg BK624; have NB625_624 := nG hg BK624; replace BK624 := bB BK624 hb; clear hb hbox hg; have hnb19 := NB624_625.out; have hnc19 := NB625_624.out; obtain ⟨⟨hcz20_0, hcz20_1, hcz20_2, hcz20_3⟩, hfz20_0, hfz20_1, hfz20_2, hfz20_3⟩ := cf4 BK624; obtain ⟨⟨hcz21_0, hcz21_1, hcz21_2, hcz21_3⟩, hfz21_0, hfz21_1, hfz21_2, hfz21_3⟩ := cf4 BK625))
  go_ret
  exact ⟨qX, by exact qW HB.out⟩
 rw [if_pos c4] at H
 have c4b0 : (a0_1 == a1_1) = true := beq_iff_eq.mpr c4
 have c4b1 : (a0_1 != a1_1) = false := bne_eq_false_iff_eq.mpr c4
 clear c4
 by_cases c5 : a0_2 = a1_2
 rotate_left
 ·rw [if_neg c5] at H
  have c5b0 : (a0_2 == a1_2) = false := beq_eq_false_iff_ne.mpr c5
  have c5b1 : (a0_2 != a1_2) = true := bne_iff_ne.mpr c5
  obtain rfl := Option.some.inj H
  go_enter Try.func40, Try.ntmps40
  go_wp2_with (first | ((with_reducible refine gate_dst (N := 2) rfl ?_); refine bxE (N := 2) (cs := #[.int .i64 a0_0, .int .i64 a0_1, .int .i64 a0_2, .slice A0_3 l0_3.length c0_3]) (t := 48) ?_; intro gb624 hg w12 hbox hb; have BK624 := aM (hbox); have GW624 := gW hg HB; have GE624 := gW hg HB; replace HB := bS HB hb; clear hb hbox hg) | ((with_reducible refine gate_dst (N := 3) rfl ?_); refine bxE (N := 3) (cs := #[.int .i64 a1_0, .int .i64 a1_1, .int .i64 a1_2, .slice A1_3 l1_3.length c1_3]) (t := 48) ?_; intro gb625 hg w13 hbox hb; have BK625 := aM (hbox); have GW625 := gW hg HB; have GE625 := gW hg HB; replace HB := bS HB hb; have NB624_625 := nL hg BK624; have NB625_624 := nG hg BK624; replace BK624 := bB BK624 hb; clear hb hbox hg; have hnb14 := NB624_625.out; have hnc14 := NB625_624.out; obtain ⟨⟨hcz15_0, hcz15_1, hcz15_2, hcz15_3⟩, hfz15_0, hfz15_1, hfz15_2, hfz15_3⟩ := cf4 BK624; obtain ⟨⟨hcz16_0, hcz16_1, hcz16_2, hcz16_3⟩, hfz16_0, hfz16_1, hfz16_2, hfz16_3⟩ := cf4 BK625))
  go_ret
  exact ⟨qX, by exact qW HB.out⟩
 rw [if_pos c5] at H
 have c5b0 : (a0_2 == a1_2) = true := beq_iff_eq.mpr c5
 have c5b1 : (a0_2 != a1_2) = false := bne_eq_false_iff_eq.mpr c5
 clear c5
 replace H := Option.bind_eq_some_iff.mp H
 obtain ⟨t626, A60, H⟩ := H
 replace H : (some t626) = some r := H
 have A6 := aM A60
 clear A60
 obtain rfl := Option.some.inj H
 go_enter Try.func40, Try.ntmps40
 go_wp2_with (first | ((with_reducible refine gate_dst (N := 2) rfl ?_); refine bxE (N := 2) (cs := #[.int .i64 a0_0, .int .i64 a0_1, .int .i64 a0_2, .slice A0_3 l0_3.length c0_3]) (t := 48) ?_; intro gb624 hg w7 hbox hb; have BK624 := aM (hbox); have GW624 := gW hg HB; have GE624 := gW hg HB; replace HB := bS HB hb; clear hb hbox hg) | ((with_reducible refine gate_dst (N := 3) rfl ?_); refine bxE (N := 3) (cs := #[.int .i64 a1_0, .int .i64 a1_1, .int .i64 a1_2, .slice A1_3 l1_3.length c1_3]) (t := 48) ?_; intro gb625 hg w8 hbox hb; have BK625 := aM (hbox); have GW625 := gW hg HB; have GE625 := gW hg HB; replace HB := bS HB hb; have NB624_625 := nL hg BK624; have NB625_624 := nG hg BK624; replace BK624 := bB BK624 hb; clear hb hbox hg; have hnb9 := NB624_625.out; have hnc9 := NB625_624.out; obtain ⟨⟨hcz10_0, hcz10_1, hcz10_2, hcz10_3⟩, hfz10_0, hfz10_1, hfz10_2, hfz10_3⟩ := cf4 BK624; obtain ⟨⟨hcz11_0, hcz11_1, hcz11_2, hcz11_3⟩, hfz11_0, hfz11_1, hfz11_2, hfz11_3⟩ := cf4 BK625) | (go_at_call 28; (with_reducible refine (laws_equalInts.calls k _ _ l0_3 _ _ l1_3 t626 _ ?side1 ?side2 ?side3 ?side4 A6.out).mono ?_); (case side1 => exact qC (Kd.C_below HR0_3.out HB.out)); (case side2 => exact HC0_3.out); (case side3 => exact qC (Kd.C_below HR1_3.out HB.out)); (case side4 => exact HC1_3.out); rintro e w' ⟨rfl, ⟨nd, rfl⟩⟩))
 go_ret
 exact ⟨qX, by exact qW HB.out⟩
def spec_DrawFillImage.f (k : Nat) (l0 : List Int) : Option (Int × Int × List Int) := (spec_newReader.f l0).bind fun bt594 => ((spec_reader_one.f k bt594.1 bt594.2 (([1, 3, 5, 16, 17, 0] : List Int))).bind fun bt600 => ((spec_reader_one.f k bt594.1 bt600.2 (([1, 3, 5, 16, 17, 0] : List Int))).bind fun bt605 => ((spec_reader_one.f k bt594.1 bt605.2 (([1, 3, 4, 2, 0, 5] : List Int))).bind fun bt610 => ((spec_anyPixel.f k bt594.1 bt610.2 bt610.1).bind fun bt612 => (some (bt600.1, bt605.1, bt612.1))))))
theorem spec_DrawFillImage.mono : ∀ a0 k, LeO (spec_DrawFillImage.f k a0) (spec_DrawFillImage.f (k + 1) a0) := by
 intro a0 k
 unfold spec_DrawFillImage.f
 repeat' first | (with_reducible first | exact spec_anyPixel.mono _ _ _ _ | exact spec_reader_one.mono _ _ _ _ | exact lR | exact lN | refine lI ?_ ?_ | refine lB ?_ fun _ => ?_) | exact spec_anyPixel.mono _ _ _ _ | exact spec_reader_one.mono _ _ _ _ | exact lN | refine lI ?_ ?_ | refine lB ?_ fun _ => ?_
set_option maxHeartbeats 8000000 in
set_option maxRecDepth 100000 in
theorem spec_DrawFillImage.calls (k : Nat) (A0 : Option Addr) (c0 : Nat) (l0 : List Int) (r1 : Int) (r2 : Int) (r3 : List Int) (w : World) (hr0 : Kd.C (Kd.int .u8) w A0 l0.length l0) (hc0 : l0.length ≤ c0) (h : spec_DrawFillImage.f k l0 = some (r1, r2, r3)) :
  Calls Try.prog 38 #[.slice A0 l0.length c0] w fun e w' => ∃ v2_ : Value, e = .returned (.tuple #[.int .i64 r1, .int .i64 r2, v2_]) ∧ Kd.Q (Kd.int .i64) 3 w' w.heap.size (fun _ => True) v2_ r3 ∧ Below w.heap.size w w' := by
 have HR0 := aM hr0
 have HC0 := aM hc0
 clear hr0 hc0
 have HB := aM (Below.refl w.heap.size w)
 unfold spec_DrawFillImage.f at h
 have H := h
 clear h
 replace H := Option.bind_eq_some_iff.mp H
 obtain ⟨⟨t594, t595⟩, A20, H⟩ := H
 replace H : ((spec_reader_one.f k t594 t595 (([1, 3, 5, 16, 17, 0] : List Int))).bind fun bt600 => ((spec_reader_one.f k t594 bt600.2 (([1, 3, 5, 16, 17, 0] : List Int))).bind fun bt605 => ((spec_reader_one.f k t594 bt605.2 (([1, 3, 4, 2, 0, 5] : List Int))).bind fun bt610 => ((spec_anyPixel.f k t594 bt610.2 bt610.1).bind fun bt612 => (some (bt600.1, bt605.1, bt612.1)))))) = some (r1, r2, r3) := H
 have A2 := aM A20
 clear A20
 obtain ⟨y597, hy597⟩ : ∃ y_ : List Int, y_ = (([1, 3, 5, 16, 17, 0] : List Int)) := ⟨_, rfl⟩
 replace H : ((spec_reader_one.f k t594 t595 y597).bind fun bt600 => ((spec_reader_one.f k t594 bt600.2 (([1, 3, 5, 16, 17, 0] : List Int))).bind fun bt605 => ((spec_reader_one.f k t594 bt605.2 (([1, 3, 4, 2, 0, 5] : List Int))).bind fun bt610 => ((spec_anyPixel.f k t594 bt610.2 bt610.1).bind fun bt612 => (some (bt600.1, bt605.1, bt612.1)))))) = some (r1, r2, r3) := rY hy597 H
 have Ny597 := aM hy597
 clear hy597
 replace H := Option.bind_eq_some_iff.mp H
 obtain ⟨⟨t600, t601⟩, A30, H⟩ := H
 replace H : ((spec_reader_one.f k t594 t601 (([1, 3, 5, 16, 17, 0] : List Int))).bind fun bt605 => ((spec_reader_one.f k t594 bt605.2 (([1, 3, 4, 2, 0, 5] : List Int))).bind fun bt610 => ((spec_anyPixel.f k t594 bt610.2 bt610.1).bind fun bt612 => (some (t600, bt605.1, bt612.1))))) = some (r1, r2, r3) := H
 have A3 := aM A30
 clear A30
 obtain ⟨y602, hy602⟩ : ∃ y_ : List Int, y_ = (([1, 3, 5, 16, 17, 0] : List Int)) := ⟨_, rfl⟩
 replace H : ((spec_reader_one.f k t594 t601 y602).bind fun bt605 => ((spec_reader_one.f k t594 bt605.2 (([1, 3, 4, 2, 0, 5] : List Int))).bind fun bt610 => ((spec_anyPixel.f k t594 bt610.2 bt610.1).bind fun bt612 => (some (t600, bt605.1, bt612.1))))) = some (r1, r2, r3) := rY hy602 H
 have Ny602 := aM hy602
 clear hy602
 replace H := Option.bind_eq_some_iff.mp H
 obtain ⟨⟨t605, t606⟩, A40, H⟩ := H
 replace H : ((spec_reader_one.f k t594 t606 (([1, 3, 4, 2, 0, 5] : List Int))).bind fun bt610 => ((spec_anyPixel.f k t594 bt610.2 bt610.1).bind fun bt612 => (some (t600, t605, bt612.1)))) = some (r1, r2, r3) := H
 have A4 := aM A40
 clear A40
 obtain ⟨y607, hy607⟩ : ∃ y_ : List Int, y_ = (([1, 3, 4, 2, 0, 5] : List Int)) := ⟨_, rfl⟩
 replace H : ((spec_reader_one.f k t594 t606 y607).bind fun bt610 => ((spec_anyPixel.f k t594 bt610.2 bt610.1).bind fun bt612 => (some (t600, t605, bt612.1)))) = some (r1, r2, r3) := rY hy607 H
 have Ny607 := aM hy607
 clear hy607
 replace H := Option.bind_eq_some_iff.mp H
 obtain ⟨⟨t610, t611⟩, A50, H⟩ := H
 replace H : ((spec_anyPixel.f k t594 t611 t610).bind fun bt612 => (some (t600, t605, bt612.1))) = some (r1, r2, r3) := H
 have A5 := aM A50
 clear A50
 replace H := Option.bind_eq_some_iff.mp H
 obtain ⟨⟨t612, t615⟩, A60, H⟩ := H
 replace H : (some (t600, t605, t612)) = some (r1, r2, r3) := H
 have A6 := aM A60
 clear A60
 simp only [Option.some.injEq, Prod.mk.injEq] at H
 obtain ⟨rfl, rfl, rfl⟩ := H
 go_enter Try.func38, Try.ntmps38
 go_wp2_with (first | ((with_reducible refine gate_callee (f := 50) rfl ?_); refine gL (some 9) Try.func50 #[.slice A0 l0.length c0] ?_; (with_reducible refine (spec_newReader.calls _ _ l0 t594 t595 w _ ?side1 ?side2 ?side3 A2.out).mono ?_); (case side1 => exact qW HB.out); (case side2 => exact HR0.out); (case side3 => exact HC0.out); rintro e w7 ⟨g596, rfl, hi, hb, hb2⟩; refine ⟨_, rfl, ?_⟩; replace HB := aM (hb); have HI596 := aM (hi); clear hb hb2 hi) | ((with_reducible refine gate_dst (N := 11) rfl ?_); refine iL ([1, 3, 5, 16, 17, 0] : List Int) [.int .i64 1, .int .i64 3, .int .i64 5, .int .i64 16, .int .i64 17, .int .i64 0] ?_; intro v598 w8 ho9 hb hg_ hnew_; clear hg_ hnew_; (first | rw [← Ny597.out] at ho9 | (simp only [Int.reduceToNat] at ho9; rw [← Ny597.out] at ho9)); have HO599 := aM (Kd.R_lower ho9 (below_size (wS71 HB.out))); replace HB := aM (below_step (wS71 HB.out) hb); replace HI596 := aM (IsS71.below (iS71 HI596.out) hb); clear hb ho9; obtain ⟨Ao10, co10, rfl⟩ := sL HO599) | ((with_reducible refine gate_callee (f := 52) rfl ?_); refine gL (some 12) Try.func52 #[.pointer (some ⟨g596, 0, none⟩), .slice Ao10 y597.length co10] ?_; (with_reducible refine (spec_reader_one.calls k g596 t594 t595 _ _ y597 t600 t601 w _ ?side1 ?side2 ?side3 ?side4 ?side5 A3.out).mono ?_); (case side1 => exact iS71 HI596.out); (case side2 => exact wS71 HB.out); (case side3 => exact qC (Kd.R_reads' HO599.out).2.2); (case side4 => exact (Kd.R_reads' HO599.out).2.1); (case side5 => exact far_slice (IsS71.own_ne HI596.out HO599.out (by decide))); rintro e w11 ⟨rfl, hi, hb, hk⟩; refine ⟨_, rfl, ?_⟩; replace HO599 := aM (Kd.R_mono (Kd.R_keep (IsS71.apart (show IsS71 w _ g596 t594 t595 from iS71 HI596.out) (qR HO599.out) (by decide)) hk (fun _ h => h.2)) (fun _ h => h.1)); replace HB := aM (hb); replace HI596 := aM (hi); clear hb hk hi) | ((with_reducible refine gate_dst (N := 14) rfl ?_); refine iL ([1, 3, 5, 16, 17, 0] : List Int) [.int .i64 1, .int .i64 3, .int .i64 5, .int .i64 16, .int .i64 17, .int .i64 0] ?_; intro v603 w12 ho13 hb hg_ hnew_; clear hg_ hnew_; (first | rw [← Ny602.out] at ho13 | (simp only [Int.reduceToNat] at ho13; rw [← Ny602.out] at ho13)); have HO604 := aM (Kd.R_lower (Kd.R_new' ho13 (Kd.R_lt (qR HO599.out))) (below_size (wS71 HB.out))); replace HO599 := aM (Kd.R_elder' (qR HO599.out) (Kd.R_base ho13) hb); replace HB := aM (below_step (wS71 HB.out) hb); replace HI596 := aM (IsS71.below (iS71 HI596.out) hb); clear hb ho13; obtain ⟨Ao14, co14, rfl⟩ := sL HO604) | ((with_reducible refine gate_callee (f := 52) rfl ?_); refine gL (some 15) Try.func52 #[.pointer (some ⟨g596, 0, none⟩), .slice Ao14 y602.length co14] ?_; (with_reducible refine (spec_reader_one.calls k g596 t594 t601 _ _ y602 t605 t606 w _ ?side1 ?side2 ?side3 ?side4 ?side5 A4.out).mono ?_); (case side1 => exact iS71 HI596.out); (case side2 => exact wS71 HB.out); (case side3 => exact qC (Kd.R_reads' HO604.out).2.2); (case side4 => exact (Kd.R_reads' HO604.out).2.1); (case side5 => exact far_slice (IsS71.own_ne HI596.out HO604.out (by decide))); rintro e w15 ⟨rfl, hi, hb, hk⟩; refine ⟨_, rfl, ?_⟩; replace HO599 := aM (Kd.R_mono (Kd.R_keep (IsS71.apart (show IsS71 w _ g596 t594 t601 from iS71 HI596.out) (qR HO599.out) (by decide)) hk (fun _ h => h.2)) (fun _ h => h.1)); replace HO604 := aM (Kd.R_mono (Kd.R_keep (IsS71.apart (show IsS71 w _ g596 t594 t601 from iS71 HI596.out) (qR HO604.out) (by decide)) hk (fun _ h => h.2)) (fun _ h => h.1)); replace HB := aM (hb); replace HI596 := aM (hi); clear hb hk hi) | ((with_reducible refine gate_dst (N := 20) rfl ?_); refine iL ([1, 3, 4, 2, 0, 5] : List Int) [.int .i64 1, .int .i64 3, .int .i64 4, .int .i64 2, .int .i64 0, .int .i64 5] ?_; intro v608 w16 ho17 hb hg_ hnew_; clear hg_ hnew_; (first | rw [← Ny607.out] at ho17 | (simp only [Int.reduceToNat] at ho17; rw [← Ny607.out] at ho17)); have HO609 := aM (Kd.R_lower (Kd.R_new' (Kd.R_new' ho17 (Kd.R_lt (qR HO599.out))) (Kd.R_lt (qR HO604.out))) (below_size (wS71 HB.out))); replace HO599 := aM (Kd.R_elder' (qR HO599.out) (Kd.R_base ho17) hb); replace HO604 := aM (Kd.R_elder' (qR HO604.out) (Kd.R_base ho17) hb); replace HB := aM (below_step (wS71 HB.out) hb); replace HI596 := aM (IsS71.below (iS71 HI596.out) hb); clear hb ho17; obtain ⟨Ao18, co18, rfl⟩ := sL HO609) | ((with_reducible refine gate_callee (f := 52) rfl ?_); refine gL (some 21) Try.func52 #[.pointer (some ⟨g596, 0, none⟩), .slice Ao18 y607.length co18] ?_; (with_reducible refine (spec_reader_one.calls k g596 t594 t606 _ _ y607 t610 t611 w _ ?side1 ?side2 ?side3 ?side4 ?side5 A5.out).mono ?_); (case side1 => exact iS71 HI596.out); (case side2 => exact wS71 HB.out); (case side3 => exact qC (Kd.R_reads' HO609.out).2.2); (case side4 => exact (Kd.R_reads' HO609.out).2.1); (case side5 => exact far_slice (IsS71.own_ne HI596.out HO609.out (by decide))); rintro e w19 ⟨rfl, hi, hb, hk⟩; refine ⟨_, rfl, ?_⟩; replace HO599 := aM (Kd.R_mono (Kd.R_keep (IsS71.apart (show IsS71 w _ g596 t594 t606 from iS71 HI596.out) (qR HO599.out) (by decide)) hk (fun _ h => h.2)) (fun _ h => h.1)); replace HO604 := aM (Kd.R_mono (Kd.R_keep (IsS71.apart (show IsS71 w _ g596 t594 t606 from iS71 HI596.out) (qR HO604.out) (by decide)) hk (fun _ h => h.2)) (fun _ h => h.1)); replace HO609 := aM (Kd.R_mono (Kd.R_keep (IsS71.apart (show IsS71 w _ g596 t594 t606 from iS71 HI596.out) (qR HO609.out) (by decide)) hk (fun _ h => h.2)) (fun _ h => h.1)); replace HB := aM (hb); replace HI596 := aM (hi); clear hb hk hi) | ((with_reducible refine gate_callee (f := 63) rfl ?_); refine gL (some 22) Try.func63 #[.pointer (some ⟨g596, 0, none⟩), .int .i64 t610] ?_; (with_reducible refine (spec_anyPixel.calls k g596 t594 t611 t610 t612 t615 w _ ?side1 ?side2 A6.out).mono ?_); (case side1 => exact iS71 HI596.out); (case side2 => exact wS71 HB.out); rintro e w20 ⟨v613, rfl, ho0, hi, hb, hk⟩; refine ⟨_, rfl, ?_⟩; have HO614 := aM (Kd.Q_lower (Kd.Q_new' (Kd.Q_new' (Kd.Q_new' ho0 (Kd.R_lt (qR HO599.out))) (Kd.R_lt (qR HO604.out))) (Kd.R_lt (qR HO609.out))) (below_size (wS71 HB.out))); replace HO599 := aM (Kd.R_mono (Kd.R_told (Kd.R_oldK (IsS71.apart (show IsS71 w _ g596 t594 t611 from iS71 HI596.out) (qR HO599.out) (by decide)) hk) (Kd.Q_base ho0)) (fun _ h_ => h_.1)); replace HO604 := aM (Kd.R_mono (Kd.R_told (Kd.R_oldK (IsS71.apart (show IsS71 w _ g596 t594 t611 from iS71 HI596.out) (qR HO604.out) (by decide)) hk) (Kd.Q_base ho0)) (fun _ h_ => h_.1)); replace HO609 := aM (Kd.R_mono (Kd.R_told (Kd.R_oldK (IsS71.apart (show IsS71 w _ g596 t594 t611 from iS71 HI596.out) (qR HO609.out) (by decide)) hk) (Kd.Q_base ho0)) (fun _ h_ => h_.1)); replace HB := aM (hb); replace HI596 := aM (hi); clear hb hk hi ho0))
 go_ret3
 exact ⟨_, qX, by (with_reducible repeat (first | apply Kd.Q_alloc | apply Kd.Q_drewN | apply Kd.Q_drew)); exact Kd.Q_mono HO614.out (fun _ hk => trivial), wS71 HB.out⟩
def impl_ValidImage.f (a0_0 : Int) (a0_1 : Int) (a0_2 : Int) (l0_3 : List Int) : Option (Bool) := (impl_isImage.f a0_0 a0_1 a0_2 l0_3).bind fun t652 => (some t652)
set_option maxHeartbeats 8000000 in
set_option maxRecDepth 100000 in
theorem impl_ValidImage.calls (a0_0 : Int) (a0_1 : Int) (a0_2 : Int) (A0_3 : Option Addr) (c0_3 : Nat) (l0_3 : List Int) (r : Bool) (w : World) (hr0_3 : Kd.C (Kd.int .i64) w A0_3 l0_3.length l0_3) (hc0_3 : l0_3.length ≤ c0_3) (h : impl_ValidImage.f a0_0 a0_1 a0_2 l0_3 = some r) :
  Calls Try.prog 44 #[.agg #[.int .i64 a0_0, .int .i64 a0_1, .int .i64 a0_2, .slice A0_3 l0_3.length c0_3]] w fun e w' => e = .returned (.bool r) ∧ Below w.heap.size w w' := by
 have hu48 := Try.underlying48
 have HR0_3 := aM hr0_3
 have HC0_3 := aM hc0_3
 clear hr0_3 hc0_3
 have HB := aM (Below.refl w.heap.size w)
 unfold impl_ValidImage.f at h
 have H := h
 clear h
 replace H := Option.bind_eq_some_iff.mp H
 obtain ⟨t652, A20, H⟩ := H
 replace H : (some t652) = some r := H
 have A2 := aM A20
 clear A20
 obtain rfl := Option.some.inj H
 go_enter Try.func44, Try.ntmps44
 go_wp2_with (first | ((with_reducible refine gate_dst (N := 1) rfl ?_); refine bxE (N := 1) (cs := #[.int .i64 a0_0, .int .i64 a0_1, .int .i64 a0_2, .slice A0_3 l0_3.length c0_3]) (t := 48) ?_; intro gb651 hg w3 hbox hb; have BK651 := aM (hbox); have GW651 := gW hg HB; have GE651 := gW hg HB; replace HB := bS HB hb; clear hb hbox hg; obtain ⟨⟨hcz4_0, hcz4_1, hcz4_2, hcz4_3⟩, hfz4_0, hfz4_1, hfz4_2, hfz4_3⟩ := cf4 BK651) | ((with_reducible refine gate_callee (f := 78) rfl ?_); refine gL (some 4) Try.func78 #[.agg #[.int .i64 a0_0, .int .i64 a0_1, .int .i64 a0_2, .slice A0_3 l0_3.length c0_3]] ?_; (with_reducible refine (impl_isImage.calls a0_0 a0_1 a0_2 _ _ l0_3 t652 _ ?side1 ?side2 A2.out).mono ?_); (case side1 => exact qC (Kd.C_below HR0_3.out HB.out)); (case side2 => exact HC0_3.out); rintro e w5 ⟨rfl, hb⟩; refine ⟨_, rfl, ?_⟩; replace BK651 := bB BK651 hb; replace HB := bS HB hb; clear hb))
 go_ret
 exact ⟨qX, by exact qW HB.out⟩
def laws_FnFillImage.j0 : Nat → Int → Int → List Int → Bool → Int → Int → Int → List Int → Option (Bool)
 | 0, _, _, _, _, _, _, _, _ => none
 | k + 1, x3, x4, x5, x33, x665000, x665001, x665002, x665003 => if x33 = true then ((spec_FillImage.f k x3 x4 x5).bind fun bt672 => ((laws_equalImage.f k x665000 x665001 x665002 x665003 bt672.1 bt672.2.1 bt672.2.2.1 bt672.2.2.2).bind fun t678 => (some t678))) else ((impl_PaletteOf.f x665000 x665001 x665002 x665003).bind fun bt679 => (if bt679.2 = true then (if (bt679.1.length : Int) = 1 then (if 0 < (bt679.1.length : Int) then ((laws_equalInts.f k (rd_L2 bt679.1 0) x5).bind fun t684 => (if t684 = true then ((impl_PixelAt.f x665000 x665001 x665002 x665003 (wrap64 (x3 - 1)) (wrap64 (x4 - 1))).bind fun t685 => ((laws_equalInts.f k t685 x5).bind fun t688 => (if t688 = true then ((impl_ValidImage.f x665000 x665001 x665002 x665003).bind fun t689 => (some t689)) else (some false)))) else (some false))) else (none)) else (some false)) else (some false)))
def laws_FnFillImage.f (k : Nat) (l0 : List Int) : Option (Bool) := if (l0.length : Int) > 1048576 then (some true) else ((spec_DrawFillImage.f k l0).bind fun bt653 => ((impl_FillImage.f k bt653.1 bt653.2.1 bt653.2.2).bind fun bt658 => ((spec_FillImage.f k bt653.1 bt653.2.1 bt653.2.2).bind fun bt665 => ((laws_equalImage.f k bt658.1 bt658.2.1 bt658.2.2.1 bt658.2.2.2 bt665.1 bt665.2.1 bt665.2.2.1 bt665.2.2.2).bind fun t671 => (if t671 = true then (laws_FnFillImage.j0 k bt653.1 bt653.2.1 bt653.2.2 (bt658.1 == 0) bt658.1 bt658.2.1 bt658.2.2.1 bt658.2.2.2) else (laws_FnFillImage.j0 k bt653.1 bt653.2.1 bt653.2.2 true bt658.1 bt658.2.1 bt658.2.2.1 bt658.2.2.2))))))
theorem laws_FnFillImage.mono_l : ∀ k, (∀ y0 y1 y2 y3 y4 y5 y6 y7, LeO (laws_FnFillImage.j0 k y0 y1 y2 y3 y4 y5 y6 y7) (laws_FnFillImage.j0 (k + 1) y0 y1 y2 y3 y4 y5 y6 y7))
 | 0 => fun _ _ _ _ _ _ _ _ r h => by simp [laws_FnFillImage.j0] at h
 | k + 1 => by
  have ih0 := laws_FnFillImage.mono_l k
  ·intro y0 y1 y2 y3 y4 y5 y6 y7
   unfold laws_FnFillImage.j0
   repeat' first | (with_reducible first | exact ih0 _ _ _ _ _ _ _ _ | exact impl_FillImage.mono _ _ _ _ | exact laws_equalImage.mono _ _ _ _ _ _ _ _ _ | exact laws_equalInts.mono _ _ _ | exact spec_DrawFillImage.mono _ _ | exact spec_FillImage.mono _ _ _ _ | exact lR | exact lN | refine lI ?_ ?_ | refine lB ?_ fun _ => ?_) | exact ih0 _ _ _ _ _ _ _ _ | exact impl_FillImage.mono _ _ _ _ | exact laws_equalImage.mono _ _ _ _ _ _ _ _ _ | exact laws_equalInts.mono _ _ _ | exact spec_DrawFillImage.mono _ _ | exact spec_FillImage.mono _ _ _ _ | exact lN | refine lI ?_ ?_ | refine lB ?_ fun _ => ?_
theorem laws_FnFillImage.mono : ∀ a0 k, LeO (laws_FnFillImage.f k a0) (laws_FnFillImage.f (k + 1) a0) := by
 intro a0 k
 have ih0 := laws_FnFillImage.mono_l k
 unfold laws_FnFillImage.f
 repeat' first | (with_reducible first | exact ih0 _ _ _ _ _ _ _ _ | exact impl_FillImage.mono _ _ _ _ | exact laws_equalImage.mono _ _ _ _ _ _ _ _ _ | exact laws_equalInts.mono _ _ _ | exact spec_DrawFillImage.mono _ _ | exact spec_FillImage.mono _ _ _ _ | exact lR | exact lN | refine lI ?_ ?_ | refine lB ?_ fun _ => ?_) | exact ih0 _ _ _ _ _ _ _ _ | exact impl_FillImage.mono _ _ _ _ | exact laws_equalImage.mono _ _ _ _ _ _ _ _ _ | exact laws_equalInts.mono _ _ _ | exact spec_DrawFillImage.mono _ _ | exact spec_FillImage.mono _ _ _ _ | exact lN | refine lI ?_ ?_ | refine lB ?_ fun _ => ?_
def laws_FnFillImage.T5 : Bool × List (List Nat × List Nat) := (true, [([], []), ([], []), ([], []), ([], []), ([1, 2, 3], [1, 2, 3]), ([0, 4, 4], [0, 4]), ([5], [5]), ([6, 5], [6]), ([7], [7]), ([8, 7], [7, 8]), ([9, 7], [7, 9]), ([7, 10], [7, 10])])
def laws_FnFillImage.B5 : List Nat := [0, 0, 0, 0, 14, 31, 63, 127, 255, 511, 1023, 2047]
theorem laws_FnFillImage.tab5 : rtab .any (opsOf Try.f14 5) = laws_FnFillImage.T5 := by kernel_rfl
theorem laws_FnFillImage.bits5 : waitsOk laws_FnFillImage.T5.2 laws_FnFillImage.B5 = true := by kernel_rfl
set_option maxHeartbeats 8000000 in
set_option maxRecDepth 100000 in
theorem laws_FnFillImage.calls (k : Nat) (A0 : Option Addr) (c0 : Nat) (l0 : List Int) (r : Bool) (w : World) (hr0 : Kd.C (Kd.int .u8) w A0 l0.length l0) (hc0 : l0.length ≤ c0) (h : laws_FnFillImage.f k l0 = some r) (hrt : r = true) :
  Calls Try.prog 14 #[.slice A0 l0.length c0] w fun e w' => e = .returned (.bool r) ∧ Below w.heap.size w w' := by
 have hu48 := Try.underlying48
 have HR0 := aM hr0
 have HC0 := aM hc0
 clear hr0 hc0
 have HB := aM (Below.refl w.heap.size w)
 unfold laws_FnFillImage.f at h
 have H := h
 clear h
 by_cases c2 : (l0.length : Int) > 1048576
 ·rw [if_pos c2] at H
  have c2b0 : decide (1048576 < (l0.length : Int)) = true := decide_eq_true c2
  have c2b1 : decide (1048576 < l0.length) = true := decide_eq_true (by omega)
  clear c2
  obtain rfl := Option.some.inj H
  go_enter Try.func14, Try.ntmps14
  go_wp2
  go_ret
  exact ⟨qX, by exact qW HB.out⟩
 rw [if_neg c2] at H
 have c2b0 : decide (1048576 < (l0.length : Int)) = false := decide_eq_false c2
 have c2b1 : decide (1048576 < l0.length) = false := decide_eq_false (by omega)
 clear c2
 replace H := Option.bind_eq_some_iff.mp H
 obtain ⟨⟨t653, t654, t655⟩, A30, H⟩ := H
 replace H : ((impl_FillImage.f k t653 t654 t655).bind fun bt658 => ((spec_FillImage.f k t653 t654 t655).bind fun bt665 => ((laws_equalImage.f k bt658.1 bt658.2.1 bt658.2.2.1 bt658.2.2.2 bt665.1 bt665.2.1 bt665.2.2.1 bt665.2.2.2).bind fun t671 => (if t671 = true then (laws_FnFillImage.j0 k t653 t654 t655 (bt658.1 == 0) bt658.1 bt658.2.1 bt658.2.2.1 bt658.2.2.2) else (laws_FnFillImage.j0 k t653 t654 t655 true bt658.1 bt658.2.1 bt658.2.2.1 bt658.2.2.2))))) = some r := H
 have A3 := aM A30
 clear A30
 replace H := Option.bind_eq_some_iff.mp H
 obtain ⟨⟨t658, t659, t660, t661⟩, A40, H⟩ := H
 replace H : ((spec_FillImage.f k t653 t654 t655).bind fun bt665 => ((laws_equalImage.f k t658 t659 t660 t661 bt665.1 bt665.2.1 bt665.2.2.1 bt665.2.2.2).bind fun t671 => (if t671 = true then (laws_FnFillImage.j0 k t653 t654 t655 (t658 == 0) t658 t659 t660 t661) else (laws_FnFillImage.j0 k t653 t654 t655 true t658 t659 t660 t661)))) = some r := H
 have A4 := aM A40
 clear A40
 have HC5 := aM H
 clear H
 go_enter Try.func14, Try.ntmps14
 go_upto_region 5 with (first | ((with_reducible refine gate_callee (f := 38) rfl ?_); refine gL (some 14) Try.func38 #[.slice A0 l0.length c0] ?_; (with_reducible refine (spec_DrawFillImage.calls k _ _ l0 t653 t654 t655 _ ?side1 ?side2 A3.out).mono ?_); (case side1 => exact qC HR0.out); (case side2 => exact HC0.out); rintro e w6 ⟨v656, rfl, ho0, hb⟩; refine ⟨_, rfl, ?_⟩; have HO657 := aM (Kd.Q_lower ho0 (below_size (qW HB.out))); replace HB := bS HB hb; clear hb ho0; obtain ⟨Ao7, co7, eo7, _⟩ := Kd.Q_slice HO657.out; subst eo7) | ((with_reducible refine gate_callee (f := 39) rfl ?_); refine gL (some 21) Try.func39 #[.int .i64 t653, .int .i64 t654, .slice Ao7 t655.length co7] ?_; (with_reducible refine (impl_FillImage.calls k t653 t654 _ _ t655 t658 t659 t660 t661 _ ?side1 ?side2 A4.out).mono ?_); (case side1 => exact qC (Kd.Q_reads' HO657.out).2.2); (case side2 => exact (Kd.Q_reads' HO657.out).2.1); rintro e w8 ⟨v662, rfl, ho0, hb⟩; refine ⟨_, rfl, ?_⟩; have HO663 := aM (Kd.R_lower (Kd.R_new' ho0 (Kd.Q_lt (qQ HO657.out))) (below_size (qW HB.out))); replace HO657 := aM (Kd.Q_elder' (qQ HO657.out) (Kd.R_base ho0) hb); replace HB := bS HB hb; clear hb ho0) | ((with_reducible refine gate_dst (N := 6) rfl ?_); (try (refine gate_guard (by rfl) ?_; dsimp only)); refine bxE (N := 6) (cs := #[.int .i64 0, .int .i64 0, .int .i64 0, .slice none 0 0]) (t := 48) ?_; intro gb664 hg w9 hbox hb; replace HO657 := aM (Kd.Q_below (qQ HO657.out) hb); replace HO663 := aM (Kd.R_below (qR HO663.out) hb); have BK664 := aM (hbox); have GW664 := gW hg HB; have GE664 := gW hg HB; replace HB := bS HB hb; clear hb hbox hg; obtain ⟨⟨hcz10_0, hcz10_1, hcz10_2, hcz10_3⟩, hfz10_0, hfz10_1, hfz10_2, hfz10_3⟩ := cf4 BK664; obtain ⟨Ao11, co11, rfl⟩ := sL HO663))
 (try simp only [Act.put, List.setIfInBounds_toArray, List.set_cons_zero, List.set_cons_succ])
 go_cut [33] (fun v33 wc => ∃ (kq : Nat) (x33_4 : Bool), v33 = .bool x33_4 ∧ Aside0 (laws_FnFillImage.j0 kq t653 t654 t655 x33_4 t658 t659 t660 t661 = some r) ∧ Aside0 (kq ≤ k) ∧ Aside0 (Kd.Q (Kd.int .i64) 3 wc w.heap.size (fun k_ => some k_ ≠ ((.slice Ao11 t661.length co11) : Value).ownBlock) (.slice Ao7 t655.length co7) t655) ∧ Aside0 (Kd.R (Kd.int .i64) 3 wc w.heap.size (fun k_ => some k_ ≠ ((.slice Ao7 t655.length co7) : Value).ownBlock) (.slice Ao11 t661.length co11) t661) ∧ Aside0 (wc.heap[gb664]? = some (.cells #[.int .i64 t658, .int .i64 t659, .int .i64 t660, (.slice Ao11 t661.length co11)] 48 (0, 0))) ∧ Aside0 (Below w.heap.size w wc))
 case first =>
  have H := HC5.out
  clear HC5
  replace H := Option.bind_eq_some_iff.mp H
  obtain ⟨⟨t665, t666, t667, t668⟩, A120, H⟩ := H
  replace H : ((laws_equalImage.f k t658 t659 t660 t661 t665 t666 t667 t668).bind fun t671 => (if t671 = true then (laws_FnFillImage.j0 k t653 t654 t655 (t658 == 0) t658 t659 t660 t661) else (laws_FnFillImage.j0 k t653 t654 t655 true t658 t659 t660 t661))) = some r := H
  have A12 := aM A120
  clear A120
  replace H := Option.bind_eq_some_iff.mp H
  obtain ⟨t671, A130, H⟩ := H
  replace H : (if t671 = true then (laws_FnFillImage.j0 k t653 t654 t655 (t658 == 0) t658 t659 t660 t661) else (laws_FnFillImage.j0 k t653 t654 t655 true t658 t659 t660 t661)) = some r := H
  have A13 := aM A130
  clear A130
  by_cases c14 : t671 = true
  rotate_left
  ·replace c14 := Bool.eq_false_iff.mpr c14
   subst c14
   have H1 : (laws_FnFillImage.j0 k t653 t654 t655 true t658 t659 t660 t661) = some r := by rw [if_neg (show ¬ (false = true) by decide)] at H; exact H
   clear H
   have H := H1
   clear H1
   have H' := aM H
   clear H
   try go_wp2
   have n0_ : Aside0 (Kd.Q (Kd.int .i64) 3 ((((w9.setCell ⟨gb664, 0, none⟩ (.int .i64 t658)).setCell ⟨gb664, 1, none⟩ (.int .i64 t659)).setCell ⟨gb664, 2, none⟩ (.int .i64 t660)).setCell ⟨gb664, 3, none⟩ (.slice Ao11 t661.length co11)) w.heap.size (fun k_ => some k_ ≠ (.slice Ao11 t661.length co11 : Value).ownBlock) (.slice Ao7 t655.length co7) t655) := ⟨by (with_reducible repeat (first | apply Kd.Q_alloc | apply Kd.Q_drewN | apply Kd.Q_drew)); exact Kd.Q_mono (qT HO657 BK664) (fun _ hk => hk.1.2)⟩
   have n1_ : Aside0 (Kd.R (Kd.int .i64) 3 ((((w9.setCell ⟨gb664, 0, none⟩ (.int .i64 t658)).setCell ⟨gb664, 1, none⟩ (.int .i64 t659)).setCell ⟨gb664, 2, none⟩ (.int .i64 t660)).setCell ⟨gb664, 3, none⟩ (.slice Ao11 t661.length co11)) w.heap.size (fun k_ => some k_ ≠ (.slice Ao7 t655.length co7 : Value).ownBlock) (.slice Ao11 t661.length co11) t661) := ⟨by refine qR ?_; exact Kd.R_mono (rT HO663 BK664) (fun _ hk => hk.1.2)⟩
   have n2_ : Aside0 (((((w9.setCell ⟨gb664, 0, none⟩ (.int .i64 t658)).setCell ⟨gb664, 1, none⟩ (.int .i64 t659)).setCell ⟨gb664, 2, none⟩ (.int .i64 t660)).setCell ⟨gb664, 3, none⟩ (.slice Ao11 t661.length co11)).heap[gb664]? = some (.cells #[.int .i64 t658, .int .i64 t659, .int .i64 t660, .slice Ao11 t661.length co11] 48 (0, 0))) := ⟨by exact bP BK664.out⟩
   have n3_ : Aside0 (Below w.heap.size w ((((w9.setCell ⟨gb664, 0, none⟩ (.int .i64 t658)).setCell ⟨gb664, 1, none⟩ (.int .i64 t659)).setCell ⟨gb664, 2, none⟩ (.int .i64 t660)).setCell ⟨gb664, 3, none⟩ (.slice Ao11 t661.length co11))) := ⟨by exact qW HB.out⟩
   (try clear HO657)
   (try clear HO663)
   (try clear BK664)
   (try clear HB)
   generalize ((((w9.setCell ⟨gb664, 0, none⟩ (.int .i64 t658)).setCell ⟨gb664, 1, none⟩ (.int .i64 t659)).setCell ⟨gb664, 2, none⟩ (.int .i64 t660)).setCell ⟨gb664, 3, none⟩ (.slice Ao11 t661.length co11)) = w20 at n0_ n1_ n2_ n3_ ⊢
   have HO657 := n0_
   have HO663 := n1_
   have BK664 := n2_
   have HB := n3_
   clear n0_ n1_ n2_ n3_
   replace HO657 := aM (Kd.Q_drew HO657.out)
   replace HO663 := aM (Kd.R_drew HO663.out)
   replace BK664 := aM (blk_drew BK664.out)
   replace HB := aM (below_drew1 HB.out)
   refine start_ (n := 12) (S := fun w' => w'.cell? ⟨gb664, 0, none⟩ = some (.int .i64 t658) ∧ w'.cell? ⟨gb664, 1, none⟩ = some (.int .i64 t659) ∧ w'.cell? ⟨gb664, 2, none⟩ = some (.int .i64 t660) ∧ w'.cell? ⟨gb664, 3, none⟩ = some (.slice Ao11 t661.length co11)) (ds := []) (bA 12 0) (by kernel_rfl) rfl rfl ⟨(blk_cell BK664.out 0).trans rfl, (blk_cell BK664.out 1).trans rfl, (blk_cell BK664.out 2).trans rfl, (blk_cell BK664.out 3).trans rfl⟩ (fun hHeld => ?_); refine with_tabW laws_FnFillImage.tab5 laws_FnFillImage.bits5 (fun HT_ HW_ => ?_)
   generalize w20.drew = w21 at HO657 HO663 BK664 HB hHeld ⊢
   refine pQ 1 23 HT_ (bA 12 2) ?_
   refine pQ 2 24 HT_ (bA 12 6) ?_
   refine pQ 3 25 HT_ (bA 12 14) ?_
   refine take_ (i := 0) (N := some 22) (v := ?_) (a' := ?_) (bA 12 15) rfl rfl (take_ofW HT_.out HW_.out (by kernel_rfl)) (fun _ _ _ h => h) (Or.inl ⟨by rfl, ?_⟩) hHeld ?_ ?_
   rotate_left
   ·rintro w' ⟨s0, s1, s2, s3⟩
    go_simp
    with_reducible rfl
   rotate_left
   ·refine pZ ?_
    rfl
   refine one_ (i := 4) (N := some 26) (bA 12 31) rfl rfl (one_of HT_.out (by kernel_rfl)) (by decide) (fun K hK => ?_)
   refine goes_ Try.func41 (by kernel_rfl) rfl #[.int .i64 t653, .int .i64 t654, .slice Ao7 t655.length co7] (by rfl) rfl rfl qM ?_
   with_reducible refine (spec_FillImage.calls k t653 t654 _ _ t655 t665 t666 t667 t668 _ ?side1 ?side2 A12.out).mono ?_
   (case side1 => exact qC (Kd.Q_reads' HO657.out).2.2)
   (case side2 => exact (Kd.Q_reads' HO657.out).2.1)
   rintro e w22 ⟨v669, rfl, ho0, hb⟩
   refine ⟨_, rfl, ?_⟩
   have HO670 := aM (Kd.R_lower (Kd.R_new' (Kd.R_new' ho0 (Kd.Q_lt (qQ HO657.out))) (Kd.R_lt (qR HO663.out))) (below_size (qW HB.out)))
   replace HO657 := aM (Kd.Q_elder' (qQ HO657.out) (Kd.R_base ho0) hb)
   replace HO663 := aM (Kd.R_elder' (qR HO663.out) (Kd.R_base ho0) hb)
   replace BK664 := bB BK664 hb
   replace HB := bS HB hb
   (try clear hb)
   (try clear hb2)
   (try clear hk)
   (try clear hi)
   (try clear ho0)
   obtain ⟨Ao23, co23, eo23⟩ := Kd.R_slice HO670.out
   (first | subst eo23 | (injection eo23 with f1_ f2_ f3_; have f4_ := f1_.symm; have f5_ := f3_.symm; clear f1_ f2_ f3_; subst f4_; subst f5_))
   refine hK.out _ _ ⟨(blk_cell BK664.out 0).trans rfl, (blk_cell BK664.out 1).trans rfl, (blk_cell BK664.out 2).trans rfl, (blk_cell BK664.out 3).trans rfl⟩ (fun hHeld => ?_)
   clear hK K
   refine norm_ (a' := ?_) ?_ ?_
   rotate_left
   ·show Act.put _ (some 26) _ = _
    refine pZ ?_
    rfl
   refine one_ (i := 5) (N := some 27) (bA 12 63) rfl rfl (one_of HT_.out (by kernel_rfl)) (by decide) (fun K hK => ?_)
   refine goes_ Try.func40 (by kernel_rfl) rfl #[.agg #[.int .i64 t658, .int .i64 t659, .int .i64 t660, .slice Ao11 t661.length co11], .agg #[.int .i64 t665, .int .i64 t666, .int .i64 t667, .slice Ao23 t668.length co23]] (by rfl) rfl rfl qM ?_
   with_reducible refine (laws_equalImage.calls k t658 t659 t660 _ _ t661 t665 t666 t667 _ _ t668 false _ ?side1 ?side2 ?side3 ?side4 A13.out).mono ?_
   (case side1 => exact qC (Kd.R_reads' HO663.out).2.2)
   (case side2 => exact (Kd.R_reads' HO663.out).2.1)
   (case side3 => exact qC (Kd.R_reads' HO670.out).2.2)
   (case side4 => exact (Kd.R_reads' HO670.out).2.1)
   rintro e w24 ⟨rfl, hb⟩
   refine ⟨_, rfl, ?_⟩
   replace HO657 := aM (Kd.Q_below (qQ HO657.out) hb)
   replace HO663 := aM (Kd.R_below (qR HO663.out) hb)
   replace HO670 := aM (Kd.R_below (qR HO670.out) hb)
   replace BK664 := bB BK664 hb
   replace HB := bS HB hb
   (try clear hb)
   (try clear hb2)
   (try clear hk)
   (try clear hi)
   refine hK.out _ _ ⟨(blk_cell BK664.out 0).trans rfl, (blk_cell BK664.out 1).trans rfl, (blk_cell BK664.out 2).trans rfl, (blk_cell BK664.out 3).trans rfl⟩ (fun hHeld => ?_)
   clear hK K
   refine norm_ (a' := ?_) ?_ ?_
   rotate_left
   ·show Act.put _ (some 27) _ = _
    refine pZ ?_
    rfl
   refine pQ 6 28 HT_ (bA 12 127) ?_
   refine pQ 7 29 HT_ (bA 12 255) ?_
   refine pure_ (i := 8) (N := some 30) (v := undef) (a' := ?_) (bA 12 511) rfl rfl (any_of HT_.out (by kernel_rfl)) (fun _ _ _ h => h) (Or.inr ⟨by rfl, rfl⟩) ?_ ?_
   rotate_left
   ·refine pZ ?_
    rfl
   refine pure_ (i := 9) (N := some 31) (v := undef) (a' := ?_) (bA 12 1023) rfl rfl (any_of HT_.out (by kernel_rfl)) (fun _ _ _ h => h) (Or.inr ⟨by rfl, rfl⟩) ?_ ?_
   rotate_left
   ·refine pZ ?_
    rfl
   refine pure_ (i := 10) (N := some 32) (v := undef) (a' := ?_) (bA 12 2047) rfl rfl (any_of HT_.out (by kernel_rfl)) (fun _ _ _ h => h) (Or.inr ⟨by rfl, rfl⟩) ?_ ?_
   rotate_left
   ·refine pZ ?_
    rfl
   refine pQ 11 33 HT_ (bA 12 4095) ?_
   refine done_ (done_of HT_.out (by kernel_rfl)) ?_
   try go_wp2
   go_meet
   case rel => exact ⟨_, (true), qE, H', ⟨by first | omega | exact Nat.le_refl _⟩, ⟨by (with_reducible repeat (first | apply Kd.Q_alloc | apply Kd.Q_drewN | apply Kd.Q_drew)); exact Kd.Q_mono HO657.out (fun _ hk => hk.1)⟩, ⟨by refine qR ?_; exact Kd.R_mono HO663.out (fun _ hk => hk.1)⟩, ⟨by refine qB ?_; exact BK664.out⟩, ⟨by exact qW HB.out⟩⟩
  subst c14
  have H1 : (laws_FnFillImage.j0 k t653 t654 t655 (t658 == 0) t658 t659 t660 t661) = some r := by rw [if_pos rfl] at H; exact H
  clear H
  have H := H1
  clear H1
  have H' := aM H
  clear H
  try go_wp2
  have n0_ : Aside0 (Kd.Q (Kd.int .i64) 3 ((((w9.setCell ⟨gb664, 0, none⟩ (.int .i64 t658)).setCell ⟨gb664, 1, none⟩ (.int .i64 t659)).setCell ⟨gb664, 2, none⟩ (.int .i64 t660)).setCell ⟨gb664, 3, none⟩ (.slice Ao11 t661.length co11)) w.heap.size (fun k_ => some k_ ≠ (.slice Ao11 t661.length co11 : Value).ownBlock) (.slice Ao7 t655.length co7) t655) := ⟨by (with_reducible repeat (first | apply Kd.Q_alloc | apply Kd.Q_drewN | apply Kd.Q_drew)); exact Kd.Q_mono (qT HO657 BK664) (fun _ hk => hk.1.2)⟩
  have n1_ : Aside0 (Kd.R (Kd.int .i64) 3 ((((w9.setCell ⟨gb664, 0, none⟩ (.int .i64 t658)).setCell ⟨gb664, 1, none⟩ (.int .i64 t659)).setCell ⟨gb664, 2, none⟩ (.int .i64 t660)).setCell ⟨gb664, 3, none⟩ (.slice Ao11 t661.length co11)) w.heap.size (fun k_ => some k_ ≠ (.slice Ao7 t655.length co7 : Value).ownBlock) (.slice Ao11 t661.length co11) t661) := ⟨by refine qR ?_; exact Kd.R_mono (rT HO663 BK664) (fun _ hk => hk.1.2)⟩
  have n2_ : Aside0 (((((w9.setCell ⟨gb664, 0, none⟩ (.int .i64 t658)).setCell ⟨gb664, 1, none⟩ (.int .i64 t659)).setCell ⟨gb664, 2, none⟩ (.int .i64 t660)).setCell ⟨gb664, 3, none⟩ (.slice Ao11 t661.length co11)).heap[gb664]? = some (.cells #[.int .i64 t658, .int .i64 t659, .int .i64 t660, .slice Ao11 t661.length co11] 48 (0, 0))) := ⟨by exact bP BK664.out⟩
  have n3_ : Aside0 (Below w.heap.size w ((((w9.setCell ⟨gb664, 0, none⟩ (.int .i64 t658)).setCell ⟨gb664, 1, none⟩ (.int .i64 t659)).setCell ⟨gb664, 2, none⟩ (.int .i64 t660)).setCell ⟨gb664, 3, none⟩ (.slice Ao11 t661.length co11))) := ⟨by exact qW HB.out⟩
  (try clear HO657)
  (try clear HO663)
  (try clear BK664)
  (try clear HB)
  generalize ((((w9.setCell ⟨gb664, 0, none⟩ (.int .i64 t658)).setCell ⟨gb664, 1, none⟩ (.int .i64 t659)).setCell ⟨gb664, 2, none⟩ (.int .i64 t660)).setCell ⟨gb664, 3, none⟩ (.slice Ao11 t661.length co11)) = w15 at n0_ n1_ n2_ n3_ ⊢
  have HO657 := n0_
  have HO663 := n1_
  have BK664 := n2_
  have HB := n3_
  clear n0_ n1_ n2_ n3_
  replace HO657 := aM (Kd.Q_drew HO657.out)
  replace HO663 := aM (Kd.R_drew HO663.out)
  replace BK664 := aM (blk_drew BK664.out)
  replace HB := aM (below_drew1 HB.out)
  refine start_ (n := 12) (S := fun w' => w'.cell? ⟨gb664, 0, none⟩ = some (.int .i64 t658) ∧ w'.cell? ⟨gb664, 1, none⟩ = some (.int .i64 t659) ∧ w'.cell? ⟨gb664, 2, none⟩ = some (.int .i64 t660) ∧ w'.cell? ⟨gb664, 3, none⟩ = some (.slice Ao11 t661.length co11)) (ds := []) (bA 12 0) (by kernel_rfl) rfl rfl ⟨(blk_cell BK664.out 0).trans rfl, (blk_cell BK664.out 1).trans rfl, (blk_cell BK664.out 2).trans rfl, (blk_cell BK664.out 3).trans rfl⟩ (fun hHeld => ?_); refine with_tabW laws_FnFillImage.tab5 laws_FnFillImage.bits5 (fun HT_ HW_ => ?_)
  generalize w15.drew = w16 at HO657 HO663 BK664 HB hHeld ⊢
  refine pQ 1 23 HT_ (bA 12 2) ?_
  refine pQ 2 24 HT_ (bA 12 6) ?_
  refine pQ 3 25 HT_ (bA 12 14) ?_
  refine take_ (i := 0) (N := some 22) (v := ?_) (a' := ?_) (bA 12 15) rfl rfl (take_ofW HT_.out HW_.out (by kernel_rfl)) (fun _ _ _ h => h) (Or.inl ⟨by rfl, ?_⟩) hHeld ?_ ?_
  rotate_left
  ·rintro w' ⟨s0, s1, s2, s3⟩
   go_simp
   with_reducible rfl
  rotate_left
  ·refine pZ ?_
   rfl
  refine one_ (i := 4) (N := some 26) (bA 12 31) rfl rfl (one_of HT_.out (by kernel_rfl)) (by decide) (fun K hK => ?_)
  refine goes_ Try.func41 (by kernel_rfl) rfl #[.int .i64 t653, .int .i64 t654, .slice Ao7 t655.length co7] (by rfl) rfl rfl qM ?_
  with_reducible refine (spec_FillImage.calls k t653 t654 _ _ t655 t665 t666 t667 t668 _ ?side1 ?side2 A12.out).mono ?_
  (case side1 => exact qC (Kd.Q_reads' HO657.out).2.2)
  (case side2 => exact (Kd.Q_reads' HO657.out).2.1)
  rintro e w17 ⟨v669, rfl, ho0, hb⟩
  refine ⟨_, rfl, ?_⟩
  have HO670 := aM (Kd.R_lower (Kd.R_new' (Kd.R_new' ho0 (Kd.Q_lt (qQ HO657.out))) (Kd.R_lt (qR HO663.out))) (below_size (qW HB.out)))
  replace HO657 := aM (Kd.Q_elder' (qQ HO657.out) (Kd.R_base ho0) hb)
  replace HO663 := aM (Kd.R_elder' (qR HO663.out) (Kd.R_base ho0) hb)
  replace BK664 := bB BK664 hb
  replace HB := bS HB hb
  (try clear hb)
  (try clear hb2)
  (try clear hk)
  (try clear hi)
  (try clear ho0)
  obtain ⟨Ao18, co18, eo18⟩ := Kd.R_slice HO670.out
  (first | subst eo18 | (injection eo18 with f1_ f2_ f3_; have f4_ := f1_.symm; have f5_ := f3_.symm; clear f1_ f2_ f3_; subst f4_; subst f5_))
  refine hK.out _ _ ⟨(blk_cell BK664.out 0).trans rfl, (blk_cell BK664.out 1).trans rfl, (blk_cell BK664.out 2).trans rfl, (blk_cell BK664.out 3).trans rfl⟩ (fun hHeld => ?_)
  clear hK K
  refine norm_ (a' := ?_) ?_ ?_
  rotate_left
  ·show Act.put _ (some 26) _ = _
   refine pZ ?_
   rfl
  refine one_ (i := 5) (N := some 27) (bA 12 63) rfl rfl (one_of HT_.out (by kernel_rfl)) (by decide) (fun K hK => ?_)
  refine goes_ Try.func40 (by kernel_rfl) rfl #[.agg #[.int .i64 t658, .int .i64 t659, .int .i64 t660, .slice Ao11 t661.length co11], .agg #[.int .i64 t665, .int .i64 t666, .int .i64 t667, .slice Ao18 t668.length co18]] (by rfl) rfl rfl qM ?_
  with_reducible refine (laws_equalImage.calls k t658 t659 t660 _ _ t661 t665 t666 t667 _ _ t668 true _ ?side1 ?side2 ?side3 ?side4 A13.out).mono ?_
  (case side1 => exact qC (Kd.R_reads' HO663.out).2.2)
  (case side2 => exact (Kd.R_reads' HO663.out).2.1)
  (case side3 => exact qC (Kd.R_reads' HO670.out).2.2)
  (case side4 => exact (Kd.R_reads' HO670.out).2.1)
  rintro e w19 ⟨rfl, hb⟩
  refine ⟨_, rfl, ?_⟩
  replace HO657 := aM (Kd.Q_below (qQ HO657.out) hb)
  replace HO663 := aM (Kd.R_below (qR HO663.out) hb)
  replace HO670 := aM (Kd.R_below (qR HO670.out) hb)
  replace BK664 := bB BK664 hb
  replace HB := bS HB hb
  (try clear hb)
  (try clear hb2)
  (try clear hk)
  (try clear hi)
  refine hK.out _ _ ⟨(blk_cell BK664.out 0).trans rfl, (blk_cell BK664.out 1).trans rfl, (blk_cell BK664.out 2).trans rfl, (blk_cell BK664.out 3).trans rfl⟩ (fun hHeld => ?_)
  clear hK K
  refine norm_ (a' := ?_) ?_ ?_
  rotate_left
  ·show Act.put _ (some 27) _ = _
   refine pZ ?_
   rfl
  refine pQ 6 28 HT_ (bA 12 127) ?_
  refine pQ 7 29 HT_ (bA 12 255) ?_
  refine pQ 8 30 HT_ (bA 12 511) ?_
  refine take_ (i := 9) (N := some 31) (v := ?_) (a' := ?_) (bA 12 1023) rfl rfl (take_ofW HT_.out HW_.out (by kernel_rfl)) (fun _ _ _ h => h) (Or.inl ⟨by rfl, ?_⟩) hHeld ?_ ?_
  rotate_left
  ·rintro w' ⟨s0, s1, s2, s3⟩
   go_simp
   with_reducible rfl
  rotate_left
  ·refine pZ ?_
   rfl
  refine pQ 10 32 HT_ (bA 12 2047) ?_
  refine pQ 11 33 HT_ (bA 12 4095) ?_
  refine done_ (done_of HT_.out (by kernel_rfl)) ?_
  try go_wp2
  go_meet
  case rel => exact ⟨_, ((t658 == 0)), qE, H', ⟨by first | omega | exact Nat.le_refl _⟩, ⟨by (with_reducible repeat (first | apply Kd.Q_alloc | apply Kd.Q_drewN | apply Kd.Q_drew)); exact Kd.Q_mono HO657.out (fun _ hk => hk.1)⟩, ⟨by refine qR ?_; exact Kd.R_mono HO663.out (fun _ hk => hk.1)⟩, ⟨by refine qB ?_; exact BK664.out⟩, ⟨by exact qW HB.out⟩⟩
 case rest =>
  clear HC5
  try clear c2
  try clear c2b0
  try clear c2b1
  try clear c14
  try clear hcz10_0 hcz10_1 hcz10_2 hcz10_3 hfz10_0 hfz10_1 hfz10_2 hfz10_3
  obtain ⟨kq, x33_4, rfl, HA, HJ4, HO_5, HO_665003, BK664, HB⟩ := hcut
  cases kq with
  | zero => exact absurd HA.out (by simp [laws_FnFillImage.j0])
  | succ kj4 =>
   have H := HA.out
   clear HA
   simp only [laws_FnFillImage.j0] at H
   by_cases c25 : x33_4 = true
   ·subst c25
    have H1 : ((spec_FillImage.f kj4 t653 t654 t655).bind fun bt672 => ((laws_equalImage.f kj4 t658 t659 t660 t661 bt672.1 bt672.2.1 bt672.2.2.1 bt672.2.2.2).bind fun t678 => (some t678))) = some r := by rw [if_pos rfl] at H; exact H
    clear H
    have H := H1
    clear H1
    replace H := Option.bind_eq_some_iff.mp H
    obtain ⟨⟨t672, t673, t674, t675⟩, A260, H⟩ := H
    replace H : ((laws_equalImage.f kj4 t658 t659 t660 t661 t672 t673 t674 t675).bind fun t678 => (some t678)) = some r := H
    have A26 := aM A260
    clear A260
    replace H := Option.bind_eq_some_iff.mp H
    obtain ⟨t678, A270, H⟩ := H
    replace H : (some t678) = some r := H
    have A27 := aM A270
    clear A270
    obtain rfl := Option.some.inj H
    try go_wp2
    replace HO_5 := aM (Kd.Q_drew HO_5.out)
    replace HO_665003 := aM (Kd.R_drew HO_665003.out)
    replace BK664 := aM (blk_drew BK664.out)
    replace HB := aM (below_drew1 HB.out)
    refine start_ (n := 7) (S := fun w' => w'.cell? ⟨gb664, 0, none⟩ = some (.int .i64 t658) ∧ w'.cell? ⟨gb664, 1, none⟩ = some (.int .i64 t659) ∧ w'.cell? ⟨gb664, 2, none⟩ = some (.int .i64 t660) ∧ w'.cell? ⟨gb664, 3, none⟩ = some (.slice Ao11 t661.length co11)) (ds := []) (bA 7 0) (by kernel_rfl) rfl rfl ⟨(blk_cell BK664.out 0).trans rfl, (blk_cell BK664.out 1).trans rfl, (blk_cell BK664.out 2).trans rfl, (blk_cell BK664.out 3).trans rfl⟩ (fun hHeld => ?_)
    generalize wc.drew = w28 at HO_5 HO_665003 BK664 HB hHeld ⊢
    refine pure_ (i := 1) (N := some 35) (v := ?_) (a' := ?_) (bA 7 2) rfl rfl (by kernel_rfl) (fun _ _ _ h => h) (Or.inl ⟨by rfl, ?_⟩) ?_ ?_
    rotate_left
    ·intro w'
     go_simp
     with_reducible rfl
    rotate_left
    ·refine pZ ?_
     rfl
    refine pure_ (i := 2) (N := some 36) (v := ?_) (a' := ?_) (bA 7 6) rfl rfl (by kernel_rfl) (fun _ _ _ h => h) (Or.inl ⟨by rfl, ?_⟩) ?_ ?_
    rotate_left
    ·intro w'
     go_simp
     with_reducible rfl
    rotate_left
    ·refine pZ ?_
     rfl
    refine pure_ (i := 3) (N := some 37) (v := ?_) (a' := ?_) (bA 7 14) rfl rfl (by kernel_rfl) (fun _ _ _ h => h) (Or.inl ⟨by rfl, ?_⟩) ?_ ?_
    rotate_left
    ·intro w'
     go_simp
     with_reducible rfl
    rotate_left
    ·refine pZ ?_
     rfl
    refine take_ (i := 0) (N := some 34) (v := ?_) (a' := ?_) (bA 7 15) rfl rfl (by kernel_rfl) (fun _ _ _ h => h) (Or.inl ⟨by rfl, ?_⟩) hHeld ?_ ?_
    rotate_left
    ·rintro w' ⟨s0, s1, s2, s3⟩
     go_simp
     with_reducible rfl
    rotate_left
    ·refine pZ ?_
     rfl
    refine one_ (i := 4) (N := some 38) (bA 7 31) rfl rfl (by kernel_rfl) (by decide) (fun K hK => ?_)
    refine goes_ Try.func41 (by kernel_rfl) rfl #[.int .i64 t653, .int .i64 t654, .slice Ao7 t655.length co7] (by rfl) rfl rfl qM ?_
    with_reducible refine (spec_FillImage.calls kj4 t653 t654 _ _ t655 t672 t673 t674 t675 _ ?side1 ?side2 A26.out).mono ?_
    (case side1 => exact qC (Kd.Q_reads' HO_5.out).2.2)
    (case side2 => exact (Kd.Q_reads' HO_5.out).2.1)
    rintro e w29 ⟨v676, rfl, ho0, hb⟩
    refine ⟨_, rfl, ?_⟩
    have HO677 := aM (Kd.R_lower (Kd.R_new' (Kd.R_new' ho0 (Kd.Q_lt (qQ HO_5.out))) (Kd.R_lt (qR HO_665003.out))) (below_size (qW HB.out)))
    replace HO_5 := aM (Kd.Q_elder' (qQ HO_5.out) (Kd.R_base ho0) hb)
    replace HO_665003 := aM (Kd.R_elder' (qR HO_665003.out) (Kd.R_base ho0) hb)
    replace BK664 := bB BK664 hb
    replace HB := bS HB hb
    (try clear hb)
    (try clear hb2)
    (try clear hk)
    (try clear hi)
    (try clear ho0)
    obtain ⟨Ao30, co30, eo30⟩ := Kd.R_slice HO677.out
    (first | subst eo30 | (injection eo30 with f1_ f2_ f3_; have f4_ := f1_.symm; have f5_ := f3_.symm; clear f1_ f2_ f3_; subst f4_; subst f5_))
    refine hK.out _ _ ⟨(blk_cell BK664.out 0).trans rfl, (blk_cell BK664.out 1).trans rfl, (blk_cell BK664.out 2).trans rfl, (blk_cell BK664.out 3).trans rfl⟩ (fun hHeld => ?_)
    clear hK K
    refine norm_ (a' := ?_) ?_ ?_
    rotate_left
    ·show Act.put _ (some 38) _ = _
     refine pZ ?_
     rfl
    refine one_ (i := 5) (N := some 39) (bA 7 63) rfl rfl (by kernel_rfl) (by decide) (fun K hK => ?_)
    refine goes_ Try.func40 (by kernel_rfl) rfl #[.agg #[.int .i64 t658, .int .i64 t659, .int .i64 t660, .slice Ao11 t661.length co11], .agg #[.int .i64 t672, .int .i64 t673, .int .i64 t674, .slice Ao30 t675.length co30]] (by rfl) rfl rfl qM ?_
    with_reducible refine (laws_equalImage.calls kj4 t658 t659 t660 _ _ t661 t672 t673 t674 _ _ t675 t678 _ ?side1 ?side2 ?side3 ?side4 A27.out).mono ?_
    (case side1 => exact qC (Kd.R_reads' HO_665003.out).2.2)
    (case side2 => exact (Kd.R_reads' HO_665003.out).2.1)
    (case side3 => exact qC (Kd.R_reads' HO677.out).2.2)
    (case side4 => exact (Kd.R_reads' HO677.out).2.1)
    rintro e w31 ⟨rfl, hb⟩
    refine ⟨_, rfl, ?_⟩
    replace HO_5 := aM (Kd.Q_below (qQ HO_5.out) hb)
    replace HO_665003 := aM (Kd.R_below (qR HO_665003.out) hb)
    replace HO677 := aM (Kd.R_below (qR HO677.out) hb)
    replace BK664 := bB BK664 hb
    replace HB := bS HB hb
    (try clear hb)
    (try clear hb2)
    (try clear hk)
    (try clear hi)
    refine hK.out _ _ ⟨(blk_cell BK664.out 0).trans rfl, (blk_cell BK664.out 1).trans rfl, (blk_cell BK664.out 2).trans rfl, (blk_cell BK664.out 3).trans rfl⟩ (fun hHeld => ?_)
    clear hK K
    refine norm_ (a' := ?_) ?_ ?_
    rotate_left
    ·show Act.put _ (some 39) _ = _
     refine pZ ?_
     rfl
    refine pure_ (i := 6) (N := some 2) (v := ?_) (a' := ?_) (bA 7 127) rfl rfl (by kernel_rfl) (fun _ _ _ h => h) (Or.inl ⟨by rfl, ?_⟩) ?_ ?_
    rotate_left
    ·intro w'
     go_simp
     with_reducible rfl
    rotate_left
    ·refine pZ ?_
     rfl
    refine done_ (by kernel_rfl) ?_
    try go_wp2
    go_ret
    exact ⟨qX, by exact qW HB.out⟩
   replace c25 := Bool.eq_false_iff.mpr c25
   subst c25
   have H1 : ((impl_PaletteOf.f t658 t659 t660 t661).bind fun bt679 => (if bt679.2 = true then (if (bt679.1.length : Int) = 1 then (if 0 < (bt679.1.length : Int) then ((laws_equalInts.f kj4 (rd_L2 bt679.1 0) t655).bind fun t684 => (if t684 = true then ((impl_PixelAt.f t658 t659 t660 t661 (wrap64 (t653 - 1)) (wrap64 (t654 - 1))).bind fun t685 => ((laws_equalInts.f kj4 t685 t655).bind fun t688 => (if t688 = true then ((impl_ValidImage.f t658 t659 t660 t661).bind fun t689 => (some t689)) else (some false)))) else (some false))) else (none)) else (some false)) else (some false))) = some r := by rw [if_neg (show ¬ (false = true) by decide)] at H; exact H
   clear H
   have H := H1
   clear H1
   replace H := Option.bind_eq_some_iff.mp H
   obtain ⟨⟨t679, t682⟩, A320, H⟩ := H
   replace H : (if t682 = true then (if (t679.length : Int) = 1 then (if 0 < (t679.length : Int) then ((laws_equalInts.f kj4 (rd_L2 t679 0) t655).bind fun t684 => (if t684 = true then ((impl_PixelAt.f t658 t659 t660 t661 (wrap64 (t653 - 1)) (wrap64 (t654 - 1))).bind fun t685 => ((laws_equalInts.f kj4 t685 t655).bind fun t688 => (if t688 = true then ((impl_ValidImage.f t658 t659 t660 t661).bind fun t689 => (some t689)) else (some false)))) else (some false))) else (none)) else (some false)) else (some false)) = some r := H
   have A32 := aM A320
   clear A320
   by_cases c33 : t682 = true
   rotate_left
   ·replace c33 := Bool.eq_false_iff.mpr c33
    subst c33
    have H1 : (some false) = some r := by rw [if_neg (show ¬ (false = true) by decide)] at H; exact H
    clear H
    have H := H1
    clear H1
    obtain rfl := Option.some.inj H
    exact absurd hrt (by decide)
   subst c33
   have H1 : (if (t679.length : Int) = 1 then (if 0 < (t679.length : Int) then ((laws_equalInts.f kj4 (rd_L2 t679 0) t655).bind fun t684 => (if t684 = true then ((impl_PixelAt.f t658 t659 t660 t661 (wrap64 (t653 - 1)) (wrap64 (t654 - 1))).bind fun t685 => ((laws_equalInts.f kj4 t685 t655).bind fun t688 => (if t688 = true then ((impl_ValidImage.f t658 t659 t660 t661).bind fun t689 => (some t689)) else (some false)))) else (some false))) else (none)) else (some false)) = some r := by rw [if_pos rfl] at H; exact H
   clear H
   have H := H1
   clear H1
   by_cases c34 : (t679.length : Int) = 1
   rotate_left
   ·rw [if_neg c34] at H
    have c34b0 : ((t679.length : Int) == 1) = false := beq_eq_false_iff_ne.mpr c34
    have c34b1 : ((t679.length : Int) != 1) = true := bne_iff_ne.mpr c34
    obtain rfl := Option.some.inj H
    exact absurd hrt (by decide)
   rw [if_pos c34] at H
   have c34b0 : ((t679.length : Int) == 1) = true := beq_iff_eq.mpr c34
   have c34b1 : ((t679.length : Int) != 1) = false := bne_eq_false_iff_eq.mpr c34
   clear c34
   replace H := iS H
   obtain ⟨c35, H⟩ := H
   have c35b0 : decide (0 < (t679.length : Int)) = true := decide_eq_true c35
   have c35b1 : decide (0 < t679.length) = true := decide_eq_true (by omega)
   clear c35
   replace H := Option.bind_eq_some_iff.mp H
   obtain ⟨t684, A360, H⟩ := H
   replace H : (if t684 = true then ((impl_PixelAt.f t658 t659 t660 t661 (wrap64 (t653 - 1)) (wrap64 (t654 - 1))).bind fun t685 => ((laws_equalInts.f kj4 t685 t655).bind fun t688 => (if t688 = true then ((impl_ValidImage.f t658 t659 t660 t661).bind fun t689 => (some t689)) else (some false)))) else (some false)) = some r := H
   have A36 := aM A360
   clear A360
   by_cases c37 : t684 = true
   rotate_left
   ·replace c37 := Bool.eq_false_iff.mpr c37
    subst c37
    have H1 : (some false) = some r := by rw [if_neg (show ¬ (false = true) by decide)] at H; exact H
    clear H
    have H := H1
    clear H1
    obtain rfl := Option.some.inj H
    exact absurd hrt (by decide)
   subst c37
   have H1 : ((impl_PixelAt.f t658 t659 t660 t661 (wrap64 (t653 - 1)) (wrap64 (t654 - 1))).bind fun t685 => ((laws_equalInts.f kj4 t685 t655).bind fun t688 => (if t688 = true then ((impl_ValidImage.f t658 t659 t660 t661).bind fun t689 => (some t689)) else (some false)))) = some r := by rw [if_pos rfl] at H; exact H
   clear H
   have H := H1
   clear H1
   replace H := Option.bind_eq_some_iff.mp H
   obtain ⟨t685, A380, H⟩ := H
   replace H : ((laws_equalInts.f kj4 t685 t655).bind fun t688 => (if t688 = true then ((impl_ValidImage.f t658 t659 t660 t661).bind fun t689 => (some t689)) else (some false))) = some r := H
   have A38 := aM A380
   clear A380
   replace H := Option.bind_eq_some_iff.mp H
   obtain ⟨t688, A390, H⟩ := H
   replace H : (if t688 = true then ((impl_ValidImage.f t658 t659 t660 t661).bind fun t689 => (some t689)) else (some false)) = some r := H
   have A39 := aM A390
   clear A390
   by_cases c40 : t688 = true
   rotate_left
   ·replace c40 := Bool.eq_false_iff.mpr c40
    subst c40
    have H1 : (some false) = some r := by rw [if_neg (show ¬ (false = true) by decide)] at H; exact H
    clear H
    have H := H1
    clear H1
    obtain rfl := Option.some.inj H
    exact absurd hrt (by decide)
   subst c40
   have H1 : ((impl_ValidImage.f t658 t659 t660 t661).bind fun t689 => (some t689)) = some r := by rw [if_pos rfl] at H; exact H
   clear H
   have H := H1
   clear H1
   replace H := Option.bind_eq_some_iff.mp H
   obtain ⟨t689, A410, H⟩ := H
   replace H : (some t689) = some r := H
   have A41 := aM A410
   clear A410
   obtain rfl := Option.some.inj H
   obtain ⟨⟨hcz42_0, hcz42_1, hcz42_2, hcz42_3⟩, hfz42_0, hfz42_1, hfz42_2, hfz42_3⟩ := cf4 BK664
   go_wp2_with (first | ((with_reducible refine gate_callee (f := 42) rfl ?_); refine gL (some 42) Try.func42 #[.agg #[.int .i64 t658, .int .i64 t659, .int .i64 t660, .slice Ao11 t661.length co11]] ?_; (with_reducible refine (impl_PaletteOf.calls t658 t659 t660 _ _ t661 t679 true _ ?side1 ?side2 A32.out).mono ?_); (case side1 => exact qC (Kd.R_reads' HO_665003.out).2.2); (case side2 => exact (Kd.R_reads' HO_665003.out).2.1); rintro e w43 ⟨v680, rfl, ho0, hb⟩; refine ⟨_, rfl, ?_⟩; have HO681 := aM (Kd.S_lower (Kd.S_new' (Kd.S_new' ho0 (Kd.Q_lt (qQ HO_5.out))) (Kd.R_lt (qR HO_665003.out))) (below_size (qW HB.out))); replace HO_5 := aM (Kd.Q_below (qQ HO_5.out) hb); replace HO_665003 := aM (Kd.R_below (qR HO_665003.out) hb); replace BK664 := bB BK664 hb; replace HB := bS HB hb; clear hb ho0; obtain ⟨Ao44, co44, eo44⟩ := Kd.S_slice HO681.out; subst eo44; have p683 : 0 ≤ (0 : Int) := (by omega); have q683 : 0 < (t679.length : Int) := oD; obtain ⟨ad683, A683_0, c683_0, e683, hx683_0, hl683_0, hi683_0⟩ := at_L2 (Kd.S_reads' HO681.out).2.2 0 p683 q683; cases e683; obtain ⟨ce683, hce683, hMe683, hcc683⟩ := Kd.S_get HO681.out [] 0 p683 (by first | exact q683 | exact oD | (have e_ := (Kd.S_reads' HO681.out).1; omega)); obtain ⟨ve683_0, rfl, ge683_0⟩ := hMe683; have hv683_0 := hcc683 0 _ rfl; rw [Nat.add_zero, show ((Kd.slice 3 (Kd.int .i64))).sz = 1 from rfl, Nat.mul_one] at hv683_0; replace hv683_0 := Option.some.inj (hv683_0.symm.trans hx683_0); rw [hv683_0] at ge683_0; have HL683_0 := aM (show Kd.R (Kd.int .i64) 3 _ _ _ _ (rd_L2 t679 0) from ge683_0); clear hv683_0 ge683_0; clear hcc683 hce683; have qi683 : (0 < t679.length) = True := eq_true (by omega); (try rw [show ((0 : Int)).toNat = 0 from rfl] at hx683_0); (try rw [Addr.add_zero'] at hx683_0); have HR683_0 := aM hi683_0; have HC683_0 := aM hl683_0; clear hi683_0 hl683_0; replace p683 := eq_true p683; replace q683 := eq_true q683) | (go_at_call 28; (with_reducible refine (laws_equalInts.calls kj4 _ _ (rd_L2 t679 0) _ _ t655 true _ ?side1 ?side2 ?side3 ?side4 A36.out).mono ?_); (case side1 => repeat (first | exact (by repeat (first | (with_reducible exact HR683_0.out) | (with_reducible refine Kd.C_alloc ?_ _) | (with_reducible refine Kd.C_drewN ?_ _) | (with_reducible refine Kd.C_drew ?_) | exact HR683_0.out)) | (with_reducible refine Kd.C_alloc ?_ _) | (with_reducible refine Kd.C_drewN ?_ _) | (with_reducible refine Kd.C_drew ?_))); (case side2 => exact HC683_0.out); (case side3 => exact qC (Kd.Q_reads' HO_5.out).2.2); (case side4 => exact (Kd.Q_reads' HO_5.out).2.1); rintro e w' ⟨rfl, ⟨nd, rfl⟩⟩; obtain ⟨⟨hcz45_0, hcz45_1, hcz45_2, hcz45_3⟩, hfz45_0, hfz45_1, hfz45_2, hfz45_3⟩ := cf4 BK664) | (go_at_call 43; (with_reducible refine (impl_PixelAt.calls t658 t659 t660 _ _ t661 (wrap64 (t653 - 1)) (wrap64 (t654 - 1)) t685 _ ?side1 ?side2 A38.out).mono ?_); (case side1 => exact qC (Kd.R_reads' HO_665003.out).2.2); (case side2 => exact (Kd.R_reads' HO_665003.out).2.1); rintro e w46 ⟨v686, rfl, ho0, hb⟩; replace HO681 := aM (Kd.S_elder' (by (with_reducible repeat (first | apply Kd.S_alloc | apply Kd.S_drewN | apply Kd.S_drew)); exact HO681.out) (Kd.R_base ho0) hb); have HO687 := aM (Kd.R_lower (Kd.R_new' (Kd.R_new' (Kd.R_new' ho0 (Kd.Q_lt (qQ HO_5.out))) (Kd.R_lt (qR HO_665003.out))) (Kd.R_lt (qR HL683_0.out))) (below_size (qW HB.out))); replace HO_5 := aM (Kd.Q_elder' (qQ HO_5.out) (Kd.R_base ho0) hb); replace HO_665003 := aM (Kd.R_elder' (qR HO_665003.out) (Kd.R_base ho0) hb); replace HL683_0 := aM (Kd.R_elder' (qR HL683_0.out) (Kd.R_base ho0) hb); replace BK664 := bB BK664 hb; replace HR683_0 := aM (Kd.C_below (by repeat (first | (with_reducible exact HR683_0.out) | (with_reducible refine Kd.C_alloc ?_ _) | (with_reducible refine Kd.C_drewN ?_ _) | (with_reducible refine Kd.C_drew ?_) | exact HR683_0.out)) hb); replace HB := bS HB hb; clear hb ho0; obtain ⟨Ao47, co47, rfl⟩ := sL HO687) | (go_at_call 28; (with_reducible refine (laws_equalInts.calls kj4 _ _ t685 _ _ t655 true _ ?side1 ?side2 ?side3 ?side4 A39.out).mono ?_); (case side1 => exact qC (Kd.R_reads' HO687.out).2.2); (case side2 => exact (Kd.R_reads' HO687.out).2.1); (case side3 => exact qC (Kd.Q_reads' HO_5.out).2.2); (case side4 => exact (Kd.Q_reads' HO_5.out).2.1); rintro e w' ⟨rfl, ⟨nd, rfl⟩⟩; obtain ⟨⟨hcz48_0, hcz48_1, hcz48_2, hcz48_3⟩, hfz48_0, hfz48_1, hfz48_2, hfz48_3⟩ := cf4 BK664) | (go_at_call 44; (with_reducible refine (impl_ValidImage.calls t658 t659 t660 _ _ t661 t689 _ ?side1 ?side2 A41.out).mono ?_); (case side1 => exact qC (Kd.R_reads' HO_665003.out).2.2); (case side2 => exact (Kd.R_reads' HO_665003.out).2.1); rintro e w49 ⟨rfl, hb⟩; replace HO_5 := aM (Kd.Q_below (qQ HO_5.out) hb); replace HO_665003 := aM (Kd.R_below (qR HO_665003.out) hb); replace HO681 := aM (Kd.S_below (by (with_reducible repeat (first | apply Kd.S_alloc | apply Kd.S_drewN | apply Kd.S_drew)); exact HO681.out) hb); replace HL683_0 := aM (Kd.R_below (qR HL683_0.out) hb); replace HO687 := aM (Kd.R_below (qR HO687.out) hb); replace BK664 := bB BK664 hb; replace HR683_0 := aM (Kd.C_below (by repeat (first | (with_reducible exact HR683_0.out) | (with_reducible refine Kd.C_alloc ?_ _) | (with_reducible refine Kd.C_drewN ?_ _) | (with_reducible refine Kd.C_drew ?_) | exact HR683_0.out)) hb); replace HB := bS HB hb; clear hb))
   go_ret
   exact ⟨qX, by exact qW HB.out⟩
def laws_FnFillImage.Pure : Prop := ∀ (l0 : List Int), l0.length ≤ maxLen → l0.length * 1 ≤ 140737488351232 → (∀ x ∈ l0, (Lit.int .u8 x).wf = true) → ∃ k, laws_FnFillImage.f k l0 = some true
theorem laws_FnFillImage.walk (P : laws_FnFillImage.Pure) (a0 : Option Addr) (len0 cap0 : Nat) (z0 : List Int) (w : World) (w0 : (a0 = none ∧ len0 = 0 ∧ cap0 = 0 ∧ z0 = []) ∨ ∃ x, a0 = some x ∧ len0 ≤ cap0 ∧ cap0 ≤ maxLen ∧ z0.length = cap0 ∧ (∀ i, i < z0.length → w.cell? (x.add i) = some (.int .u8 (z0.getD i 0))) ∧ ∀ n ∈ z0, (Lit.int .u8 n).wf = true) (y0 : len0 * 1 ≤ 140737488351232) :
  Calls Try.prog 14 #[.slice a0 len0 cap0] w fun e w' => e = .returned (.bool true) ∧ Below w.heap.size w w' := by
 obtain ⟨l0, rfl, hr0, hm0, hw0, hc0⟩ := ReadsInt.ofRowC w0
 obtain ⟨k, h⟩ := P l0 hm0 y0 hw0
 refine (laws_FnFillImage.calls k _ _ l0 true w (Kd.C_of_reads (d := (0 : Int)) (h1 := fun _ => rfl) hr0) hc0 h rfl).mono ?_
 rintro e w' ⟨rfl, hd⟩
 exact ⟨rfl, hd⟩
end Go.Proofs.Ytbldmekplkjfiaa.P
