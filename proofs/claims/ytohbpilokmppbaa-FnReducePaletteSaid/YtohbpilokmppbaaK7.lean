/- Contracts and row, written by a program of this place out of the translation: the call answers true and its argument reads as before, for every input; no condition. -/
import Derived.Test.YtohbpilokmppbaaK0
import Derived.Test.YtohbpilokmppbaaK3
import Derived.Test.YtohbpilokmppbaaK4
import Derived.Test.YtohbpilokmppbaaK6
namespace Go.Proofs.Ytohbpilokmppbaa.P
open Go.RowKit Go.Proofs.YtohbpilokmppbaaW.PrintWords Go.Proofs.YtohbpilokmppbaaW.PrintLast Go.Proofs.YtohbpilokmppbaaW.PrintMore
attribute [local go_sem] max2_int min2_int max_two min_two max_three min_three max_four min_four   -- for this text's walks alone
set_option linter.unusedVariables false
set_option linter.unusedSimpArgs false
mutual
def laws_FnReducePalette.j0 : Nat → List (List Int) → Int → List (List Int) → Bool → Option (Bool)
 | 0, _, _, _, _ => none
 | k + 1, x3, x4, x5, x32 => if x32 = true then ((spec_ReducePalette.f k x3 x4).bind fun t895 => ((laws_equalLists.f k x5 t895).bind fun t898 => (some t898))) else (laws_FnReducePalette.l0 k x3 x4 x5 0)
def laws_FnReducePalette.l0 : Nat → List (List Int) → Int → List (List Int) → Int → Option (Bool)
 | 0, _, _, _, _ => none
 | k + 1, x3, x4, x5, x6 => if 0 < (x3.length : Int) then (if x6 < ((rd_L1 x3 0).length : Int) then (laws_FnReducePalette.l1 k x3 x4 x5 x6 255 0 0) else (if (x5.length : Int) ≤ x4 then (some (decide ((x5.length : Int) ≤ (x3.length : Int)))) else (some false))) else (none)
def laws_FnReducePalette.l1 : Nat → List (List Int) → Int → List (List Int) → Int → Int → Int → Int → Option (Bool)
 | 0, _, _, _, _, _, _, _ => none
 | k + 1, x3, x4, x5, x6, x7, x8, x9 => if x9 < (x3.length : Int) then (if 0 ≤ x9 then (if 0 ≤ x6 then (if x6 < ((rd_L1 x3 x9).length : Int) then (laws_FnReducePalette.l1 k x3 x4 x5 x6 (mn x7 (rd (rd_L1 x3 x9) x6)) (mx x8 (rd (rd_L1 x3 x9) x6)) (wrap64 (x9 + 1))) else (none)) else (none)) else (none)) else (laws_FnReducePalette.l2 k x3 x4 x5 x6 x7 x8 0)
def laws_FnReducePalette.l2 : Nat → List (List Int) → Int → List (List Int) → Int → Int → Int → Int → Option (Bool)
 | 0, _, _, _, _, _, _, _ => none
 | k + 1, x3, x4, x5, x6, x7, x8, x10 => if x10 < (x5.length : Int) then (if 0 ≤ x10 then (if 0 < (x3.length : Int) then (if ((rd_L1 x5 x10).length : Int) = ((rd_L1 x3 0).length : Int) then (if 0 ≤ x6 then (if x6 < ((rd_L1 x5 x10).length : Int) then (if (rd (rd_L1 x5 x10) x6) < x7 then (some false) else (if (rd (rd_L1 x5 x10) x6) > x8 then (some false) else (laws_FnReducePalette.l2 k x3 x4 x5 x6 x7 x8 (wrap64 (x10 + 1))))) else (none)) else (none)) else (some false)) else (none)) else (none)) else (laws_FnReducePalette.l0 k x3 x4 x5 (wrap64 (x6 + 1)))
end
def laws_FnReducePalette.f (k : Nat) (l0 : List Int) : Option (Bool) := if (l0.length : Int) > 1048576 then (some true) else ((spec_DrawReducePalette.f k l0).bind fun bt884 => ((impl_ReducePalette.f k bt884.1 bt884.2).bind fun t888 => ((spec_ReducePalette.f k bt884.1 bt884.2).bind fun t891 => ((laws_equalLists.f k t888 t891).bind fun t894 => (if t894 = true then (laws_FnReducePalette.j0 k bt884.1 bt884.2 t888 ((t888.length : Int) == 0)) else (laws_FnReducePalette.j0 k bt884.1 bt884.2 t888 true))))))
theorem laws_FnReducePalette.mono_l : ∀ k, (∀ y0 y1 y2 y3, LeO (laws_FnReducePalette.j0 k y0 y1 y2 y3) (laws_FnReducePalette.j0 (k + 1) y0 y1 y2 y3)) ∧ (∀ y0 y1 y2 y3, LeO (laws_FnReducePalette.l0 k y0 y1 y2 y3) (laws_FnReducePalette.l0 (k + 1) y0 y1 y2 y3)) ∧ (∀ y0 y1 y2 y3 y4 y5 y6, LeO (laws_FnReducePalette.l1 k y0 y1 y2 y3 y4 y5 y6) (laws_FnReducePalette.l1 (k + 1) y0 y1 y2 y3 y4 y5 y6)) ∧ (∀ y0 y1 y2 y3 y4 y5 y6, LeO (laws_FnReducePalette.l2 k y0 y1 y2 y3 y4 y5 y6) (laws_FnReducePalette.l2 (k + 1) y0 y1 y2 y3 y4 y5 y6))
 | 0 => ⟨fun _ _ _ _ r h => by simp [laws_FnReducePalette.j0] at h, fun _ _ _ _ r h => by simp [laws_FnReducePalette.l0] at h, fun _ _ _ _ _ _ _ r h => by simp [laws_FnReducePalette.l1] at h, fun _ _ _ _ _ _ _ r h => by simp [laws_FnReducePalette.l2] at h⟩
 | k + 1 => by
  obtain ⟨ih0, ih1, ih2, ih3⟩ := laws_FnReducePalette.mono_l k
  refine ⟨?_, ?_, ?_, ?_⟩
  all_goals intros
  all_goals first | unfold laws_FnReducePalette.j0 | unfold laws_FnReducePalette.l0 | unfold laws_FnReducePalette.l1 | unfold laws_FnReducePalette.l2
  all_goals repeat' first | (with_reducible first | exact ih0 _ _ _ _ | exact ih1 _ _ _ _ | exact ih2 _ _ _ _ _ _ _ | exact ih3 _ _ _ _ _ _ _ | exact impl_ReducePalette.mono _ _ _ | exact laws_equalLists.mono _ _ _ | exact spec_DrawReducePalette.mono _ _ | exact spec_ReducePalette.mono _ _ _ | exact lR | exact lN | refine lI ?_ ?_ | refine lB ?_ fun _ => ?_) | exact ih0 _ _ _ _ | exact ih1 _ _ _ _ | exact ih2 _ _ _ _ _ _ _ | exact ih3 _ _ _ _ _ _ _ | exact impl_ReducePalette.mono _ _ _ | exact laws_equalLists.mono _ _ _ | exact spec_DrawReducePalette.mono _ _ | exact spec_ReducePalette.mono _ _ _ | exact lN | refine lI ?_ ?_ | refine lB ?_ fun _ => ?_
theorem laws_FnReducePalette.mono : ∀ a0 k, LeO (laws_FnReducePalette.f k a0) (laws_FnReducePalette.f (k + 1) a0) := by
 intro a0 k
 obtain ⟨ih0, ih1, ih2, ih3⟩ := laws_FnReducePalette.mono_l k
 unfold laws_FnReducePalette.f
 repeat' first | (with_reducible first | exact ih0 _ _ _ _ | exact ih1 _ _ _ _ | exact ih2 _ _ _ _ _ _ _ | exact ih3 _ _ _ _ _ _ _ | exact impl_ReducePalette.mono _ _ _ | exact laws_equalLists.mono _ _ _ | exact spec_DrawReducePalette.mono _ _ | exact spec_ReducePalette.mono _ _ _ | exact lR | exact lN | refine lI ?_ ?_ | refine lB ?_ fun _ => ?_) | exact ih0 _ _ _ _ | exact ih1 _ _ _ _ | exact ih2 _ _ _ _ _ _ _ | exact ih3 _ _ _ _ _ _ _ | exact impl_ReducePalette.mono _ _ _ | exact laws_equalLists.mono _ _ _ | exact spec_DrawReducePalette.mono _ _ | exact spec_ReducePalette.mono _ _ _ | exact lN | refine lI ?_ ?_ | refine lB ?_ fun _ => ?_
set_option maxHeartbeats 8000000 in
set_option maxRecDepth 100000 in
theorem laws_FnReducePalette.calls (k : Nat) (A0 : Option Addr) (c0 : Nat) (l0 : List Int) (r : Bool) (w : World) (hr0 : Kd.C (Kd.int .u8) w A0 l0.length l0) (hc0 : l0.length ≤ c0) (h : laws_FnReducePalette.f k l0 = some r) :
  Calls Try.prog 10 #[.slice A0 l0.length c0] w fun e w' => e = .returned (.bool r) ∧ Below w.heap.size w w' := by
 have HR0 := aM hr0
 have HC0 := aM hc0
 clear hr0 hc0
 have HB := aM (Below.refl w.heap.size w)
 unfold laws_FnReducePalette.f at h
 have H := h
 clear h
 by_cases c2 : (l0.length : Int) > 1048576
 ·rw [if_pos c2] at H
  have c2b0 : decide (1048576 < (l0.length : Int)) = true := decide_eq_true c2
  have c2b1 : decide (1048576 < l0.length) = true := decide_eq_true (by omega)
  clear c2
  obtain rfl := Option.some.inj H
  go_enter Try.func10, Try.ntmps10
  go_wp2
  repeat (go_quiet (fail); try go_wp2)
  go_ret
  exact ⟨qX, by exact qW HB.out⟩
 rw [if_neg c2] at H
 have c2b0 : decide (1048576 < (l0.length : Int)) = false := decide_eq_false c2
 have c2b1 : decide (1048576 < l0.length) = false := decide_eq_false (by omega)
 clear c2
 replace H := Option.bind_eq_some_iff.mp H
 obtain ⟨⟨t884, t887⟩, A30, H⟩ := H
 replace H : ((impl_ReducePalette.f k t884 t887).bind fun t888 => ((spec_ReducePalette.f k t884 t887).bind fun t891 => ((laws_equalLists.f k t888 t891).bind fun t894 => (if t894 = true then (laws_FnReducePalette.j0 k t884 t887 t888 ((t888.length : Int) == 0)) else (laws_FnReducePalette.j0 k t884 t887 t888 true))))) = some r := H
 have A3 := aM A30
 clear A30
 replace H := Option.bind_eq_some_iff.mp H
 obtain ⟨t888, A40, H⟩ := H
 replace H : ((spec_ReducePalette.f k t884 t887).bind fun t891 => ((laws_equalLists.f k t888 t891).bind fun t894 => (if t894 = true then (laws_FnReducePalette.j0 k t884 t887 t888 ((t888.length : Int) == 0)) else (laws_FnReducePalette.j0 k t884 t887 t888 true)))) = some r := H
 have A4 := aM A40
 clear A40
 have HC5 := aM H
 clear H
 go_enter Try.func10, Try.ntmps10
 go_upto_region 5 with (first | (go_at_call 38; (with_reducible refine (spec_DrawReducePalette.calls k _ _ l0 t884 t887 _ ?side1 ?side2 A3.out).mono ?_); (case side1 => exact qC HR0.out); (case side2 => exact HC0.out); rintro e w6 ⟨v885, rfl, ho0, hb⟩; have HO886 := aM (Kd.N_lower (Kd.N_mono (ok' := fun k_ => True) ho0 (fun k_ hk_ => trivial)) (below_size (qW HB.out))); replace HB := bS HB hb; clear hb ho0; obtain ⟨Ao7, co7, eo7⟩ := Kd.N_slice HO886.out; subst eo7) | (go_at_call 37; (with_reducible refine (impl_ReducePalette.calls k _ _ t884 t887 t888 _ ?side1 ?side2 A4.out).mono ?_); (case side1 => exact qC (Kd.N_reads' HO886.out).2.2); (case side2 => exact (Kd.N_reads' HO886.out).2.1); rintro e w8 ⟨v889, rfl, ho0, hb⟩; have HO890 := aM (Kd.N_lower (Kd.N_mono (ok' := fun k_ => some k_ ≠ (.slice Ao7 t884.length co7 : Value).ownBlock) (Kd.S_N (Kd.S_bound ho0)) (fun k_ hk_ => (Kd.fresh' (Kd.N_lt (by (with_reducible repeat (first | apply Kd.N_alloc | apply Kd.N_drewN | apply Kd.N_drew)); exact HO886.out)) k_ hk_.2.1))) (below_size (qW HB.out))); replace HO886 := aM (Kd.N_elder' (by (with_reducible repeat (first | apply Kd.N_alloc | apply Kd.N_drewN | apply Kd.N_drew)); exact HO886.out) (Kd.S_base ho0) hb); replace HB := bS HB hb; clear hb ho0))
 repeat (go_quiet (first | (go_at_call 38; (with_reducible refine (spec_DrawReducePalette.calls k _ _ l0 t884 t887 _ ?side1 ?side2 A3.out).mono ?_); (case side1 => exact qC HR0.out); (case side2 => exact HC0.out); rintro e w6 ⟨v885, rfl, ho0, hb⟩; have HO886 := aM (Kd.N_lower (Kd.N_mono (ok' := fun k_ => True) ho0 (fun k_ hk_ => trivial)) (below_size (qW HB.out))); replace HB := bS HB hb; clear hb ho0; obtain ⟨Ao7, co7, eo7⟩ := Kd.N_slice HO886.out; subst eo7) | (go_at_call 37; (with_reducible refine (impl_ReducePalette.calls k _ _ t884 t887 t888 _ ?side1 ?side2 A4.out).mono ?_); (case side1 => exact qC (Kd.N_reads' HO886.out).2.2); (case side2 => exact (Kd.N_reads' HO886.out).2.1); rintro e w8 ⟨v889, rfl, ho0, hb⟩; have HO890 := aM (Kd.N_lower (Kd.N_mono (ok' := fun k_ => some k_ ≠ (.slice Ao7 t884.length co7 : Value).ownBlock) (Kd.S_N (Kd.S_bound ho0)) (fun k_ hk_ => (Kd.fresh' (Kd.N_lt (by (with_reducible repeat (first | apply Kd.N_alloc | apply Kd.N_drewN | apply Kd.N_drew)); exact HO886.out)) k_ hk_.2.1))) (below_size (qW HB.out))); replace HO886 := aM (Kd.N_elder' (by (with_reducible repeat (first | apply Kd.N_alloc | apply Kd.N_drewN | apply Kd.N_drew)); exact HO886.out) (Kd.S_base ho0) hb); replace HB := bS HB hb; clear hb ho0)); go_upto_region 5 with (first | (go_at_call 38; (with_reducible refine (spec_DrawReducePalette.calls k _ _ l0 t884 t887 _ ?side1 ?side2 A3.out).mono ?_); (case side1 => exact qC HR0.out); (case side2 => exact HC0.out); rintro e w6 ⟨v885, rfl, ho0, hb⟩; have HO886 := aM (Kd.N_lower (Kd.N_mono (ok' := fun k_ => True) ho0 (fun k_ hk_ => trivial)) (below_size (qW HB.out))); replace HB := bS HB hb; clear hb ho0; obtain ⟨Ao7, co7, eo7⟩ := Kd.N_slice HO886.out; subst eo7) | (go_at_call 37; (with_reducible refine (impl_ReducePalette.calls k _ _ t884 t887 t888 _ ?side1 ?side2 A4.out).mono ?_); (case side1 => exact qC (Kd.N_reads' HO886.out).2.2); (case side2 => exact (Kd.N_reads' HO886.out).2.1); rintro e w8 ⟨v889, rfl, ho0, hb⟩; have HO890 := aM (Kd.N_lower (Kd.N_mono (ok' := fun k_ => some k_ ≠ (.slice Ao7 t884.length co7 : Value).ownBlock) (Kd.S_N (Kd.S_bound ho0)) (fun k_ hk_ => (Kd.fresh' (Kd.N_lt (by (with_reducible repeat (first | apply Kd.N_alloc | apply Kd.N_drewN | apply Kd.N_drew)); exact HO886.out)) k_ hk_.2.1))) (below_size (qW HB.out))); replace HO886 := aM (Kd.N_elder' (by (with_reducible repeat (first | apply Kd.N_alloc | apply Kd.N_drewN | apply Kd.N_drew)); exact HO886.out) (Kd.S_base ho0) hb); replace HB := bS HB hb; clear hb ho0)))
 (try simp only [Act.put, List.setIfInBounds_toArray, List.set_cons_zero, List.set_cons_succ])
 go_cut [32] (fun v32 wc => ∃ (kq : Nat) (x32_4 : Bool), v32 = .bool x32_4 ∧ Aside0 (laws_FnReducePalette.j0 kq t884 t887 t888 x32_4 = some r) ∧ Aside0 (kq ≤ k) ∧ Aside0 (Kd.N (Kd.slice 3 (Kd.int .i64)) 22 wc w.heap.size (fun k_ => some k_ ≠ (v889 : Value).ownBlock) (.slice Ao7 t884.length co7) t884) ∧ Aside0 (Kd.N (Kd.slice 3 (Kd.int .i64)) 22 wc w.heap.size (fun k_ => some k_ ≠ ((.slice Ao7 t884.length co7) : Value).ownBlock) v889 t888) ∧ Aside0 (Below w.heap.size w wc))
 case first =>
  have H := HC5.out
  clear HC5
  replace H := Option.bind_eq_some_iff.mp H
  obtain ⟨t891, A90, H⟩ := H
  replace H : ((laws_equalLists.f k t888 t891).bind fun t894 => (if t894 = true then (laws_FnReducePalette.j0 k t884 t887 t888 ((t888.length : Int) == 0)) else (laws_FnReducePalette.j0 k t884 t887 t888 true))) = some r := H
  have A9 := aM A90
  clear A90
  replace H := Option.bind_eq_some_iff.mp H
  obtain ⟨t894, A100, H⟩ := H
  replace H : (if t894 = true then (laws_FnReducePalette.j0 k t884 t887 t888 ((t888.length : Int) == 0)) else (laws_FnReducePalette.j0 k t884 t887 t888 true)) = some r := H
  have A10 := aM A100
  clear A100
  by_cases c11 : t894 = true
  ·subst c11
   have H1 : (laws_FnReducePalette.j0 k t884 t887 t888 ((t888.length : Int) == 0)) = some r := by rw [if_pos rfl] at H; exact H
   clear H
   have H := H1
   clear H1
   have H' := aM H
   clear H
   go_wp2_with (first | (go_at_call 36; (with_reducible refine (spec_ReducePalette.calls k _ _ t884 t887 t891 _ ?side1 ?side2 A9.out).mono ?_); (case side1 => exact qC (Kd.N_reads' HO886.out).2.2); (case side2 => exact (Kd.N_reads' HO886.out).2.1); rintro e w12 ⟨v892, rfl, ho0, hb⟩; have HO893 := aM (Kd.N_lower (Kd.N_mono (ok' := fun k_ => some k_ ≠ (.slice Ao7 t884.length co7 : Value).ownBlock ∧ some k_ ≠ (v889 : Value).ownBlock) (Kd.S_N (Kd.S_bound ho0)) (fun k_ hk_ => ⟨(Kd.fresh' (Kd.N_lt (by (with_reducible repeat (first | apply Kd.N_alloc | apply Kd.N_drewN | apply Kd.N_drew)); exact HO886.out)) k_ hk_.2.1), (Kd.fresh' (Kd.N_lt (by (with_reducible repeat (first | apply Kd.N_alloc | apply Kd.N_drewN | apply Kd.N_drew)); exact HO890.out)) k_ hk_.2.1)⟩)) (below_size (qW HB.out))); replace HO886 := aM (Kd.N_elder' (by (with_reducible repeat (first | apply Kd.N_alloc | apply Kd.N_drewN | apply Kd.N_drew)); exact HO886.out) (Kd.S_base ho0) hb); replace HO890 := aM (Kd.N_elder' (by (with_reducible repeat (first | apply Kd.N_alloc | apply Kd.N_drewN | apply Kd.N_drew)); exact HO890.out) (Kd.S_base ho0) hb); replace HB := bS HB hb; clear hb ho0; obtain ⟨Ao13, co13, eo13⟩ := Kd.N_slice HO890.out; subst eo13; obtain ⟨Ao14, co14, eo14⟩ := Kd.N_slice HO893.out; subst eo14) | (go_at_call 22; (with_reducible refine (laws_equalLists.calls k _ _ t888 _ _ t891 true _ ?side1 ?side2 ?side3 ?side4 A10.out).mono ?_); (case side1 => exact qC (Kd.N_reads' HO890.out).2.2); (case side2 => exact (Kd.N_reads' HO890.out).2.1); (case side3 => exact qC (Kd.N_reads' HO893.out).2.2); (case side4 => exact (Kd.N_reads' HO893.out).2.1); rintro e w' ⟨rfl, ⟨nd, rfl⟩⟩; (try first | exact ⟨rfl, _, World.drewN_drewN _ _ _⟩ | exact ⟨rfl, _, Eq.trans (World.drewN_drewN _ _ _) (congrArg (World.drewN _) (Nat.add_assoc _ _ _))⟩)))
   repeat (go_quiet (first | (go_at_call 36; (with_reducible refine (spec_ReducePalette.calls k _ _ t884 t887 t891 _ ?side1 ?side2 A9.out).mono ?_); (case side1 => exact qC (Kd.N_reads' HO886.out).2.2); (case side2 => exact (Kd.N_reads' HO886.out).2.1); rintro e w12 ⟨v892, rfl, ho0, hb⟩; have HO893 := aM (Kd.N_lower (Kd.N_mono (ok' := fun k_ => some k_ ≠ (.slice Ao7 t884.length co7 : Value).ownBlock ∧ some k_ ≠ (v889 : Value).ownBlock) (Kd.S_N (Kd.S_bound ho0)) (fun k_ hk_ => ⟨(Kd.fresh' (Kd.N_lt (by (with_reducible repeat (first | apply Kd.N_alloc | apply Kd.N_drewN | apply Kd.N_drew)); exact HO886.out)) k_ hk_.2.1), (Kd.fresh' (Kd.N_lt (by (with_reducible repeat (first | apply Kd.N_alloc | apply Kd.N_drewN | apply Kd.N_drew)); exact HO890.out)) k_ hk_.2.1)⟩)) (below_size (qW HB.out))); replace HO886 := aM (Kd.N_elder' (by (with_reducible repeat (first | apply Kd.N_alloc | apply Kd.N_drewN | apply Kd.N_drew)); exact HO886.out) (Kd.S_base ho0) hb); replace HO890 := aM (Kd.N_elder' (by (with_reducible repeat (first | apply Kd.N_alloc | apply Kd.N_drewN | apply Kd.N_drew)); exact HO890.out) (Kd.S_base ho0) hb); replace HB := bS HB hb; clear hb ho0; obtain ⟨Ao13, co13, eo13⟩ := Kd.N_slice HO890.out; subst eo13; obtain ⟨Ao14, co14, eo14⟩ := Kd.N_slice HO893.out; subst eo14) | (go_at_call 22; (with_reducible refine (laws_equalLists.calls k _ _ t888 _ _ t891 true _ ?side1 ?side2 ?side3 ?side4 A10.out).mono ?_); (case side1 => exact qC (Kd.N_reads' HO890.out).2.2); (case side2 => exact (Kd.N_reads' HO890.out).2.1); (case side3 => exact qC (Kd.N_reads' HO893.out).2.2); (case side4 => exact (Kd.N_reads' HO893.out).2.1); rintro e w' ⟨rfl, ⟨nd, rfl⟩⟩; (try first | exact ⟨rfl, _, World.drewN_drewN _ _ _⟩ | exact ⟨rfl, _, Eq.trans (World.drewN_drewN _ _ _) (congrArg (World.drewN _) (Nat.add_assoc _ _ _))⟩))); try go_wp2_with (first | (go_at_call 36; (with_reducible refine (spec_ReducePalette.calls k _ _ t884 t887 t891 _ ?side1 ?side2 A9.out).mono ?_); (case side1 => exact qC (Kd.N_reads' HO886.out).2.2); (case side2 => exact (Kd.N_reads' HO886.out).2.1); rintro e w12 ⟨v892, rfl, ho0, hb⟩; have HO893 := aM (Kd.N_lower (Kd.N_mono (ok' := fun k_ => some k_ ≠ (.slice Ao7 t884.length co7 : Value).ownBlock ∧ some k_ ≠ (v889 : Value).ownBlock) (Kd.S_N (Kd.S_bound ho0)) (fun k_ hk_ => ⟨(Kd.fresh' (Kd.N_lt (by (with_reducible repeat (first | apply Kd.N_alloc | apply Kd.N_drewN | apply Kd.N_drew)); exact HO886.out)) k_ hk_.2.1), (Kd.fresh' (Kd.N_lt (by (with_reducible repeat (first | apply Kd.N_alloc | apply Kd.N_drewN | apply Kd.N_drew)); exact HO890.out)) k_ hk_.2.1)⟩)) (below_size (qW HB.out))); replace HO886 := aM (Kd.N_elder' (by (with_reducible repeat (first | apply Kd.N_alloc | apply Kd.N_drewN | apply Kd.N_drew)); exact HO886.out) (Kd.S_base ho0) hb); replace HO890 := aM (Kd.N_elder' (by (with_reducible repeat (first | apply Kd.N_alloc | apply Kd.N_drewN | apply Kd.N_drew)); exact HO890.out) (Kd.S_base ho0) hb); replace HB := bS HB hb; clear hb ho0; obtain ⟨Ao13, co13, eo13⟩ := Kd.N_slice HO890.out; subst eo13; obtain ⟨Ao14, co14, eo14⟩ := Kd.N_slice HO893.out; subst eo14) | (go_at_call 22; (with_reducible refine (laws_equalLists.calls k _ _ t888 _ _ t891 true _ ?side1 ?side2 ?side3 ?side4 A10.out).mono ?_); (case side1 => exact qC (Kd.N_reads' HO890.out).2.2); (case side2 => exact (Kd.N_reads' HO890.out).2.1); (case side3 => exact qC (Kd.N_reads' HO893.out).2.2); (case side4 => exact (Kd.N_reads' HO893.out).2.1); rintro e w' ⟨rfl, ⟨nd, rfl⟩⟩; (try first | exact ⟨rfl, _, World.drewN_drewN _ _ _⟩ | exact ⟨rfl, _, Eq.trans (World.drewN_drewN _ _ _) (congrArg (World.drewN _) (Nat.add_assoc _ _ _))⟩))))
   go_meet
   case rel => exact ⟨_, (((t888.length : Int) == 0)), qE, H', ⟨by first | omega | exact Nat.le_refl _⟩, ⟨by (with_reducible repeat (first | apply Kd.N_alloc | apply Kd.N_drewN | apply Kd.N_drew)); exact Kd.N_mono HO886.out (fun _ hk => hk.1.2)⟩, ⟨by (with_reducible repeat (first | apply Kd.N_alloc | apply Kd.N_drewN | apply Kd.N_drew)); exact Kd.N_mono HO890.out (fun _ hk => hk.1)⟩, ⟨by exact qW HB.out⟩⟩
  replace c11 := Bool.eq_false_iff.mpr c11
  subst c11
  have H1 : (laws_FnReducePalette.j0 k t884 t887 t888 true) = some r := by rw [if_neg (show ¬ (false = true) by decide)] at H; exact H
  clear H
  have H := H1
  clear H1
  have H' := aM H
  clear H
  go_wp2_with (first | (go_at_call 36; (with_reducible refine (spec_ReducePalette.calls k _ _ t884 t887 t891 _ ?side1 ?side2 A9.out).mono ?_); (case side1 => exact qC (Kd.N_reads' HO886.out).2.2); (case side2 => exact (Kd.N_reads' HO886.out).2.1); rintro e w15 ⟨v892, rfl, ho0, hb⟩; have HO893 := aM (Kd.N_lower (Kd.N_mono (ok' := fun k_ => some k_ ≠ (.slice Ao7 t884.length co7 : Value).ownBlock ∧ some k_ ≠ (v889 : Value).ownBlock) (Kd.S_N (Kd.S_bound ho0)) (fun k_ hk_ => ⟨(Kd.fresh' (Kd.N_lt (by (with_reducible repeat (first | apply Kd.N_alloc | apply Kd.N_drewN | apply Kd.N_drew)); exact HO886.out)) k_ hk_.2.1), (Kd.fresh' (Kd.N_lt (by (with_reducible repeat (first | apply Kd.N_alloc | apply Kd.N_drewN | apply Kd.N_drew)); exact HO890.out)) k_ hk_.2.1)⟩)) (below_size (qW HB.out))); replace HO886 := aM (Kd.N_elder' (by (with_reducible repeat (first | apply Kd.N_alloc | apply Kd.N_drewN | apply Kd.N_drew)); exact HO886.out) (Kd.S_base ho0) hb); replace HO890 := aM (Kd.N_elder' (by (with_reducible repeat (first | apply Kd.N_alloc | apply Kd.N_drewN | apply Kd.N_drew)); exact HO890.out) (Kd.S_base ho0) hb); replace HB := bS HB hb; clear hb ho0; obtain ⟨Ao16, co16, eo16⟩ := Kd.N_slice HO890.out; subst eo16; obtain ⟨Ao17, co17, eo17⟩ := Kd.N_slice HO893.out; subst eo17) | (go_at_call 22; (with_reducible refine (laws_equalLists.calls k _ _ t888 _ _ t891 false _ ?side1 ?side2 ?side3 ?side4 A10.out).mono ?_); (case side1 => exact qC (Kd.N_reads' HO890.out).2.2); (case side2 => exact (Kd.N_reads' HO890.out).2.1); (case side3 => exact qC (Kd.N_reads' HO893.out).2.2); (case side4 => exact (Kd.N_reads' HO893.out).2.1); rintro e w' ⟨rfl, ⟨nd, rfl⟩⟩; (try first | exact ⟨rfl, _, World.drewN_drewN _ _ _⟩ | exact ⟨rfl, _, Eq.trans (World.drewN_drewN _ _ _) (congrArg (World.drewN _) (Nat.add_assoc _ _ _))⟩)))
  repeat (go_quiet (first | (go_at_call 36; (with_reducible refine (spec_ReducePalette.calls k _ _ t884 t887 t891 _ ?side1 ?side2 A9.out).mono ?_); (case side1 => exact qC (Kd.N_reads' HO886.out).2.2); (case side2 => exact (Kd.N_reads' HO886.out).2.1); rintro e w15 ⟨v892, rfl, ho0, hb⟩; have HO893 := aM (Kd.N_lower (Kd.N_mono (ok' := fun k_ => some k_ ≠ (.slice Ao7 t884.length co7 : Value).ownBlock ∧ some k_ ≠ (v889 : Value).ownBlock) (Kd.S_N (Kd.S_bound ho0)) (fun k_ hk_ => ⟨(Kd.fresh' (Kd.N_lt (by (with_reducible repeat (first | apply Kd.N_alloc | apply Kd.N_drewN | apply Kd.N_drew)); exact HO886.out)) k_ hk_.2.1), (Kd.fresh' (Kd.N_lt (by (with_reducible repeat (first | apply Kd.N_alloc | apply Kd.N_drewN | apply Kd.N_drew)); exact HO890.out)) k_ hk_.2.1)⟩)) (below_size (qW HB.out))); replace HO886 := aM (Kd.N_elder' (by (with_reducible repeat (first | apply Kd.N_alloc | apply Kd.N_drewN | apply Kd.N_drew)); exact HO886.out) (Kd.S_base ho0) hb); replace HO890 := aM (Kd.N_elder' (by (with_reducible repeat (first | apply Kd.N_alloc | apply Kd.N_drewN | apply Kd.N_drew)); exact HO890.out) (Kd.S_base ho0) hb); replace HB := bS HB hb; clear hb ho0; obtain ⟨Ao16, co16, eo16⟩ := Kd.N_slice HO890.out; subst eo16; obtain ⟨Ao17, co17, eo17⟩ := Kd.N_slice HO893.out; subst eo17) | (go_at_call 22; (with_reducible refine (laws_equalLists.calls k _ _ t888 _ _ t891 false _ ?side1 ?side2 ?side3 ?side4 A10.out).mono ?_); (case side1 => exact qC (Kd.N_reads' HO890.out).2.2); (case side2 => exact (Kd.N_reads' HO890.out).2.1); (case side3 => exact qC (Kd.N_reads' HO893.out).2.2); (case side4 => exact (Kd.N_reads' HO893.out).2.1); rintro e w' ⟨rfl, ⟨nd, rfl⟩⟩; (try first | exact ⟨rfl, _, World.drewN_drewN _ _ _⟩ | exact ⟨rfl, _, Eq.trans (World.drewN_drewN _ _ _) (congrArg (World.drewN _) (Nat.add_assoc _ _ _))⟩))); try go_wp2_with (first | (go_at_call 36; (with_reducible refine (spec_ReducePalette.calls k _ _ t884 t887 t891 _ ?side1 ?side2 A9.out).mono ?_); (case side1 => exact qC (Kd.N_reads' HO886.out).2.2); (case side2 => exact (Kd.N_reads' HO886.out).2.1); rintro e w15 ⟨v892, rfl, ho0, hb⟩; have HO893 := aM (Kd.N_lower (Kd.N_mono (ok' := fun k_ => some k_ ≠ (.slice Ao7 t884.length co7 : Value).ownBlock ∧ some k_ ≠ (v889 : Value).ownBlock) (Kd.S_N (Kd.S_bound ho0)) (fun k_ hk_ => ⟨(Kd.fresh' (Kd.N_lt (by (with_reducible repeat (first | apply Kd.N_alloc | apply Kd.N_drewN | apply Kd.N_drew)); exact HO886.out)) k_ hk_.2.1), (Kd.fresh' (Kd.N_lt (by (with_reducible repeat (first | apply Kd.N_alloc | apply Kd.N_drewN | apply Kd.N_drew)); exact HO890.out)) k_ hk_.2.1)⟩)) (below_size (qW HB.out))); replace HO886 := aM (Kd.N_elder' (by (with_reducible repeat (first | apply Kd.N_alloc | apply Kd.N_drewN | apply Kd.N_drew)); exact HO886.out) (Kd.S_base ho0) hb); replace HO890 := aM (Kd.N_elder' (by (with_reducible repeat (first | apply Kd.N_alloc | apply Kd.N_drewN | apply Kd.N_drew)); exact HO890.out) (Kd.S_base ho0) hb); replace HB := bS HB hb; clear hb ho0; obtain ⟨Ao16, co16, eo16⟩ := Kd.N_slice HO890.out; subst eo16; obtain ⟨Ao17, co17, eo17⟩ := Kd.N_slice HO893.out; subst eo17) | (go_at_call 22; (with_reducible refine (laws_equalLists.calls k _ _ t888 _ _ t891 false _ ?side1 ?side2 ?side3 ?side4 A10.out).mono ?_); (case side1 => exact qC (Kd.N_reads' HO890.out).2.2); (case side2 => exact (Kd.N_reads' HO890.out).2.1); (case side3 => exact qC (Kd.N_reads' HO893.out).2.2); (case side4 => exact (Kd.N_reads' HO893.out).2.1); rintro e w' ⟨rfl, ⟨nd, rfl⟩⟩; (try first | exact ⟨rfl, _, World.drewN_drewN _ _ _⟩ | exact ⟨rfl, _, Eq.trans (World.drewN_drewN _ _ _) (congrArg (World.drewN _) (Nat.add_assoc _ _ _))⟩))))
  go_meet
  case rel => exact ⟨_, (true), qE, H', ⟨by first | omega | exact Nat.le_refl _⟩, ⟨by (with_reducible repeat (first | apply Kd.N_alloc | apply Kd.N_drewN | apply Kd.N_drew)); exact Kd.N_mono HO886.out (fun _ hk => hk.1.2)⟩, ⟨by (with_reducible repeat (first | apply Kd.N_alloc | apply Kd.N_drewN | apply Kd.N_drew)); exact Kd.N_mono HO890.out (fun _ hk => hk.1)⟩, ⟨by exact qW HB.out⟩⟩
 case rest =>
  clear HC5
  try clear c2
  try clear c2b0
  try clear c2b1
  try clear c11
  obtain ⟨kq, x32_4, rfl, HA, HJ4, HO_3, HO_5, HB⟩ := hcut
  cases kq with
  | zero => exact absurd HA.out (by simp [laws_FnReducePalette.j0])
  | succ kj4 =>
   have H := HA.out
   clear HA
   simp only [laws_FnReducePalette.j0] at H
   by_cases c18 : x32_4 = true
   ·subst c18
    have H1 : ((spec_ReducePalette.f kj4 t884 t887).bind fun t895 => ((laws_equalLists.f kj4 t888 t895).bind fun t898 => (some t898))) = some r := by rw [if_pos rfl] at H; exact H
    clear H
    have H := H1
    clear H1
    replace H := Option.bind_eq_some_iff.mp H
    obtain ⟨t895, A190, H⟩ := H
    replace H : ((laws_equalLists.f kj4 t888 t895).bind fun t898 => (some t898)) = some r := H
    have A19 := aM A190
    clear A190
    replace H := Option.bind_eq_some_iff.mp H
    obtain ⟨t898, A200, H⟩ := H
    replace H : (some t898) = some r := H
    have A20 := aM A200
    clear A200
    obtain rfl := Option.some.inj H
    go_wp2_with (first | (go_at_call 36; (with_reducible refine (spec_ReducePalette.calls kj4 _ _ t884 t887 t895 _ ?side1 ?side2 A19.out).mono ?_); (case side1 => exact qC (Kd.N_reads' HO_3.out).2.2); (case side2 => exact (Kd.N_reads' HO_3.out).2.1); rintro e w21 ⟨v896, rfl, ho0, hb⟩; have HO897 := aM (Kd.N_lower (Kd.N_mono (ok' := fun k_ => some k_ ≠ (.slice Ao7 t884.length co7 : Value).ownBlock ∧ some k_ ≠ (v889 : Value).ownBlock) (Kd.S_N (Kd.S_bound ho0)) (fun k_ hk_ => ⟨(Kd.fresh' (Kd.N_lt (by (with_reducible repeat (first | apply Kd.N_alloc | apply Kd.N_drewN | apply Kd.N_drew)); exact HO_3.out)) k_ hk_.2.1), (Kd.fresh' (Kd.N_lt (by (with_reducible repeat (first | apply Kd.N_alloc | apply Kd.N_drewN | apply Kd.N_drew)); exact HO_5.out)) k_ hk_.2.1)⟩)) (below_size (qW HB.out))); replace HO_3 := aM (Kd.N_elder' (by (with_reducible repeat (first | apply Kd.N_alloc | apply Kd.N_drewN | apply Kd.N_drew)); exact HO_3.out) (Kd.S_base ho0) hb); replace HO_5 := aM (Kd.N_elder' (by (with_reducible repeat (first | apply Kd.N_alloc | apply Kd.N_drewN | apply Kd.N_drew)); exact HO_5.out) (Kd.S_base ho0) hb); replace HB := bS HB hb; clear hb ho0; obtain ⟨Ao22, co22, eo22⟩ := Kd.N_slice HO_5.out; subst eo22; obtain ⟨Ao23, co23, eo23⟩ := Kd.N_slice HO897.out; subst eo23) | (go_at_call 22; (with_reducible refine (laws_equalLists.calls kj4 _ _ t888 _ _ t895 t898 _ ?side1 ?side2 ?side3 ?side4 A20.out).mono ?_); (case side1 => exact qC (Kd.N_reads' HO_5.out).2.2); (case side2 => exact (Kd.N_reads' HO_5.out).2.1); (case side3 => exact qC (Kd.N_reads' HO897.out).2.2); (case side4 => exact (Kd.N_reads' HO897.out).2.1); rintro e w' ⟨rfl, ⟨nd, rfl⟩⟩; (try first | exact ⟨rfl, _, World.drewN_drewN _ _ _⟩ | exact ⟨rfl, _, Eq.trans (World.drewN_drewN _ _ _) (congrArg (World.drewN _) (Nat.add_assoc _ _ _))⟩)))
    repeat (go_quiet (first | (go_at_call 36; (with_reducible refine (spec_ReducePalette.calls kj4 _ _ t884 t887 t895 _ ?side1 ?side2 A19.out).mono ?_); (case side1 => exact qC (Kd.N_reads' HO_3.out).2.2); (case side2 => exact (Kd.N_reads' HO_3.out).2.1); rintro e w21 ⟨v896, rfl, ho0, hb⟩; have HO897 := aM (Kd.N_lower (Kd.N_mono (ok' := fun k_ => some k_ ≠ (.slice Ao7 t884.length co7 : Value).ownBlock ∧ some k_ ≠ (v889 : Value).ownBlock) (Kd.S_N (Kd.S_bound ho0)) (fun k_ hk_ => ⟨(Kd.fresh' (Kd.N_lt (by (with_reducible repeat (first | apply Kd.N_alloc | apply Kd.N_drewN | apply Kd.N_drew)); exact HO_3.out)) k_ hk_.2.1), (Kd.fresh' (Kd.N_lt (by (with_reducible repeat (first | apply Kd.N_alloc | apply Kd.N_drewN | apply Kd.N_drew)); exact HO_5.out)) k_ hk_.2.1)⟩)) (below_size (qW HB.out))); replace HO_3 := aM (Kd.N_elder' (by (with_reducible repeat (first | apply Kd.N_alloc | apply Kd.N_drewN | apply Kd.N_drew)); exact HO_3.out) (Kd.S_base ho0) hb); replace HO_5 := aM (Kd.N_elder' (by (with_reducible repeat (first | apply Kd.N_alloc | apply Kd.N_drewN | apply Kd.N_drew)); exact HO_5.out) (Kd.S_base ho0) hb); replace HB := bS HB hb; clear hb ho0; obtain ⟨Ao22, co22, eo22⟩ := Kd.N_slice HO_5.out; subst eo22; obtain ⟨Ao23, co23, eo23⟩ := Kd.N_slice HO897.out; subst eo23) | (go_at_call 22; (with_reducible refine (laws_equalLists.calls kj4 _ _ t888 _ _ t895 t898 _ ?side1 ?side2 ?side3 ?side4 A20.out).mono ?_); (case side1 => exact qC (Kd.N_reads' HO_5.out).2.2); (case side2 => exact (Kd.N_reads' HO_5.out).2.1); (case side3 => exact qC (Kd.N_reads' HO897.out).2.2); (case side4 => exact (Kd.N_reads' HO897.out).2.1); rintro e w' ⟨rfl, ⟨nd, rfl⟩⟩; (try first | exact ⟨rfl, _, World.drewN_drewN _ _ _⟩ | exact ⟨rfl, _, Eq.trans (World.drewN_drewN _ _ _) (congrArg (World.drewN _) (Nat.add_assoc _ _ _))⟩))); try go_wp2_with (first | (go_at_call 36; (with_reducible refine (spec_ReducePalette.calls kj4 _ _ t884 t887 t895 _ ?side1 ?side2 A19.out).mono ?_); (case side1 => exact qC (Kd.N_reads' HO_3.out).2.2); (case side2 => exact (Kd.N_reads' HO_3.out).2.1); rintro e w21 ⟨v896, rfl, ho0, hb⟩; have HO897 := aM (Kd.N_lower (Kd.N_mono (ok' := fun k_ => some k_ ≠ (.slice Ao7 t884.length co7 : Value).ownBlock ∧ some k_ ≠ (v889 : Value).ownBlock) (Kd.S_N (Kd.S_bound ho0)) (fun k_ hk_ => ⟨(Kd.fresh' (Kd.N_lt (by (with_reducible repeat (first | apply Kd.N_alloc | apply Kd.N_drewN | apply Kd.N_drew)); exact HO_3.out)) k_ hk_.2.1), (Kd.fresh' (Kd.N_lt (by (with_reducible repeat (first | apply Kd.N_alloc | apply Kd.N_drewN | apply Kd.N_drew)); exact HO_5.out)) k_ hk_.2.1)⟩)) (below_size (qW HB.out))); replace HO_3 := aM (Kd.N_elder' (by (with_reducible repeat (first | apply Kd.N_alloc | apply Kd.N_drewN | apply Kd.N_drew)); exact HO_3.out) (Kd.S_base ho0) hb); replace HO_5 := aM (Kd.N_elder' (by (with_reducible repeat (first | apply Kd.N_alloc | apply Kd.N_drewN | apply Kd.N_drew)); exact HO_5.out) (Kd.S_base ho0) hb); replace HB := bS HB hb; clear hb ho0; obtain ⟨Ao22, co22, eo22⟩ := Kd.N_slice HO_5.out; subst eo22; obtain ⟨Ao23, co23, eo23⟩ := Kd.N_slice HO897.out; subst eo23) | (go_at_call 22; (with_reducible refine (laws_equalLists.calls kj4 _ _ t888 _ _ t895 t898 _ ?side1 ?side2 ?side3 ?side4 A20.out).mono ?_); (case side1 => exact qC (Kd.N_reads' HO_5.out).2.2); (case side2 => exact (Kd.N_reads' HO_5.out).2.1); (case side3 => exact qC (Kd.N_reads' HO897.out).2.2); (case side4 => exact (Kd.N_reads' HO897.out).2.1); rintro e w' ⟨rfl, ⟨nd, rfl⟩⟩; (try first | exact ⟨rfl, _, World.drewN_drewN _ _ _⟩ | exact ⟨rfl, _, Eq.trans (World.drewN_drewN _ _ _) (congrArg (World.drewN _) (Nat.add_assoc _ _ _))⟩))))
    go_ret
    exact ⟨qX, by exact qW HB.out⟩
   replace c18 := Bool.eq_false_iff.mpr c18
   subst c18
   have H1 : (laws_FnReducePalette.l0 kj4 t884 t887 t888 0) = some r := by rw [if_neg (show ¬ (false = true) by decide)] at H; exact H
   clear H
   have H := H1
   clear H1
   have H' := aM H
   clear H
   go_wp2
   repeat (go_quiet (fail); try go_wp2)
   go_loopg [6] kj4 (fun kq v6 w' => ∃ (x6_2 : Int), v6 = .int .i64 x6_2 ∧ Aside0 (laws_FnReducePalette.l0 kq t884 t887 t888 x6_2 = some r) ∧ Aside0 (kq ≤ kj4) ∧ Aside0 (Kd.N (Kd.slice 3 (Kd.int .i64)) 22 w' w.heap.size (fun k_ => some k_ ≠ (v889 : Value).ownBlock) (.slice Ao7 t884.length co7) t884) ∧ Aside0 (Kd.N (Kd.slice 3 (Kd.int .i64)) 22 w' w.heap.size (fun k_ => some k_ ≠ ((.slice Ao7 t884.length co7) : Value).ownBlock) v889 t888) ∧ Aside0 (Below w.heap.size w w'))
   case atStart => exact ⟨(0), qE, H', ⟨Nat.le_refl _⟩, ⟨by (with_reducible repeat (first | apply Kd.N_alloc | apply Kd.N_drewN | apply Kd.N_drew)); exact HO_3.out⟩, ⟨by (with_reducible repeat (first | apply Kd.N_alloc | apply Kd.N_drewN | apply Kd.N_drew)); exact HO_5.out⟩, ⟨by exact qW HB.out⟩⟩
   case round =>
    clear H'
    try clear c2
    try clear c2b0
    try clear c2b1
    try clear c11
    try clear c18
    obtain ⟨x6_2, rfl, HA, HK2, HO_3, HO_5, HB⟩ := hrel
    cases gk with
    | zero => exact absurd HA.out (by simp [laws_FnReducePalette.l0])
    | succ k2 =>
     have H := HA.out
     clear HA
     simp only [laws_FnReducePalette.l0] at H
     replace H := iS H
     obtain ⟨c24, H⟩ := H
     have c24b0 : decide (0 < (t884.length : Int)) = true := decide_eq_true c24
     have c24b1 : decide (0 < t884.length) = true := decide_eq_true (by omega)
     clear c24
     by_cases c25 : x6_2 < ((rd_L1 t884 0).length : Int)
     rotate_left
     ·rw [if_neg c25] at H
      have c25b0 : decide (x6_2 < ((rd_L1 t884 0).length : Int)) = false := decide_eq_false c25
      clear c25
      by_cases c45 : (t888.length : Int) ≤ t887
      ·rw [if_pos c45] at H
       have c45b0 : decide ((t888.length : Int) ≤ t887) = true := decide_eq_true c45
       clear c45
       obtain rfl := Option.some.inj H
       have p899 : 0 ≤ (0 : Int) := (by omega)
       have q899 : 0 < (t884.length : Int) := oD
       obtain ⟨ad899, A899_0, c899_0, e899, hx899_0, hl899_0, hi899_0⟩ := at_L1 (Kd.N_reads' HO_3.out).2.2 0 p899 q899
       cases e899
       obtain ⟨ce899, hce899, hMe899, hcc899⟩ := Kd.N_get HO_3.out [] 0 p899 (by first | exact q899 | exact oD | (have e_ := (Kd.N_reads' HO_3.out).1; omega))
       obtain ⟨ua899_0, uc899_0, rfl, ul899_0, ge899_0⟩ := Kd.FK_slice_open hMe899
       have hv899_0 := hcc899 0 _ rfl
       rw [Nat.add_zero, show ((Kd.slice 3 (Kd.int .i64))).sz = 1 from rfl, Nat.mul_one] at hv899_0
       replace hv899_0 := Option.some.inj (hv899_0.symm.trans hx899_0)
       injection hv899_0 with hva_ hvn_ hvc_
       rw [hva_] at ge899_0
       rw [hvc_] at ul899_0
       have HL899_0 := aM (show Kd.V (Kd.int .i64) 3 _ w.heap.size _ _ (rd_L1 t884 0) from Kd.V_mk ul899_0 ge899_0)
       clear hva_ hvn_ hvc_ ge899_0 ul899_0
       clear hcc899 hce899
       have qi899 : (0 < t884.length) = True := eq_true (by omega)
       (try rw [show ((0 : Int)).toNat = 0 from rfl] at hx899_0)
       (try rw [Addr.add_zero'] at hx899_0)
       have HR899_0 := aM hi899_0
       have HC899_0 := aM hl899_0
       clear hi899_0 hl899_0
       replace p899 := eq_true p899
       replace q899 := eq_true q899
       obtain ⟨Ao46, co46, eo46⟩ := Kd.N_slice HO_5.out
       subst eo46
       go_wp2
       repeat (go_quiet (fail); try go_wp2)
       go_ret
       exact ⟨qX, by exact qW HB.out⟩
      rw [if_neg c45] at H
      have c45b0 : decide ((t888.length : Int) ≤ t887) = false := decide_eq_false c45
      clear c45
      obtain rfl := Option.some.inj H
      have p899 : 0 ≤ (0 : Int) := (by omega)
      have q899 : 0 < (t884.length : Int) := oD
      obtain ⟨ad899, A899_0, c899_0, e899, hx899_0, hl899_0, hi899_0⟩ := at_L1 (Kd.N_reads' HO_3.out).2.2 0 p899 q899
      cases e899
      obtain ⟨ce899, hce899, hMe899, hcc899⟩ := Kd.N_get HO_3.out [] 0 p899 (by first | exact q899 | exact oD | (have e_ := (Kd.N_reads' HO_3.out).1; omega))
      obtain ⟨ua899_0, uc899_0, rfl, ul899_0, ge899_0⟩ := Kd.FK_slice_open hMe899
      have hv899_0 := hcc899 0 _ rfl
      rw [Nat.add_zero, show ((Kd.slice 3 (Kd.int .i64))).sz = 1 from rfl, Nat.mul_one] at hv899_0
      replace hv899_0 := Option.some.inj (hv899_0.symm.trans hx899_0)
      injection hv899_0 with hva_ hvn_ hvc_
      rw [hva_] at ge899_0
      rw [hvc_] at ul899_0
      have HL899_0 := aM (show Kd.V (Kd.int .i64) 3 _ w.heap.size _ _ (rd_L1 t884 0) from Kd.V_mk ul899_0 ge899_0)
      clear hva_ hvn_ hvc_ ge899_0 ul899_0
      clear hcc899 hce899
      have qi899 : (0 < t884.length) = True := eq_true (by omega)
      (try rw [show ((0 : Int)).toNat = 0 from rfl] at hx899_0)
      (try rw [Addr.add_zero'] at hx899_0)
      have HR899_0 := aM hi899_0
      have HC899_0 := aM hl899_0
      clear hi899_0 hl899_0
      replace p899 := eq_true p899
      replace q899 := eq_true q899
      obtain ⟨Ao47, co47, eo47⟩ := Kd.N_slice HO_5.out
      subst eo47
      go_wp2
      repeat (go_quiet (fail); try go_wp2)
      go_ret
      exact ⟨qX, by exact qW HB.out⟩
     rw [if_pos c25] at H
     have c25b0 : decide (x6_2 < ((rd_L1 t884 0).length : Int)) = true := decide_eq_true c25
     clear c25
     have H' := aM H
     clear H
     have p899 : 0 ≤ (0 : Int) := (by omega)
     have q899 : 0 < (t884.length : Int) := oD
     obtain ⟨ad899, A899_0, c899_0, e899, hx899_0, hl899_0, hi899_0⟩ := at_L1 (Kd.N_reads' HO_3.out).2.2 0 p899 q899
     cases e899
     obtain ⟨ce899, hce899, hMe899, hcc899⟩ := Kd.N_get HO_3.out [] 0 p899 (by first | exact q899 | exact oD | (have e_ := (Kd.N_reads' HO_3.out).1; omega))
     obtain ⟨ua899_0, uc899_0, rfl, ul899_0, ge899_0⟩ := Kd.FK_slice_open hMe899
     have hv899_0 := hcc899 0 _ rfl
     rw [Nat.add_zero, show ((Kd.slice 3 (Kd.int .i64))).sz = 1 from rfl, Nat.mul_one] at hv899_0
     replace hv899_0 := Option.some.inj (hv899_0.symm.trans hx899_0)
     injection hv899_0 with hva_ hvn_ hvc_
     rw [hva_] at ge899_0
     rw [hvc_] at ul899_0
     have HL899_0 := aM (show Kd.V (Kd.int .i64) 3 _ w.heap.size _ _ (rd_L1 t884 0) from Kd.V_mk ul899_0 ge899_0)
     clear hva_ hvn_ hvc_ ge899_0 ul899_0
     clear hcc899 hce899
     have qi899 : (0 < t884.length) = True := eq_true (by omega)
     (try rw [show ((0 : Int)).toNat = 0 from rfl] at hx899_0)
     (try rw [Addr.add_zero'] at hx899_0)
     have HR899_0 := aM hi899_0
     have HC899_0 := aM hl899_0
     clear hi899_0 hl899_0
     replace p899 := eq_true p899
     replace q899 := eq_true q899
     go_wp2
     repeat (go_quiet (fail); try go_wp2)
     go_loopg [7, 8, 9] k2 (fun kq v7 v8 v9 w' => ∃ (x7_3 : Int) (x8_3 : Int) (x9_3 : Int), v7 = .int .i64 x7_3 ∧ v8 = .int .i64 x8_3 ∧ v9 = .int .i64 x9_3 ∧ Aside0 (laws_FnReducePalette.l1 kq t884 t887 t888 x6_2 x7_3 x8_3 x9_3 = some r) ∧ Aside0 (kq ≤ k2) ∧ Aside0 (Kd.N (Kd.slice 3 (Kd.int .i64)) 22 w' w.heap.size (fun k_ => some k_ ≠ (v889 : Value).ownBlock) (.slice (some ad899) t884.length co7) t884) ∧ Aside0 (Kd.N (Kd.slice 3 (Kd.int .i64)) 22 w' w.heap.size (fun k_ => some k_ ≠ ((.slice (some ad899) t884.length co7) : Value).ownBlock) v889 t888) ∧ Aside0 (Kd.C (Kd.int .i64) w' A899_0 (rd_L1 t884 0).length (rd_L1 t884 0)) ∧ Aside0 (Below w.heap.size w w'))
     case atStart => exact ⟨(255), (0), (0), qE, qE, qE, H', ⟨Nat.le_refl _⟩, ⟨by (with_reducible repeat (first | apply Kd.N_alloc | apply Kd.N_drewN | apply Kd.N_drew)); exact HO_3.out⟩, ⟨by (with_reducible repeat (first | apply Kd.N_alloc | apply Kd.N_drewN | apply Kd.N_drew)); exact HO_5.out⟩, ⟨by repeat (first | (with_reducible exact HR899_0.out) | (with_reducible refine Kd.C_alloc ?_ _) | (with_reducible refine Kd.C_drewN ?_ _) | (with_reducible refine Kd.C_drew ?_) | exact HR899_0.out)⟩, ⟨by exact qW HB.out⟩⟩
     case round =>
      clear H'
      try clear c2
      try clear c2b0
      try clear c2b1
      try clear c11
      try clear c18
      try clear c24
      try clear c24b0
      try clear c24b1
      try clear c25
      try clear c25b0
      try clear hx899_0
      try clear p899
      try clear q899
      obtain ⟨x7_3, x8_3, x9_3, rfl, rfl, rfl, HA, HK3, HO_3, HO_5, HR899_0, HB⟩ := hrel
      cases gk with
      | zero => exact absurd HA.out (by simp [laws_FnReducePalette.l1])
      | succ k3 =>
       have H := HA.out
       clear HA
       simp only [laws_FnReducePalette.l1] at H
       by_cases c26 : x9_3 < (t884.length : Int)
       ·rw [if_pos c26] at H
        have c26b0 : decide (x9_3 < (t884.length : Int)) = true := decide_eq_true c26
        clear c26
        replace H := iD H
        obtain ⟨c27b0, H⟩ := H
        replace H := iD H
        obtain ⟨c28b0, H⟩ := H
        replace H := iD H
        obtain ⟨c29b0, H⟩ := H
        obtain ⟨ji30, hji30⟩ : ∃ j_ : Int, (mn x7_3 (rd (rd_L1 t884 x9_3) x6_2)) = j_ := ⟨_, rfl⟩
        replace H : (laws_FnReducePalette.l1 k3 t884 t887 t888 x6_2 ji30 (mx x8_3 (rd (rd_L1 t884 x9_3) x6_2)) (wrap64 (x9_3 + 1))) = some r := by first | (rw [hji30] at H; exact H) | (simp only [hji30] at H ⊢; exact H)
        have hji30_ : (if (rd (rd_L1 t884 x9_3) x6_2) < x7_3 then (rd (rd_L1 t884 x9_3) x6_2) else x7_3) = ji30 := hji30
        obtain ⟨ji31, hji31⟩ : ∃ j_ : Int, (mx x8_3 (rd (rd_L1 t884 x9_3) x6_2)) = j_ := ⟨_, rfl⟩
        replace H : (laws_FnReducePalette.l1 k3 t884 t887 t888 x6_2 ji30 ji31 (wrap64 (x9_3 + 1))) = some r := by first | (rw [hji31] at H; exact H) | (simp only [hji31] at H ⊢; exact H)
        have hji31_ : (if x8_3 < (rd (rd_L1 t884 x9_3) x6_2) then (rd (rd_L1 t884 x9_3) x6_2) else x8_3) = ji31 := hji31
        have H' := aM H
        clear H
        have p900 : 0 ≤ (x9_3 : Int) := oD
        have q900 : x9_3 < (t884.length : Int) := oD
        obtain ⟨ad900, A900_0, c900_0, e900, hx900_0, hl900_0, hi900_0⟩ := at_L1 (Kd.N_reads' HO_3.out).2.2 x9_3 p900 q900
        obtain rfl : ad899 = ad900 := (by injection e900)
        obtain ⟨ce900, hce900, hMe900, hcc900⟩ := Kd.N_get HO_3.out [] x9_3 p900 (by first | exact q900 | exact oD | (have e_ := (Kd.N_reads' HO_3.out).1; omega))
        obtain ⟨ua900_0, uc900_0, rfl, ul900_0, ge900_0⟩ := Kd.FK_slice_open hMe900
        have hv900_0 := hcc900 0 _ rfl
        rw [Nat.add_zero, show ((Kd.slice 3 (Kd.int .i64))).sz = 1 from rfl, Nat.mul_one] at hv900_0
        replace hv900_0 := Option.some.inj (hv900_0.symm.trans hx900_0)
        injection hv900_0 with hva_ hvn_ hvc_
        rw [hva_] at ge900_0
        rw [hvc_] at ul900_0
        have HL900_0 := aM (show Kd.V (Kd.int .i64) 3 _ w.heap.size _ _ (rd_L1 t884 x9_3) from Kd.V_mk ul900_0 ge900_0)
        clear hva_ hvn_ hvc_ ge900_0 ul900_0
        clear hcc900 hce900
        have HR900_0 := aM hi900_0
        have HC900_0 := aM hl900_0
        clear hi900_0 hl900_0
        replace p900 := eq_true p900
        replace q900 := eq_true q900
        obtain ⟨ad901, e901, hx901_0⟩ := Kd.at_int (by repeat (first | (with_reducible exact HR900_0.out) | (with_reducible refine Kd.C_alloc ?_ _) | (with_reducible refine Kd.C_drewN ?_ _) | (with_reducible refine Kd.C_drew ?_) | exact HR900_0.out)) x6_2 oD oD
        cases e901
        have p901 := eq_true (oD : 0 ≤ (x6_2 : Int))
        have q901 := eq_true (oD : x6_2 < ((rd_L1 t884 x9_3).length : Int))
        have p902 : 0 ≤ (x9_3 : Int) := oD
        have q902 : x9_3 < (t884.length : Int) := oD
        obtain ⟨ad902, A902_0, c902_0, e902, hx902_0, hl902_0, hi902_0⟩ := at_L1 (Kd.N_reads' HO_3.out).2.2 x9_3 p902 q902
        obtain rfl : ad899 = ad902 := (by injection e902)
        obtain ⟨ce902, hce902, hMe902, hcc902⟩ := Kd.N_get HO_3.out [] x9_3 p902 (by first | exact q902 | exact oD | (have e_ := (Kd.N_reads' HO_3.out).1; omega))
        obtain ⟨ua902_0, uc902_0, rfl, ul902_0, ge902_0⟩ := Kd.FK_slice_open hMe902
        have hv902_0 := hcc902 0 _ rfl
        rw [Nat.add_zero, show ((Kd.slice 3 (Kd.int .i64))).sz = 1 from rfl, Nat.mul_one] at hv902_0
        replace hv902_0 := Option.some.inj (hv902_0.symm.trans hx902_0)
        injection hv902_0 with hva_ hvn_ hvc_
        rw [hva_] at ge902_0
        rw [hvc_] at ul902_0
        have HL902_0 := aM (show Kd.V (Kd.int .i64) 3 _ w.heap.size _ _ (rd_L1 t884 x9_3) from Kd.V_mk ul902_0 ge902_0)
        clear hva_ hvn_ hvc_ ge902_0 ul902_0
        clear hcc902 hce902
        have HR902_0 := aM hi902_0
        have HC902_0 := aM hl902_0
        clear hi902_0 hl902_0
        replace p902 := eq_true p902
        replace q902 := eq_true q902
        have ea_ := Option.some.inj (hx900_0.symm.trans hx902_0)
        injection ea_ with ea_ en_ ec_
        subst ea_
        subst ec_
        clear en_
        obtain ⟨ad903, e903, hx903_0⟩ := Kd.at_int (by repeat (first | (with_reducible exact HR902_0.out) | (with_reducible refine Kd.C_alloc ?_ _) | (with_reducible refine Kd.C_drewN ?_ _) | (with_reducible refine Kd.C_drew ?_) | exact HR902_0.out)) x6_2 oD oD
        cases e903
        have p903 := eq_true (oD : 0 ≤ (x6_2 : Int))
        have q903 := eq_true (oD : x6_2 < ((rd_L1 t884 x9_3).length : Int))
        go_wp2
        repeat (go_quiet (fail); try go_wp2)
        go_roundg k3
        case measure => have := HJ4.out; have := HK2.out; have := HK3.out; omega
        case rel => exact ⟨(ji30), (ji31), (wrap64 (x9_3 + 1)), (by first | rfl | (simp; done) | (simp only [← hji30] <;> (first | rfl | simp)) | (simp [*]; done)), (by first | rfl | (simp; done) | (simp only [← hji31] <;> (first | rfl | simp)) | (simp [*]; done)), qE, H', ⟨by have := HJ4.out; have := HK2.out; have := HK3.out; omega⟩, ⟨by (with_reducible repeat (first | apply Kd.N_alloc | apply Kd.N_drewN | apply Kd.N_drew)); exact HO_3.out⟩, ⟨by (with_reducible repeat (first | apply Kd.N_alloc | apply Kd.N_drewN | apply Kd.N_drew)); exact HO_5.out⟩, ⟨by repeat (first | (with_reducible exact HR899_0.out) | (with_reducible refine Kd.C_alloc ?_ _) | (with_reducible refine Kd.C_drewN ?_ _) | (with_reducible refine Kd.C_drew ?_) | exact HR899_0.out)⟩, ⟨by exact qW HB.out⟩⟩
       rw [if_neg c26] at H
       have c26b0 : decide (x9_3 < (t884.length : Int)) = false := decide_eq_false c26
       clear c26
       have H' := aM H
       clear H
       go_wp2
       repeat (go_quiet (fail); try go_wp2)
       go_loopg [10] k3 (fun kq v10 w' => ∃ (x10_4 : Int), v10 = .int .i64 x10_4 ∧ Aside0 (laws_FnReducePalette.l2 kq t884 t887 t888 x6_2 x7_3 x8_3 x10_4 = some r) ∧ Aside0 (kq ≤ k3) ∧ Aside0 (Kd.N (Kd.slice 3 (Kd.int .i64)) 22 w' w.heap.size (fun k_ => some k_ ≠ (v889 : Value).ownBlock) (.slice (some ad899) t884.length co7) t884) ∧ Aside0 (Kd.N (Kd.slice 3 (Kd.int .i64)) 22 w' w.heap.size (fun k_ => some k_ ≠ ((.slice (some ad899) t884.length co7) : Value).ownBlock) v889 t888) ∧ Aside0 (Kd.C (Kd.int .i64) w' A899_0 (rd_L1 t884 0).length (rd_L1 t884 0)) ∧ Aside0 (Below w.heap.size w w'))
       case atStart => exact ⟨(0), qE, H', ⟨Nat.le_refl _⟩, ⟨by (with_reducible repeat (first | apply Kd.N_alloc | apply Kd.N_drewN | apply Kd.N_drew)); exact HO_3.out⟩, ⟨by (with_reducible repeat (first | apply Kd.N_alloc | apply Kd.N_drewN | apply Kd.N_drew)); exact HO_5.out⟩, ⟨by repeat (first | (with_reducible exact HR899_0.out) | (with_reducible refine Kd.C_alloc ?_ _) | (with_reducible refine Kd.C_drewN ?_ _) | (with_reducible refine Kd.C_drew ?_) | exact HR899_0.out)⟩, ⟨by exact qW HB.out⟩⟩
       case round =>
        clear H'
        try clear c2
        try clear c2b0
        try clear c2b1
        try clear c11
        try clear c18
        try clear c24
        try clear c24b0
        try clear c24b1
        try clear c25
        try clear c25b0
        try clear c26
        try clear c26b0
        try clear c27b0
        try clear c28b0
        try clear c29b0
        try clear hx899_0
        try clear hx900_0
        try clear hx901_0
        try clear hx902_0
        try clear hx903_0
        try clear p899
        try clear p900
        try clear p901
        try clear p902
        try clear p903
        try clear q899
        try clear q900
        try clear q901
        try clear q902
        try clear q903
        obtain ⟨x10_4, rfl, HA, HK4, HO_3, HO_5, HR899_0, HB⟩ := hrel
        cases gk with
        | zero => exact absurd HA.out (by simp [laws_FnReducePalette.l2])
        | succ k4 =>
         have H := HA.out
         clear HA
         simp only [laws_FnReducePalette.l2] at H
         by_cases c32 : x10_4 < (t888.length : Int)
         rotate_left
         ·rw [if_neg c32] at H
          have c32b0 : decide (x10_4 < (t888.length : Int)) = false := decide_eq_false c32
          clear c32
          have H' := aM H
          clear H
          obtain ⟨Ao44, co44, eo44⟩ := Kd.N_slice HO_5.out
          subst eo44
          go_wp2
          repeat (go_quiet (fail); try go_wp2)
          go_roundg k4
          case measure => have := HJ4.out; have := HK2.out; have := HK3.out; have := HK4.out; omega
          case rel => exact ⟨(wrap64 (x6_2 + 1)), qE, H', ⟨by have := HJ4.out; have := HK2.out; have := HK3.out; have := HK4.out; omega⟩, ⟨by (with_reducible repeat (first | apply Kd.N_alloc | apply Kd.N_drewN | apply Kd.N_drew)); exact HO_3.out⟩, ⟨by (with_reducible repeat (first | apply Kd.N_alloc | apply Kd.N_drewN | apply Kd.N_drew)); exact HO_5.out⟩, ⟨by exact qW HB.out⟩⟩
         rw [if_pos c32] at H
         have c32b0 : decide (x10_4 < (t888.length : Int)) = true := decide_eq_true c32
         clear c32
         replace H := iD H
         obtain ⟨c33b0, H⟩ := H
         replace H := iS H
         obtain ⟨c34, H⟩ := H
         have c34b0 : decide (0 < (t884.length : Int)) = true := decide_eq_true c34
         have c34b1 : decide (0 < t884.length) = true := decide_eq_true (by omega)
         clear c34
         by_cases c35 : ((rd_L1 t888 x10_4).length : Int) = ((rd_L1 t884 0).length : Int)
         rotate_left
         ·rw [if_neg c35] at H
          have c35b0 : (((rd_L1 t888 x10_4).length : Int) == ((rd_L1 t884 0).length : Int)) = false := beq_eq_false_iff_ne.mpr c35
          have c35b1 : (((rd_L1 t888 x10_4).length : Int) != ((rd_L1 t884 0).length : Int)) = true := bne_iff_ne.mpr c35
          have c35b2 : ((rd_L1 t888 x10_4).length == (rd_L1 t884 0).length) = false := by first | simpa using c35 | (simp at c35 ⊢; omega)
          obtain rfl := Option.some.inj H
          obtain ⟨Ao43, co43, eo43⟩ := Kd.N_slice HO_5.out
          subst eo43
          have p904 : 0 ≤ (x10_4 : Int) := oD
          have q904 : x10_4 < (t888.length : Int) := oD
          obtain ⟨ad904, A904_0, c904_0, e904, hx904_0, hl904_0, hi904_0⟩ := at_L1 (Kd.N_reads' HO_5.out).2.2 x10_4 p904 q904
          cases e904
          obtain ⟨ce904, hce904, hMe904, hcc904⟩ := Kd.N_get HO_5.out [] x10_4 p904 (by first | exact q904 | exact oD | (have e_ := (Kd.N_reads' HO_5.out).1; omega))
          obtain ⟨ua904_0, uc904_0, rfl, ul904_0, ge904_0⟩ := Kd.FK_slice_open hMe904
          have hv904_0 := hcc904 0 _ rfl
          rw [Nat.add_zero, show ((Kd.slice 3 (Kd.int .i64))).sz = 1 from rfl, Nat.mul_one] at hv904_0
          replace hv904_0 := Option.some.inj (hv904_0.symm.trans hx904_0)
          injection hv904_0 with hva_ hvn_ hvc_
          rw [hva_] at ge904_0
          rw [hvc_] at ul904_0
          have HL904_0 := aM (show Kd.V (Kd.int .i64) 3 _ w.heap.size _ _ (rd_L1 t888 x10_4) from Kd.V_mk ul904_0 ge904_0)
          clear hva_ hvn_ hvc_ ge904_0 ul904_0
          clear hcc904 hce904
          have HR904_0 := aM hi904_0
          have HC904_0 := aM hl904_0
          clear hi904_0 hl904_0
          replace p904 := eq_true p904
          replace q904 := eq_true q904
          have p905 : 0 ≤ (0 : Int) := (by omega)
          have q905 : 0 < (t884.length : Int) := oD
          obtain ⟨ad905, A905_0, c905_0, e905, hx905_0, hl905_0, hi905_0⟩ := at_L1 (Kd.N_reads' HO_3.out).2.2 0 p905 q905
          obtain rfl : ad899 = ad905 := (by injection e905)
          obtain ⟨ce905, hce905, hMe905, hcc905⟩ := Kd.N_get HO_3.out [] 0 p905 (by first | exact q905 | exact oD | (have e_ := (Kd.N_reads' HO_3.out).1; omega))
          obtain ⟨ua905_0, uc905_0, rfl, ul905_0, ge905_0⟩ := Kd.FK_slice_open hMe905
          have hv905_0 := hcc905 0 _ rfl
          rw [Nat.add_zero, show ((Kd.slice 3 (Kd.int .i64))).sz = 1 from rfl, Nat.mul_one] at hv905_0
          replace hv905_0 := Option.some.inj (hv905_0.symm.trans hx905_0)
          injection hv905_0 with hva_ hvn_ hvc_
          rw [hva_] at ge905_0
          rw [hvc_] at ul905_0
          have HL905_0 := aM (show Kd.V (Kd.int .i64) 3 _ w.heap.size _ _ (rd_L1 t884 0) from Kd.V_mk ul905_0 ge905_0)
          clear hva_ hvn_ hvc_ ge905_0 ul905_0
          clear hcc905 hce905
          have qi905 : (0 < t884.length) = True := eq_true (by omega)
          (try rw [show ((0 : Int)).toNat = 0 from rfl] at hx905_0)
          (try rw [Addr.add_zero'] at hx905_0)
          have HR905_0 := aM hi905_0
          have HC905_0 := aM hl905_0
          clear hi905_0 hl905_0
          replace p905 := eq_true p905
          replace q905 := eq_true q905
          go_wp2
          repeat (go_quiet (fail); try go_wp2)
          go_ret
          exact ⟨qX, by exact qW HB.out⟩
         rw [if_pos c35] at H
         have c35b0 : (((rd_L1 t888 x10_4).length : Int) == ((rd_L1 t884 0).length : Int)) = true := beq_iff_eq.mpr c35
         have c35b1 : (((rd_L1 t888 x10_4).length : Int) != ((rd_L1 t884 0).length : Int)) = false := bne_eq_false_iff_eq.mpr c35
         have c35b2 : ((rd_L1 t888 x10_4).length == (rd_L1 t884 0).length) = true := by first | simpa using c35 | (simp at c35 ⊢; omega)
         clear c35
         replace H := iD H
         obtain ⟨c36b0, H⟩ := H
         replace H := iD H
         obtain ⟨c37b0, H⟩ := H
         by_cases c38 : (rd (rd_L1 t888 x10_4) x6_2) < x7_3
         ·rw [if_pos c38] at H
          have c38b0 : decide ((rd (rd_L1 t888 x10_4) x6_2) < x7_3) = true := decide_eq_true c38
          clear c38
          obtain rfl := Option.some.inj H
          obtain ⟨Ao39, co39, eo39⟩ := Kd.N_slice HO_5.out
          subst eo39
          have p904 : 0 ≤ (x10_4 : Int) := oD
          have q904 : x10_4 < (t888.length : Int) := oD
          obtain ⟨ad904, A904_0, c904_0, e904, hx904_0, hl904_0, hi904_0⟩ := at_L1 (Kd.N_reads' HO_5.out).2.2 x10_4 p904 q904
          cases e904
          obtain ⟨ce904, hce904, hMe904, hcc904⟩ := Kd.N_get HO_5.out [] x10_4 p904 (by first | exact q904 | exact oD | (have e_ := (Kd.N_reads' HO_5.out).1; omega))
          obtain ⟨ua904_0, uc904_0, rfl, ul904_0, ge904_0⟩ := Kd.FK_slice_open hMe904
          have hv904_0 := hcc904 0 _ rfl
          rw [Nat.add_zero, show ((Kd.slice 3 (Kd.int .i64))).sz = 1 from rfl, Nat.mul_one] at hv904_0
          replace hv904_0 := Option.some.inj (hv904_0.symm.trans hx904_0)
          injection hv904_0 with hva_ hvn_ hvc_
          rw [hva_] at ge904_0
          rw [hvc_] at ul904_0
          have HL904_0 := aM (show Kd.V (Kd.int .i64) 3 _ w.heap.size _ _ (rd_L1 t888 x10_4) from Kd.V_mk ul904_0 ge904_0)
          clear hva_ hvn_ hvc_ ge904_0 ul904_0
          clear hcc904 hce904
          have HR904_0 := aM hi904_0
          have HC904_0 := aM hl904_0
          clear hi904_0 hl904_0
          replace p904 := eq_true p904
          replace q904 := eq_true q904
          have p905 : 0 ≤ (0 : Int) := (by omega)
          have q905 : 0 < (t884.length : Int) := oD
          obtain ⟨ad905, A905_0, c905_0, e905, hx905_0, hl905_0, hi905_0⟩ := at_L1 (Kd.N_reads' HO_3.out).2.2 0 p905 q905
          obtain rfl : ad899 = ad905 := (by injection e905)
          obtain ⟨ce905, hce905, hMe905, hcc905⟩ := Kd.N_get HO_3.out [] 0 p905 (by first | exact q905 | exact oD | (have e_ := (Kd.N_reads' HO_3.out).1; omega))
          obtain ⟨ua905_0, uc905_0, rfl, ul905_0, ge905_0⟩ := Kd.FK_slice_open hMe905
          have hv905_0 := hcc905 0 _ rfl
          rw [Nat.add_zero, show ((Kd.slice 3 (Kd.int .i64))).sz = 1 from rfl, Nat.mul_one] at hv905_0
          replace hv905_0 := Option.some.inj (hv905_0.symm.trans hx905_0)
          injection hv905_0 with hva_ hvn_ hvc_
          rw [hva_] at ge905_0
          rw [hvc_] at ul905_0
          have HL905_0 := aM (show Kd.V (Kd.int .i64) 3 _ w.heap.size _ _ (rd_L1 t884 0) from Kd.V_mk ul905_0 ge905_0)
          clear hva_ hvn_ hvc_ ge905_0 ul905_0
          clear hcc905 hce905
          have qi905 : (0 < t884.length) = True := eq_true (by omega)
          (try rw [show ((0 : Int)).toNat = 0 from rfl] at hx905_0)
          (try rw [Addr.add_zero'] at hx905_0)
          have HR905_0 := aM hi905_0
          have HC905_0 := aM hl905_0
          clear hi905_0 hl905_0
          replace p905 := eq_true p905
          replace q905 := eq_true q905
          have p906 : 0 ≤ (x10_4 : Int) := oD
          have q906 : x10_4 < (t888.length : Int) := oD
          obtain ⟨ad906, A906_0, c906_0, e906, hx906_0, hl906_0, hi906_0⟩ := at_L1 (Kd.N_reads' HO_5.out).2.2 x10_4 p906 q906
          obtain rfl : ad904 = ad906 := (by injection e906)
          obtain ⟨ce906, hce906, hMe906, hcc906⟩ := Kd.N_get HO_5.out [] x10_4 p906 (by first | exact q906 | exact oD | (have e_ := (Kd.N_reads' HO_5.out).1; omega))
          obtain ⟨ua906_0, uc906_0, rfl, ul906_0, ge906_0⟩ := Kd.FK_slice_open hMe906
          have hv906_0 := hcc906 0 _ rfl
          rw [Nat.add_zero, show ((Kd.slice 3 (Kd.int .i64))).sz = 1 from rfl, Nat.mul_one] at hv906_0
          replace hv906_0 := Option.some.inj (hv906_0.symm.trans hx906_0)
          injection hv906_0 with hva_ hvn_ hvc_
          rw [hva_] at ge906_0
          rw [hvc_] at ul906_0
          have HL906_0 := aM (show Kd.V (Kd.int .i64) 3 _ w.heap.size _ _ (rd_L1 t888 x10_4) from Kd.V_mk ul906_0 ge906_0)
          clear hva_ hvn_ hvc_ ge906_0 ul906_0
          clear hcc906 hce906
          have HR906_0 := aM hi906_0
          have HC906_0 := aM hl906_0
          clear hi906_0 hl906_0
          replace p906 := eq_true p906
          replace q906 := eq_true q906
          have ea_ := Option.some.inj (hx904_0.symm.trans hx906_0)
          injection ea_ with ea_ en_ ec_
          subst ea_
          subst ec_
          clear en_
          obtain ⟨ad907, e907, hx907_0⟩ := Kd.at_int (by repeat (first | (with_reducible exact HR906_0.out) | (with_reducible refine Kd.C_alloc ?_ _) | (with_reducible refine Kd.C_drewN ?_ _) | (with_reducible refine Kd.C_drew ?_) | exact HR906_0.out)) x6_2 oD oD
          cases e907
          have p907 := eq_true (oD : 0 ≤ (x6_2 : Int))
          have q907 := eq_true (oD : x6_2 < ((rd_L1 t888 x10_4).length : Int))
          go_wp2
          repeat (go_quiet (fail); try go_wp2)
          go_ret
          exact ⟨qX, by exact qW HB.out⟩
         rw [if_neg c38] at H
         have c38b0 : decide ((rd (rd_L1 t888 x10_4) x6_2) < x7_3) = false := decide_eq_false c38
         clear c38
         by_cases c40 : (rd (rd_L1 t888 x10_4) x6_2) > x8_3
         ·rw [if_pos c40] at H
          have c40b0 : decide (x8_3 < (rd (rd_L1 t888 x10_4) x6_2)) = true := decide_eq_true c40
          clear c40
          obtain rfl := Option.some.inj H
          obtain ⟨Ao41, co41, eo41⟩ := Kd.N_slice HO_5.out
          subst eo41
          have p904 : 0 ≤ (x10_4 : Int) := oD
          have q904 : x10_4 < (t888.length : Int) := oD
          obtain ⟨ad904, A904_0, c904_0, e904, hx904_0, hl904_0, hi904_0⟩ := at_L1 (Kd.N_reads' HO_5.out).2.2 x10_4 p904 q904
          cases e904
          obtain ⟨ce904, hce904, hMe904, hcc904⟩ := Kd.N_get HO_5.out [] x10_4 p904 (by first | exact q904 | exact oD | (have e_ := (Kd.N_reads' HO_5.out).1; omega))
          obtain ⟨ua904_0, uc904_0, rfl, ul904_0, ge904_0⟩ := Kd.FK_slice_open hMe904
          have hv904_0 := hcc904 0 _ rfl
          rw [Nat.add_zero, show ((Kd.slice 3 (Kd.int .i64))).sz = 1 from rfl, Nat.mul_one] at hv904_0
          replace hv904_0 := Option.some.inj (hv904_0.symm.trans hx904_0)
          injection hv904_0 with hva_ hvn_ hvc_
          rw [hva_] at ge904_0
          rw [hvc_] at ul904_0
          have HL904_0 := aM (show Kd.V (Kd.int .i64) 3 _ w.heap.size _ _ (rd_L1 t888 x10_4) from Kd.V_mk ul904_0 ge904_0)
          clear hva_ hvn_ hvc_ ge904_0 ul904_0
          clear hcc904 hce904
          have HR904_0 := aM hi904_0
          have HC904_0 := aM hl904_0
          clear hi904_0 hl904_0
          replace p904 := eq_true p904
          replace q904 := eq_true q904
          have p905 : 0 ≤ (0 : Int) := (by omega)
          have q905 : 0 < (t884.length : Int) := oD
          obtain ⟨ad905, A905_0, c905_0, e905, hx905_0, hl905_0, hi905_0⟩ := at_L1 (Kd.N_reads' HO_3.out).2.2 0 p905 q905
          obtain rfl : ad899 = ad905 := (by injection e905)
          obtain ⟨ce905, hce905, hMe905, hcc905⟩ := Kd.N_get HO_3.out [] 0 p905 (by first | exact q905 | exact oD | (have e_ := (Kd.N_reads' HO_3.out).1; omega))
          obtain ⟨ua905_0, uc905_0, rfl, ul905_0, ge905_0⟩ := Kd.FK_slice_open hMe905
          have hv905_0 := hcc905 0 _ rfl
          rw [Nat.add_zero, show ((Kd.slice 3 (Kd.int .i64))).sz = 1 from rfl, Nat.mul_one] at hv905_0
          replace hv905_0 := Option.some.inj (hv905_0.symm.trans hx905_0)
          injection hv905_0 with hva_ hvn_ hvc_
          rw [hva_] at ge905_0
          rw [hvc_] at ul905_0
          have HL905_0 := aM (show Kd.V (Kd.int .i64) 3 _ w.heap.size _ _ (rd_L1 t884 0) from Kd.V_mk ul905_0 ge905_0)
          clear hva_ hvn_ hvc_ ge905_0 ul905_0
          clear hcc905 hce905
          have qi905 : (0 < t884.length) = True := eq_true (by omega)
          (try rw [show ((0 : Int)).toNat = 0 from rfl] at hx905_0)
          (try rw [Addr.add_zero'] at hx905_0)
          have HR905_0 := aM hi905_0
          have HC905_0 := aM hl905_0
          clear hi905_0 hl905_0
          replace p905 := eq_true p905
          replace q905 := eq_true q905
          have p906 : 0 ≤ (x10_4 : Int) := oD
          have q906 : x10_4 < (t888.length : Int) := oD
          obtain ⟨ad906, A906_0, c906_0, e906, hx906_0, hl906_0, hi906_0⟩ := at_L1 (Kd.N_reads' HO_5.out).2.2 x10_4 p906 q906
          obtain rfl : ad904 = ad906 := (by injection e906)
          obtain ⟨ce906, hce906, hMe906, hcc906⟩ := Kd.N_get HO_5.out [] x10_4 p906 (by first | exact q906 | exact oD | (have e_ := (Kd.N_reads' HO_5.out).1; omega))
          obtain ⟨ua906_0, uc906_0, rfl, ul906_0, ge906_0⟩ := Kd.FK_slice_open hMe906
          have hv906_0 := hcc906 0 _ rfl
          rw [Nat.add_zero, show ((Kd.slice 3 (Kd.int .i64))).sz = 1 from rfl, Nat.mul_one] at hv906_0
          replace hv906_0 := Option.some.inj (hv906_0.symm.trans hx906_0)
          injection hv906_0 with hva_ hvn_ hvc_
          rw [hva_] at ge906_0
          rw [hvc_] at ul906_0
          have HL906_0 := aM (show Kd.V (Kd.int .i64) 3 _ w.heap.size _ _ (rd_L1 t888 x10_4) from Kd.V_mk ul906_0 ge906_0)
          clear hva_ hvn_ hvc_ ge906_0 ul906_0
          clear hcc906 hce906
          have HR906_0 := aM hi906_0
          have HC906_0 := aM hl906_0
          clear hi906_0 hl906_0
          replace p906 := eq_true p906
          replace q906 := eq_true q906
          have ea_ := Option.some.inj (hx904_0.symm.trans hx906_0)
          injection ea_ with ea_ en_ ec_
          subst ea_
          subst ec_
          clear en_
          obtain ⟨ad907, e907, hx907_0⟩ := Kd.at_int (by repeat (first | (with_reducible exact HR906_0.out) | (with_reducible refine Kd.C_alloc ?_ _) | (with_reducible refine Kd.C_drewN ?_ _) | (with_reducible refine Kd.C_drew ?_) | exact HR906_0.out)) x6_2 oD oD
          cases e907
          have p907 := eq_true (oD : 0 ≤ (x6_2 : Int))
          have q907 := eq_true (oD : x6_2 < ((rd_L1 t888 x10_4).length : Int))
          have p908 : 0 ≤ (x10_4 : Int) := oD
          have q908 : x10_4 < (t888.length : Int) := oD
          obtain ⟨ad908, A908_0, c908_0, e908, hx908_0, hl908_0, hi908_0⟩ := at_L1 (Kd.N_reads' HO_5.out).2.2 x10_4 p908 q908
          obtain rfl : ad904 = ad908 := (by injection e908)
          obtain ⟨ce908, hce908, hMe908, hcc908⟩ := Kd.N_get HO_5.out [] x10_4 p908 (by first | exact q908 | exact oD | (have e_ := (Kd.N_reads' HO_5.out).1; omega))
          obtain ⟨ua908_0, uc908_0, rfl, ul908_0, ge908_0⟩ := Kd.FK_slice_open hMe908
          have hv908_0 := hcc908 0 _ rfl
          rw [Nat.add_zero, show ((Kd.slice 3 (Kd.int .i64))).sz = 1 from rfl, Nat.mul_one] at hv908_0
          replace hv908_0 := Option.some.inj (hv908_0.symm.trans hx908_0)
          injection hv908_0 with hva_ hvn_ hvc_
          rw [hva_] at ge908_0
          rw [hvc_] at ul908_0
          have HL908_0 := aM (show Kd.V (Kd.int .i64) 3 _ w.heap.size _ _ (rd_L1 t888 x10_4) from Kd.V_mk ul908_0 ge908_0)
          clear hva_ hvn_ hvc_ ge908_0 ul908_0
          clear hcc908 hce908
          have HR908_0 := aM hi908_0
          have HC908_0 := aM hl908_0
          clear hi908_0 hl908_0
          replace p908 := eq_true p908
          replace q908 := eq_true q908
          have ea_ := Option.some.inj (hx904_0.symm.trans hx908_0)
          injection ea_ with ea_ en_ ec_
          subst ea_
          subst ec_
          clear en_
          obtain ⟨ad909, e909, hx909_0⟩ := Kd.at_int (by repeat (first | (with_reducible exact HR908_0.out) | (with_reducible refine Kd.C_alloc ?_ _) | (with_reducible refine Kd.C_drewN ?_ _) | (with_reducible refine Kd.C_drew ?_) | exact HR908_0.out)) x6_2 oD oD
          cases e909
          have p909 := eq_true (oD : 0 ≤ (x6_2 : Int))
          have q909 := eq_true (oD : x6_2 < ((rd_L1 t888 x10_4).length : Int))
          go_wp2
          repeat (go_quiet (fail); try go_wp2)
          go_ret
          exact ⟨qX, by exact qW HB.out⟩
         rw [if_neg c40] at H
         have c40b0 : decide (x8_3 < (rd (rd_L1 t888 x10_4) x6_2)) = false := decide_eq_false c40
         clear c40
         have H' := aM H
         clear H
         obtain ⟨Ao42, co42, eo42⟩ := Kd.N_slice HO_5.out
         subst eo42
         have p904 : 0 ≤ (x10_4 : Int) := oD
         have q904 : x10_4 < (t888.length : Int) := oD
         obtain ⟨ad904, A904_0, c904_0, e904, hx904_0, hl904_0, hi904_0⟩ := at_L1 (Kd.N_reads' HO_5.out).2.2 x10_4 p904 q904
         cases e904
         obtain ⟨ce904, hce904, hMe904, hcc904⟩ := Kd.N_get HO_5.out [] x10_4 p904 (by first | exact q904 | exact oD | (have e_ := (Kd.N_reads' HO_5.out).1; omega))
         obtain ⟨ua904_0, uc904_0, rfl, ul904_0, ge904_0⟩ := Kd.FK_slice_open hMe904
         have hv904_0 := hcc904 0 _ rfl
         rw [Nat.add_zero, show ((Kd.slice 3 (Kd.int .i64))).sz = 1 from rfl, Nat.mul_one] at hv904_0
         replace hv904_0 := Option.some.inj (hv904_0.symm.trans hx904_0)
         injection hv904_0 with hva_ hvn_ hvc_
         rw [hva_] at ge904_0
         rw [hvc_] at ul904_0
         have HL904_0 := aM (show Kd.V (Kd.int .i64) 3 _ w.heap.size _ _ (rd_L1 t888 x10_4) from Kd.V_mk ul904_0 ge904_0)
         clear hva_ hvn_ hvc_ ge904_0 ul904_0
         clear hcc904 hce904
         have HR904_0 := aM hi904_0
         have HC904_0 := aM hl904_0
         clear hi904_0 hl904_0
         replace p904 := eq_true p904
         replace q904 := eq_true q904
         have p905 : 0 ≤ (0 : Int) := (by omega)
         have q905 : 0 < (t884.length : Int) := oD
         obtain ⟨ad905, A905_0, c905_0, e905, hx905_0, hl905_0, hi905_0⟩ := at_L1 (Kd.N_reads' HO_3.out).2.2 0 p905 q905
         obtain rfl : ad899 = ad905 := (by injection e905)
         obtain ⟨ce905, hce905, hMe905, hcc905⟩ := Kd.N_get HO_3.out [] 0 p905 (by first | exact q905 | exact oD | (have e_ := (Kd.N_reads' HO_3.out).1; omega))
         obtain ⟨ua905_0, uc905_0, rfl, ul905_0, ge905_0⟩ := Kd.FK_slice_open hMe905
         have hv905_0 := hcc905 0 _ rfl
         rw [Nat.add_zero, show ((Kd.slice 3 (Kd.int .i64))).sz = 1 from rfl, Nat.mul_one] at hv905_0
         replace hv905_0 := Option.some.inj (hv905_0.symm.trans hx905_0)
         injection hv905_0 with hva_ hvn_ hvc_
         rw [hva_] at ge905_0
         rw [hvc_] at ul905_0
         have HL905_0 := aM (show Kd.V (Kd.int .i64) 3 _ w.heap.size _ _ (rd_L1 t884 0) from Kd.V_mk ul905_0 ge905_0)
         clear hva_ hvn_ hvc_ ge905_0 ul905_0
         clear hcc905 hce905
         have qi905 : (0 < t884.length) = True := eq_true (by omega)
         (try rw [show ((0 : Int)).toNat = 0 from rfl] at hx905_0)
         (try rw [Addr.add_zero'] at hx905_0)
         have HR905_0 := aM hi905_0
         have HC905_0 := aM hl905_0
         clear hi905_0 hl905_0
         replace p905 := eq_true p905
         replace q905 := eq_true q905
         have p906 : 0 ≤ (x10_4 : Int) := oD
         have q906 : x10_4 < (t888.length : Int) := oD
         obtain ⟨ad906, A906_0, c906_0, e906, hx906_0, hl906_0, hi906_0⟩ := at_L1 (Kd.N_reads' HO_5.out).2.2 x10_4 p906 q906
         obtain rfl : ad904 = ad906 := (by injection e906)
         obtain ⟨ce906, hce906, hMe906, hcc906⟩ := Kd.N_get HO_5.out [] x10_4 p906 (by first | exact q906 | exact oD | (have e_ := (Kd.N_reads' HO_5.out).1; omega))
         obtain ⟨ua906_0, uc906_0, rfl, ul906_0, ge906_0⟩ := Kd.FK_slice_open hMe906
         have hv906_0 := hcc906 0 _ rfl
         rw [Nat.add_zero, show ((Kd.slice 3 (Kd.int .i64))).sz = 1 from rfl, Nat.mul_one] at hv906_0
         replace hv906_0 := Option.some.inj (hv906_0.symm.trans hx906_0)
         injection hv906_0 with hva_ hvn_ hvc_
         rw [hva_] at ge906_0
         rw [hvc_] at ul906_0
         have HL906_0 := aM (show Kd.V (Kd.int .i64) 3 _ w.heap.size _ _ (rd_L1 t888 x10_4) from Kd.V_mk ul906_0 ge906_0)
         clear hva_ hvn_ hvc_ ge906_0 ul906_0
         clear hcc906 hce906
         have HR906_0 := aM hi906_0
         have HC906_0 := aM hl906_0
         clear hi906_0 hl906_0
         replace p906 := eq_true p906
         replace q906 := eq_true q906
         have ea_ := Option.some.inj (hx904_0.symm.trans hx906_0)
         injection ea_ with ea_ en_ ec_
         subst ea_
         subst ec_
         clear en_
         obtain ⟨ad907, e907, hx907_0⟩ := Kd.at_int (by repeat (first | (with_reducible exact HR906_0.out) | (with_reducible refine Kd.C_alloc ?_ _) | (with_reducible refine Kd.C_drewN ?_ _) | (with_reducible refine Kd.C_drew ?_) | exact HR906_0.out)) x6_2 oD oD
         cases e907
         have p907 := eq_true (oD : 0 ≤ (x6_2 : Int))
         have q907 := eq_true (oD : x6_2 < ((rd_L1 t888 x10_4).length : Int))
         have p908 : 0 ≤ (x10_4 : Int) := oD
         have q908 : x10_4 < (t888.length : Int) := oD
         obtain ⟨ad908, A908_0, c908_0, e908, hx908_0, hl908_0, hi908_0⟩ := at_L1 (Kd.N_reads' HO_5.out).2.2 x10_4 p908 q908
         obtain rfl : ad904 = ad908 := (by injection e908)
         obtain ⟨ce908, hce908, hMe908, hcc908⟩ := Kd.N_get HO_5.out [] x10_4 p908 (by first | exact q908 | exact oD | (have e_ := (Kd.N_reads' HO_5.out).1; omega))
         obtain ⟨ua908_0, uc908_0, rfl, ul908_0, ge908_0⟩ := Kd.FK_slice_open hMe908
         have hv908_0 := hcc908 0 _ rfl
         rw [Nat.add_zero, show ((Kd.slice 3 (Kd.int .i64))).sz = 1 from rfl, Nat.mul_one] at hv908_0
         replace hv908_0 := Option.some.inj (hv908_0.symm.trans hx908_0)
         injection hv908_0 with hva_ hvn_ hvc_
         rw [hva_] at ge908_0
         rw [hvc_] at ul908_0
         have HL908_0 := aM (show Kd.V (Kd.int .i64) 3 _ w.heap.size _ _ (rd_L1 t888 x10_4) from Kd.V_mk ul908_0 ge908_0)
         clear hva_ hvn_ hvc_ ge908_0 ul908_0
         clear hcc908 hce908
         have HR908_0 := aM hi908_0
         have HC908_0 := aM hl908_0
         clear hi908_0 hl908_0
         replace p908 := eq_true p908
         replace q908 := eq_true q908
         have ea_ := Option.some.inj (hx904_0.symm.trans hx908_0)
         injection ea_ with ea_ en_ ec_
         subst ea_
         subst ec_
         clear en_
         obtain ⟨ad909, e909, hx909_0⟩ := Kd.at_int (by repeat (first | (with_reducible exact HR908_0.out) | (with_reducible refine Kd.C_alloc ?_ _) | (with_reducible refine Kd.C_drewN ?_ _) | (with_reducible refine Kd.C_drew ?_) | exact HR908_0.out)) x6_2 oD oD
         cases e909
         have p909 := eq_true (oD : 0 ≤ (x6_2 : Int))
         have q909 := eq_true (oD : x6_2 < ((rd_L1 t888 x10_4).length : Int))
         go_wp2
         repeat (go_quiet (fail); try go_wp2)
         go_roundg k4
         case measure => have := HJ4.out; have := HK2.out; have := HK3.out; have := HK4.out; omega
         case rel => exact ⟨(wrap64 (x10_4 + 1)), qE, H', ⟨by have := HJ4.out; have := HK2.out; have := HK3.out; have := HK4.out; omega⟩, ⟨by (with_reducible repeat (first | apply Kd.N_alloc | apply Kd.N_drewN | apply Kd.N_drew)); exact HO_3.out⟩, ⟨by (with_reducible repeat (first | apply Kd.N_alloc | apply Kd.N_drewN | apply Kd.N_drew)); exact HO_5.out⟩, ⟨by repeat (first | (with_reducible exact HR899_0.out) | (with_reducible refine Kd.C_alloc ?_ _) | (with_reducible refine Kd.C_drewN ?_ _) | (with_reducible refine Kd.C_drew ?_) | exact HR899_0.out)⟩, ⟨by exact qW HB.out⟩⟩
def laws_FnReducePalette.Pure : Prop := ∀ (l0 : List Int), l0.length ≤ maxLen → l0.length * 1 ≤ 140737488351232 → (∀ x ∈ l0, (Lit.int .u8 x).wf = true) → ∃ k, laws_FnReducePalette.f k l0 = some true
theorem laws_FnReducePalette.walk (P : laws_FnReducePalette.Pure) (a0 : Option Addr) (len0 cap0 : Nat) (z0 : List Int) (w : World) (w0 : (a0 = none ∧ len0 = 0 ∧ cap0 = 0 ∧ z0 = []) ∨ ∃ x, a0 = some x ∧ len0 ≤ cap0 ∧ cap0 ≤ maxLen ∧ z0.length = cap0 ∧ (∀ i, i < z0.length → w.cell? (x.add i) = some (.int .u8 (z0.getD i 0))) ∧ ∀ n ∈ z0, (Lit.int .u8 n).wf = true) (y0 : len0 * 1 ≤ 140737488351232) :
  Calls Try.prog 10 #[.slice a0 len0 cap0] w fun e w' => e = .returned (.bool true) ∧ Below w.heap.size w w' := by
 obtain ⟨l0, rfl, hr0, hm0, hw0, hc0⟩ := ReadsInt.ofRowC w0
 obtain ⟨k, h⟩ := P l0 hm0 y0 hw0
 refine (laws_FnReducePalette.calls k _ _ l0 true w (Kd.C_of_reads (d := (0 : Int)) (h1 := fun _ => rfl) hr0) hc0 h).mono ?_
 rintro e w' ⟨rfl, hd⟩
 exact ⟨rfl, hd⟩
end Go.Proofs.Ytohbpilokmppbaa.P
