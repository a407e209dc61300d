/- Contracts and row, written by a program of this place out of the translation: the call answers true and its argument reads as before, for every input; no condition. -/
import Derived.Test.YtohbpilokmppbaaK0
import Derived.Test.YtohbpilokmppbaaK1
import Derived.Test.YtohbpilokmppbaaK3
import Derived.Test.YtohbpilokmppbaaK4
import Derived.Test.YtohbpilokmppbaaK6
namespace Go.Proofs.Ytohbpilokmppbaa.P
open Go.RowKit Go.Proofs.YtohbpilokmppbaaW.PrintWords Go.Proofs.YtohbpilokmppbaaW.PrintLast Go.Proofs.YtohbpilokmppbaaW.PrintMore
attribute [local go_sem] max2_int min2_int max_two min_two max_three min_three max_four min_four   -- for this text's walks alone
set_option linter.unusedVariables false
set_option linter.unusedSimpArgs false
mutual
def laws_FnReducePaletteAll.j0 : Nat → List (List Int) → Int → List (List Int) → Bool → Option (Bool)
 | 0, _, _, _, _ => none
 | k + 1, x3, x4, x5, x33 => if x33 = true then ((spec_ReducePalette.f k x3 x4).bind fun t921 => ((laws_equalLists.f k x5 t921).bind fun t924 => (some t924))) else (laws_FnReducePaletteAll.l0 k x3 0)
def laws_FnReducePaletteAll.l0 : Nat → List (List Int) → Int → Option (Bool)
 | 0, _, _ => none
 | k + 1, x3, x6 => if x6 < (x3.length : Int) then (laws_FnReducePaletteAll.l1 k x3 x6 0) else ((impl_ReducePalette.f k x3 (x3.length : Int)).bind fun t928 => (laws_FnReducePaletteAll.l2 k x3 t928 0))
def laws_FnReducePaletteAll.l1 : Nat → List (List Int) → Int → Int → Option (Bool)
 | 0, _, _, _ => none
 | k + 1, x3, x6, x7 => if x7 < x6 then (if 0 ≤ x6 then (if x6 < (x3.length : Int) then (if 0 ≤ x7 then (if x7 < (x3.length : Int) then ((laws_equalInts.f k (rd_L1 x3 x6) (rd_L1 x3 x7)).bind fun t927 => (if t927 = true then (some true) else (laws_FnReducePaletteAll.l1 k x3 x6 (wrap64 (x7 + 1))))) else (none)) else (none)) else (none)) else (none)) else (laws_FnReducePaletteAll.l0 k x3 (wrap64 (x6 + 1)))
def laws_FnReducePaletteAll.l2 : Nat → List (List Int) → List (List Int) → Int → Option (Bool)
 | 0, _, _, _ => none
 | k + 1, x3, x8, x9 => if x9 < (x3.length : Int) then (laws_FnReducePaletteAll.l3 k x3 x8 x9 false 0) else (some ((x8.length : Int) == (x3.length : Int)))
def laws_FnReducePaletteAll.l3 : Nat → List (List Int) → List (List Int) → Int → Bool → Int → Option (Bool)
 | 0, _, _, _, _, _ => none
 | k + 1, x3, x8, x9, x10, x11 => if x11 < (x8.length : Int) then (if x10 = true then (laws_FnReducePaletteAll.l3 k x3 x8 x9 true (wrap64 (x11 + 1))) else (if 0 ≤ x11 then (if 0 ≤ x9 then (if x9 < (x3.length : Int) then ((laws_equalInts.f k (rd_L1 x8 x11) (rd_L1 x3 x9)).bind fun t933 => (laws_FnReducePaletteAll.l3 k x3 x8 x9 t933 (wrap64 (x11 + 1)))) else (none)) else (none)) else (none))) else (if x10 = true then (laws_FnReducePaletteAll.l2 k x3 x8 (wrap64 (x9 + 1))) else (some false))
end
def laws_FnReducePaletteAll.f (k : Nat) (l0 : List Int) : Option (Bool) := if (l0.length : Int) > 1048576 then (some true) else ((spec_DrawReducePalette.f k l0).bind fun bt910 => ((impl_ReducePalette.f k bt910.1 bt910.2).bind fun t914 => ((spec_ReducePalette.f k bt910.1 bt910.2).bind fun t917 => ((laws_equalLists.f k t914 t917).bind fun t920 => (if t920 = true then (laws_FnReducePaletteAll.j0 k bt910.1 bt910.2 t914 ((t914.length : Int) == 0)) else (laws_FnReducePaletteAll.j0 k bt910.1 bt910.2 t914 true))))))
theorem laws_FnReducePaletteAll.mono_l : ∀ k, (∀ y0 y1 y2 y3, LeO (laws_FnReducePaletteAll.j0 k y0 y1 y2 y3) (laws_FnReducePaletteAll.j0 (k + 1) y0 y1 y2 y3)) ∧ (∀ y0 y1, LeO (laws_FnReducePaletteAll.l0 k y0 y1) (laws_FnReducePaletteAll.l0 (k + 1) y0 y1)) ∧ (∀ y0 y1 y2, LeO (laws_FnReducePaletteAll.l1 k y0 y1 y2) (laws_FnReducePaletteAll.l1 (k + 1) y0 y1 y2)) ∧ (∀ y0 y1 y2, LeO (laws_FnReducePaletteAll.l2 k y0 y1 y2) (laws_FnReducePaletteAll.l2 (k + 1) y0 y1 y2)) ∧ (∀ y0 y1 y2 y3 y4, LeO (laws_FnReducePaletteAll.l3 k y0 y1 y2 y3 y4) (laws_FnReducePaletteAll.l3 (k + 1) y0 y1 y2 y3 y4))
 | 0 => ⟨fun _ _ _ _ r h => by simp [laws_FnReducePaletteAll.j0] at h, fun _ _ r h => by simp [laws_FnReducePaletteAll.l0] at h, fun _ _ _ r h => by simp [laws_FnReducePaletteAll.l1] at h, fun _ _ _ r h => by simp [laws_FnReducePaletteAll.l2] at h, fun _ _ _ _ _ r h => by simp [laws_FnReducePaletteAll.l3] at h⟩
 | k + 1 => by
  obtain ⟨ih0, ih1, ih2, ih3, ih4⟩ := laws_FnReducePaletteAll.mono_l k
  refine ⟨?_, ?_, ?_, ?_, ?_⟩
  all_goals intros
  all_goals first | unfold laws_FnReducePaletteAll.j0 | unfold laws_FnReducePaletteAll.l0 | unfold laws_FnReducePaletteAll.l1 | unfold laws_FnReducePaletteAll.l2 | unfold laws_FnReducePaletteAll.l3
  all_goals repeat' first | (with_reducible first | exact ih0 _ _ _ _ | exact ih1 _ _ | exact ih2 _ _ _ | exact ih3 _ _ _ | exact ih4 _ _ _ _ _ | exact impl_ReducePalette.mono _ _ _ | exact laws_equalInts.mono _ _ _ | exact laws_equalLists.mono _ _ _ | exact spec_DrawReducePalette.mono _ _ | exact spec_ReducePalette.mono _ _ _ | exact lR | exact lN | refine lI ?_ ?_ | refine lB ?_ fun _ => ?_) | exact ih0 _ _ _ _ | exact ih1 _ _ | exact ih2 _ _ _ | exact ih3 _ _ _ | exact ih4 _ _ _ _ _ | exact impl_ReducePalette.mono _ _ _ | exact laws_equalInts.mono _ _ _ | exact laws_equalLists.mono _ _ _ | exact spec_DrawReducePalette.mono _ _ | exact spec_ReducePalette.mono _ _ _ | exact lN | refine lI ?_ ?_ | refine lB ?_ fun _ => ?_
theorem laws_FnReducePaletteAll.mono : ∀ a0 k, LeO (laws_FnReducePaletteAll.f k a0) (laws_FnReducePaletteAll.f (k + 1) a0) := by
 intro a0 k
 obtain ⟨ih0, ih1, ih2, ih3, ih4⟩ := laws_FnReducePaletteAll.mono_l k
 unfold laws_FnReducePaletteAll.f
 repeat' first | (with_reducible first | exact ih0 _ _ _ _ | exact ih1 _ _ | exact ih2 _ _ _ | exact ih3 _ _ _ | exact ih4 _ _ _ _ _ | exact impl_ReducePalette.mono _ _ _ | exact laws_equalInts.mono _ _ _ | exact laws_equalLists.mono _ _ _ | exact spec_DrawReducePalette.mono _ _ | exact spec_ReducePalette.mono _ _ _ | exact lR | exact lN | refine lI ?_ ?_ | refine lB ?_ fun _ => ?_) | exact ih0 _ _ _ _ | exact ih1 _ _ | exact ih2 _ _ _ | exact ih3 _ _ _ | exact ih4 _ _ _ _ _ | exact impl_ReducePalette.mono _ _ _ | exact laws_equalInts.mono _ _ _ | exact laws_equalLists.mono _ _ _ | exact spec_DrawReducePalette.mono _ _ | exact spec_ReducePalette.mono _ _ _ | exact lN | refine lI ?_ ?_ | refine lB ?_ fun _ => ?_
set_option maxHeartbeats 8000000 in
set_option maxRecDepth 100000 in
theorem laws_FnReducePaletteAll.calls (k : Nat) (A0 : Option Addr) (c0 : Nat) (l0 : List Int) (r : Bool) (w : World) (hr0 : Kd.C (Kd.int .u8) w A0 l0.length l0) (hc0 : l0.length ≤ c0) (h : laws_FnReducePaletteAll.f k l0 = some r) (hrt : r = true) :
  Calls Try.prog 11 #[.slice A0 l0.length c0] w fun e w' => e = .returned (.bool r) ∧ Below w.heap.size w w' := by
 have HR0 := aM hr0
 have HC0 := aM hc0
 clear hr0 hc0
 have HB := aM (Below.refl w.heap.size w)
 unfold laws_FnReducePaletteAll.f at h
 have H := h
 clear h
 by_cases c2 : (l0.length : Int) > 1048576
 ·rw [if_pos c2] at H
  have c2b0 : decide (1048576 < (l0.length : Int)) = true := decide_eq_true c2
  have c2b1 : decide (1048576 < l0.length) = true := decide_eq_true (by omega)
  clear c2
  obtain rfl := Option.some.inj H
  go_enter Try.func11, Try.ntmps11
  go_wp2
  repeat (go_quiet (fail); try go_wp2)
  go_ret
  exact ⟨qX, by exact qW HB.out⟩
 rw [if_neg c2] at H
 have c2b0 : decide (1048576 < (l0.length : Int)) = false := decide_eq_false c2
 have c2b1 : decide (1048576 < l0.length) = false := decide_eq_false (by omega)
 clear c2
 replace H := Option.bind_eq_some_iff.mp H
 obtain ⟨⟨t910, t913⟩, A30, H⟩ := H
 replace H : ((impl_ReducePalette.f k t910 t913).bind fun t914 => ((spec_ReducePalette.f k t910 t913).bind fun t917 => ((laws_equalLists.f k t914 t917).bind fun t920 => (if t920 = true then (laws_FnReducePaletteAll.j0 k t910 t913 t914 ((t914.length : Int) == 0)) else (laws_FnReducePaletteAll.j0 k t910 t913 t914 true))))) = some r := H
 have A3 := aM A30
 clear A30
 replace H := Option.bind_eq_some_iff.mp H
 obtain ⟨t914, A40, H⟩ := H
 replace H : ((spec_ReducePalette.f k t910 t913).bind fun t917 => ((laws_equalLists.f k t914 t917).bind fun t920 => (if t920 = true then (laws_FnReducePaletteAll.j0 k t910 t913 t914 ((t914.length : Int) == 0)) else (laws_FnReducePaletteAll.j0 k t910 t913 t914 true)))) = some r := H
 have A4 := aM A40
 clear A40
 have HC5 := aM H
 clear H
 go_enter Try.func11, Try.ntmps11
 go_upto_region 5 with (first | (go_at_call 38; (with_reducible refine (spec_DrawReducePalette.calls k _ _ l0 t910 t913 _ ?side1 ?side2 A3.out).mono ?_); (case side1 => exact qC HR0.out); (case side2 => exact HC0.out); rintro e w6 ⟨v911, rfl, ho0, hb⟩; have HO912 := aM (Kd.N_lower (Kd.N_mono (ok' := fun k_ => True) ho0 (fun k_ hk_ => trivial)) (below_size (qW HB.out))); replace HB := bS HB hb; clear hb ho0; obtain ⟨Ao7, co7, eo7⟩ := Kd.N_slice HO912.out; subst eo7) | (go_at_call 37; (with_reducible refine (impl_ReducePalette.calls k _ _ t910 t913 t914 _ ?side1 ?side2 A4.out).mono ?_); (case side1 => exact qC (Kd.N_reads' HO912.out).2.2); (case side2 => exact (Kd.N_reads' HO912.out).2.1); rintro e w8 ⟨v915, rfl, ho0, hb⟩; have HO916 := aM (Kd.N_lower (Kd.N_mono (ok' := fun k_ => some k_ ≠ (.slice Ao7 t910.length co7 : Value).ownBlock) (Kd.S_N (Kd.S_bound ho0)) (fun k_ hk_ => (Kd.fresh' (Kd.N_lt (by (with_reducible repeat (first | apply Kd.N_alloc | apply Kd.N_drewN | apply Kd.N_drew)); exact HO912.out)) k_ hk_.2.1))) (below_size (qW HB.out))); replace HO912 := aM (Kd.N_elder' (by (with_reducible repeat (first | apply Kd.N_alloc | apply Kd.N_drewN | apply Kd.N_drew)); exact HO912.out) (Kd.S_base ho0) hb); replace HB := bS HB hb; clear hb ho0))
 repeat (go_quiet (first | (go_at_call 38; (with_reducible refine (spec_DrawReducePalette.calls k _ _ l0 t910 t913 _ ?side1 ?side2 A3.out).mono ?_); (case side1 => exact qC HR0.out); (case side2 => exact HC0.out); rintro e w6 ⟨v911, rfl, ho0, hb⟩; have HO912 := aM (Kd.N_lower (Kd.N_mono (ok' := fun k_ => True) ho0 (fun k_ hk_ => trivial)) (below_size (qW HB.out))); replace HB := bS HB hb; clear hb ho0; obtain ⟨Ao7, co7, eo7⟩ := Kd.N_slice HO912.out; subst eo7) | (go_at_call 37; (with_reducible refine (impl_ReducePalette.calls k _ _ t910 t913 t914 _ ?side1 ?side2 A4.out).mono ?_); (case side1 => exact qC (Kd.N_reads' HO912.out).2.2); (case side2 => exact (Kd.N_reads' HO912.out).2.1); rintro e w8 ⟨v915, rfl, ho0, hb⟩; have HO916 := aM (Kd.N_lower (Kd.N_mono (ok' := fun k_ => some k_ ≠ (.slice Ao7 t910.length co7 : Value).ownBlock) (Kd.S_N (Kd.S_bound ho0)) (fun k_ hk_ => (Kd.fresh' (Kd.N_lt (by (with_reducible repeat (first | apply Kd.N_alloc | apply Kd.N_drewN | apply Kd.N_drew)); exact HO912.out)) k_ hk_.2.1))) (below_size (qW HB.out))); replace HO912 := aM (Kd.N_elder' (by (with_reducible repeat (first | apply Kd.N_alloc | apply Kd.N_drewN | apply Kd.N_drew)); exact HO912.out) (Kd.S_base ho0) hb); replace HB := bS HB hb; clear hb ho0)); go_upto_region 5 with (first | (go_at_call 38; (with_reducible refine (spec_DrawReducePalette.calls k _ _ l0 t910 t913 _ ?side1 ?side2 A3.out).mono ?_); (case side1 => exact qC HR0.out); (case side2 => exact HC0.out); rintro e w6 ⟨v911, rfl, ho0, hb⟩; have HO912 := aM (Kd.N_lower (Kd.N_mono (ok' := fun k_ => True) ho0 (fun k_ hk_ => trivial)) (below_size (qW HB.out))); replace HB := bS HB hb; clear hb ho0; obtain ⟨Ao7, co7, eo7⟩ := Kd.N_slice HO912.out; subst eo7) | (go_at_call 37; (with_reducible refine (impl_ReducePalette.calls k _ _ t910 t913 t914 _ ?side1 ?side2 A4.out).mono ?_); (case side1 => exact qC (Kd.N_reads' HO912.out).2.2); (case side2 => exact (Kd.N_reads' HO912.out).2.1); rintro e w8 ⟨v915, rfl, ho0, hb⟩; have HO916 := aM (Kd.N_lower (Kd.N_mono (ok' := fun k_ => some k_ ≠ (.slice Ao7 t910.length co7 : Value).ownBlock) (Kd.S_N (Kd.S_bound ho0)) (fun k_ hk_ => (Kd.fresh' (Kd.N_lt (by (with_reducible repeat (first | apply Kd.N_alloc | apply Kd.N_drewN | apply Kd.N_drew)); exact HO912.out)) k_ hk_.2.1))) (below_size (qW HB.out))); replace HO912 := aM (Kd.N_elder' (by (with_reducible repeat (first | apply Kd.N_alloc | apply Kd.N_drewN | apply Kd.N_drew)); exact HO912.out) (Kd.S_base ho0) hb); replace HB := bS HB hb; clear hb ho0)))
 (try simp only [Act.put, List.setIfInBounds_toArray, List.set_cons_zero, List.set_cons_succ])
 go_cut [33] (fun v33 wc => ∃ (kq : Nat) (x33_4 : Bool), v33 = .bool x33_4 ∧ Aside0 (laws_FnReducePaletteAll.j0 kq t910 t913 t914 x33_4 = some r) ∧ Aside0 (kq ≤ k) ∧ Aside0 (Kd.N (Kd.slice 3 (Kd.int .i64)) 22 wc w.heap.size (fun k_ => some k_ ≠ (v915 : Value).ownBlock) (.slice Ao7 t910.length co7) t910) ∧ Aside0 (Kd.N (Kd.slice 3 (Kd.int .i64)) 22 wc w.heap.size (fun k_ => some k_ ≠ ((.slice Ao7 t910.length co7) : Value).ownBlock) v915 t914) ∧ Aside0 (Below w.heap.size w wc))
 case first =>
  have H := HC5.out
  clear HC5
  replace H := Option.bind_eq_some_iff.mp H
  obtain ⟨t917, A90, H⟩ := H
  replace H : ((laws_equalLists.f k t914 t917).bind fun t920 => (if t920 = true then (laws_FnReducePaletteAll.j0 k t910 t913 t914 ((t914.length : Int) == 0)) else (laws_FnReducePaletteAll.j0 k t910 t913 t914 true))) = some r := H
  have A9 := aM A90
  clear A90
  replace H := Option.bind_eq_some_iff.mp H
  obtain ⟨t920, A100, H⟩ := H
  replace H : (if t920 = true then (laws_FnReducePaletteAll.j0 k t910 t913 t914 ((t914.length : Int) == 0)) else (laws_FnReducePaletteAll.j0 k t910 t913 t914 true)) = some r := H
  have A10 := aM A100
  clear A100
  by_cases c11 : t920 = true
  ·subst c11
   have H1 : (laws_FnReducePaletteAll.j0 k t910 t913 t914 ((t914.length : Int) == 0)) = some r := by rw [if_pos rfl] at H; exact H
   clear H
   have H := H1
   clear H1
   have H' := aM H
   clear H
   go_wp2_with (first | (go_at_call 36; (with_reducible refine (spec_ReducePalette.calls k _ _ t910 t913 t917 _ ?side1 ?side2 A9.out).mono ?_); (case side1 => exact qC (Kd.N_reads' HO912.out).2.2); (case side2 => exact (Kd.N_reads' HO912.out).2.1); rintro e w12 ⟨v918, rfl, ho0, hb⟩; have HO919 := aM (Kd.N_lower (Kd.N_mono (ok' := fun k_ => some k_ ≠ (.slice Ao7 t910.length co7 : Value).ownBlock ∧ some k_ ≠ (v915 : Value).ownBlock) (Kd.S_N (Kd.S_bound ho0)) (fun k_ hk_ => ⟨(Kd.fresh' (Kd.N_lt (by (with_reducible repeat (first | apply Kd.N_alloc | apply Kd.N_drewN | apply Kd.N_drew)); exact HO912.out)) k_ hk_.2.1), (Kd.fresh' (Kd.N_lt (by (with_reducible repeat (first | apply Kd.N_alloc | apply Kd.N_drewN | apply Kd.N_drew)); exact HO916.out)) k_ hk_.2.1)⟩)) (below_size (qW HB.out))); replace HO912 := aM (Kd.N_elder' (by (with_reducible repeat (first | apply Kd.N_alloc | apply Kd.N_drewN | apply Kd.N_drew)); exact HO912.out) (Kd.S_base ho0) hb); replace HO916 := aM (Kd.N_elder' (by (with_reducible repeat (first | apply Kd.N_alloc | apply Kd.N_drewN | apply Kd.N_drew)); exact HO916.out) (Kd.S_base ho0) hb); replace HB := bS HB hb; clear hb ho0; obtain ⟨Ao13, co13, eo13⟩ := Kd.N_slice HO916.out; subst eo13; obtain ⟨Ao14, co14, eo14⟩ := Kd.N_slice HO919.out; subst eo14) | (go_at_call 22; (with_reducible refine (laws_equalLists.calls k _ _ t914 _ _ t917 true _ ?side1 ?side2 ?side3 ?side4 A10.out).mono ?_); (case side1 => exact qC (Kd.N_reads' HO916.out).2.2); (case side2 => exact (Kd.N_reads' HO916.out).2.1); (case side3 => exact qC (Kd.N_reads' HO919.out).2.2); (case side4 => exact (Kd.N_reads' HO919.out).2.1); rintro e w' ⟨rfl, ⟨nd, rfl⟩⟩; (try first | exact ⟨rfl, _, World.drewN_drewN _ _ _⟩ | exact ⟨rfl, _, Eq.trans (World.drewN_drewN _ _ _) (congrArg (World.drewN _) (Nat.add_assoc _ _ _))⟩)))
   repeat (go_quiet (first | (go_at_call 36; (with_reducible refine (spec_ReducePalette.calls k _ _ t910 t913 t917 _ ?side1 ?side2 A9.out).mono ?_); (case side1 => exact qC (Kd.N_reads' HO912.out).2.2); (case side2 => exact (Kd.N_reads' HO912.out).2.1); rintro e w12 ⟨v918, rfl, ho0, hb⟩; have HO919 := aM (Kd.N_lower (Kd.N_mono (ok' := fun k_ => some k_ ≠ (.slice Ao7 t910.length co7 : Value).ownBlock ∧ some k_ ≠ (v915 : Value).ownBlock) (Kd.S_N (Kd.S_bound ho0)) (fun k_ hk_ => ⟨(Kd.fresh' (Kd.N_lt (by (with_reducible repeat (first | apply Kd.N_alloc | apply Kd.N_drewN | apply Kd.N_drew)); exact HO912.out)) k_ hk_.2.1), (Kd.fresh' (Kd.N_lt (by (with_reducible repeat (first | apply Kd.N_alloc | apply Kd.N_drewN | apply Kd.N_drew)); exact HO916.out)) k_ hk_.2.1)⟩)) (below_size (qW HB.out))); replace HO912 := aM (Kd.N_elder' (by (with_reducible repeat (first | apply Kd.N_alloc | apply Kd.N_drewN | apply Kd.N_drew)); exact HO912.out) (Kd.S_base ho0) hb); replace HO916 := aM (Kd.N_elder' (by (with_reducible repeat (first | apply Kd.N_alloc | apply Kd.N_drewN | apply Kd.N_drew)); exact HO916.out) (Kd.S_base ho0) hb); replace HB := bS HB hb; clear hb ho0; obtain ⟨Ao13, co13, eo13⟩ := Kd.N_slice HO916.out; subst eo13; obtain ⟨Ao14, co14, eo14⟩ := Kd.N_slice HO919.out; subst eo14) | (go_at_call 22; (with_reducible refine (laws_equalLists.calls k _ _ t914 _ _ t917 true _ ?side1 ?side2 ?side3 ?side4 A10.out).mono ?_); (case side1 => exact qC (Kd.N_reads' HO916.out).2.2); (case side2 => exact (Kd.N_reads' HO916.out).2.1); (case side3 => exact qC (Kd.N_reads' HO919.out).2.2); (case side4 => exact (Kd.N_reads' HO919.out).2.1); rintro e w' ⟨rfl, ⟨nd, rfl⟩⟩; (try first | exact ⟨rfl, _, World.drewN_drewN _ _ _⟩ | exact ⟨rfl, _, Eq.trans (World.drewN_drewN _ _ _) (congrArg (World.drewN _) (Nat.add_assoc _ _ _))⟩))); try go_wp2_with (first | (go_at_call 36; (with_reducible refine (spec_ReducePalette.calls k _ _ t910 t913 t917 _ ?side1 ?side2 A9.out).mono ?_); (case side1 => exact qC (Kd.N_reads' HO912.out).2.2); (case side2 => exact (Kd.N_reads' HO912.out).2.1); rintro e w12 ⟨v918, rfl, ho0, hb⟩; have HO919 := aM (Kd.N_lower (Kd.N_mono (ok' := fun k_ => some k_ ≠ (.slice Ao7 t910.length co7 : Value).ownBlock ∧ some k_ ≠ (v915 : Value).ownBlock) (Kd.S_N (Kd.S_bound ho0)) (fun k_ hk_ => ⟨(Kd.fresh' (Kd.N_lt (by (with_reducible repeat (first | apply Kd.N_alloc | apply Kd.N_drewN | apply Kd.N_drew)); exact HO912.out)) k_ hk_.2.1), (Kd.fresh' (Kd.N_lt (by (with_reducible repeat (first | apply Kd.N_alloc | apply Kd.N_drewN | apply Kd.N_drew)); exact HO916.out)) k_ hk_.2.1)⟩)) (below_size (qW HB.out))); replace HO912 := aM (Kd.N_elder' (by (with_reducible repeat (first | apply Kd.N_alloc | apply Kd.N_drewN | apply Kd.N_drew)); exact HO912.out) (Kd.S_base ho0) hb); replace HO916 := aM (Kd.N_elder' (by (with_reducible repeat (first | apply Kd.N_alloc | apply Kd.N_drewN | apply Kd.N_drew)); exact HO916.out) (Kd.S_base ho0) hb); replace HB := bS HB hb; clear hb ho0; obtain ⟨Ao13, co13, eo13⟩ := Kd.N_slice HO916.out; subst eo13; obtain ⟨Ao14, co14, eo14⟩ := Kd.N_slice HO919.out; subst eo14) | (go_at_call 22; (with_reducible refine (laws_equalLists.calls k _ _ t914 _ _ t917 true _ ?side1 ?side2 ?side3 ?side4 A10.out).mono ?_); (case side1 => exact qC (Kd.N_reads' HO916.out).2.2); (case side2 => exact (Kd.N_reads' HO916.out).2.1); (case side3 => exact qC (Kd.N_reads' HO919.out).2.2); (case side4 => exact (Kd.N_reads' HO919.out).2.1); rintro e w' ⟨rfl, ⟨nd, rfl⟩⟩; (try first | exact ⟨rfl, _, World.drewN_drewN _ _ _⟩ | exact ⟨rfl, _, Eq.trans (World.drewN_drewN _ _ _) (congrArg (World.drewN _) (Nat.add_assoc _ _ _))⟩))))
   go_meet
   case rel => exact ⟨_, (((t914.length : Int) == 0)), qE, H', ⟨by first | omega | exact Nat.le_refl _⟩, ⟨by (with_reducible repeat (first | apply Kd.N_alloc | apply Kd.N_drewN | apply Kd.N_drew)); exact Kd.N_mono HO912.out (fun _ hk => hk.1.2)⟩, ⟨by (with_reducible repeat (first | apply Kd.N_alloc | apply Kd.N_drewN | apply Kd.N_drew)); exact Kd.N_mono HO916.out (fun _ hk => hk.1)⟩, ⟨by exact qW HB.out⟩⟩
  replace c11 := Bool.eq_false_iff.mpr c11
  subst c11
  have H1 : (laws_FnReducePaletteAll.j0 k t910 t913 t914 true) = some r := by rw [if_neg (show ¬ (false = true) by decide)] at H; exact H
  clear H
  have H := H1
  clear H1
  have H' := aM H
  clear H
  go_wp2_with (first | (go_at_call 36; (with_reducible refine (spec_ReducePalette.calls k _ _ t910 t913 t917 _ ?side1 ?side2 A9.out).mono ?_); (case side1 => exact qC (Kd.N_reads' HO912.out).2.2); (case side2 => exact (Kd.N_reads' HO912.out).2.1); rintro e w15 ⟨v918, rfl, ho0, hb⟩; have HO919 := aM (Kd.N_lower (Kd.N_mono (ok' := fun k_ => some k_ ≠ (.slice Ao7 t910.length co7 : Value).ownBlock ∧ some k_ ≠ (v915 : Value).ownBlock) (Kd.S_N (Kd.S_bound ho0)) (fun k_ hk_ => ⟨(Kd.fresh' (Kd.N_lt (by (with_reducible repeat (first | apply Kd.N_alloc | apply Kd.N_drewN | apply Kd.N_drew)); exact HO912.out)) k_ hk_.2.1), (Kd.fresh' (Kd.N_lt (by (with_reducible repeat (first | apply Kd.N_alloc | apply Kd.N_drewN | apply Kd.N_drew)); exact HO916.out)) k_ hk_.2.1)⟩)) (below_size (qW HB.out))); replace HO912 := aM (Kd.N_elder' (by (with_reducible repeat (first | apply Kd.N_alloc | apply Kd.N_drewN | apply Kd.N_drew)); exact HO912.out) (Kd.S_base ho0) hb); replace HO916 := aM (Kd.N_elder' (by (with_reducible repeat (first | apply Kd.N_alloc | apply Kd.N_drewN | apply Kd.N_drew)); exact HO916.out) (Kd.S_base ho0) hb); replace HB := bS HB hb; clear hb ho0; obtain ⟨Ao16, co16, eo16⟩ := Kd.N_slice HO916.out; subst eo16; obtain ⟨Ao17, co17, eo17⟩ := Kd.N_slice HO919.out; subst eo17) | (go_at_call 22; (with_reducible refine (laws_equalLists.calls k _ _ t914 _ _ t917 false _ ?side1 ?side2 ?side3 ?side4 A10.out).mono ?_); (case side1 => exact qC (Kd.N_reads' HO916.out).2.2); (case side2 => exact (Kd.N_reads' HO916.out).2.1); (case side3 => exact qC (Kd.N_reads' HO919.out).2.2); (case side4 => exact (Kd.N_reads' HO919.out).2.1); rintro e w' ⟨rfl, ⟨nd, rfl⟩⟩; (try first | exact ⟨rfl, _, World.drewN_drewN _ _ _⟩ | exact ⟨rfl, _, Eq.trans (World.drewN_drewN _ _ _) (congrArg (World.drewN _) (Nat.add_assoc _ _ _))⟩)))
  repeat (go_quiet (first | (go_at_call 36; (with_reducible refine (spec_ReducePalette.calls k _ _ t910 t913 t917 _ ?side1 ?side2 A9.out).mono ?_); (case side1 => exact qC (Kd.N_reads' HO912.out).2.2); (case side2 => exact (Kd.N_reads' HO912.out).2.1); rintro e w15 ⟨v918, rfl, ho0, hb⟩; have HO919 := aM (Kd.N_lower (Kd.N_mono (ok' := fun k_ => some k_ ≠ (.slice Ao7 t910.length co7 : Value).ownBlock ∧ some k_ ≠ (v915 : Value).ownBlock) (Kd.S_N (Kd.S_bound ho0)) (fun k_ hk_ => ⟨(Kd.fresh' (Kd.N_lt (by (with_reducible repeat (first | apply Kd.N_alloc | apply Kd.N_drewN | apply Kd.N_drew)); exact HO912.out)) k_ hk_.2.1), (Kd.fresh' (Kd.N_lt (by (with_reducible repeat (first | apply Kd.N_alloc | apply Kd.N_drewN | apply Kd.N_drew)); exact HO916.out)) k_ hk_.2.1)⟩)) (below_size (qW HB.out))); replace HO912 := aM (Kd.N_elder' (by (with_reducible repeat (first | apply Kd.N_alloc | apply Kd.N_drewN | apply Kd.N_drew)); exact HO912.out) (Kd.S_base ho0) hb); replace HO916 := aM (Kd.N_elder' (by (with_reducible repeat (first | apply Kd.N_alloc | apply Kd.N_drewN | apply Kd.N_drew)); exact HO916.out) (Kd.S_base ho0) hb); replace HB := bS HB hb; clear hb ho0; obtain ⟨Ao16, co16, eo16⟩ := Kd.N_slice HO916.out; subst eo16; obtain ⟨Ao17, co17, eo17⟩ := Kd.N_slice HO919.out; subst eo17) | (go_at_call 22; (with_reducible refine (laws_equalLists.calls k _ _ t914 _ _ t917 false _ ?side1 ?side2 ?side3 ?side4 A10.out).mono ?_); (case side1 => exact qC (Kd.N_reads' HO916.out).2.2); (case side2 => exact (Kd.N_reads' HO916.out).2.1); (case side3 => exact qC (Kd.N_reads' HO919.out).2.2); (case side4 => exact (Kd.N_reads' HO919.out).2.1); rintro e w' ⟨rfl, ⟨nd, rfl⟩⟩; (try first | exact ⟨rfl, _, World.drewN_drewN _ _ _⟩ | exact ⟨rfl, _, Eq.trans (World.drewN_drewN _ _ _) (congrArg (World.drewN _) (Nat.add_assoc _ _ _))⟩))); try go_wp2_with (first | (go_at_call 36; (with_reducible refine (spec_ReducePalette.calls k _ _ t910 t913 t917 _ ?side1 ?side2 A9.out).mono ?_); (case side1 => exact qC (Kd.N_reads' HO912.out).2.2); (case side2 => exact (Kd.N_reads' HO912.out).2.1); rintro e w15 ⟨v918, rfl, ho0, hb⟩; have HO919 := aM (Kd.N_lower (Kd.N_mono (ok' := fun k_ => some k_ ≠ (.slice Ao7 t910.length co7 : Value).ownBlock ∧ some k_ ≠ (v915 : Value).ownBlock) (Kd.S_N (Kd.S_bound ho0)) (fun k_ hk_ => ⟨(Kd.fresh' (Kd.N_lt (by (with_reducible repeat (first | apply Kd.N_alloc | apply Kd.N_drewN | apply Kd.N_drew)); exact HO912.out)) k_ hk_.2.1), (Kd.fresh' (Kd.N_lt (by (with_reducible repeat (first | apply Kd.N_alloc | apply Kd.N_drewN | apply Kd.N_drew)); exact HO916.out)) k_ hk_.2.1)⟩)) (below_size (qW HB.out))); replace HO912 := aM (Kd.N_elder' (by (with_reducible repeat (first | apply Kd.N_alloc | apply Kd.N_drewN | apply Kd.N_drew)); exact HO912.out) (Kd.S_base ho0) hb); replace HO916 := aM (Kd.N_elder' (by (with_reducible repeat (first | apply Kd.N_alloc | apply Kd.N_drewN | apply Kd.N_drew)); exact HO916.out) (Kd.S_base ho0) hb); replace HB := bS HB hb; clear hb ho0; obtain ⟨Ao16, co16, eo16⟩ := Kd.N_slice HO916.out; subst eo16; obtain ⟨Ao17, co17, eo17⟩ := Kd.N_slice HO919.out; subst eo17) | (go_at_call 22; (with_reducible refine (laws_equalLists.calls k _ _ t914 _ _ t917 false _ ?side1 ?side2 ?side3 ?side4 A10.out).mono ?_); (case side1 => exact qC (Kd.N_reads' HO916.out).2.2); (case side2 => exact (Kd.N_reads' HO916.out).2.1); (case side3 => exact qC (Kd.N_reads' HO919.out).2.2); (case side4 => exact (Kd.N_reads' HO919.out).2.1); rintro e w' ⟨rfl, ⟨nd, rfl⟩⟩; (try first | exact ⟨rfl, _, World.drewN_drewN _ _ _⟩ | exact ⟨rfl, _, Eq.trans (World.drewN_drewN _ _ _) (congrArg (World.drewN _) (Nat.add_assoc _ _ _))⟩))))
  go_meet
  case rel => exact ⟨_, (true), qE, H', ⟨by first | omega | exact Nat.le_refl _⟩, ⟨by (with_reducible repeat (first | apply Kd.N_alloc | apply Kd.N_drewN | apply Kd.N_drew)); exact Kd.N_mono HO912.out (fun _ hk => hk.1.2)⟩, ⟨by (with_reducible repeat (first | apply Kd.N_alloc | apply Kd.N_drewN | apply Kd.N_drew)); exact Kd.N_mono HO916.out (fun _ hk => hk.1)⟩, ⟨by exact qW HB.out⟩⟩
 case rest =>
  clear HC5
  try clear c2
  try clear c2b0
  try clear c2b1
  try clear c11
  obtain ⟨kq, x33_4, rfl, HA, HJ4, HO_3, HO_5, HB⟩ := hcut
  cases kq with
  | zero => exact absurd HA.out (by simp [laws_FnReducePaletteAll.j0])
  | succ kj4 =>
   have H := HA.out
   clear HA
   simp only [laws_FnReducePaletteAll.j0] at H
   by_cases c18 : x33_4 = true
   ·subst c18
    have H1 : ((spec_ReducePalette.f kj4 t910 t913).bind fun t921 => ((laws_equalLists.f kj4 t914 t921).bind fun t924 => (some t924))) = some r := by rw [if_pos rfl] at H; exact H
    clear H
    have H := H1
    clear H1
    replace H := Option.bind_eq_some_iff.mp H
    obtain ⟨t921, A190, H⟩ := H
    replace H : ((laws_equalLists.f kj4 t914 t921).bind fun t924 => (some t924)) = some r := H
    have A19 := aM A190
    clear A190
    replace H := Option.bind_eq_some_iff.mp H
    obtain ⟨t924, A200, H⟩ := H
    replace H : (some t924) = some r := H
    have A20 := aM A200
    clear A200
    obtain rfl := Option.some.inj H
    go_wp2_with (first | (go_at_call 36; (with_reducible refine (spec_ReducePalette.calls kj4 _ _ t910 t913 t921 _ ?side1 ?side2 A19.out).mono ?_); (case side1 => exact qC (Kd.N_reads' HO_3.out).2.2); (case side2 => exact (Kd.N_reads' HO_3.out).2.1); rintro e w21 ⟨v922, rfl, ho0, hb⟩; have HO923 := aM (Kd.N_lower (Kd.N_mono (ok' := fun k_ => some k_ ≠ (.slice Ao7 t910.length co7 : Value).ownBlock ∧ some k_ ≠ (v915 : Value).ownBlock) (Kd.S_N (Kd.S_bound ho0)) (fun k_ hk_ => ⟨(Kd.fresh' (Kd.N_lt (by (with_reducible repeat (first | apply Kd.N_alloc | apply Kd.N_drewN | apply Kd.N_drew)); exact HO_3.out)) k_ hk_.2.1), (Kd.fresh' (Kd.N_lt (by (with_reducible repeat (first | apply Kd.N_alloc | apply Kd.N_drewN | apply Kd.N_drew)); exact HO_5.out)) k_ hk_.2.1)⟩)) (below_size (qW HB.out))); replace HO_3 := aM (Kd.N_elder' (by (with_reducible repeat (first | apply Kd.N_alloc | apply Kd.N_drewN | apply Kd.N_drew)); exact HO_3.out) (Kd.S_base ho0) hb); replace HO_5 := aM (Kd.N_elder' (by (with_reducible repeat (first | apply Kd.N_alloc | apply Kd.N_drewN | apply Kd.N_drew)); exact HO_5.out) (Kd.S_base ho0) hb); replace HB := bS HB hb; clear hb ho0; obtain ⟨Ao22, co22, eo22⟩ := Kd.N_slice HO_5.out; subst eo22; obtain ⟨Ao23, co23, eo23⟩ := Kd.N_slice HO923.out; subst eo23) | (go_at_call 22; (with_reducible refine (laws_equalLists.calls kj4 _ _ t914 _ _ t921 t924 _ ?side1 ?side2 ?side3 ?side4 A20.out).mono ?_); (case side1 => exact qC (Kd.N_reads' HO_5.out).2.2); (case side2 => exact (Kd.N_reads' HO_5.out).2.1); (case side3 => exact qC (Kd.N_reads' HO923.out).2.2); (case side4 => exact (Kd.N_reads' HO923.out).2.1); rintro e w' ⟨rfl, ⟨nd, rfl⟩⟩; (try first | exact ⟨rfl, _, World.drewN_drewN _ _ _⟩ | exact ⟨rfl, _, Eq.trans (World.drewN_drewN _ _ _) (congrArg (World.drewN _) (Nat.add_assoc _ _ _))⟩)))
    repeat (go_quiet (first | (go_at_call 36; (with_reducible refine (spec_ReducePalette.calls kj4 _ _ t910 t913 t921 _ ?side1 ?side2 A19.out).mono ?_); (case side1 => exact qC (Kd.N_reads' HO_3.out).2.2); (case side2 => exact (Kd.N_reads' HO_3.out).2.1); rintro e w21 ⟨v922, rfl, ho0, hb⟩; have HO923 := aM (Kd.N_lower (Kd.N_mono (ok' := fun k_ => some k_ ≠ (.slice Ao7 t910.length co7 : Value).ownBlock ∧ some k_ ≠ (v915 : Value).ownBlock) (Kd.S_N (Kd.S_bound ho0)) (fun k_ hk_ => ⟨(Kd.fresh' (Kd.N_lt (by (with_reducible repeat (first | apply Kd.N_alloc | apply Kd.N_drewN | apply Kd.N_drew)); exact HO_3.out)) k_ hk_.2.1), (Kd.fresh' (Kd.N_lt (by (with_reducible repeat (first | apply Kd.N_alloc | apply Kd.N_drewN | apply Kd.N_drew)); exact HO_5.out)) k_ hk_.2.1)⟩)) (below_size (qW HB.out))); replace HO_3 := aM (Kd.N_elder' (by (with_reducible repeat (first | apply Kd.N_alloc | apply Kd.N_drewN | apply Kd.N_drew)); exact HO_3.out) (Kd.S_base ho0) hb); replace HO_5 := aM (Kd.N_elder' (by (with_reducible repeat (first | apply Kd.N_alloc | apply Kd.N_drewN | apply Kd.N_drew)); exact HO_5.out) (Kd.S_base ho0) hb); replace HB := bS HB hb; clear hb ho0; obtain ⟨Ao22, co22, eo22⟩ := Kd.N_slice HO_5.out; subst eo22; obtain ⟨Ao23, co23, eo23⟩ := Kd.N_slice HO923.out; subst eo23) | (go_at_call 22; (with_reducible refine (laws_equalLists.calls kj4 _ _ t914 _ _ t921 t924 _ ?side1 ?side2 ?side3 ?side4 A20.out).mono ?_); (case side1 => exact qC (Kd.N_reads' HO_5.out).2.2); (case side2 => exact (Kd.N_reads' HO_5.out).2.1); (case side3 => exact qC (Kd.N_reads' HO923.out).2.2); (case side4 => exact (Kd.N_reads' HO923.out).2.1); rintro e w' ⟨rfl, ⟨nd, rfl⟩⟩; (try first | exact ⟨rfl, _, World.drewN_drewN _ _ _⟩ | exact ⟨rfl, _, Eq.trans (World.drewN_drewN _ _ _) (congrArg (World.drewN _) (Nat.add_assoc _ _ _))⟩))); try go_wp2_with (first | (go_at_call 36; (with_reducible refine (spec_ReducePalette.calls kj4 _ _ t910 t913 t921 _ ?side1 ?side2 A19.out).mono ?_); (case side1 => exact qC (Kd.N_reads' HO_3.out).2.2); (case side2 => exact (Kd.N_reads' HO_3.out).2.1); rintro e w21 ⟨v922, rfl, ho0, hb⟩; have HO923 := aM (Kd.N_lower (Kd.N_mono (ok' := fun k_ => some k_ ≠ (.slice Ao7 t910.length co7 : Value).ownBlock ∧ some k_ ≠ (v915 : Value).ownBlock) (Kd.S_N (Kd.S_bound ho0)) (fun k_ hk_ => ⟨(Kd.fresh' (Kd.N_lt (by (with_reducible repeat (first | apply Kd.N_alloc | apply Kd.N_drewN | apply Kd.N_drew)); exact HO_3.out)) k_ hk_.2.1), (Kd.fresh' (Kd.N_lt (by (with_reducible repeat (first | apply Kd.N_alloc | apply Kd.N_drewN | apply Kd.N_drew)); exact HO_5.out)) k_ hk_.2.1)⟩)) (below_size (qW HB.out))); replace HO_3 := aM (Kd.N_elder' (by (with_reducible repeat (first | apply Kd.N_alloc | apply Kd.N_drewN | apply Kd.N_drew)); exact HO_3.out) (Kd.S_base ho0) hb); replace HO_5 := aM (Kd.N_elder' (by (with_reducible repeat (first | apply Kd.N_alloc | apply Kd.N_drewN | apply Kd.N_drew)); exact HO_5.out) (Kd.S_base ho0) hb); replace HB := bS HB hb; clear hb ho0; obtain ⟨Ao22, co22, eo22⟩ := Kd.N_slice HO_5.out; subst eo22; obtain ⟨Ao23, co23, eo23⟩ := Kd.N_slice HO923.out; subst eo23) | (go_at_call 22; (with_reducible refine (laws_equalLists.calls kj4 _ _ t914 _ _ t921 t924 _ ?side1 ?side2 ?side3 ?side4 A20.out).mono ?_); (case side1 => exact qC (Kd.N_reads' HO_5.out).2.2); (case side2 => exact (Kd.N_reads' HO_5.out).2.1); (case side3 => exact qC (Kd.N_reads' HO923.out).2.2); (case side4 => exact (Kd.N_reads' HO923.out).2.1); rintro e w' ⟨rfl, ⟨nd, rfl⟩⟩; (try first | exact ⟨rfl, _, World.drewN_drewN _ _ _⟩ | exact ⟨rfl, _, Eq.trans (World.drewN_drewN _ _ _) (congrArg (World.drewN _) (Nat.add_assoc _ _ _))⟩))))
    go_ret
    exact ⟨qX, by exact qW HB.out⟩
   replace c18 := Bool.eq_false_iff.mpr c18
   subst c18
   have H1 : (laws_FnReducePaletteAll.l0 kj4 t910 0) = some r := by rw [if_neg (show ¬ (false = true) by decide)] at H; exact H
   clear H
   have H := H1
   clear H1
   have H' := aM H
   clear H
   go_wp2
   repeat (go_quiet (fail); try go_wp2)
   go_loopg [6] kj4 (fun kq v6 w' => ∃ (x6_2 : Int), v6 = .int .i64 x6_2 ∧ Aside0 (laws_FnReducePaletteAll.l0 kq t910 x6_2 = some r) ∧ Aside0 (kq ≤ kj4) ∧ Aside0 (Kd.N (Kd.slice 3 (Kd.int .i64)) 22 w' w.heap.size (fun _ => True) (.slice Ao7 t910.length co7) t910) ∧ Aside0 (Below w.heap.size w w'))
   case atStart => exact ⟨(0), qE, H', ⟨Nat.le_refl _⟩, ⟨by (with_reducible repeat (first | apply Kd.N_alloc | apply Kd.N_drewN | apply Kd.N_drew)); exact Kd.N_mono HO_3.out (fun _ hk => trivial)⟩, ⟨by exact qW HB.out⟩⟩
   case round =>
    clear H'
    try clear c2
    try clear c2b0
    try clear c2b1
    try clear c11
    try clear c18
    obtain ⟨x6_2, rfl, HA, HK2, HO_3, HB⟩ := hrel
    cases gk with
    | zero => exact absurd HA.out (by simp [laws_FnReducePaletteAll.l0])
    | succ k2 =>
     have H := HA.out
     clear HA
     simp only [laws_FnReducePaletteAll.l0] at H
     by_cases c24 : x6_2 < (t910.length : Int)
     ·rw [if_pos c24] at H
      have c24b0 : decide (x6_2 < (t910.length : Int)) = true := decide_eq_true c24
      clear c24
      have H' := aM H
      clear H
      go_wp2
      repeat (go_quiet (fail); try go_wp2)
      go_loopg [7] k2 (fun kq v7 w' => ∃ (x7_3 : Int), v7 = .int .i64 x7_3 ∧ Aside0 (laws_FnReducePaletteAll.l1 kq t910 x6_2 x7_3 = some r) ∧ Aside0 (kq ≤ k2) ∧ Aside0 (Kd.N (Kd.slice 3 (Kd.int .i64)) 22 w' w.heap.size (fun _ => True) (.slice Ao7 t910.length co7) t910) ∧ Aside0 (Below w.heap.size w w'))
      case atStart => exact ⟨(0), qE, H', ⟨Nat.le_refl _⟩, ⟨by (with_reducible repeat (first | apply Kd.N_alloc | apply Kd.N_drewN | apply Kd.N_drew)); exact HO_3.out⟩, ⟨by exact qW HB.out⟩⟩
      case round =>
       clear H'
       try clear c2
       try clear c2b0
       try clear c2b1
       try clear c11
       try clear c18
       try clear c24
       try clear c24b0
       obtain ⟨x7_3, rfl, HA, HK3, HO_3, HB⟩ := hrel
       cases gk with
       | zero => exact absurd HA.out (by simp [laws_FnReducePaletteAll.l1])
       | succ k3 =>
        have H := HA.out
        clear HA
        simp only [laws_FnReducePaletteAll.l1] at H
        by_cases c25 : x7_3 < x6_2
        rotate_left
        ·rw [if_neg c25] at H
         have c25b0 : decide (x7_3 < x6_2) = false := decide_eq_false c25
         clear c25
         have H' := aM H
         clear H
         go_wp2
         repeat (go_quiet (fail); try go_wp2)
         go_roundg k3
         case measure => have := HJ4.out; have := HK2.out; have := HK3.out; omega
         case rel => exact ⟨(wrap64 (x6_2 + 1)), qE, H', ⟨by have := HJ4.out; have := HK2.out; have := HK3.out; omega⟩, ⟨by (with_reducible repeat (first | apply Kd.N_alloc | apply Kd.N_drewN | apply Kd.N_drew)); exact HO_3.out⟩, ⟨by exact qW HB.out⟩⟩
        rw [if_pos c25] at H
        have c25b0 : decide (x7_3 < x6_2) = true := decide_eq_true c25
        clear c25
        replace H := iD H
        obtain ⟨c26b0, H⟩ := H
        replace H := iD H
        obtain ⟨c27b0, H⟩ := H
        replace H := iD H
        obtain ⟨c28b0, H⟩ := H
        replace H := iD H
        obtain ⟨c29b0, H⟩ := H
        replace H := Option.bind_eq_some_iff.mp H
        obtain ⟨t927, A300, H⟩ := H
        replace H : (if t927 = true then (some true) else (laws_FnReducePaletteAll.l1 k3 t910 x6_2 (wrap64 (x7_3 + 1)))) = some r := H
        have A30 := aM A300
        clear A300
        by_cases c31 : t927 = true
        ·subst c31
         have H1 : (some true) = some r := by rw [if_pos rfl] at H; exact H
         clear H
         have H := H1
         clear H1
         obtain rfl := Option.some.inj H
         have p925 : 0 ≤ (x6_2 : Int) := oD
         have q925 : x6_2 < (t910.length : Int) := oD
         obtain ⟨ad925, A925_0, c925_0, e925, hx925_0, hl925_0, hi925_0⟩ := at_L1 (Kd.N_reads' HO_3.out).2.2 x6_2 p925 q925
         cases e925
         obtain ⟨ce925, hce925, hMe925, hcc925⟩ := Kd.N_get HO_3.out [] x6_2 p925 (by first | exact q925 | exact oD | (have e_ := (Kd.N_reads' HO_3.out).1; omega))
         obtain ⟨ua925_0, uc925_0, rfl, ul925_0, ge925_0⟩ := Kd.FK_slice_open hMe925
         have hv925_0 := hcc925 0 _ rfl
         rw [Nat.add_zero, show ((Kd.slice 3 (Kd.int .i64))).sz = 1 from rfl, Nat.mul_one] at hv925_0
         replace hv925_0 := Option.some.inj (hv925_0.symm.trans hx925_0)
         injection hv925_0 with hva_ hvn_ hvc_
         rw [hva_] at ge925_0
         rw [hvc_] at ul925_0
         have HL925_0 := aM (show Kd.V (Kd.int .i64) 3 _ w.heap.size _ _ (rd_L1 t910 x6_2) from Kd.V_mk ul925_0 ge925_0)
         clear hva_ hvn_ hvc_ ge925_0 ul925_0
         clear hcc925 hce925
         have HR925_0 := aM hi925_0
         have HC925_0 := aM hl925_0
         clear hi925_0 hl925_0
         replace p925 := eq_true p925
         replace q925 := eq_true q925
         have p926 : 0 ≤ (x7_3 : Int) := oD
         have q926 : x7_3 < (t910.length : Int) := oD
         obtain ⟨ad926, A926_0, c926_0, e926, hx926_0, hl926_0, hi926_0⟩ := at_L1 (Kd.N_reads' HO_3.out).2.2 x7_3 p926 q926
         obtain rfl : ad925 = ad926 := (by injection e926)
         obtain ⟨ce926, hce926, hMe926, hcc926⟩ := Kd.N_get HO_3.out [] x7_3 p926 (by first | exact q926 | exact oD | (have e_ := (Kd.N_reads' HO_3.out).1; omega))
         obtain ⟨ua926_0, uc926_0, rfl, ul926_0, ge926_0⟩ := Kd.FK_slice_open hMe926
         have hv926_0 := hcc926 0 _ rfl
         rw [Nat.add_zero, show ((Kd.slice 3 (Kd.int .i64))).sz = 1 from rfl, Nat.mul_one] at hv926_0
         replace hv926_0 := Option.some.inj (hv926_0.symm.trans hx926_0)
         injection hv926_0 with hva_ hvn_ hvc_
         rw [hva_] at ge926_0
         rw [hvc_] at ul926_0
         have HL926_0 := aM (show Kd.V (Kd.int .i64) 3 _ w.heap.size _ _ (rd_L1 t910 x7_3) from Kd.V_mk ul926_0 ge926_0)
         clear hva_ hvn_ hvc_ ge926_0 ul926_0
         clear hcc926 hce926
         have HR926_0 := aM hi926_0
         have HC926_0 := aM hl926_0
         clear hi926_0 hl926_0
         replace p926 := eq_true p926
         replace q926 := eq_true q926
         go_wp2_with (first | (go_at_call 23; (with_reducible refine (laws_equalInts.calls k3 _ _ (rd_L1 t910 x6_2) _ _ (rd_L1 t910 x7_3) true _ ?side1 ?side2 ?side3 ?side4 A30.out).mono ?_); (case side1 => repeat (first | exact (by repeat (first | (with_reducible exact HR925_0.out) | (with_reducible refine Kd.C_alloc ?_ _) | (with_reducible refine Kd.C_drewN ?_ _) | (with_reducible refine Kd.C_drew ?_) | exact HR925_0.out)) | (with_reducible refine Kd.C_alloc ?_ _) | (with_reducible refine Kd.C_drewN ?_ _) | (with_reducible refine Kd.C_drew ?_))); (case side2 => exact HC925_0.out); (case side3 => repeat (first | exact (by repeat (first | (with_reducible exact HR926_0.out) | (with_reducible refine Kd.C_alloc ?_ _) | (with_reducible refine Kd.C_drewN ?_ _) | (with_reducible refine Kd.C_drew ?_) | exact HR926_0.out)) | (with_reducible refine Kd.C_alloc ?_ _) | (with_reducible refine Kd.C_drewN ?_ _) | (with_reducible refine Kd.C_drew ?_))); (case side4 => exact HC926_0.out); rintro e w' ⟨rfl, ⟨nd, rfl⟩⟩; (try first | exact ⟨rfl, _, World.drewN_drewN _ _ _⟩ | exact ⟨rfl, _, Eq.trans (World.drewN_drewN _ _ _) (congrArg (World.drewN _) (Nat.add_assoc _ _ _))⟩)))
         repeat (go_quiet (first | (go_at_call 23; (with_reducible refine (laws_equalInts.calls k3 _ _ (rd_L1 t910 x6_2) _ _ (rd_L1 t910 x7_3) true _ ?side1 ?side2 ?side3 ?side4 A30.out).mono ?_); (case side1 => repeat (first | exact (by repeat (first | (with_reducible exact HR925_0.out) | (with_reducible refine Kd.C_alloc ?_ _) | (with_reducible refine Kd.C_drewN ?_ _) | (with_reducible refine Kd.C_drew ?_) | exact HR925_0.out)) | (with_reducible refine Kd.C_alloc ?_ _) | (with_reducible refine Kd.C_drewN ?_ _) | (with_reducible refine Kd.C_drew ?_))); (case side2 => exact HC925_0.out); (case side3 => repeat (first | exact (by repeat (first | (with_reducible exact HR926_0.out) | (with_reducible refine Kd.C_alloc ?_ _) | (with_reducible refine Kd.C_drewN ?_ _) | (with_reducible refine Kd.C_drew ?_) | exact HR926_0.out)) | (with_reducible refine Kd.C_alloc ?_ _) | (with_reducible refine Kd.C_drewN ?_ _) | (with_reducible refine Kd.C_drew ?_))); (case side4 => exact HC926_0.out); rintro e w' ⟨rfl, ⟨nd, rfl⟩⟩; (try first | exact ⟨rfl, _, World.drewN_drewN _ _ _⟩ | exact ⟨rfl, _, Eq.trans (World.drewN_drewN _ _ _) (congrArg (World.drewN _) (Nat.add_assoc _ _ _))⟩))); try go_wp2_with (first | (go_at_call 23; (with_reducible refine (laws_equalInts.calls k3 _ _ (rd_L1 t910 x6_2) _ _ (rd_L1 t910 x7_3) true _ ?side1 ?side2 ?side3 ?side4 A30.out).mono ?_); (case side1 => repeat (first | exact (by repeat (first | (with_reducible exact HR925_0.out) | (with_reducible refine Kd.C_alloc ?_ _) | (with_reducible refine Kd.C_drewN ?_ _) | (with_reducible refine Kd.C_drew ?_) | exact HR925_0.out)) | (with_reducible refine Kd.C_alloc ?_ _) | (with_reducible refine Kd.C_drewN ?_ _) | (with_reducible refine Kd.C_drew ?_))); (case side2 => exact HC925_0.out); (case side3 => repeat (first | exact (by repeat (first | (with_reducible exact HR926_0.out) | (with_reducible refine Kd.C_alloc ?_ _) | (with_reducible refine Kd.C_drewN ?_ _) | (with_reducible refine Kd.C_drew ?_) | exact HR926_0.out)) | (with_reducible refine Kd.C_alloc ?_ _) | (with_reducible refine Kd.C_drewN ?_ _) | (with_reducible refine Kd.C_drew ?_))); (case side4 => exact HC926_0.out); rintro e w' ⟨rfl, ⟨nd, rfl⟩⟩; (try first | exact ⟨rfl, _, World.drewN_drewN _ _ _⟩ | exact ⟨rfl, _, Eq.trans (World.drewN_drewN _ _ _) (congrArg (World.drewN _) (Nat.add_assoc _ _ _))⟩))))
         go_ret
         exact ⟨qX, by exact qW HB.out⟩
        replace c31 := Bool.eq_false_iff.mpr c31
        subst c31
        have H1 : (laws_FnReducePaletteAll.l1 k3 t910 x6_2 (wrap64 (x7_3 + 1))) = some r := by rw [if_neg (show ¬ (false = true) by decide)] at H; exact H
        clear H
        have H := H1
        clear H1
        have H' := aM H
        clear H
        have p925 : 0 ≤ (x6_2 : Int) := oD
        have q925 : x6_2 < (t910.length : Int) := oD
        obtain ⟨ad925, A925_0, c925_0, e925, hx925_0, hl925_0, hi925_0⟩ := at_L1 (Kd.N_reads' HO_3.out).2.2 x6_2 p925 q925
        cases e925
        obtain ⟨ce925, hce925, hMe925, hcc925⟩ := Kd.N_get HO_3.out [] x6_2 p925 (by first | exact q925 | exact oD | (have e_ := (Kd.N_reads' HO_3.out).1; omega))
        obtain ⟨ua925_0, uc925_0, rfl, ul925_0, ge925_0⟩ := Kd.FK_slice_open hMe925
        have hv925_0 := hcc925 0 _ rfl
        rw [Nat.add_zero, show ((Kd.slice 3 (Kd.int .i64))).sz = 1 from rfl, Nat.mul_one] at hv925_0
        replace hv925_0 := Option.some.inj (hv925_0.symm.trans hx925_0)
        injection hv925_0 with hva_ hvn_ hvc_
        rw [hva_] at ge925_0
        rw [hvc_] at ul925_0
        have HL925_0 := aM (show Kd.V (Kd.int .i64) 3 _ w.heap.size _ _ (rd_L1 t910 x6_2) from Kd.V_mk ul925_0 ge925_0)
        clear hva_ hvn_ hvc_ ge925_0 ul925_0
        clear hcc925 hce925
        have HR925_0 := aM hi925_0
        have HC925_0 := aM hl925_0
        clear hi925_0 hl925_0
        replace p925 := eq_true p925
        replace q925 := eq_true q925
        have p926 : 0 ≤ (x7_3 : Int) := oD
        have q926 : x7_3 < (t910.length : Int) := oD
        obtain ⟨ad926, A926_0, c926_0, e926, hx926_0, hl926_0, hi926_0⟩ := at_L1 (Kd.N_reads' HO_3.out).2.2 x7_3 p926 q926
        obtain rfl : ad925 = ad926 := (by injection e926)
        obtain ⟨ce926, hce926, hMe926, hcc926⟩ := Kd.N_get HO_3.out [] x7_3 p926 (by first | exact q926 | exact oD | (have e_ := (Kd.N_reads' HO_3.out).1; omega))
        obtain ⟨ua926_0, uc926_0, rfl, ul926_0, ge926_0⟩ := Kd.FK_slice_open hMe926
        have hv926_0 := hcc926 0 _ rfl
        rw [Nat.add_zero, show ((Kd.slice 3 (Kd.int .i64))).sz = 1 from rfl, Nat.mul_one] at hv926_0
        replace hv926_0 := Option.some.inj (hv926_0.symm.trans hx926_0)
        injection hv926_0 with hva_ hvn_ hvc_
        rw [hva_] at ge926_0
        rw [hvc_] at ul926_0
        have HL926_0 := aM (show Kd.V (Kd.int .i64) 3 _ w.heap.size _ _ (rd_L1 t910 x7_3) from Kd.V_mk ul926_0 ge926_0)
        clear hva_ hvn_ hvc_ ge926_0 ul926_0
        clear hcc926 hce926
        have HR926_0 := aM hi926_0
        have HC926_0 := aM hl926_0
        clear hi926_0 hl926_0
        replace p926 := eq_true p926
        replace q926 := eq_true q926
        go_wp2_with (first | (go_at_call 23; (with_reducible refine (laws_equalInts.calls k3 _ _ (rd_L1 t910 x6_2) _ _ (rd_L1 t910 x7_3) false _ ?side1 ?side2 ?side3 ?side4 A30.out).mono ?_); (case side1 => repeat (first | exact (by repeat (first | (with_reducible exact HR925_0.out) | (with_reducible refine Kd.C_alloc ?_ _) | (with_reducible refine Kd.C_drewN ?_ _) | (with_reducible refine Kd.C_drew ?_) | exact HR925_0.out)) | (with_reducible refine Kd.C_alloc ?_ _) | (with_reducible refine Kd.C_drewN ?_ _) | (with_reducible refine Kd.C_drew ?_))); (case side2 => exact HC925_0.out); (case side3 => repeat (first | exact (by repeat (first | (with_reducible exact HR926_0.out) | (with_reducible refine Kd.C_alloc ?_ _) | (with_reducible refine Kd.C_drewN ?_ _) | (with_reducible refine Kd.C_drew ?_) | exact HR926_0.out)) | (with_reducible refine Kd.C_alloc ?_ _) | (with_reducible refine Kd.C_drewN ?_ _) | (with_reducible refine Kd.C_drew ?_))); (case side4 => exact HC926_0.out); rintro e w' ⟨rfl, ⟨nd, rfl⟩⟩; (try first | exact ⟨rfl, _, World.drewN_drewN _ _ _⟩ | exact ⟨rfl, _, Eq.trans (World.drewN_drewN _ _ _) (congrArg (World.drewN _) (Nat.add_assoc _ _ _))⟩)))
        repeat (go_quiet (first | (go_at_call 23; (with_reducible refine (laws_equalInts.calls k3 _ _ (rd_L1 t910 x6_2) _ _ (rd_L1 t910 x7_3) false _ ?side1 ?side2 ?side3 ?side4 A30.out).mono ?_); (case side1 => repeat (first | exact (by repeat (first | (with_reducible exact HR925_0.out) | (with_reducible refine Kd.C_alloc ?_ _) | (with_reducible refine Kd.C_drewN ?_ _) | (with_reducible refine Kd.C_drew ?_) | exact HR925_0.out)) | (with_reducible refine Kd.C_alloc ?_ _) | (with_reducible refine Kd.C_drewN ?_ _) | (with_reducible refine Kd.C_drew ?_))); (case side2 => exact HC925_0.out); (case side3 => repeat (first | exact (by repeat (first | (with_reducible exact HR926_0.out) | (with_reducible refine Kd.C_alloc ?_ _) | (with_reducible refine Kd.C_drewN ?_ _) | (with_reducible refine Kd.C_drew ?_) | exact HR926_0.out)) | (with_reducible refine Kd.C_alloc ?_ _) | (with_reducible refine Kd.C_drewN ?_ _) | (with_reducible refine Kd.C_drew ?_))); (case side4 => exact HC926_0.out); rintro e w' ⟨rfl, ⟨nd, rfl⟩⟩; (try first | exact ⟨rfl, _, World.drewN_drewN _ _ _⟩ | exact ⟨rfl, _, Eq.trans (World.drewN_drewN _ _ _) (congrArg (World.drewN _) (Nat.add_assoc _ _ _))⟩))); try go_wp2_with (first | (go_at_call 23; (with_reducible refine (laws_equalInts.calls k3 _ _ (rd_L1 t910 x6_2) _ _ (rd_L1 t910 x7_3) false _ ?side1 ?side2 ?side3 ?side4 A30.out).mono ?_); (case side1 => repeat (first | exact (by repeat (first | (with_reducible exact HR925_0.out) | (with_reducible refine Kd.C_alloc ?_ _) | (with_reducible refine Kd.C_drewN ?_ _) | (with_reducible refine Kd.C_drew ?_) | exact HR925_0.out)) | (with_reducible refine Kd.C_alloc ?_ _) | (with_reducible refine Kd.C_drewN ?_ _) | (with_reducible refine Kd.C_drew ?_))); (case side2 => exact HC925_0.out); (case side3 => repeat (first | exact (by repeat (first | (with_reducible exact HR926_0.out) | (with_reducible refine Kd.C_alloc ?_ _) | (with_reducible refine Kd.C_drewN ?_ _) | (with_reducible refine Kd.C_drew ?_) | exact HR926_0.out)) | (with_reducible refine Kd.C_alloc ?_ _) | (with_reducible refine Kd.C_drewN ?_ _) | (with_reducible refine Kd.C_drew ?_))); (case side4 => exact HC926_0.out); rintro e w' ⟨rfl, ⟨nd, rfl⟩⟩; (try first | exact ⟨rfl, _, World.drewN_drewN _ _ _⟩ | exact ⟨rfl, _, Eq.trans (World.drewN_drewN _ _ _) (congrArg (World.drewN _) (Nat.add_assoc _ _ _))⟩))))
        go_roundg k3
        case measure => have := HJ4.out; have := HK2.out; have := HK3.out; omega
        case rel => exact ⟨(wrap64 (x7_3 + 1)), qE, H', ⟨by have := HJ4.out; have := HK2.out; have := HK3.out; omega⟩, ⟨by (with_reducible repeat (first | apply Kd.N_alloc | apply Kd.N_drewN | apply Kd.N_drew)); exact HO_3.out⟩, ⟨by exact qW HB.out⟩⟩
     rw [if_neg c24] at H
     have c24b0 : decide (x6_2 < (t910.length : Int)) = false := decide_eq_false c24
     clear c24
     replace H := Option.bind_eq_some_iff.mp H
     obtain ⟨t928, A320, H⟩ := H
     replace H : (laws_FnReducePaletteAll.l2 k2 t910 t928 0) = some r := H
     have A32 := aM A320
     clear A320
     have H' := aM H
     clear H
     go_wp2_with (first | (go_at_call 37; (with_reducible refine (impl_ReducePalette.calls k2 _ _ t910 (t910.length : Int) t928 _ ?side1 ?side2 A32.out).mono ?_); (case side1 => exact qC (Kd.N_reads' HO_3.out).2.2); (case side2 => exact (Kd.N_reads' HO_3.out).2.1); rintro e w33 ⟨v929, rfl, ho0, hb⟩; have HO930 := aM (Kd.N_lower (Kd.N_mono (ok' := fun k_ => some k_ ≠ (.slice Ao7 t910.length co7 : Value).ownBlock) (Kd.S_N (Kd.S_bound ho0)) (fun k_ hk_ => (Kd.fresh' (Kd.N_lt (by (with_reducible repeat (first | apply Kd.N_alloc | apply Kd.N_drewN | apply Kd.N_drew)); exact HO_3.out)) k_ hk_.2.1))) (below_size (qW HB.out))); replace HO_3 := aM (Kd.N_elder' (by (with_reducible repeat (first | apply Kd.N_alloc | apply Kd.N_drewN | apply Kd.N_drew)); exact HO_3.out) (Kd.S_base ho0) hb); replace HB := bS HB hb; clear hb ho0))
     repeat (go_quiet (first | (go_at_call 37; (with_reducible refine (impl_ReducePalette.calls k2 _ _ t910 (t910.length : Int) t928 _ ?side1 ?side2 A32.out).mono ?_); (case side1 => exact qC (Kd.N_reads' HO_3.out).2.2); (case side2 => exact (Kd.N_reads' HO_3.out).2.1); rintro e w33 ⟨v929, rfl, ho0, hb⟩; have HO930 := aM (Kd.N_lower (Kd.N_mono (ok' := fun k_ => some k_ ≠ (.slice Ao7 t910.length co7 : Value).ownBlock) (Kd.S_N (Kd.S_bound ho0)) (fun k_ hk_ => (Kd.fresh' (Kd.N_lt (by (with_reducible repeat (first | apply Kd.N_alloc | apply Kd.N_drewN | apply Kd.N_drew)); exact HO_3.out)) k_ hk_.2.1))) (below_size (qW HB.out))); replace HO_3 := aM (Kd.N_elder' (by (with_reducible repeat (first | apply Kd.N_alloc | apply Kd.N_drewN | apply Kd.N_drew)); exact HO_3.out) (Kd.S_base ho0) hb); replace HB := bS HB hb; clear hb ho0)); try go_wp2_with (first | (go_at_call 37; (with_reducible refine (impl_ReducePalette.calls k2 _ _ t910 (t910.length : Int) t928 _ ?side1 ?side2 A32.out).mono ?_); (case side1 => exact qC (Kd.N_reads' HO_3.out).2.2); (case side2 => exact (Kd.N_reads' HO_3.out).2.1); rintro e w33 ⟨v929, rfl, ho0, hb⟩; have HO930 := aM (Kd.N_lower (Kd.N_mono (ok' := fun k_ => some k_ ≠ (.slice Ao7 t910.length co7 : Value).ownBlock) (Kd.S_N (Kd.S_bound ho0)) (fun k_ hk_ => (Kd.fresh' (Kd.N_lt (by (with_reducible repeat (first | apply Kd.N_alloc | apply Kd.N_drewN | apply Kd.N_drew)); exact HO_3.out)) k_ hk_.2.1))) (below_size (qW HB.out))); replace HO_3 := aM (Kd.N_elder' (by (with_reducible repeat (first | apply Kd.N_alloc | apply Kd.N_drewN | apply Kd.N_drew)); exact HO_3.out) (Kd.S_base ho0) hb); replace HB := bS HB hb; clear hb ho0)))
     go_loopg [9] k2 (fun kq v9 w' => ∃ (x9_3 : Int), v9 = .int .i64 x9_3 ∧ Aside0 (laws_FnReducePaletteAll.l2 kq t910 t928 x9_3 = some r) ∧ Aside0 (kq ≤ k2) ∧ Aside0 (Kd.N (Kd.slice 3 (Kd.int .i64)) 22 w' w.heap.size (fun k_ => some k_ ≠ (v929 : Value).ownBlock) (.slice Ao7 t910.length co7) t910) ∧ Aside0 (Kd.N (Kd.slice 3 (Kd.int .i64)) 22 w' w.heap.size (fun k_ => some k_ ≠ ((.slice Ao7 t910.length co7) : Value).ownBlock) v929 t928) ∧ Aside0 (Below w.heap.size w w'))
     case atStart => exact ⟨(0), qE, H', ⟨Nat.le_refl _⟩, ⟨by (with_reducible repeat (first | apply Kd.N_alloc | apply Kd.N_drewN | apply Kd.N_drew)); exact Kd.N_mono HO_3.out (fun _ hk => hk.2)⟩, ⟨by (with_reducible repeat (first | apply Kd.N_alloc | apply Kd.N_drewN | apply Kd.N_drew)); exact HO930.out⟩, ⟨by exact qW HB.out⟩⟩
     case round =>
      clear H'
      try clear c2
      try clear c2b0
      try clear c2b1
      try clear c11
      try clear c18
      try clear c24
      try clear c24b0
      try clear c25
      try clear c25b0
      try clear c26b0
      try clear c27b0
      try clear c28b0
      try clear c29b0
      try clear c31
      try clear hx925_0
      try clear hx926_0
      try clear p925
      try clear p926
      try clear q925
      try clear q926
      obtain ⟨x9_3, rfl, HA, HK3, HO_3, HO_8, HB⟩ := hrel
      cases gk with
      | zero => exact absurd HA.out (by simp [laws_FnReducePaletteAll.l2])
      | succ k3 =>
       have H := HA.out
       clear HA
       simp only [laws_FnReducePaletteAll.l2] at H
       by_cases c34 : x9_3 < (t910.length : Int)
       rotate_left
       ·rw [if_neg c34] at H
        have c34b0 : decide (x9_3 < (t910.length : Int)) = false := decide_eq_false c34
        clear c34
        obtain rfl := Option.some.inj H
        obtain ⟨Ao46, co46, eo46⟩ := Kd.N_slice HO_8.out
        subst eo46
        go_wp2
        repeat (go_quiet (fail); try go_wp2)
        go_ret
        exact ⟨qX, by exact qW HB.out⟩
       rw [if_pos c34] at H
       have c34b0 : decide (x9_3 < (t910.length : Int)) = true := decide_eq_true c34
       clear c34
       have H' := aM H
       clear H
       go_wp2
       repeat (go_quiet (fail); try go_wp2)
       go_loopg [10, 11] k3 (fun kq v10 v11 w' => ∃ (x10_4 : Bool) (x11_4 : Int), v10 = .bool x10_4 ∧ v11 = .int .i64 x11_4 ∧ Aside0 (laws_FnReducePaletteAll.l3 kq t910 t928 x9_3 x10_4 x11_4 = some r) ∧ Aside0 (kq ≤ k3) ∧ Aside0 (Kd.N (Kd.slice 3 (Kd.int .i64)) 22 w' w.heap.size (fun k_ => some k_ ≠ (v929 : Value).ownBlock) (.slice Ao7 t910.length co7) t910) ∧ Aside0 (Kd.N (Kd.slice 3 (Kd.int .i64)) 22 w' w.heap.size (fun k_ => some k_ ≠ ((.slice Ao7 t910.length co7) : Value).ownBlock) v929 t928) ∧ Aside0 (Below w.heap.size w w'))
       case atStart => exact ⟨(false), (0), qE, qE, H', ⟨Nat.le_refl _⟩, ⟨by (with_reducible repeat (first | apply Kd.N_alloc | apply Kd.N_drewN | apply Kd.N_drew)); exact HO_3.out⟩, ⟨by (with_reducible repeat (first | apply Kd.N_alloc | apply Kd.N_drewN | apply Kd.N_drew)); exact HO_8.out⟩, ⟨by exact qW HB.out⟩⟩
       case round =>
        clear H'
        try clear c2
        try clear c2b0
        try clear c2b1
        try clear c11
        try clear c18
        try clear c24
        try clear c24b0
        try clear c25
        try clear c25b0
        try clear c26b0
        try clear c27b0
        try clear c28b0
        try clear c29b0
        try clear c31
        try clear c34
        try clear c34b0
        try clear hx925_0
        try clear hx926_0
        try clear p925
        try clear p926
        try clear q925
        try clear q926
        obtain ⟨x10_4, x11_4, rfl, rfl, HA, HK4, HO_3, HO_8, HB⟩ := hrel
        cases gk with
        | zero => exact absurd HA.out (by simp [laws_FnReducePaletteAll.l3])
        | succ k4 =>
         have H := HA.out
         clear HA
         simp only [laws_FnReducePaletteAll.l3] at H
         by_cases c35 : x11_4 < (t928.length : Int)
         rotate_left
         ·rw [if_neg c35] at H
          have c35b0 : decide (x11_4 < (t928.length : Int)) = false := decide_eq_false c35
          clear c35
          by_cases c43 : x10_4 = true
          rotate_left
          ·replace c43 := Bool.eq_false_iff.mpr c43
           subst c43
           have H1 : (some false) = some r := by rw [if_neg (show ¬ (false = true) by decide)] at H; exact H
           clear H
           have H := H1
           clear H1
           obtain rfl := Option.some.inj H
           exact absurd hrt (by decide)
          subst c43
          have H1 : (laws_FnReducePaletteAll.l2 k4 t910 t928 (wrap64 (x9_3 + 1))) = some r := by rw [if_pos rfl] at H; exact H
          clear H
          have H := H1
          clear H1
          have H' := aM H
          clear H
          obtain ⟨Ao44, co44, eo44⟩ := Kd.N_slice HO_8.out
          subst eo44
          go_wp2
          repeat (go_quiet (fail); try go_wp2)
          go_roundg k4
          case measure => have := HJ4.out; have := HK2.out; have := HK3.out; have := HK4.out; omega
          case rel => exact ⟨(wrap64 (x9_3 + 1)), qE, H', ⟨by have := HJ4.out; have := HK2.out; have := HK3.out; have := HK4.out; omega⟩, ⟨by (with_reducible repeat (first | apply Kd.N_alloc | apply Kd.N_drewN | apply Kd.N_drew)); exact HO_3.out⟩, ⟨by (with_reducible repeat (first | apply Kd.N_alloc | apply Kd.N_drewN | apply Kd.N_drew)); exact HO_8.out⟩, ⟨by exact qW HB.out⟩⟩
         rw [if_pos c35] at H
         have c35b0 : decide (x11_4 < (t928.length : Int)) = true := decide_eq_true c35
         clear c35
         by_cases c36 : x10_4 = true
         ·subst c36
          have H1 : (laws_FnReducePaletteAll.l3 k4 t910 t928 x9_3 true (wrap64 (x11_4 + 1))) = some r := by rw [if_pos rfl] at H; exact H
          clear H
          have H := H1
          clear H1
          have H' := aM H
          clear H
          obtain ⟨Ao37, co37, eo37⟩ := Kd.N_slice HO_8.out
          subst eo37
          go_wp2
          repeat (go_quiet (fail); try go_wp2)
          go_roundg k4
          case measure => have := HJ4.out; have := HK2.out; have := HK3.out; have := HK4.out; omega
          case rel => exact ⟨(true), (wrap64 (x11_4 + 1)), qE, qE, H', ⟨by have := HJ4.out; have := HK2.out; have := HK3.out; have := HK4.out; omega⟩, ⟨by (with_reducible repeat (first | apply Kd.N_alloc | apply Kd.N_drewN | apply Kd.N_drew)); exact HO_3.out⟩, ⟨by (with_reducible repeat (first | apply Kd.N_alloc | apply Kd.N_drewN | apply Kd.N_drew)); exact HO_8.out⟩, ⟨by exact qW HB.out⟩⟩
         replace c36 := Bool.eq_false_iff.mpr c36
         subst c36
         have H1 : (if 0 ≤ x11_4 then (if 0 ≤ x9_3 then (if x9_3 < (t910.length : Int) then ((laws_equalInts.f k4 (rd_L1 t928 x11_4) (rd_L1 t910 x9_3)).bind fun t933 => (laws_FnReducePaletteAll.l3 k4 t910 t928 x9_3 t933 (wrap64 (x11_4 + 1)))) else (none)) else (none)) else (none)) = some r := by rw [if_neg (show ¬ (false = true) by decide)] at H; exact H
         clear H
         have H := H1
         clear H1
         replace H := iD H
         obtain ⟨c38b0, H⟩ := H
         replace H := iD H
         obtain ⟨c39b0, H⟩ := H
         replace H := iD H
         obtain ⟨c40b0, H⟩ := H
         replace H := Option.bind_eq_some_iff.mp H
         obtain ⟨t933, A410, H⟩ := H
         replace H : (laws_FnReducePaletteAll.l3 k4 t910 t928 x9_3 t933 (wrap64 (x11_4 + 1))) = some r := H
         have A41 := aM A410
         clear A410
         have H' := aM H
         clear H
         obtain ⟨Ao42, co42, eo42⟩ := Kd.N_slice HO_8.out
         subst eo42
         have p931 : 0 ≤ (x11_4 : Int) := oD
         have q931 : x11_4 < (t928.length : Int) := oD
         obtain ⟨ad931, A931_0, c931_0, e931, hx931_0, hl931_0, hi931_0⟩ := at_L1 (Kd.N_reads' HO_8.out).2.2 x11_4 p931 q931
         cases e931
         obtain ⟨ce931, hce931, hMe931, hcc931⟩ := Kd.N_get HO_8.out [] x11_4 p931 (by first | exact q931 | exact oD | (have e_ := (Kd.N_reads' HO_8.out).1; omega))
         obtain ⟨ua931_0, uc931_0, rfl, ul931_0, ge931_0⟩ := Kd.FK_slice_open hMe931
         have hv931_0 := hcc931 0 _ rfl
         rw [Nat.add_zero, show ((Kd.slice 3 (Kd.int .i64))).sz = 1 from rfl, Nat.mul_one] at hv931_0
         replace hv931_0 := Option.some.inj (hv931_0.symm.trans hx931_0)
         injection hv931_0 with hva_ hvn_ hvc_
         rw [hva_] at ge931_0
         rw [hvc_] at ul931_0
         have HL931_0 := aM (show Kd.V (Kd.int .i64) 3 _ w.heap.size _ _ (rd_L1 t928 x11_4) from Kd.V_mk ul931_0 ge931_0)
         clear hva_ hvn_ hvc_ ge931_0 ul931_0
         clear hcc931 hce931
         have HR931_0 := aM hi931_0
         have HC931_0 := aM hl931_0
         clear hi931_0 hl931_0
         replace p931 := eq_true p931
         replace q931 := eq_true q931
         have p932 : 0 ≤ (x9_3 : Int) := oD
         have q932 : x9_3 < (t910.length : Int) := oD
         obtain ⟨ad932, A932_0, c932_0, e932, hx932_0, hl932_0, hi932_0⟩ := at_L1 (Kd.N_reads' HO_3.out).2.2 x9_3 p932 q932
         cases e932
         obtain ⟨ce932, hce932, hMe932, hcc932⟩ := Kd.N_get HO_3.out [] x9_3 p932 (by first | exact q932 | exact oD | (have e_ := (Kd.N_reads' HO_3.out).1; omega))
         obtain ⟨ua932_0, uc932_0, rfl, ul932_0, ge932_0⟩ := Kd.FK_slice_open hMe932
         have hv932_0 := hcc932 0 _ rfl
         rw [Nat.add_zero, show ((Kd.slice 3 (Kd.int .i64))).sz = 1 from rfl, Nat.mul_one] at hv932_0
         replace hv932_0 := Option.some.inj (hv932_0.symm.trans hx932_0)
         injection hv932_0 with hva_ hvn_ hvc_
         rw [hva_] at ge932_0
         rw [hvc_] at ul932_0
         have HL932_0 := aM (show Kd.V (Kd.int .i64) 3 _ w.heap.size _ _ (rd_L1 t910 x9_3) from Kd.V_mk ul932_0 ge932_0)
         clear hva_ hvn_ hvc_ ge932_0 ul932_0
         clear hcc932 hce932
         have HR932_0 := aM hi932_0
         have HC932_0 := aM hl932_0
         clear hi932_0 hl932_0
         replace p932 := eq_true p932
         replace q932 := eq_true q932
         go_wp2_with (first | (go_at_call 23; (with_reducible refine (laws_equalInts.calls k4 _ _ (rd_L1 t928 x11_4) _ _ (rd_L1 t910 x9_3) t933 _ ?side1 ?side2 ?side3 ?side4 A41.out).mono ?_); (case side1 => repeat (first | exact (by repeat (first | (with_reducible exact HR931_0.out) | (with_reducible refine Kd.C_alloc ?_ _) | (with_reducible refine Kd.C_drewN ?_ _) | (with_reducible refine Kd.C_drew ?_) | exact HR931_0.out)) | (with_reducible refine Kd.C_alloc ?_ _) | (with_reducible refine Kd.C_drewN ?_ _) | (with_reducible refine Kd.C_drew ?_))); (case side2 => exact HC931_0.out); (case side3 => repeat (first | exact (by repeat (first | (with_reducible exact HR932_0.out) | (with_reducible refine Kd.C_alloc ?_ _) | (with_reducible refine Kd.C_drewN ?_ _) | (with_reducible refine Kd.C_drew ?_) | exact HR932_0.out)) | (with_reducible refine Kd.C_alloc ?_ _) | (with_reducible refine Kd.C_drewN ?_ _) | (with_reducible refine Kd.C_drew ?_))); (case side4 => exact HC932_0.out); rintro e w' ⟨rfl, ⟨nd, rfl⟩⟩; (try first | exact ⟨rfl, _, World.drewN_drewN _ _ _⟩ | exact ⟨rfl, _, Eq.trans (World.drewN_drewN _ _ _) (congrArg (World.drewN _) (Nat.add_assoc _ _ _))⟩)))
         repeat (go_quiet (first | (go_at_call 23; (with_reducible refine (laws_equalInts.calls k4 _ _ (rd_L1 t928 x11_4) _ _ (rd_L1 t910 x9_3) t933 _ ?side1 ?side2 ?side3 ?side4 A41.out).mono ?_); (case side1 => repeat (first | exact (by repeat (first | (with_reducible exact HR931_0.out) | (with_reducible refine Kd.C_alloc ?_ _) | (with_reducible refine Kd.C_drewN ?_ _) | (with_reducible refine Kd.C_drew ?_) | exact HR931_0.out)) | (with_reducible refine Kd.C_alloc ?_ _) | (with_reducible refine Kd.C_drewN ?_ _) | (with_reducible refine Kd.C_drew ?_))); (case side2 => exact HC931_0.out); (case side3 => repeat (first | exact (by repeat (first | (with_reducible exact HR932_0.out) | (with_reducible refine Kd.C_alloc ?_ _) | (with_reducible refine Kd.C_drewN ?_ _) | (with_reducible refine Kd.C_drew ?_) | exact HR932_0.out)) | (with_reducible refine Kd.C_alloc ?_ _) | (with_reducible refine Kd.C_drewN ?_ _) | (with_reducible refine Kd.C_drew ?_))); (case side4 => exact HC932_0.out); rintro e w' ⟨rfl, ⟨nd, rfl⟩⟩; (try first | exact ⟨rfl, _, World.drewN_drewN _ _ _⟩ | exact ⟨rfl, _, Eq.trans (World.drewN_drewN _ _ _) (congrArg (World.drewN _) (Nat.add_assoc _ _ _))⟩))); try go_wp2_with (first | (go_at_call 23; (with_reducible refine (laws_equalInts.calls k4 _ _ (rd_L1 t928 x11_4) _ _ (rd_L1 t910 x9_3) t933 _ ?side1 ?side2 ?side3 ?side4 A41.out).mono ?_); (case side1 => repeat (first | exact (by repeat (first | (with_reducible exact HR931_0.out) | (with_reducible refine Kd.C_alloc ?_ _) | (with_reducible refine Kd.C_drewN ?_ _) | (with_reducible refine Kd.C_drew ?_) | exact HR931_0.out)) | (with_reducible refine Kd.C_alloc ?_ _) | (with_reducible refine Kd.C_drewN ?_ _) | (with_reducible refine Kd.C_drew ?_))); (case side2 => exact HC931_0.out); (case side3 => repeat (first | exact (by repeat (first | (with_reducible exact HR932_0.out) | (with_reducible refine Kd.C_alloc ?_ _) | (with_reducible refine Kd.C_drewN ?_ _) | (with_reducible refine Kd.C_drew ?_) | exact HR932_0.out)) | (with_reducible refine Kd.C_alloc ?_ _) | (with_reducible refine Kd.C_drewN ?_ _) | (with_reducible refine Kd.C_drew ?_))); (case side4 => exact HC932_0.out); rintro e w' ⟨rfl, ⟨nd, rfl⟩⟩; (try first | exact ⟨rfl, _, World.drewN_drewN _ _ _⟩ | exact ⟨rfl, _, Eq.trans (World.drewN_drewN _ _ _) (congrArg (World.drewN _) (Nat.add_assoc _ _ _))⟩))))
         go_roundg k4
         case measure => have := HJ4.out; have := HK2.out; have := HK3.out; have := HK4.out; omega
         case rel => exact ⟨(t933), (wrap64 (x11_4 + 1)), qE, qE, H', ⟨by have := HJ4.out; have := HK2.out; have := HK3.out; have := HK4.out; omega⟩, ⟨by (with_reducible repeat (first | apply Kd.N_alloc | apply Kd.N_drewN | apply Kd.N_drew)); exact HO_3.out⟩, ⟨by (with_reducible repeat (first | apply Kd.N_alloc | apply Kd.N_drewN | apply Kd.N_drew)); exact HO_8.out⟩, ⟨by exact qW HB.out⟩⟩
def laws_FnReducePaletteAll.Pure : Prop := ∀ (l0 : List Int), l0.length ≤ maxLen → l0.length * 1 ≤ 140737488351232 → (∀ x ∈ l0, (Lit.int .u8 x).wf = true) → ∃ k, laws_FnReducePaletteAll.f k l0 = some true
theorem laws_FnReducePaletteAll.walk (P : laws_FnReducePaletteAll.Pure) (a0 : Option Addr) (len0 cap0 : Nat) (z0 : List Int) (w : World) (w0 : (a0 = none ∧ len0 = 0 ∧ cap0 = 0 ∧ z0 = []) ∨ ∃ x, a0 = some x ∧ len0 ≤ cap0 ∧ cap0 ≤ maxLen ∧ z0.length = cap0 ∧ (∀ i, i < z0.length → w.cell? (x.add i) = some (.int .u8 (z0.getD i 0))) ∧ ∀ n ∈ z0, (Lit.int .u8 n).wf = true) (y0 : len0 * 1 ≤ 140737488351232) :
  Calls Try.prog 11 #[.slice a0 len0 cap0] w fun e w' => e = .returned (.bool true) ∧ Below w.heap.size w w' := by
 obtain ⟨l0, rfl, hr0, hm0, hw0, hc0⟩ := ReadsInt.ofRowC w0
 obtain ⟨k, h⟩ := P l0 hm0 y0 hw0
 refine (laws_FnReducePaletteAll.calls k _ _ l0 true w (Kd.C_of_reads (d := (0 : Int)) (h1 := fun _ => rfl) hr0) hc0 h rfl).mono ?_
 rintro e w' ⟨rfl, hd⟩
 exact ⟨rfl, hd⟩
end Go.Proofs.Ytohbpilokmppbaa.P
