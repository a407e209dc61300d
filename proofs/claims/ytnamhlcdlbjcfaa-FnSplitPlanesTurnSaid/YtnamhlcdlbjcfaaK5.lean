/- Contracts and row, written by a program of this place out of the translation: the call answers true and its argument reads as before, for every input; no condition. -/
import Derived.Test.YtnamhlcdlbjcfaaK0
import Derived.Test.YtnamhlcdlbjcfaaK2
import Derived.Test.YtnamhlcdlbjcfaaK3
import Derived.Test.YtnamhlcdlbjcfaaK4
namespace Go.Proofs.Ytnamhlcdlbjcfaa.P
open Go.RowKit Go.Proofs.YtnamhlcdlbjcfaaW.PrintWords Go.Proofs.YtnamhlcdlbjcfaaW.PrintLast Go.Proofs.YtnamhlcdlbjcfaaW.PrintMore
attribute [local go_sem] max2_int min2_int max_two min_two max_three min_three max_four min_four   -- for this text's walks alone
set_option linter.unusedVariables false
set_option linter.unusedSimpArgs false
mutual
def laws_FnSplitPlanesTurn.j0 : Nat → List (S26) → Bool → Int → Int → Int → List Int → Option (Bool)
 | 0, _, _, _, _, _, _ => none
 | k + 1, x4, x23, x974000, x974001, x974002, x974003 => if x23 = true then ((spec_SplitPlanes.f k x974000 x974001 x974002 x974003).bind fun t981 => ((laws_equalImages.f k x4 t981).bind fun t984 => (some t984))) else (laws_FnSplitPlanesTurn.l0 k x4 (([] : List (S26))) 0 x974000 x974001 x974002 x974003)
def laws_FnSplitPlanesTurn.l0 : Nat → List (S26) → List (S26) → Int → Int → Int → Int → List Int → Option (Bool)
 | 0, _, _, _, _, _, _, _ => none
 | k + 1, x4, x5, x6, x974000, x974001, x974002, x974003 => if x6 < (x4.length : Int) then (if 0 ≤ x6 then ((impl_TurnImage.f ((rd_T26 x4 x6).f0) ((rd_T26 x4 x6).f1) ((rd_T26 x4 x6).f2) ((rd_T26 x4 x6).f3) 1).bind fun bt989 => (if x5.length < 2932031007402 then (laws_FnSplitPlanesTurn.l0 k x4 (x5 ++ [(⟨bt989.1, bt989.2.1, bt989.2.2.1, bt989.2.2.2⟩ : S26)]) (wrap64 (x6 + 1)) x974000 x974001 x974002 x974003) else (none))) else (none)) else ((impl_TurnImage.f x974000 x974001 x974002 x974003 1).bind fun bt998 => ((impl_SplitPlanes.f bt998.1 bt998.2.1 bt998.2.2.1 bt998.2.2.2).bind fun t1004 => ((laws_equalImages.f k t1004 x5).bind fun t1007 => (some t1007))))
end
def laws_FnSplitPlanesTurn.f (k : Nat) (l0 : List Int) : Option (Bool) := if (l0.length : Int) > 1048576 then (some true) else ((spec_DrawSplitPlanes.f k l0).bind fun bt967 => ((impl_SplitPlanes.f bt967.1 bt967.2.1 bt967.2.2.1 bt967.2.2.2).bind fun t974 => ((spec_SplitPlanes.f k bt967.1 bt967.2.1 bt967.2.2.1 bt967.2.2.2).bind fun t977 => ((laws_equalImages.f k t974 t977).bind fun t980 => (if t980 = true then (laws_FnSplitPlanesTurn.j0 k t974 ((t974.length : Int) == 0) bt967.1 bt967.2.1 bt967.2.2.1 bt967.2.2.2) else (laws_FnSplitPlanesTurn.j0 k t974 true bt967.1 bt967.2.1 bt967.2.2.1 bt967.2.2.2))))))
theorem laws_FnSplitPlanesTurn.mono_l : ∀ k, (∀ y0 y1 y2 y3 y4 y5, LeO (laws_FnSplitPlanesTurn.j0 k y0 y1 y2 y3 y4 y5) (laws_FnSplitPlanesTurn.j0 (k + 1) y0 y1 y2 y3 y4 y5)) ∧ (∀ y0 y1 y2 y3 y4 y5 y6, LeO (laws_FnSplitPlanesTurn.l0 k y0 y1 y2 y3 y4 y5 y6) (laws_FnSplitPlanesTurn.l0 (k + 1) y0 y1 y2 y3 y4 y5 y6))
 | 0 => ⟨fun _ _ _ _ _ _ r h => by simp [laws_FnSplitPlanesTurn.j0] at h, fun _ _ _ _ _ _ _ r h => by simp [laws_FnSplitPlanesTurn.l0] at h⟩
 | k + 1 => by
  obtain ⟨ih0, ih1⟩ := laws_FnSplitPlanesTurn.mono_l k
  refine ⟨?_, ?_⟩
  all_goals intros
  all_goals first | unfold laws_FnSplitPlanesTurn.j0 | unfold laws_FnSplitPlanesTurn.l0
  all_goals repeat' first | (with_reducible first | exact ih0 _ _ _ _ _ _ | exact ih1 _ _ _ _ _ _ _ | exact laws_equalImages.mono _ _ _ | exact spec_DrawSplitPlanes.mono _ _ | exact spec_SplitPlanes.mono _ _ _ _ _ | exact lR | exact lN | refine lI ?_ ?_ | refine lB ?_ fun _ => ?_) | exact ih0 _ _ _ _ _ _ | exact ih1 _ _ _ _ _ _ _ | exact laws_equalImages.mono _ _ _ | exact spec_DrawSplitPlanes.mono _ _ | exact spec_SplitPlanes.mono _ _ _ _ _ | exact lN | refine lI ?_ ?_ | refine lB ?_ fun _ => ?_
theorem laws_FnSplitPlanesTurn.mono : ∀ a0 k, LeO (laws_FnSplitPlanesTurn.f k a0) (laws_FnSplitPlanesTurn.f (k + 1) a0) := by
 intro a0 k
 obtain ⟨ih0, ih1⟩ := laws_FnSplitPlanesTurn.mono_l k
 unfold laws_FnSplitPlanesTurn.f
 repeat' first | (with_reducible first | exact ih0 _ _ _ _ _ _ | exact ih1 _ _ _ _ _ _ _ | exact laws_equalImages.mono _ _ _ | exact spec_DrawSplitPlanes.mono _ _ | exact spec_SplitPlanes.mono _ _ _ _ _ | exact lR | exact lN | refine lI ?_ ?_ | refine lB ?_ fun _ => ?_) | exact ih0 _ _ _ _ _ _ | exact ih1 _ _ _ _ _ _ _ | exact laws_equalImages.mono _ _ _ | exact spec_DrawSplitPlanes.mono _ _ | exact spec_SplitPlanes.mono _ _ _ _ _ | exact lN | refine lI ?_ ?_ | refine lB ?_ fun _ => ?_
set_option maxHeartbeats 8000000 in
set_option maxRecDepth 100000 in
theorem laws_FnSplitPlanesTurn.calls (k : Nat) (A0 : Option Addr) (c0 : Nat) (l0 : List Int) (r : Bool) (w : World) (hr0 : Kd.C (Kd.int .u8) w A0 l0.length l0) (hc0 : l0.length ≤ c0) (h : laws_FnSplitPlanesTurn.f k l0 = some r) :
  Calls Try.prog 14 #[.slice A0 l0.length c0] w fun e w' => e = .returned (.bool r) ∧ Below w.heap.size w w' := by
 have hu26 := Try.underlying26
 have HR0 := aM hr0
 have HC0 := aM hc0
 clear hr0 hc0
 have HB := aM (Below.refl w.heap.size w)
 unfold laws_FnSplitPlanesTurn.f at h
 have H := h
 clear h
 by_cases c2 : (l0.length : Int) > 1048576
 ·rw [if_pos c2] at H
  have c2b0 : decide (1048576 < (l0.length : Int)) = true := decide_eq_true c2
  have c2b1 : decide (1048576 < l0.length) = true := decide_eq_true (by omega)
  clear c2
  obtain rfl := Option.some.inj H
  go_enter Try.func14, Try.ntmps14
  go_wp2
  go_ret
  exact ⟨qX, by exact qW HB.out⟩
 rw [if_neg c2] at H
 have c2b0 : decide (1048576 < (l0.length : Int)) = false := decide_eq_false c2
 have c2b1 : decide (1048576 < l0.length) = false := decide_eq_false (by omega)
 clear c2
 replace H := Option.bind_eq_some_iff.mp H
 obtain ⟨⟨t967, t968, t969, t970⟩, A30, H⟩ := H
 replace H : ((impl_SplitPlanes.f t967 t968 t969 t970).bind fun t974 => ((spec_SplitPlanes.f k t967 t968 t969 t970).bind fun t977 => ((laws_equalImages.f k t974 t977).bind fun t980 => (if t980 = true then (laws_FnSplitPlanesTurn.j0 k t974 ((t974.length : Int) == 0) t967 t968 t969 t970) else (laws_FnSplitPlanesTurn.j0 k t974 true t967 t968 t969 t970))))) = some r := H
 have A3 := aM A30
 clear A30
 replace H := Option.bind_eq_some_iff.mp H
 obtain ⟨t974, A40, H⟩ := H
 replace H : ((spec_SplitPlanes.f k t967 t968 t969 t970).bind fun t977 => ((laws_equalImages.f k t974 t977).bind fun t980 => (if t980 = true then (laws_FnSplitPlanesTurn.j0 k t974 ((t974.length : Int) == 0) t967 t968 t969 t970) else (laws_FnSplitPlanesTurn.j0 k t974 true t967 t968 t969 t970)))) = some r := H
 have A4 := aM A40
 clear A40
 have HC5 := aM H
 clear H
 go_enter Try.func14, Try.ntmps14
 go_upto_region 5 with (first | ((with_reducible refine gate_callee (f := 39) rfl ?_); refine gL (some 11) Try.func39 #[.slice A0 l0.length c0] ?_; (with_reducible refine (spec_DrawSplitPlanes.calls k _ _ l0 t967 t968 t969 t970 _ ?side1 ?side2 A3.out).mono ?_); (case side1 => exact qC HR0.out); (case side2 => exact HC0.out); rintro e w6 ⟨v971, rfl, ho0, hb⟩; refine ⟨_, rfl, ?_⟩; have HO972 := aM (Kd.Q_lower ho0 (below_size (qW HB.out))); replace HB := bS HB hb; clear hb ho0) | ((with_reducible refine gate_dst (N := 3) rfl ?_); (try (refine gate_guard (by rfl) ?_; dsimp only)); refine bxE (N := 3) (cs := #[.int .i64 0, .int .i64 0, .int .i64 0, .slice none 0 0]) (t := 26) ?_; intro gb973 hg w7 hbox hb; replace HO972 := aM (Kd.Q_below (qQ HO972.out) hb); have BK973 := aM (hbox); have GW973 := gW hg HB; have GE973 := gW hg HB; replace HB := bS HB hb; clear hb hbox hg; obtain ⟨⟨hcz8_0, hcz8_1, hcz8_2, hcz8_3⟩, hfz8_0, hfz8_1, hfz8_2, hfz8_3⟩ := cf4 BK973; obtain ⟨Ao9, co9, eo9, _⟩ := Kd.Q_slice HO972.out; subst eo9) | ((with_reducible refine gate_callee (f := 35) rfl ?_); refine gL (some 13) Try.func35 #[.agg #[.int .i64 t967, .int .i64 t968, .int .i64 t969, .slice Ao9 t970.length co9]] ?_; (with_reducible refine (impl_SplitPlanes.calls t967 t968 t969 _ _ t970 t974 _ ?side1 ?side2 A4.out).mono ?_); (case side1 => refine (Kd.Q_reads' (e := 3) (base := w.heap.size) (ok := fun k_ => True) (n := t970.length) (c := co9) ?_).2.2; exact (by (with_reducible repeat (first | apply Kd.Q_alloc | apply Kd.Q_drewN | apply Kd.Q_drew)); exact (Kd.Q_mono (qT HO972 BK973) (fun _ h_ => h_.1)))); (case side2 => exact (Kd.Q_reads' HO972.out).2.1); rintro e w10 ⟨v975, rfl, ho0, hb⟩; refine ⟨_, rfl, ?_⟩; have HO976 := aM (Kd.S_lower (Kd.S_newB (Kd.S_new' ho0 (Kd.Q_lt (by (with_reducible repeat (first | apply Kd.Q_alloc | apply Kd.Q_drewN | apply Kd.Q_drew)); exact (Kd.Q_mono (qT HO972 BK973) (fun _ h_ => h_.1))))) (g := gb973) (o := .cells #[.int .i64 t967, .int .i64 t968, .int .i64 t969, .slice Ao9 t970.length co9] 26 (0, 0)) (by exact bP BK973.out)) (below_size (qW HB.out))); replace HO972 := aM (Kd.Q_below (by (with_reducible repeat (first | apply Kd.Q_alloc | apply Kd.Q_drewN | apply Kd.Q_drew)); exact (Kd.Q_mono (qT HO972 BK973) (fun _ h_ => h_.1))) hb); replace BK973 := aM (blk_below (g := gb973) (o := .cells #[.int .i64 t967, .int .i64 t968, .int .i64 t969, .slice Ao9 t970.length co9] 26 (0, 0)) (by exact bP BK973.out) hb); replace HB := bS HB hb; clear hb ho0))
 (try simp only [Act.put, List.setIfInBounds_toArray, List.set_cons_zero, List.set_cons_succ])
 go_cut [23] (fun v23 wc => ∃ (kq : Nat) (x23_4 : Bool), v23 = .bool x23_4 ∧ Aside0 (laws_FnSplitPlanesTurn.j0 kq t974 x23_4 t967 t968 t969 t970 = some r) ∧ Aside0 (kq ≤ k) ∧ Aside0 (Kd.S k26 26 wc w.heap.size (fun k_ => some k_ ≠ ((.slice Ao9 t970.length co9) : Value).ownBlock ∧ k_ ≠ gb973) v975 t974) ∧ Aside0 (Kd.Q (Kd.int .i64) 3 wc w.heap.size (fun _ => True) (.slice Ao9 t970.length co9) t970) ∧ Aside0 (wc.heap[gb973]? = some (.cells #[.int .i64 t967, .int .i64 t968, .int .i64 t969, (.slice Ao9 t970.length co9)] 26 (0, 0))) ∧ Aside0 (Below w.heap.size w wc))
 case first =>
  have H := HC5.out
  clear HC5
  replace H := Option.bind_eq_some_iff.mp H
  obtain ⟨t977, A110, H⟩ := H
  replace H : ((laws_equalImages.f k t974 t977).bind fun t980 => (if t980 = true then (laws_FnSplitPlanesTurn.j0 k t974 ((t974.length : Int) == 0) t967 t968 t969 t970) else (laws_FnSplitPlanesTurn.j0 k t974 true t967 t968 t969 t970))) = some r := H
  have A11 := aM A110
  clear A110
  replace H := Option.bind_eq_some_iff.mp H
  obtain ⟨t980, A120, H⟩ := H
  replace H : (if t980 = true then (laws_FnSplitPlanesTurn.j0 k t974 ((t974.length : Int) == 0) t967 t968 t969 t970) else (laws_FnSplitPlanesTurn.j0 k t974 true t967 t968 t969 t970)) = some r := H
  have A12 := aM A120
  clear A120
  by_cases c13 : t980 = true
  ·subst c13
   have H1 : (laws_FnSplitPlanesTurn.j0 k t974 ((t974.length : Int) == 0) t967 t968 t969 t970) = some r := by rw [if_pos rfl] at H; exact H
   clear H
   have H := H1
   clear H1
   have H' := aM H
   clear H
   obtain ⟨⟨hcz14_0, hcz14_1, hcz14_2, hcz14_3⟩, hfz14_0, hfz14_1, hfz14_2, hfz14_3⟩ := cf4 BK973
   go_wp2_with (first | ((with_reducible refine gate_callee (f := 34) rfl ?_); refine gL (some 16) Try.func34 #[.agg #[.int .i64 t967, .int .i64 t968, .int .i64 t969, .slice Ao9 t970.length co9]] ?_; (with_reducible refine (spec_SplitPlanes.calls k t967 t968 t969 _ _ t970 t977 _ ?side1 ?side2 A11.out).mono ?_); (case side1 => exact qC (Kd.Q_reads' HO972.out).2.2); (case side2 => exact (Kd.Q_reads' HO972.out).2.1); rintro e w15 ⟨v978, rfl, ho0, hb⟩; refine ⟨_, rfl, ?_⟩; have HO979 := aM (Kd.S_lower (Kd.S_newB (Kd.S_new' (Kd.S_new' ho0 (Kd.Q_lt (qQ HO972.out))) (Kd.S_lt (by (with_reducible repeat (first | apply Kd.S_alloc | apply Kd.S_drewN | apply Kd.S_drew)); exact HO976.out))) (g := gb973) (o := .cells #[.int .i64 t967, .int .i64 t968, .int .i64 t969, .slice Ao9 t970.length co9] 26 (0, 0)) (qB BK973.out)) (below_size (qW HB.out))); replace HO972 := aM (Kd.Q_below (qQ HO972.out) hb); replace HO976 := aM (Kd.S_elder' (by (with_reducible repeat (first | apply Kd.S_alloc | apply Kd.S_drewN | apply Kd.S_drew)); exact HO976.out) (Kd.S_base ho0) hb); replace BK973 := bB BK973 hb; replace HB := bS HB hb; clear hb ho0; obtain ⟨Ao16, co16, eo16⟩ := Kd.S_slice HO976.out; subst eo16; obtain ⟨Ao17, co17, eo17⟩ := Kd.S_slice HO979.out; subst eo17) | ((with_reducible refine gate_callee (f := 40) rfl ?_); refine gL (some 17) Try.func40 #[.slice Ao16 t974.length co16, .slice Ao17 t977.length co17] ?_; (with_reducible refine (laws_equalImages.calls k _ _ t974 _ _ t977 true _ ?side1 ?side2 ?side3 ?side4 A12.out).mono ?_); (case side1 => exact qC (Kd.S_reads' HO976.out).2.2); (case side2 => exact (Kd.S_reads' HO976.out).2.1); (case side3 => exact qC (Kd.S_reads' HO979.out).2.2); (case side4 => exact (Kd.S_reads' HO979.out).2.1); rintro e w18 ⟨rfl, hb⟩; refine ⟨_, rfl, ?_⟩; replace HO972 := aM (Kd.Q_below (qQ HO972.out) hb); replace HO976 := aM (Kd.S_below (by (with_reducible repeat (first | apply Kd.S_alloc | apply Kd.S_drewN | apply Kd.S_drew)); exact HO976.out) hb); replace HO979 := aM (Kd.S_below (by (with_reducible repeat (first | apply Kd.S_alloc | apply Kd.S_drewN | apply Kd.S_drew)); exact HO979.out) hb); replace BK973 := bB BK973 hb; replace HB := bS HB hb; clear hb))
   go_meet
   case rel => exact ⟨_, (((t974.length : Int) == 0)), qE, H', ⟨by first | omega | exact Nat.le_refl _⟩, ⟨by (with_reducible repeat (first | apply Kd.S_alloc | apply Kd.S_drewN | apply Kd.S_drew)); exact Kd.S_mono HO976.out (fun _ hk => by first | exact ⟨hk.1.1.2, hk.1.2⟩ | (revert hk; simp only [and_imp]; intros; and_intros <;> assumption))⟩, ⟨by (with_reducible repeat (first | apply Kd.Q_alloc | apply Kd.Q_drewN | apply Kd.Q_drew)); exact HO972.out⟩, ⟨by refine qB ?_; exact BK973.out⟩, ⟨by exact qW HB.out⟩⟩
  replace c13 := Bool.eq_false_iff.mpr c13
  subst c13
  have H1 : (laws_FnSplitPlanesTurn.j0 k t974 true t967 t968 t969 t970) = some r := by rw [if_neg (show ¬ (false = true) by decide)] at H; exact H
  clear H
  have H := H1
  clear H1
  have H' := aM H
  clear H
  obtain ⟨⟨hcz19_0, hcz19_1, hcz19_2, hcz19_3⟩, hfz19_0, hfz19_1, hfz19_2, hfz19_3⟩ := cf4 BK973
  go_wp2_with (first | ((with_reducible refine gate_callee (f := 34) rfl ?_); refine gL (some 16) Try.func34 #[.agg #[.int .i64 t967, .int .i64 t968, .int .i64 t969, .slice Ao9 t970.length co9]] ?_; (with_reducible refine (spec_SplitPlanes.calls k t967 t968 t969 _ _ t970 t977 _ ?side1 ?side2 A11.out).mono ?_); (case side1 => exact qC (Kd.Q_reads' HO972.out).2.2); (case side2 => exact (Kd.Q_reads' HO972.out).2.1); rintro e w20 ⟨v978, rfl, ho0, hb⟩; refine ⟨_, rfl, ?_⟩; have HO979 := aM (Kd.S_lower (Kd.S_newB (Kd.S_new' (Kd.S_new' ho0 (Kd.Q_lt (qQ HO972.out))) (Kd.S_lt (by (with_reducible repeat (first | apply Kd.S_alloc | apply Kd.S_drewN | apply Kd.S_drew)); exact HO976.out))) (g := gb973) (o := .cells #[.int .i64 t967, .int .i64 t968, .int .i64 t969, .slice Ao9 t970.length co9] 26 (0, 0)) (qB BK973.out)) (below_size (qW HB.out))); replace HO972 := aM (Kd.Q_below (qQ HO972.out) hb); replace HO976 := aM (Kd.S_elder' (by (with_reducible repeat (first | apply Kd.S_alloc | apply Kd.S_drewN | apply Kd.S_drew)); exact HO976.out) (Kd.S_base ho0) hb); replace BK973 := bB BK973 hb; replace HB := bS HB hb; clear hb ho0; obtain ⟨Ao21, co21, eo21⟩ := Kd.S_slice HO976.out; subst eo21; obtain ⟨Ao22, co22, eo22⟩ := Kd.S_slice HO979.out; subst eo22) | ((with_reducible refine gate_callee (f := 40) rfl ?_); refine gL (some 17) Try.func40 #[.slice Ao21 t974.length co21, .slice Ao22 t977.length co22] ?_; (with_reducible refine (laws_equalImages.calls k _ _ t974 _ _ t977 false _ ?side1 ?side2 ?side3 ?side4 A12.out).mono ?_); (case side1 => exact qC (Kd.S_reads' HO976.out).2.2); (case side2 => exact (Kd.S_reads' HO976.out).2.1); (case side3 => exact qC (Kd.S_reads' HO979.out).2.2); (case side4 => exact (Kd.S_reads' HO979.out).2.1); rintro e w23 ⟨rfl, hb⟩; refine ⟨_, rfl, ?_⟩; replace HO972 := aM (Kd.Q_below (qQ HO972.out) hb); replace HO976 := aM (Kd.S_below (by (with_reducible repeat (first | apply Kd.S_alloc | apply Kd.S_drewN | apply Kd.S_drew)); exact HO976.out) hb); replace HO979 := aM (Kd.S_below (by (with_reducible repeat (first | apply Kd.S_alloc | apply Kd.S_drewN | apply Kd.S_drew)); exact HO979.out) hb); replace BK973 := bB BK973 hb; replace HB := bS HB hb; clear hb))
  go_meet
  case rel => exact ⟨_, (true), qE, H', ⟨by first | omega | exact Nat.le_refl _⟩, ⟨by (with_reducible repeat (first | apply Kd.S_alloc | apply Kd.S_drewN | apply Kd.S_drew)); exact Kd.S_mono HO976.out (fun _ hk => by first | exact ⟨hk.1.1.2, hk.1.2⟩ | (revert hk; simp only [and_imp]; intros; and_intros <;> assumption))⟩, ⟨by (with_reducible repeat (first | apply Kd.Q_alloc | apply Kd.Q_drewN | apply Kd.Q_drew)); exact HO972.out⟩, ⟨by refine qB ?_; exact BK973.out⟩, ⟨by exact qW HB.out⟩⟩
 case rest =>
  clear HC5
  try clear c2
  try clear c2b0
  try clear c2b1
  try clear c13
  try clear hcz14_0 hcz14_1 hcz14_2 hcz14_3 hfz14_0 hfz14_1 hfz14_2 hfz14_3
  try clear hcz19_0 hcz19_1 hcz19_2 hcz19_3 hfz19_0 hfz19_1 hfz19_2 hfz19_3
  try clear hcz8_0 hcz8_1 hcz8_2 hcz8_3 hfz8_0 hfz8_1 hfz8_2 hfz8_3
  obtain ⟨kq, x23_4, rfl, HA, HJ4, HO_4, HO_974003, BK973, HB⟩ := hcut
  cases kq with
  | zero => exact absurd HA.out (by simp [laws_FnSplitPlanesTurn.j0])
  | succ kj4 =>
   have H := HA.out
   clear HA
   simp only [laws_FnSplitPlanesTurn.j0] at H
   by_cases c24 : x23_4 = true
   ·subst c24
    have H1 : ((spec_SplitPlanes.f kj4 t967 t968 t969 t970).bind fun t981 => ((laws_equalImages.f kj4 t974 t981).bind fun t984 => (some t984))) = some r := by rw [if_pos rfl] at H; exact H
    clear H
    have H := H1
    clear H1
    replace H := Option.bind_eq_some_iff.mp H
    obtain ⟨t981, A250, H⟩ := H
    replace H : ((laws_equalImages.f kj4 t974 t981).bind fun t984 => (some t984)) = some r := H
    have A25 := aM A250
    clear A250
    replace H := Option.bind_eq_some_iff.mp H
    obtain ⟨t984, A260, H⟩ := H
    replace H : (some t984) = some r := H
    have A26 := aM A260
    clear A260
    obtain rfl := Option.some.inj H
    obtain ⟨⟨hcz27_0, hcz27_1, hcz27_2, hcz27_3⟩, hfz27_0, hfz27_1, hfz27_2, hfz27_3⟩ := cf4 BK973
    go_wp2_with (first | ((with_reducible refine gate_callee (f := 34) rfl ?_); refine gL (some 26) Try.func34 #[.agg #[.int .i64 t967, .int .i64 t968, .int .i64 t969, .slice Ao9 t970.length co9]] ?_; (with_reducible refine (spec_SplitPlanes.calls kj4 t967 t968 t969 _ _ t970 t981 _ ?side1 ?side2 A25.out).mono ?_); (case side1 => exact qC (Kd.Q_reads' HO_974003.out).2.2); (case side2 => exact (Kd.Q_reads' HO_974003.out).2.1); rintro e w28 ⟨v982, rfl, ho0, hb⟩; refine ⟨_, rfl, ?_⟩; have HO983 := aM (Kd.S_lower (Kd.S_newB (Kd.S_new' (Kd.S_new' ho0 (Kd.S_lt (by (with_reducible repeat (first | apply Kd.S_alloc | apply Kd.S_drewN | apply Kd.S_drew)); exact HO_4.out))) (Kd.Q_lt (qQ HO_974003.out))) (g := gb973) (o := .cells #[.int .i64 t967, .int .i64 t968, .int .i64 t969, .slice Ao9 t970.length co9] 26 (0, 0)) (qB BK973.out)) (below_size (qW HB.out))); replace HO_4 := aM (Kd.S_elder' (by (with_reducible repeat (first | apply Kd.S_alloc | apply Kd.S_drewN | apply Kd.S_drew)); exact HO_4.out) (Kd.S_base ho0) hb); replace HO_974003 := aM (Kd.Q_below (qQ HO_974003.out) hb); replace BK973 := bB BK973 hb; replace HB := bS HB hb; clear hb ho0; obtain ⟨Ao29, co29, eo29⟩ := Kd.S_slice HO_4.out; subst eo29; obtain ⟨Ao30, co30, eo30⟩ := Kd.S_slice HO983.out; subst eo30) | ((with_reducible refine gate_callee (f := 40) rfl ?_); refine gL (some 27) Try.func40 #[.slice Ao29 t974.length co29, .slice Ao30 t981.length co30] ?_; (with_reducible refine (laws_equalImages.calls kj4 _ _ t974 _ _ t981 t984 _ ?side1 ?side2 ?side3 ?side4 A26.out).mono ?_); (case side1 => exact qC (Kd.S_reads' HO_4.out).2.2); (case side2 => exact (Kd.S_reads' HO_4.out).2.1); (case side3 => exact qC (Kd.S_reads' HO983.out).2.2); (case side4 => exact (Kd.S_reads' HO983.out).2.1); rintro e w31 ⟨rfl, hb⟩; refine ⟨_, rfl, ?_⟩; replace HO_4 := aM (Kd.S_below (by (with_reducible repeat (first | apply Kd.S_alloc | apply Kd.S_drewN | apply Kd.S_drew)); exact HO_4.out) hb); replace HO_974003 := aM (Kd.Q_below (qQ HO_974003.out) hb); replace HO983 := aM (Kd.S_below (by (with_reducible repeat (first | apply Kd.S_alloc | apply Kd.S_drewN | apply Kd.S_drew)); exact HO983.out) hb); replace BK973 := bB BK973 hb; replace HB := bS HB hb; clear hb))
    go_ret
    exact ⟨qX, by exact qW HB.out⟩
   replace c24 := Bool.eq_false_iff.mpr c24
   subst c24
   have H1 : (laws_FnSplitPlanesTurn.l0 kj4 t974 (([] : List (S26))) 0 t967 t968 t969 t970) = some r := by rw [if_neg (show ¬ (false = true) by decide)] at H; exact H
   clear H
   have H := H1
   clear H1
   obtain ⟨y985, hy985⟩ : ∃ y_ : List (S26), y_ = (([] : List (S26))) := ⟨_, rfl⟩
   replace H : (laws_FnSplitPlanesTurn.l0 kj4 t974 y985 0 t967 t968 t969 t970) = some r := rY hy985 H
   have Ny985 := aM hy985
   clear hy985
   have H' := aM H
   clear H
   go_wp2_with (first | ((with_reducible refine gate_dst (N := 28) rfl ?_); (try (refine gate_guard (by rfl) ?_; dsimp only)); refine Kd.S_lit k26 _ 26 ?hg (N := 28) ?hd (xs := ([] : List (S26))) (inner := []) (ok := fun _ => True) (okp := fun _ => True) ?hr ?hp (fun _ hk => hk) trivial (Below.refl _ _) (Nat.le_refl _) (by simp) ?_; (case hd => rfl); (case hg => rfl); (case hr => first | (go_simp; done) | (go_simp; rfl)); (case hp => exact (Reps.none _ _)); intro v986 w32 ho33 hb hg_ hnew_; clear hg_ hnew_; (first | rw [← Ny985.out] at ho33 | (simp only [Int.reduceToNat] at ho33; rw [← Ny985.out] at ho33)); have HO987 := aM (Kd.S_lower (Kd.S_newB (Kd.S_new' (Kd.S_new' ho33 (Kd.S_lt (by (with_reducible repeat (first | apply Kd.S_alloc | apply Kd.S_drewN | apply Kd.S_drew)); exact HO_4.out))) (Kd.Q_lt (qQ HO_974003.out))) (g := gb973) (o := .cells #[.int .i64 t967, .int .i64 t968, .int .i64 t969, .slice Ao9 t970.length co9] 26 (0, 0)) (qB BK973.out)) (below_size (qW HB.out))); replace HO_4 := aM (Kd.S_elder' (by (with_reducible repeat (first | apply Kd.S_alloc | apply Kd.S_drewN | apply Kd.S_drew)); exact HO_4.out) (Kd.S_base ho33) hb); replace HO_974003 := aM (Kd.Q_below (qQ HO_974003.out) hb); replace BK973 := bB BK973 hb; replace HB := bS HB hb; clear hb ho33))
   go_loopg [5, 6] kj4 (fun kq v5 v6 w' => ∃ (x5_2 : List (S26)) (x6_2 : Int), v6 = .int .i64 x6_2 ∧ Aside0 (laws_FnSplitPlanesTurn.l0 kq t974 x5_2 x6_2 t967 t968 t969 t970 = some r) ∧ Aside0 (kq ≤ kj4) ∧ Aside0 (Kd.S k26 26 w' w.heap.size (fun k_ => some k_ ≠ (v5 : Value).ownBlock ∧ some k_ ≠ ((.slice Ao9 t970.length co9) : Value).ownBlock ∧ k_ ≠ gb973) v975 t974) ∧ Aside0 (Kd.S k26 26 w' w.heap.size (fun k_ => some k_ ≠ (v975 : Value).ownBlock ∧ some k_ ≠ ((.slice Ao9 t970.length co9) : Value).ownBlock ∧ k_ ≠ gb973) v5 x5_2) ∧ Aside0 (Kd.Q (Kd.int .i64) 3 w' w.heap.size (fun _ => True) (.slice Ao9 t970.length co9) t970) ∧ Aside0 (w'.heap[gb973]? = some (.cells #[.int .i64 t967, .int .i64 t968, .int .i64 t969, (.slice Ao9 t970.length co9)] 26 (0, 0))) ∧ Aside0 (Below w.heap.size w w'))
   case atStart => exact ⟨(y985), (0), qE, H', ⟨Nat.le_refl _⟩, ⟨by (with_reducible repeat (first | apply Kd.S_alloc | apply Kd.S_drewN | apply Kd.S_drew)); exact Kd.S_mono HO_4.out (fun _ hk => ⟨hk.2, ⟨hk.1.1, hk.1.2⟩⟩)⟩, ⟨by (with_reducible repeat (first | apply Kd.S_alloc | apply Kd.S_drewN | apply Kd.S_drew)); exact Kd.S_mono HO987.out (fun _ hk => ⟨hk.1.1.2, ⟨hk.1.2, hk.2⟩⟩)⟩, ⟨by (with_reducible repeat (first | apply Kd.Q_alloc | apply Kd.Q_drewN | apply Kd.Q_drew)); exact HO_974003.out⟩, ⟨by refine qB ?_; exact BK973.out⟩, ⟨by exact qW HB.out⟩⟩
   case round =>
    clear H'
    try clear c2
    try clear c2b0
    try clear c2b1
    try clear c13
    try clear c24
    try clear hcz14_0 hcz14_1 hcz14_2 hcz14_3 hfz14_0 hfz14_1 hfz14_2 hfz14_3
    try clear hcz19_0 hcz19_1 hcz19_2 hcz19_3 hfz19_0 hfz19_1 hfz19_2 hfz19_3
    try clear hcz27_0 hcz27_1 hcz27_2 hcz27_3 hfz27_0 hfz27_1 hfz27_2 hfz27_3
    try clear hcz8_0 hcz8_1 hcz8_2 hcz8_3 hfz8_0 hfz8_1 hfz8_2 hfz8_3
    obtain ⟨x5_2, x6_2, rfl, HA, HK2, HO_4, HO_5, HO_974003, BK973, HB⟩ := hrel
    cases gk with
    | zero => exact absurd HA.out (by simp [laws_FnSplitPlanesTurn.l0])
    | succ k2 =>
     have H := HA.out
     clear HA
     simp only [laws_FnSplitPlanesTurn.l0] at H
     by_cases c34 : x6_2 < (t974.length : Int)
     rotate_left
     ·rw [if_neg c34] at H
      have c34b0 : decide (x6_2 < (t974.length : Int)) = false := decide_eq_false c34
      clear c34
      replace H := Option.bind_eq_some_iff.mp H
      obtain ⟨⟨t998, t999, t1000, t1001⟩, A420, H⟩ := H
      replace H : ((impl_SplitPlanes.f t998 t999 t1000 t1001).bind fun t1004 => ((laws_equalImages.f k2 t1004 x5_2).bind fun t1007 => (some t1007))) = some r := H
      have A42 := aM A420
      clear A420
      replace H := Option.bind_eq_some_iff.mp H
      obtain ⟨t1004, A430, H⟩ := H
      replace H : ((laws_equalImages.f k2 t1004 x5_2).bind fun t1007 => (some t1007)) = some r := H
      have A43 := aM A430
      clear A430
      replace H := Option.bind_eq_some_iff.mp H
      obtain ⟨t1007, A440, H⟩ := H
      replace H : (some t1007) = some r := H
      have A44 := aM A440
      clear A440
      obtain rfl := Option.some.inj H
      obtain ⟨Ao45, co45, eo45⟩ := Kd.S_slice HO_4.out
      subst eo45
      obtain ⟨⟨hcz46_0, hcz46_1, hcz46_2, hcz46_3⟩, hfz46_0, hfz46_1, hfz46_2, hfz46_3⟩ := cf4 BK973
      go_wp2_with (first | ((with_reducible refine gate_callee (f := 42) rfl ?_); refine gL (some 44) Try.func42 #[.agg #[.int .i64 t967, .int .i64 t968, .int .i64 t969, .slice Ao9 t970.length co9], .int .i64 1] ?_; (with_reducible refine (impl_TurnImage.calls t967 t968 t969 _ _ t970 1 t998 t999 t1000 t1001 _ ?side1 ?side2 A42.out).mono ?_); (case side1 => exact qC (Kd.Q_reads' HO_974003.out).2.2); (case side2 => exact (Kd.Q_reads' HO_974003.out).2.1); rintro e w47 ⟨v1002, rfl, ho0, hb⟩; refine ⟨_, rfl, ?_⟩; replace HO_4 := aM (Kd.S_elder' (by (with_reducible repeat (first | apply Kd.S_alloc | apply Kd.S_drewN | apply Kd.S_drew)); exact HO_4.out) (Kd.R_base ho0) hb); replace HO_5 := aM (Kd.S_elder' (by (with_reducible repeat (first | apply Kd.S_alloc | apply Kd.S_drewN | apply Kd.S_drew)); exact HO_5.out) (Kd.R_base ho0) hb); have HO1003 := aM (Kd.R_lower (Kd.R_new' ho0 (Kd.Q_lt (qQ HO_974003.out))) (below_size (qW HB.out))); replace HO_974003 := aM (Kd.Q_elder' (qQ HO_974003.out) (Kd.R_base ho0) hb); replace BK973 := bB BK973 hb; replace HB := bS HB hb; clear hb ho0; obtain ⟨Ao48, co48, rfl⟩ := sL HO1003) | ((with_reducible refine gate_callee (f := 35) rfl ?_); refine gL (some 45) Try.func35 #[.agg #[.int .i64 t998, .int .i64 t999, .int .i64 t1000, .slice Ao48 t1001.length co48]] ?_; (with_reducible refine (impl_SplitPlanes.calls t998 t999 t1000 _ _ t1001 t1004 _ ?side1 ?side2 A43.out).mono ?_); (case side1 => exact qC (Kd.R_reads' HO1003.out).2.2); (case side2 => exact (Kd.R_reads' HO1003.out).2.1); rintro e w49 ⟨v1005, rfl, ho0, hb⟩; refine ⟨_, rfl, ?_⟩; have HO1006 := aM (Kd.S_lower (Kd.S_newB (Kd.S_new' (Kd.S_new' (Kd.S_new' (Kd.S_new' ho0 (Kd.S_lt (by (with_reducible repeat (first | apply Kd.S_alloc | apply Kd.S_drewN | apply Kd.S_drew)); exact HO_4.out))) (Kd.S_lt (by (with_reducible repeat (first | apply Kd.S_alloc | apply Kd.S_drewN | apply Kd.S_drew)); exact HO_5.out))) (Kd.Q_lt (qQ HO_974003.out))) (Kd.R_lt (qR HO1003.out))) (g := gb973) (o := .cells #[.int .i64 t967, .int .i64 t968, .int .i64 t969, .slice Ao9 t970.length co9] 26 (0, 0)) (qB BK973.out)) (below_size (qW HB.out))); replace HO_4 := aM (Kd.S_elder' (by (with_reducible repeat (first | apply Kd.S_alloc | apply Kd.S_drewN | apply Kd.S_drew)); exact HO_4.out) (Kd.S_base ho0) hb); replace HO_5 := aM (Kd.S_elder' (by (with_reducible repeat (first | apply Kd.S_alloc | apply Kd.S_drewN | apply Kd.S_drew)); exact HO_5.out) (Kd.S_base ho0) hb); replace HO_974003 := aM (Kd.Q_below (qQ HO_974003.out) hb); replace HO1003 := aM (Kd.R_below (qR HO1003.out) hb); replace BK973 := bB BK973 hb; replace HB := bS HB hb; clear hb ho0; obtain ⟨Ao50, co50, eo50⟩ := Kd.S_slice HO1006.out; subst eo50; obtain ⟨Ao51, co51, eo51⟩ := Kd.S_slice HO_5.out; subst eo51) | ((with_reducible refine gate_callee (f := 40) rfl ?_); refine gL (some 47) Try.func40 #[.slice Ao50 t1004.length co50, .slice Ao51 x5_2.length co51] ?_; (with_reducible refine (laws_equalImages.calls k2 _ _ t1004 _ _ x5_2 t1007 _ ?side1 ?side2 ?side3 ?side4 A44.out).mono ?_); (case side1 => exact qC (Kd.S_reads' HO1006.out).2.2); (case side2 => exact (Kd.S_reads' HO1006.out).2.1); (case side3 => exact qC (Kd.S_reads' HO_5.out).2.2); (case side4 => exact (Kd.S_reads' HO_5.out).2.1); rintro e w52 ⟨rfl, hb⟩; refine ⟨_, rfl, ?_⟩; replace HO_4 := aM (Kd.S_below (by (with_reducible repeat (first | apply Kd.S_alloc | apply Kd.S_drewN | apply Kd.S_drew)); exact HO_4.out) hb); replace HO_5 := aM (Kd.S_below (by (with_reducible repeat (first | apply Kd.S_alloc | apply Kd.S_drewN | apply Kd.S_drew)); exact HO_5.out) hb); replace HO_974003 := aM (Kd.Q_below (qQ HO_974003.out) hb); replace HO1003 := aM (Kd.R_below (qR HO1003.out) hb); replace HO1006 := aM (Kd.S_below (by (with_reducible repeat (first | apply Kd.S_alloc | apply Kd.S_drewN | apply Kd.S_drew)); exact HO1006.out) hb); replace BK973 := bB BK973 hb; replace HB := bS HB hb; clear hb))
      go_ret
      exact ⟨qX, by exact qW HB.out⟩
     rw [if_pos c34] at H
     have c34b0 : decide (x6_2 < (t974.length : Int)) = true := decide_eq_true c34
     clear c34
     replace H := iD H
     obtain ⟨c35b0, H⟩ := H
     replace H := Option.bind_eq_some_iff.mp H
     obtain ⟨⟨t989, t990, t991, t992⟩, A360, H⟩ := H
     replace H : (if x5_2.length < 2932031007402 then (laws_FnSplitPlanesTurn.l0 k2 t974 (x5_2 ++ [(⟨t989, t990, t991, t992⟩ : S26)]) (wrap64 (x6_2 + 1)) t967 t968 t969 t970) else (none)) = some r := H
     have A36 := aM A360
     clear A360
     replace H := iS H
     obtain ⟨c37, H⟩ := H
     have LMc37 := aM c37
     clear c37
     obtain ⟨y995, hy995⟩ : ∃ y_ : List (S26), y_ = (x5_2 ++ [(⟨t989, t990, t991, t992⟩ : S26)]) := ⟨_, rfl⟩
     replace H : (laws_FnSplitPlanesTurn.l0 k2 t974 y995 (wrap64 (x6_2 + 1)) t967 t968 t969 t970) = some r := rY hy995 H
     have Ny995 := aM hy995
     clear hy995
     have H' := aM H
     clear H
     obtain ⟨Ao38, co38, eo38⟩ := Kd.S_slice HO_4.out
     subst eo38
     have p988 : 0 ≤ (x6_2 : Int) := oD
     have q988 : x6_2 < (t974.length : Int) := oD
     obtain ⟨ad988, A988_3, c988_3, e988, hx988_0, hx988_1, hx988_2, hx988_3, hl988_3, hi988_3⟩ := at_T26 (Kd.S_reads' HO_4.out).2.2 x6_2 p988 q988
     cases e988
     obtain ⟨ce988, hce988, hMe988, hcc988⟩ := Kd.S_get HO_4.out z26 x6_2 p988 (by first | exact q988 | exact oD | (have e_ := (Kd.S_reads' HO_4.out).1; omega))
     obtain ⟨ve988_3, rfl, ge988_3⟩ := k26_openM hMe988
     have hv988_3 := hcc988 3 _ rfl
     rw [add_field _ _ 3 (by omega)] at hv988_3
     replace hv988_3 := Option.some.inj (hv988_3.symm.trans hx988_3)
     rw [hv988_3] at ge988_3
     have HL988_3 := aM (show Kd.R (Kd.int .i64) 3 _ _ _ _ ((rd_T26 t974 x6_2).f3) from ge988_3)
     clear hv988_3 ge988_3
     clear hcc988 hce988
     have HR988_3 := aM hi988_3
     have HC988_3 := aM hl988_3
     clear hi988_3 hl988_3
     replace p988 := eq_true p988
     replace q988 := eq_true q988
     go_wp2_with (first | ((with_reducible refine gate_callee (f := 42) rfl ?_); refine gL (some 40) Try.func42 #[.agg #[.int .i64 ((rd_T26 t974 x6_2).f0), .int .i64 ((rd_T26 t974 x6_2).f1), .int .i64 ((rd_T26 t974 x6_2).f2), .slice A988_3 ((rd_T26 t974 x6_2).f3).length c988_3], .int .i64 1] ?_; (with_reducible refine (impl_TurnImage.calls ((rd_T26 t974 x6_2).f0) ((rd_T26 t974 x6_2).f1) ((rd_T26 t974 x6_2).f2) _ _ ((rd_T26 t974 x6_2).f3) 1 t989 t990 t991 t992 _ ?side1 ?side2 A36.out).mono ?_); (case side1 => repeat (first | exact (by repeat (first | (with_reducible exact HR988_3.out) | (with_reducible refine Kd.C_alloc ?_ _) | (with_reducible refine Kd.C_drewN ?_ _) | (with_reducible refine Kd.C_drew ?_) | exact HR988_3.out)) | (with_reducible refine Kd.C_alloc ?_ _) | (with_reducible refine Kd.C_drewN ?_ _) | (with_reducible refine Kd.C_drew ?_))); (case side2 => exact HC988_3.out); rintro e w39 ⟨v993, rfl, ho0, hb⟩; refine ⟨_, rfl, ?_⟩; replace HO_4 := aM (Kd.S_elder' (by (with_reducible repeat (first | apply Kd.S_alloc | apply Kd.S_drewN | apply Kd.S_drew)); exact HO_4.out) (Kd.R_base ho0) hb); replace HO_5 := aM (Kd.S_elder' (by (with_reducible repeat (first | apply Kd.S_alloc | apply Kd.S_drewN | apply Kd.S_drew)); exact HO_5.out) (Kd.R_base ho0) hb); have HO994 := aM (Kd.R_lower (Kd.R_new' (Kd.R_new' ho0 (Kd.Q_lt (qQ HO_974003.out))) (Kd.R_lt (qR HL988_3.out))) (below_size (qW HB.out))); replace HO_974003 := aM (Kd.Q_elder' (qQ HO_974003.out) (Kd.R_base ho0) hb); replace HL988_3 := aM (Kd.R_elder' (qR HL988_3.out) (Kd.R_base ho0) hb); replace BK973 := bB BK973 hb; replace HR988_3 := aM (Kd.C_below (by repeat (first | (with_reducible exact HR988_3.out) | (with_reducible refine Kd.C_alloc ?_ _) | (with_reducible refine Kd.C_drewN ?_ _) | (with_reducible refine Kd.C_drew ?_) | exact HR988_3.out)) hb); replace HB := bS HB hb; clear hb ho0; obtain ⟨Ao41, co41, rfl⟩ := sL HO994) | ((with_reducible refine gate_builtin (b := .append) (xs := #[.tmp 35, .tmp 41]) rfl ?_); (try (refine gate_guard (by rfl) ?_; dsimp only)); at_builtin; refine Kd.S_append k26 (w0 := w) w.heap.size rfl (.tmp 35) (.tmp 41) 41 26 (.agg #[(.int .i64 0), (.int .i64 0), (.int .i64 0), (.slice none 0 0)]) 48 rfl Try.underlying41 info26 rfl (by decide) (by omega) u5 x5_2 (⟨t989, t990, t991, t992⟩ : S26) [.int .i64 t989, .int .i64 t990, .int .i64 t991, .slice Ao41 t992.length co41] (fun k_ => some k_ ≠ (.slice (some ad988) t974.length co38 : Value).ownBlock ∧ some k_ ≠ (.slice Ao9 t970.length co9 : Value).ownBlock ∧ k_ ≠ gb973) (fun k_ => some k_ = (.slice Ao41 t992.length co41 : Value).ownBlock) rfl rfl ?aP (fun k_ hk_ => ((Kd.R_mono (ok' := fun k_ => ((fun k_ => some k_ ≠ (.slice (some ad988) t974.length co38 : Value).ownBlock ∧ some k_ ≠ (.slice Ao9 t970.length co9 : Value).ownBlock ∧ k_ ≠ gb973)) k_ ∧ some k_ ≠ (u5 : Value).ownBlock) (Kd.R_types (Kd.R_apart' (Kd.R_apart' (HO994.out) (Kd.S_typed HO_4.out) (by decide)) (Kd.S_typed HO_5.out) (by decide)) BK973.out (by decide)) (fun k_ hk => ⟨⟨hk.1.1.2, ⟨hk.1.1.1.1.2, hk.2⟩⟩, hk.1.2⟩))).1 k_ hk_.symm) ?aF ?aO ?aB ?aS ?aL ?_; (case aP => exact k26_mkM _ _ _ (⟨t989, t990, t991, t992⟩ : S26) (Kd.R_mono (Kd.R_tight rfl (Kd.R_mono (ok' := fun k_ => ((fun k_ => some k_ ≠ (.slice (some ad988) t974.length co38 : Value).ownBlock ∧ some k_ ≠ (.slice Ao9 t970.length co9 : Value).ownBlock ∧ k_ ≠ gb973)) k_ ∧ some k_ ≠ (u5 : Value).ownBlock) (Kd.R_types (Kd.R_apart' (Kd.R_apart' (HO994.out) (Kd.S_typed HO_4.out) (by decide)) (Kd.S_typed HO_5.out) (by decide)) BK973.out (by decide)) (fun k_ hk => ⟨⟨hk.1.1.2, ⟨hk.1.1.1.1.2, hk.2⟩⟩, hk.1.2⟩))) (fun _ h_ => h_))); (case aB => exact (qW HB.out)); (case aF => exact (fun k_ hk => ⟨Kd.fresh' (Kd.S_lt (by (with_reducible repeat (first | apply Kd.S_alloc | apply Kd.S_drewN | apply Kd.S_drew)); exact HO_4.out)) k_ hk, Kd.fresh' (Kd.Q_lt (qQ HO_974003.out)) k_ hk, Kd.freshB (g := gb973) (o := .cells #[.int .i64 t967, .int .i64 t968, .int .i64 t969, .slice Ao9 t970.length co9] 26 (0, 0)) (qB BK973.out) k_ hk⟩)); (case aO => exact (by (with_reducible repeat (first | apply Kd.S_alloc | apply Kd.S_drewN | apply Kd.S_drew)); exact Kd.S_mono HO_5.out (fun k_ hk => ⟨⟨hk.1.1, ⟨hk.1.2.1, hk.1.2.2⟩⟩, fun e_ => hk.2 e_⟩))); (case aS => exact (below_size (qW HB.out))); (case aL => have := LMc37.out; omega); intro v996 w40 ho hb hg hat; rw [← Ny995.out] at ho; replace HO_4 := aM (Kd.S_after (ok := (fun k_ => some k_ ≠ (.slice Ao9 t970.length co9 : Value).ownBlock ∧ some k_ ≠ (.slice Ao41 t992.length co41 : Value).ownBlock ∧ k_ ≠ gb973)) (by (with_reducible repeat (first | apply Kd.S_alloc | apply Kd.S_drewN | apply Kd.S_drew)); exact Kd.S_mono HO_4.out (fun _ hk => ⟨⟨hk.1.2.1, ⟨hk.2, hk.1.2.2⟩⟩, hk.1.1⟩)) hg hat); replace HO_974003 := aM (Kd.Q_over' (qQ HO_974003.out) (Kd.S_typed (by (with_reducible repeat (first | apply Kd.S_alloc | apply Kd.S_drewN | apply Kd.S_drew)); exact HO_5.out)) (by decide) hg); replace BK973 := aM (blk_grown (g := gb973) (o := .cells #[.int .i64 t967, .int .i64 t968, .int .i64 t969, .slice Ao9 t970.length co9] 26 (0, 0)) (qB BK973.out) hg (Kd.S_away HO_5.out (fun _ hk => hk.1.2.2))); replace HL988_3 := aM (Kd.R_after (ok := (fun k_ => some k_ ≠ (.slice (some ad988) t974.length co38 : Value).ownBlock ∧ some k_ ≠ (.slice Ao9 t970.length co9 : Value).ownBlock ∧ some k_ ≠ (.slice Ao41 t992.length co41 : Value).ownBlock ∧ k_ ≠ gb973)) (by refine qR ?_; exact Kd.R_mono HL988_3.out (fun _ hk => ⟨⟨hk.1.2, ⟨hk.1.1.2.1, ⟨hk.2, hk.1.1.2.2⟩⟩⟩, hk.1.1.1⟩)) hg hat); replace HB := aM (hb); have HO997 := aM (ho); clear HO_5 HO994; clear ho hb hg hat))
     go_roundg k2
     case measure => have := HJ4.out; have := HK2.out; omega
     case rel => exact ⟨(y995), (wrap64 (x6_2 + 1)), qE, H', ⟨by have := HJ4.out; have := HK2.out; omega⟩, ⟨by (with_reducible repeat (first | apply Kd.S_alloc | apply Kd.S_drewN | apply Kd.S_drew)); exact Kd.S_mono HO_4.out (fun _ hk => ⟨hk.2, ⟨hk.1.1, hk.1.2.2⟩⟩)⟩, ⟨by (with_reducible repeat (first | apply Kd.S_alloc | apply Kd.S_drewN | apply Kd.S_drew)); exact HO997.out⟩, ⟨by (with_reducible repeat (first | apply Kd.Q_alloc | apply Kd.Q_drewN | apply Kd.Q_drew)); exact Kd.Q_mono HO_974003.out (fun _ hk => trivial)⟩, ⟨by refine qB ?_; exact BK973.out⟩, ⟨by exact qW HB.out⟩⟩
def laws_FnSplitPlanesTurn.Pure : Prop := ∀ (l0 : List Int), l0.length ≤ maxLen → l0.length * 1 ≤ 140737488351232 → (∀ x ∈ l0, (Lit.int .u8 x).wf = true) → ∃ k, laws_FnSplitPlanesTurn.f k l0 = some true
theorem laws_FnSplitPlanesTurn.walk (P : laws_FnSplitPlanesTurn.Pure) (a0 : Option Addr) (len0 cap0 : Nat) (z0 : List Int) (w : World) (w0 : (a0 = none ∧ len0 = 0 ∧ cap0 = 0 ∧ z0 = []) ∨ ∃ x, a0 = some x ∧ len0 ≤ cap0 ∧ cap0 ≤ maxLen ∧ z0.length = cap0 ∧ (∀ i, i < z0.length → w.cell? (x.add i) = some (.int .u8 (z0.getD i 0))) ∧ ∀ n ∈ z0, (Lit.int .u8 n).wf = true) (y0 : len0 * 1 ≤ 140737488351232) :
  Calls Try.prog 14 #[.slice a0 len0 cap0] w fun e w' => e = .returned (.bool true) ∧ Below w.heap.size w w' := by
 obtain ⟨l0, rfl, hr0, hm0, hw0, hc0⟩ := ReadsInt.ofRowC w0
 obtain ⟨k, h⟩ := P l0 hm0 y0 hw0
 refine (laws_FnSplitPlanesTurn.calls k _ _ l0 true w (Kd.C_of_reads (d := (0 : Int)) (h1 := fun _ => rfl) hr0) hc0 h).mono ?_
 rintro e w' ⟨rfl, hd⟩
 exact ⟨rfl, hd⟩
end Go.Proofs.Ytnamhlcdlbjcfaa.P
