/- Contracts and row, written by a program of this place out of the translation: the call answers true and its argument reads as before, for every input; no condition. -/
import Derived.Test.YteeeedmmcdlhjaaK0
import Derived.Test.YteeeedmmcdlhjaaK1
namespace Go.Proofs.Yteeeedmmcdlhjaa.P
open Go.RowKit Go.Proofs.YteeeedmmcdlhjaaW.PrintWords Go.Proofs.YteeeedmmcdlhjaaW.PrintLast Go.Proofs.YteeeedmmcdlhjaaW.PrintMore
attribute [local go_sem] max2_int min2_int max_two min_two max_three min_three max_four min_four   -- for this text's walks alone
set_option linter.unusedVariables false
set_option linter.unusedSimpArgs false
mutual
def spec_SplitPlanes.l0 : Nat → List (S27) → Int → Int → Int → Int → List Int → Option ((List (S27)))
 | 0, _, _, _, _, _, _ => none
 | k + 1, x3, x4, x117000, x117001, x117002, x117003 => if x4 < x117002 then ((spec_newImage.f x117000 x117001 1).bind fun bt121 => (spec_SplitPlanes.l1 k x3 x4 0 x117000 x117001 x117002 x117003 bt121.1 bt121.2.1 bt121.2.2.1 bt121.2.2.2)) else (some x3)
def spec_SplitPlanes.l1 : Nat → List (S27) → Int → Int → Int → Int → Int → List Int → Int → Int → Int → List Int → Option ((List (S27)))
 | 0, _, _, _, _, _, _, _, _, _, _, _ => none
 | k + 1, x3, x4, x6, x117000, x117001, x117002, x117003, x128000, x128001, x128002, x128003 => if x6 < (x128003.length : Int) then (if 0 ≤ (wrap64 ((wrap64 (x6 * x117002)) + x4)) then (if (wrap64 ((wrap64 (x6 * x117002)) + x4)) < (x117003.length : Int) then (if 0 ≤ x6 then (spec_SplitPlanes.l1 k x3 x4 (wrap64 (x6 + 1)) x117000 x117001 x117002 x117003 x128000 x128001 x128002 (x128003.set (x6 : Int).toNat (rd x117003 (wrap64 ((wrap64 (x6 * x117002)) + x4))))) else (none)) else (none)) else (none)) else (if x3.length < 2932031007402 then (spec_SplitPlanes.l0 k (x3 ++ [(⟨x128000, x128001, x128002, x128003⟩ : S27)]) (wrap64 (x4 + 1)) x117000 x117001 x117002 x117003) else (none))
end
def spec_SplitPlanes.f (k : Nat) (a0_0 : Int) (a0_1 : Int) (a0_2 : Int) (l0_3 : List Int) : Option ((List (S27))) := (spec_validImage.f k a0_0 a0_1 a0_2 l0_3).bind fun t120 => (if t120 = true then (spec_SplitPlanes.l0 k (([] : List (S27))) 0 a0_0 a0_1 a0_2 l0_3) else (some ([] : List (S27))))
theorem spec_SplitPlanes.mono_l : ∀ k, (∀ y0 y1 y2 y3 y4 y5, LeO (spec_SplitPlanes.l0 k y0 y1 y2 y3 y4 y5) (spec_SplitPlanes.l0 (k + 1) y0 y1 y2 y3 y4 y5)) ∧ (∀ y0 y1 y2 y3 y4 y5 y6 y7 y8 y9 y10, LeO (spec_SplitPlanes.l1 k y0 y1 y2 y3 y4 y5 y6 y7 y8 y9 y10) (spec_SplitPlanes.l1 (k + 1) y0 y1 y2 y3 y4 y5 y6 y7 y8 y9 y10))
 | 0 => ⟨fun _ _ _ _ _ _ r h => by simp [spec_SplitPlanes.l0] at h, fun _ _ _ _ _ _ _ _ _ _ _ r h => by simp [spec_SplitPlanes.l1] at h⟩
 | k + 1 => by
  obtain ⟨ih0, ih1⟩ := spec_SplitPlanes.mono_l k
  refine ⟨?_, ?_⟩
  all_goals intros
  all_goals first | unfold spec_SplitPlanes.l0 | unfold spec_SplitPlanes.l1
  all_goals repeat' first | (with_reducible first | exact ih0 _ _ _ _ _ _ | exact ih1 _ _ _ _ _ _ _ _ _ _ _ | exact spec_validImage.mono _ _ _ _ _ | exact lR | exact lN | refine lI ?_ ?_ | refine lB ?_ fun _ => ?_) | exact ih0 _ _ _ _ _ _ | exact ih1 _ _ _ _ _ _ _ _ _ _ _ | exact spec_validImage.mono _ _ _ _ _ | exact lN | refine lI ?_ ?_ | refine lB ?_ fun _ => ?_
theorem spec_SplitPlanes.mono : ∀ a0 a1 a2 a3 k, LeO (spec_SplitPlanes.f k a0 a1 a2 a3) (spec_SplitPlanes.f (k + 1) a0 a1 a2 a3) := by
 intro a0 a1 a2 a3 k
 obtain ⟨ih0, ih1⟩ := spec_SplitPlanes.mono_l k
 unfold spec_SplitPlanes.f
 repeat' first | (with_reducible first | exact ih0 _ _ _ _ _ _ | exact ih1 _ _ _ _ _ _ _ _ _ _ _ | exact spec_validImage.mono _ _ _ _ _ | exact lR | exact lN | refine lI ?_ ?_ | refine lB ?_ fun _ => ?_) | exact ih0 _ _ _ _ _ _ | exact ih1 _ _ _ _ _ _ _ _ _ _ _ | exact spec_validImage.mono _ _ _ _ _ | exact lN | refine lI ?_ ?_ | refine lB ?_ fun _ => ?_
def spec_SplitPlanes.T11 : Bool × List (List Nat × List Nat) := (true, [([], []), ([0], [0]), ([], []), ([], []), ([3], [3]), ([], []), ([], []), ([6], [6]), ([5, 7], [5, 7]), ([], []), ([8, 9], [8, 9]), ([4, 10], [4, 10]), ([11], [11]), ([1, 2, 0, 1, 2, 3, 4, 5, 6, 7, 8, 9, 10, 11, 12], [1, 2]), ([13, 12, 0, 1, 2, 3, 4, 5, 6, 7, 8, 9, 10, 11, 12], [12, 13])])
def spec_SplitPlanes.B11 : List Nat := [0, 1, 0, 0, 8, 0, 0, 64, 224, 0, 992, 2040, 4088, 8191, 16383]
theorem spec_SplitPlanes.tab11 : rtab .any (opsOf Try.f43 11) = spec_SplitPlanes.T11 := by kernel_rfl
theorem spec_SplitPlanes.bits11 : waitsOk spec_SplitPlanes.T11.2 spec_SplitPlanes.B11 = true := by kernel_rfl
set_option maxHeartbeats 8000000 in
set_option maxRecDepth 100000 in
theorem spec_SplitPlanes.calls (k : Nat) (a0_0 : Int) (a0_1 : Int) (a0_2 : Int) (A0_3 : Option Addr) (c0_3 : Nat) (l0_3 : List Int) (r : List (S27)) (w : World) (hr0_3 : Kd.C (Kd.int .i64) w A0_3 l0_3.length l0_3) (hc0_3 : l0_3.length ≤ c0_3) (h : spec_SplitPlanes.f k a0_0 a0_1 a0_2 l0_3 = some r) :
  Calls Try.prog 43 #[.agg #[.int .i64 a0_0, .int .i64 a0_1, .int .i64 a0_2, .slice A0_3 l0_3.length c0_3]] w fun e w' => ∃ v0_ : Value, e = .returned (v0_) ∧ Kd.S k27 27 w' w.heap.size (fun _ => True) v0_ r ∧ Below w.heap.size w w' := by
 have hu27 := Try.underlying27
 have HR0_3 := aM hr0_3
 have HC0_3 := aM hc0_3
 clear hr0_3 hc0_3
 have HB := aM (Below.refl w.heap.size w)
 unfold spec_SplitPlanes.f at h
 have H := h
 clear h
 obtain ⟨y117, hy117⟩ : ∃ y_ : List (S27), y_ = (([] : List (S27))) := ⟨_, rfl⟩
 replace H : ((spec_validImage.f k a0_0 a0_1 a0_2 l0_3).bind fun t120 => (if t120 = true then (spec_SplitPlanes.l0 k y117 0 a0_0 a0_1 a0_2 l0_3) else (some ([] : List (S27))))) = some r := rY hy117 H
 have Ny117 := aM hy117
 clear hy117
 replace H := Option.bind_eq_some_iff.mp H
 obtain ⟨t120, A20, H⟩ := H
 replace H : (if t120 = true then (spec_SplitPlanes.l0 k y117 0 a0_0 a0_1 a0_2 l0_3) else (some ([] : List (S27)))) = some r := H
 have A2 := aM A20
 clear A20
 by_cases c3 : t120 = true
 rotate_left
 ·replace c3 := Bool.eq_false_iff.mpr c3
  subst c3
  have H1 : (some ([] : List (S27))) = some r := by rw [if_neg (show ¬ (false = true) by decide)] at H; exact H
  clear H
  have H := H1
  clear H1
  obtain rfl := Option.some.inj H
  go_enter Try.func43, Try.ntmps43
  go_wp2_with (first | ((with_reducible refine gate_dst (N := 1) rfl ?_); refine bxE (N := 1) (cs := #[.int .i64 a0_0, .int .i64 a0_1, .int .i64 a0_2, .slice A0_3 l0_3.length c0_3]) (t := 27) ?_; intro gb116 hg w34 hbox hb; have BK116 := aM (hbox); have GW116 := gW hg HB; have GE116 := gW hg HB; replace HB := bS HB hb; clear hb hbox hg) | ((with_reducible refine gate_dst (N := 7) rfl ?_); refine Kd.S_lit k27 _ 27 ?hg (N := 7) ?hd (xs := ([] : List (S27))) (inner := []) (ok := fun _ => True) (okp := fun _ => True) ?hr ?hp (fun _ hk => hk) trivial (Below.refl _ _) (Nat.le_refl _) (by simp) ?_; (case hd => rfl); (case hg => rfl); (case hr => first | (go_simp; done) | (go_simp; rfl)); (case hp => exact (Reps.none _ _)); intro v118 w35 ho36 hb hg_ hnew_; clear hg_ hnew_; (first | rw [← Ny117.out] at ho36 | (simp only [Int.reduceToNat] at ho36; rw [← Ny117.out] at ho36)); have HO119 := aM (Kd.S_lower (Kd.S_newB ho36 (g := gb116) (o := .cells #[.int .i64 a0_0, .int .i64 a0_1, .int .i64 a0_2, .slice A0_3 l0_3.length c0_3] 27 (0, 0)) (qB BK116.out)) (below_size (qW HB.out))); replace BK116 := bB BK116 hb; replace HB := bS HB hb; clear hb ho36; obtain ⟨⟨hcz37_0, hcz37_1, hcz37_2, hcz37_3⟩, hfz37_0, hfz37_1, hfz37_2, hfz37_3⟩ := cf4 BK116) | ((with_reducible refine gate_callee (f := 52) rfl ?_); refine gL (some 9) Try.func52 #[.agg #[.int .i64 a0_0, .int .i64 a0_1, .int .i64 a0_2, .slice A0_3 l0_3.length c0_3]] ?_; (with_reducible refine (spec_validImage.calls k a0_0 a0_1 a0_2 _ _ l0_3 false _ ?side1 ?side2 A2.out).mono ?_); (case side1 => exact qC (Kd.C_below HR0_3.out HB.out)); (case side2 => exact HC0_3.out); rintro e w38 ⟨rfl, hb⟩; refine ⟨_, rfl, ?_⟩; replace HO119 := aM (Kd.S_below (by (with_reducible repeat (first | apply Kd.S_alloc | apply Kd.S_drewN | apply Kd.S_drew)); exact HO119.out) hb); replace BK116 := bB BK116 hb; replace HB := bS HB hb; clear hb))
  go_ret
  exact ⟨_, qX, by first | exact Kd.S_nil _ _ _ _ _ | exact Kd.N_nil _ _ _ _ _ | exact Kd.V_nil _ _ _ _ _ | exact Kd.Q_nil _ _ _ _ _ | exact Kd.R_nil _ _ _ _ _, by exact qW HB.out⟩
 subst c3
 have H1 : (spec_SplitPlanes.l0 k y117 0 a0_0 a0_1 a0_2 l0_3) = some r := by rw [if_pos rfl] at H; exact H
 clear H
 have H := H1
 clear H1
 have H' := aM H
 clear H
 go_enter Try.func43, Try.ntmps43
 go_wp2_with (first | ((with_reducible refine gate_dst (N := 1) rfl ?_); refine bxE (N := 1) (cs := #[.int .i64 a0_0, .int .i64 a0_1, .int .i64 a0_2, .slice A0_3 l0_3.length c0_3]) (t := 27) ?_; intro gb116 hg w4 hbox hb; have BK116 := aM (hbox); have GW116 := gW hg HB; have GE116 := gW hg HB; replace HB := bS HB hb; clear hb hbox hg) | ((with_reducible refine gate_dst (N := 7) rfl ?_); refine Kd.S_lit k27 _ 27 ?hg (N := 7) ?hd (xs := ([] : List (S27))) (inner := []) (ok := fun _ => True) (okp := fun _ => True) ?hr ?hp (fun _ hk => hk) trivial (Below.refl _ _) (Nat.le_refl _) (by simp) ?_; (case hd => rfl); (case hg => rfl); (case hr => first | (go_simp; done) | (go_simp; rfl)); (case hp => exact (Reps.none _ _)); intro v118 w5 ho6 hb hg_ hnew_; clear hg_ hnew_; (first | rw [← Ny117.out] at ho6 | (simp only [Int.reduceToNat] at ho6; rw [← Ny117.out] at ho6)); have HO119 := aM (Kd.S_lower (Kd.S_newB ho6 (g := gb116) (o := .cells #[.int .i64 a0_0, .int .i64 a0_1, .int .i64 a0_2, .slice A0_3 l0_3.length c0_3] 27 (0, 0)) (qB BK116.out)) (below_size (qW HB.out))); replace BK116 := bB BK116 hb; replace HB := bS HB hb; clear hb ho6; obtain ⟨⟨hcz7_0, hcz7_1, hcz7_2, hcz7_3⟩, hfz7_0, hfz7_1, hfz7_2, hfz7_3⟩ := cf4 BK116) | ((with_reducible refine gate_callee (f := 52) rfl ?_); refine gL (some 9) Try.func52 #[.agg #[.int .i64 a0_0, .int .i64 a0_1, .int .i64 a0_2, .slice A0_3 l0_3.length c0_3]] ?_; (with_reducible refine (spec_validImage.calls k a0_0 a0_1 a0_2 _ _ l0_3 true _ ?side1 ?side2 A2.out).mono ?_); (case side1 => exact qC (Kd.C_below HR0_3.out HB.out)); (case side2 => exact HC0_3.out); rintro e w8 ⟨rfl, hb⟩; refine ⟨_, rfl, ?_⟩; replace HO119 := aM (Kd.S_below (by (with_reducible repeat (first | apply Kd.S_alloc | apply Kd.S_drewN | apply Kd.S_drew)); exact HO119.out) hb); replace BK116 := bB BK116 hb; replace HB := bS HB hb; clear hb))
 go_loopg [3, 4] k (fun kq v3 v4 w' => ∃ (x3_1 : List (S27)) (x4_1 : Int), v4 = .int .i64 x4_1 ∧ Aside0 (spec_SplitPlanes.l0 kq x3_1 x4_1 a0_0 a0_1 a0_2 l0_3 = some r) ∧ Aside0 (kq ≤ k) ∧ Aside0 (Kd.S k27 27 w' w.heap.size (fun k_ => k_ ≠ gb116) v3 x3_1) ∧ Aside0 (w'.heap[gb116]? = some (.cells #[.int .i64 a0_0, .int .i64 a0_1, .int .i64 a0_2, (.slice A0_3 l0_3.length c0_3)] 27 (0, 0))) ∧ Aside0 (Below w.heap.size w w'))
 case atStart => exact ⟨(y117), (0), qE, H', ⟨Nat.le_refl _⟩, ⟨by (with_reducible repeat (first | apply Kd.S_alloc | apply Kd.S_drewN | apply Kd.S_drew)); exact Kd.S_mono HO119.out (fun _ hk => hk.2)⟩, ⟨by refine qB ?_; exact BK116.out⟩, ⟨by exact qW HB.out⟩⟩
 case round =>
  clear H'
  try clear c3
  try clear hcz7_0 hcz7_1 hcz7_2 hcz7_3 hfz7_0 hfz7_1 hfz7_2 hfz7_3
  obtain ⟨x3_1, x4_1, rfl, HA, HK1, HO_3, BK116, HB⟩ := hrel
  cases gk with
  | zero => exact absurd HA.out (by simp [spec_SplitPlanes.l0])
  | succ k1 =>
   have H := HA.out
   clear HA
   simp only [spec_SplitPlanes.l0] at H
   by_cases c9 : x4_1 < a0_2
   rotate_left
   ·rw [if_neg c9] at H
    have c9b0 : decide (x4_1 < a0_2) = false := decide_eq_false c9
    clear c9
    obtain rfl := Option.some.inj H
    obtain ⟨⟨hcz33_0, hcz33_1, hcz33_2, hcz33_3⟩, hfz33_0, hfz33_1, hfz33_2, hfz33_3⟩ := cf4 BK116
    go_wp2
    go_ret
    exact ⟨_, qX, by (with_reducible repeat (first | apply Kd.S_alloc | apply Kd.S_drewN | apply Kd.S_drew)); exact Kd.S_mono HO_3.out (fun _ hk => trivial), by exact qW HB.out⟩
   rw [if_pos c9] at H
   have c9b0 : decide (x4_1 < a0_2) = true := decide_eq_true c9
   clear c9
   replace H := Option.bind_eq_some_iff.mp H
   obtain ⟨⟨t121, t122, t123, t124⟩, A100, H⟩ := H
   replace H : (spec_SplitPlanes.l1 k1 x3_1 x4_1 0 a0_0 a0_1 a0_2 l0_3 t121 t122 t123 t124) = some r := H
   have A10 := aM A100
   clear A100
   have H' := aM H
   clear H
   obtain ⟨⟨hcz11_0, hcz11_1, hcz11_2, hcz11_3⟩, hfz11_0, hfz11_1, hfz11_2, hfz11_3⟩ := cf4 BK116
   go_wp2_with (first | ((with_reducible refine gate_callee (f := 53) rfl ?_); refine gL (some 21) Try.func53 #[.int .i64 a0_0, .int .i64 a0_1, .int .i64 1] ?_; (with_reducible refine (spec_newImage.calls a0_0 a0_1 1 t121 t122 t123 t124 _ A10.out).mono ?_); rintro e w12 ⟨v125, rfl, ho0, hb⟩; refine ⟨_, rfl, ?_⟩; replace HO_3 := aM (Kd.S_elder' (by (with_reducible repeat (first | apply Kd.S_alloc | apply Kd.S_drewN | apply Kd.S_drew)); exact HO_3.out) (Kd.R_base ho0) hb); have HO126 := oR ho0 HB; replace BK116 := bB BK116 hb; replace HB := bS HB hb; clear hb ho0) | ((with_reducible refine gate_dst (N := 5) rfl ?_); refine bxE (N := 5) (cs := #[.int .i64 0, .int .i64 0, .int .i64 0, .slice none 0 0]) (t := 27) ?_; intro gb127 hg w13 hbox hb; replace HO_3 := aM (Kd.S_below (Kd.S_elderB (by (with_reducible repeat (first | apply Kd.S_alloc | apply Kd.S_drewN | apply Kd.S_drew)); exact HO_3.out) gb127 (Nat.le_of_eq hg.symm)) hb); replace HO126 := aM (Kd.R_below (qR HO126.out) hb); have BK127 := aM (hbox); have GW127 := gW hg HB; have GE127 := gW hg HB; replace HB := bS HB hb; have NB116_127 := nL hg BK116; have NB127_116 := nG hg BK116; replace BK116 := bB BK116 hb; clear hb hbox hg; have hnb14 := NB127_116.out; have hnc14 := NB116_127.out; obtain ⟨⟨hcz15_0, hcz15_1, hcz15_2, hcz15_3⟩, hfz15_0, hfz15_1, hfz15_2, hfz15_3⟩ := cf4 BK127; obtain ⟨Ao16, co16, rfl⟩ := sL HO126))
   go_loopg [6] k1 (fun kq v6 w' => ∃ (x6_2 : Int) (x128003_2 : List Int) (u128003 : Value), v6 = .int .i64 x6_2 ∧ Aside0 (spec_SplitPlanes.l1 kq x3_1 x4_1 x6_2 a0_0 a0_1 a0_2 l0_3 t121 t122 t123 x128003_2 = some r) ∧ Aside0 (kq ≤ k1) ∧ Aside0 (Kd.S k27 27 w' w.heap.size (fun k_ => some k_ ≠ (u128003 : Value).ownBlock ∧ k_ ≠ gb116 ∧ k_ ≠ gb127) u3 x3_1) ∧ Aside0 (Kd.R (Kd.int .i64) 3 w' w.heap.size (fun _ => True) u128003 x128003_2) ∧ Aside0 (w'.heap[gb116]? = some (.cells #[.int .i64 a0_0, .int .i64 a0_1, .int .i64 a0_2, (.slice A0_3 l0_3.length c0_3)] 27 (0, 0))) ∧ Aside0 (w'.heap[gb127]? = some (.cells #[.int .i64 t121, .int .i64 t122, .int .i64 t123, u128003] 27 (0, 0))) ∧ Aside0 (Below w.heap.size w w'))
   case atStart => exact ⟨(0), (t124), (.slice Ao16 t124.length co16), qE, H', ⟨Nat.le_refl _⟩, ⟨by (with_reducible repeat (first | apply Kd.S_alloc | apply Kd.S_drewN | apply Kd.S_drew)); exact Kd.S_mono (Kd.S_far (p := ⟨gb127, 3, none⟩) (Kd.S_far (p := ⟨gb127, 2, none⟩) (Kd.S_far (p := ⟨gb127, 1, none⟩) (Kd.S_far (p := ⟨gb127, 0, none⟩) (Kd.S_mono HO_3.out (fun k_ hk => (⟨hk, hk.2⟩ : _ ∧ k_ ≠ gb127))) (fun _ hk => hk.2) (.int .i64 t121)) (fun _ hk => hk.2) (.int .i64 t122)) (fun _ hk => hk.2) (.int .i64 t123)) (fun _ hk => hk.2) (.slice Ao16 t124.length co16)) (fun _ hk => ⟨hk.1.1.2, ⟨hk.1.1.1, hk.1.2⟩⟩)⟩, ⟨by refine qR ?_; exact Kd.R_mono (rT HO126 BK127) (fun _ hk => trivial)⟩, ⟨by refine qB ?_; refine blk_far ?_ NB116_127.out _; refine qB ?_; refine blk_far ?_ NB116_127.out _; refine qB ?_; refine blk_far ?_ NB116_127.out _; refine qB ?_; refine blk_far ?_ NB116_127.out _; refine qB ?_; exact BK116.out⟩, ⟨by exact bP BK127.out⟩, ⟨by exact qW HB.out⟩⟩
   case round =>
    clear H'
    try clear c3
    try clear c9
    try clear c9b0
    try clear hcz11_0 hcz11_1 hcz11_2 hcz11_3 hfz11_0 hfz11_1 hfz11_2 hfz11_3
    try clear hcz15_0 hcz15_1 hcz15_2 hcz15_3 hfz15_0 hfz15_1 hfz15_2 hfz15_3
    try clear hcz7_0 hcz7_1 hcz7_2 hcz7_3 hfz7_0 hfz7_1 hfz7_2 hfz7_3
    obtain ⟨x6_2, x128003_2, u128003, rfl, HA, HK2, HO_3, HO_128003, BK116, BK127, HB⟩ := hrel
    cases gk with
    | zero => exact absurd HA.out (by simp [spec_SplitPlanes.l1])
    | succ k2 =>
     have H := HA.out
     clear HA
     simp only [spec_SplitPlanes.l1] at H
     by_cases c17 : x6_2 < (x128003_2.length : Int)
     rotate_left
     ·rw [if_neg c17] at H
      have c17b0 : decide (x6_2 < (x128003_2.length : Int)) = false := decide_eq_false c17
      clear c17
      replace H := iS H
      obtain ⟨c28, H⟩ := H
      have LMc28 := aM c28
      clear c28
      obtain ⟨y130, hy130⟩ : ∃ y_ : List (S27), y_ = (x3_1 ++ [(⟨t121, t122, t123, x128003_2⟩ : S27)]) := ⟨_, rfl⟩
      replace H : (spec_SplitPlanes.l0 k2 y130 (wrap64 (x4_1 + 1)) a0_0 a0_1 a0_2 l0_3) = some r := rY hy130 H
      have Ny130 := aM hy130
      clear hy130
      have H' := aM H
      clear H
      have hnb29 := NB127_116.out
      have hnc29 := NB116_127.out
      obtain ⟨⟨hcz30_0, hcz30_1, hcz30_2, hcz30_3⟩, hfz30_0, hfz30_1, hfz30_2, hfz30_3⟩ := cf4 BK127
      obtain ⟨Ao31, co31, rfl⟩ := sL HO_128003
      go_wp2_with (first | ((with_reducible refine gate_builtin (b := .append) (xs := #[.tmp 43, .tmp 45]) rfl ?_); at_builtin; refine Kd.S_append k27 (w0 := w) w.heap.size rfl (.tmp 43) (.tmp 45) 23 27 (.agg #[(.int .i64 0), (.int .i64 0), (.int .i64 0), (.slice none 0 0)]) 48 rfl Try.underlying23 info27 rfl (by decide) (by omega) u3 x3_1 (⟨t121, t122, t123, x128003_2⟩ : S27) [.int .i64 t121, .int .i64 t122, .int .i64 t123, .slice Ao31 x128003_2.length co31] (fun k_ => k_ ≠ gb116 ∧ k_ ≠ gb127) (fun k_ => some k_ = (.slice Ao31 x128003_2.length co31 : Value).ownBlock) rfl rfl ?aP (fun k_ hk_ => ((Kd.R_mono (ok' := fun k_ => ((fun k_ => k_ ≠ gb116 ∧ k_ ≠ gb127)) k_ ∧ some k_ ≠ (u3 : Value).ownBlock) (Kd.R_types (Kd.R_types (Kd.R_apart' (HO_128003.out) (Kd.S_typed HO_3.out) (by decide)) BK116.out (by decide)) BK127.out (by decide)) (fun k_ hk => ⟨⟨hk.1.2, hk.2⟩, hk.1.1.2⟩))).1 k_ hk_.symm) ?aF ?aO ?aB ?aS ?aL ?_; (case aP => exact k27_mkM _ _ _ (⟨t121, t122, t123, x128003_2⟩ : S27) (Kd.R_mono (Kd.R_tight rfl (Kd.R_mono (ok' := fun k_ => ((fun k_ => k_ ≠ gb116 ∧ k_ ≠ gb127)) k_ ∧ some k_ ≠ (u3 : Value).ownBlock) (Kd.R_types (Kd.R_types (Kd.R_apart' (HO_128003.out) (Kd.S_typed HO_3.out) (by decide)) BK116.out (by decide)) BK127.out (by decide)) (fun k_ hk => ⟨⟨hk.1.2, hk.2⟩, hk.1.1.2⟩))) (fun _ h_ => h_))); (case aB => exact (qW HB.out)); (case aF => exact (fun k_ hk => ⟨Kd.freshB (g := gb116) (o := .cells #[.int .i64 a0_0, .int .i64 a0_1, .int .i64 a0_2, .slice A0_3 l0_3.length c0_3] 27 (0, 0)) (qB BK116.out) k_ hk, Kd.freshB (g := gb127) (o := .cells #[.int .i64 t121, .int .i64 t122, .int .i64 t123, .slice Ao31 x128003_2.length co31] 27 (0, 0)) (qB BK127.out) k_ hk⟩)); (case aO => exact (by (with_reducible repeat (first | apply Kd.S_alloc | apply Kd.S_drewN | apply Kd.S_drew)); exact Kd.S_mono HO_3.out (fun k_ hk => ⟨⟨hk.2.1, hk.2.2⟩, fun e_ => hk.1 e_⟩))); (case aS => exact (below_size (qW HB.out))); (case aL => have := LMc28.out; omega); intro v131 w32 ho hb hg hat; rw [← Ny130.out] at ho; replace BK116 := aM (blk_grown (g := gb116) (o := .cells #[.int .i64 a0_0, .int .i64 a0_1, .int .i64 a0_2, .slice A0_3 l0_3.length c0_3] 27 (0, 0)) (qB BK116.out) hg (Kd.S_away HO_3.out (fun _ hk => hk.2.1))); replace BK127 := aM (blk_grown (g := gb127) (o := .cells #[.int .i64 t121, .int .i64 t122, .int .i64 t123, .slice Ao31 x128003_2.length co31] 27 (0, 0)) (qB BK127.out) hg (Kd.S_away HO_3.out (fun _ hk => hk.2.2))); replace HB := aM (hb); have HO132 := aM (ho); clear HO_3 HO_128003; clear ho hb hg hat))
      go_roundg k2
      case measure => have := HK1.out; have := HK2.out; omega
      case rel => exact ⟨(y130), (wrap64 (x4_1 + 1)), qE, H', ⟨by have := HK1.out; have := HK2.out; omega⟩, ⟨by (with_reducible repeat (first | apply Kd.S_alloc | apply Kd.S_drewN | apply Kd.S_drew)); exact Kd.S_mono HO132.out (fun _ hk => hk.1)⟩, ⟨by refine qB ?_; exact BK116.out⟩, ⟨by exact qW HB.out⟩⟩
     rw [if_pos c17] at H
     have c17b0 : decide (x6_2 < (x128003_2.length : Int)) = true := decide_eq_true c17
     clear c17
     obtain ⟨ji18, hji18⟩ : ∃ j_ : Int, (wrap64 ((wrap64 (x6_2 * a0_2)) + x4_1)) = j_ := ⟨_, rfl⟩
     replace H : (if 0 ≤ (ji18) then (if (ji18) < (l0_3.length : Int) then (if 0 ≤ x6_2 then (spec_SplitPlanes.l1 k2 x3_1 x4_1 (wrap64 (x6_2 + 1)) a0_0 a0_1 a0_2 l0_3 t121 t122 t123 (x128003_2.set (x6_2 : Int).toNat (rd l0_3 (ji18)))) else (none)) else (none)) else (none)) = some r := by first | (rw [hji18] at H; exact H) | (simp only [hji18] at H ⊢; exact H)
     have hji18w : (IntKind.i64.wrap ((wrap64 (x6_2 * a0_2)) + x4_1)) = ji18 := (i64_w _).trans hji18
     replace H := iD H
     obtain ⟨c19b0, H⟩ := H
     replace H := iD H
     obtain ⟨c20b0, H⟩ := H
     replace H := iD H
     obtain ⟨c21b0, H⟩ := H
     obtain ⟨y129, hy129⟩ : ∃ y_ : List Int, y_ = (x128003_2.set (x6_2 : Int).toNat (rd l0_3 (ji18))) := ⟨_, rfl⟩
     replace H : (spec_SplitPlanes.l1 k2 x3_1 x4_1 (wrap64 (x6_2 + 1)) a0_0 a0_1 a0_2 l0_3 t121 t122 t123 y129) = some r := rY hy129 H
     have Ny129 := aM hy129
     clear hy129
     have H' := aM H
     clear H
     have hnb23 := NB127_116.out
     have hnc23 := NB116_127.out
     obtain ⟨⟨hcz24_0, hcz24_1, hcz24_2, hcz24_3⟩, hfz24_0, hfz24_1, hfz24_2, hfz24_3⟩ := cf4 BK127
     obtain ⟨Ao25, co25, rfl⟩ := sL HO_128003
     try go_wp2
     replace HO_3 := aM (Kd.S_drew HO_3.out)
     replace HO_128003 := aM (Kd.R_drew HO_128003.out)
     replace BK116 := aM (blk_drew BK116.out)
     replace BK127 := aM (blk_drew BK127.out)
     replace HB := aM (below_drew1 HB.out)
     obtain ⟨ad128, e128, hx128_0⟩ := Kd.at_int HR0_3.out (ji18) oD oD
     have hw128_0 := hx128_0
     cases e128
     replace hx128_0 := bD HB hx128_0
     have p128 := eq_true (oD : 0 ≤ ((ji18) : Int))
     have q128 := eq_true (oD : (ji18) < (l0_3.length : Int))
     have p22 : 0 ≤ (x6_2 : Int) := oD
     have q22 : (x6_2 : Int) < ((x128003_2.length : Int) : Int) := oD
     obtain ⟨go22, co22, eo22, gb22, gl22, cl22, HG22⟩ := Kd.R_form HO_128003.out (by omega)
     (first | cases eo22 | (injection eo22 with ea_ en_ ec_; (first | subst ea_ | (injection ea_ with ea_; subst ea_)); subst ec_; clear en_))
     have GB22 := aM gb22
     have GG22 := aM HG22
     clear gb22 gl22 HG22
     obtain ⟨hx22_0, hf22_0⟩ := Kd.R_celln 0 HO_128003.out (x6_2 : Int) p22 q22
     replace p22 := eq_true p22
     replace q22 := eq_true q22
     have HP27 := Kd.R_putn HO_128003.out (x6_2 : Int) (rd l0_3 (ji18))
     rw [← Ny129.out] at HP27
     have HQ27 := aM HP27
     clear HP27
     refine start_ (n := 15) (S := fun w' => w'.cell? ⟨gb127, 0, none⟩ = some (.int .i64 t121) ∧ w'.cell? ⟨gb127, 1, none⟩ = some (.int .i64 t122) ∧ w'.cell? ⟨gb127, 2, none⟩ = some (.int .i64 t123) ∧ w'.cell? ⟨gb127, 3, none⟩ = some (.slice (some ⟨go22, 0, none⟩) x128003_2.length co25) ∧ w'.cell? ⟨gb116, 0, none⟩ = some (.int .i64 a0_0) ∧ w'.cell? ⟨gb116, 1, none⟩ = some (.int .i64 a0_1) ∧ w'.cell? ⟨gb116, 2, none⟩ = some (.int .i64 a0_2) ∧ w'.cell? ⟨gb116, 3, none⟩ = some (.slice (some ad128) l0_3.length c0_3) ∧ w'.cell? (ad128.add ((ji18)).toNat) = some (.int .i64 (rd l0_3 (ji18)))) (ds := [14]) (bA 15 0) (by kernel_rfl) rfl rfl ⟨(blk_cell BK127.out 0).trans rfl, (blk_cell BK127.out 1).trans rfl, (blk_cell BK127.out 2).trans rfl, (blk_cell BK127.out 3).trans rfl, (blk_cell BK116.out 0).trans rfl, (blk_cell BK116.out 1).trans rfl, (blk_cell BK116.out 2).trans rfl, (blk_cell BK116.out 3).trans rfl, (bC HB hw128_0)⟩ (fun hHeld => ?_); refine with_tabW spec_SplitPlanes.tab11 spec_SplitPlanes.bits11 (fun HT_ HW_ => ?_)
     generalize wr.drew = w26 at HO_3 HO_128003 BK116 BK127 HB GG22 HQ27 hf22_0 hx128_0 hx22_0 hHeld ⊢
     refine pQ 0 29 HT_ (bA 15 1) ?_
     refine pQ 2 31 HT_ (bA 15 5) ?_
     refine pQ 3 32 HT_ (bA 15 13) ?_
     refine pQ 5 34 HT_ (bA 15 45) ?_
     refine pQ 6 35 HT_ (bA 15 109) ?_
     refine pQ 9 38 HT_ (bA 15 621) ?_
     refine take_ (i := 1) (N := some 30) (v := ?_) (a' := ?_) (bA 15 623) rfl rfl (take_ofW HT_.out HW_.out (by kernel_rfl)) (fun _ _ _ h => h) (Or.inl ⟨by rfl, ?_⟩) hHeld ?_ ?_
     rotate_left
     ·rintro w' ⟨s0, s1, s2, s3, s4, s5, s6, s7, s8⟩
      go_simp
      with_reducible rfl
     rotate_left
     ·refine pZ ?_
      rfl
     refine take_ (i := 4) (N := some 33) (v := ?_) (a' := ?_) (bA 15 639) rfl rfl (take_ofW HT_.out HW_.out (by kernel_rfl)) (fun _ _ _ h => h) (Or.inl ⟨by rfl, ?_⟩) hHeld ?_ ?_
     rotate_left
     ·rintro w' ⟨s0, s1, s2, s3, s4, s5, s6, s7, s8⟩
      go_simp
      with_reducible rfl
     rotate_left
     ·refine pZ ?_
      rfl
     refine take_ (i := 7) (N := some 36) (v := ?_) (a' := ?_) (bA 15 767) rfl rfl (take_ofW HT_.out HW_.out (by kernel_rfl)) (fun _ _ _ h => h) (Or.inl ⟨by rfl, ?_⟩) hHeld ?_ ?_
     rotate_left
     ·rintro w' ⟨s0, s1, s2, s3, s4, s5, s6, s7, s8⟩
      go_simp
      with_reducible rfl
     rotate_left
     ·refine pZ ?_
      rfl
     refine pQ 8 37 HT_ (bA 15 1023) ?_
     refine pQ 10 39 HT_ (bA 15 2047) ?_
     refine pQ 11 40 HT_ (bA 15 4095) ?_
     refine take_ (i := 12) (N := some 41) (v := ?_) (a' := ?_) (bA 15 8191) rfl rfl (take_ofW HT_.out HW_.out (by kernel_rfl)) (fun _ _ _ h => h) (Or.inl ⟨by rfl, ?_⟩) hHeld ?_ ?_
     rotate_left
     ·rintro w' ⟨s0, s1, s2, s3, s4, s5, s6, s7, s8⟩
      go_simp
      with_reducible rfl
     rotate_left
     ·refine pZ ?_
      rfl
     refine pQ 13 42 HT_ (bA 15 16383) ?_
     refine last_ (i := 14) (N := none) (bA 15 32767) rfl rfl (one_of HT_.out (by kernel_rfl)) (by decide) (fun K hK => ?_)
     refine skip_ (w1 := ?_) (by rfl) rfl ?_ ?_
     rotate_left
     ·go_simp
      rfl
     refine hK.out _ _ ?_
     clear hK K
     refine done_ (done_of HT_.out (by kernel_rfl)) ?_
     try go_wp2
     go_roundg k2
     case measure => have := HK1.out; have := HK2.out; omega
     case rel => exact ⟨(wrap64 (x6_2 + 1)), (y129), (.slice (some ⟨go22, 0, none⟩) x128003_2.length co25), qE, H', ⟨by have := HK1.out; have := HK2.out; omega⟩, ⟨by (with_reducible repeat (first | apply Kd.S_alloc | apply Kd.S_drewN | apply Kd.S_drew)); exact Kd.S_mono (Kd.S_far (p := ⟨go22, (x6_2 : Int).toNat, none⟩) (Kd.S_mono HO_3.out (fun k_ hk => (⟨hk, fun e_ => hk.1 (by rw [e_]; rfl)⟩ : _ ∧ k_ ≠ go22))) (fun _ hk => hk.2) (.int .i64 (rd l0_3 (ji18)))) (fun _ hk => ⟨hk.1.1, ⟨hk.1.2.1, hk.1.2.2⟩⟩)⟩, ⟨by refine qR ?_; exact HQ27.out⟩, ⟨by refine qB ?_; refine blk_far ?_ (by have h_ := Kd.R_ne HO_128003.out BK116.out (by decide); intro e_; exact h_ (by rw [e_]; rfl)) _; refine qB ?_; exact BK116.out⟩, ⟨by refine qB ?_; refine blk_far ?_ (by have h_ := Kd.R_ne HO_128003.out BK127.out (by decide); intro e_; exact h_ (by rw [e_]; rfl)) _; refine qB ?_; exact BK127.out⟩, ⟨by exact qW HB.out⟩⟩
def laws_equalImages.l0 : Nat → List (S27) → List (S27) → Int → Option (Bool)
 | 0, _, _, _ => none
 | k + 1, x0, x1, x5 => if x5 < (x0.length : Int) then (if 0 ≤ x5 then (if x5 < (x1.length : Int) then ((laws_equalImage.f k ((rd_T27 x0 x5).f0) ((rd_T27 x0 x5).f1) ((rd_T27 x0 x5).f2) ((rd_T27 x0 x5).f3) ((rd_T27 x1 x5).f0) ((rd_T27 x1 x5).f1) ((rd_T27 x1 x5).f2) ((rd_T27 x1 x5).f3)).bind fun t298 => (if t298 = true then (laws_equalImages.l0 k x0 x1 (wrap64 (x5 + 1))) else (some false))) else (none)) else (none)) else (some true)
def laws_equalImages.f (k : Nat) (l0 : List (S27)) (l1 : List (S27)) : Option (Bool) := if (l0.length : Int) = (l1.length : Int) then (laws_equalImages.l0 k l0 l1 0) else (some false)
theorem laws_equalImages.mono_l : ∀ k, (∀ y0 y1 y2, LeO (laws_equalImages.l0 k y0 y1 y2) (laws_equalImages.l0 (k + 1) y0 y1 y2))
 | 0 => fun _ _ _ r h => by simp [laws_equalImages.l0] at h
 | k + 1 => by
  have ih0 := laws_equalImages.mono_l k
  ·intro y0 y1 y2
   unfold laws_equalImages.l0
   repeat' first | (with_reducible first | exact ih0 _ _ _ | exact laws_equalImage.mono _ _ _ _ _ _ _ _ _ | exact lR | exact lN | refine lI ?_ ?_ | refine lB ?_ fun _ => ?_) | exact ih0 _ _ _ | exact laws_equalImage.mono _ _ _ _ _ _ _ _ _ | exact lN | refine lI ?_ ?_ | refine lB ?_ fun _ => ?_
theorem laws_equalImages.mono : ∀ a0 a1 k, LeO (laws_equalImages.f k a0 a1) (laws_equalImages.f (k + 1) a0 a1) := by
 intro a0 a1 k
 have ih0 := laws_equalImages.mono_l k
 unfold laws_equalImages.f
 repeat' first | (with_reducible first | exact ih0 _ _ _ | exact laws_equalImage.mono _ _ _ _ _ _ _ _ _ | exact lR | exact lN | refine lI ?_ ?_ | refine lB ?_ fun _ => ?_) | exact ih0 _ _ _ | exact laws_equalImage.mono _ _ _ _ _ _ _ _ _ | exact lN | refine lI ?_ ?_ | refine lB ?_ fun _ => ?_
def laws_equalImages.T6 : Bool × List (List Nat × List Nat) := (true, [([], []), ([], []), ([0, 1], [0, 1]), ([2], [2]), ([], []), ([], []), ([4, 5], [4, 5]), ([6], [6]), ([3, 7], [3, 7]), ([8], [8])])
def laws_equalImages.B6 : List Nat := [0, 0, 3, 7, 0, 0, 48, 112, 255, 511]
theorem laws_equalImages.tab6 : rtab .any (opsOf Try.f16 6) = laws_equalImages.T6 := by kernel_rfl
theorem laws_equalImages.bits6 : waitsOk laws_equalImages.T6.2 laws_equalImages.B6 = true := by kernel_rfl
set_option maxHeartbeats 8000000 in
set_option maxRecDepth 100000 in
theorem laws_equalImages.calls (k : Nat) (A0 : Option Addr) (c0 : Nat) (l0 : List (S27)) (A1 : Option Addr) (c1 : Nat) (l1 : List (S27)) (r : Bool) (w : World) (hr0 : Kd.C k27 w A0 l0.length l0) (hc0 : l0.length ≤ c0) (hr1 : Kd.C k27 w A1 l1.length l1) (hc1 : l1.length ≤ c1) (h : laws_equalImages.f k l0 l1 = some r) :
  Calls Try.prog 16 #[.slice A0 l0.length c0, .slice A1 l1.length c1] w fun e w' => e = .returned (.bool r) ∧ Below w.heap.size w w' := by
 have hu27 := Try.underlying27
 have HR0 := aM hr0
 have HC0 := aM hc0
 clear hr0 hc0
 have HR1 := aM hr1
 have HC1 := aM hc1
 clear hr1 hc1
 have HB := aM (Below.refl w.heap.size w)
 unfold laws_equalImages.f at h
 have H := h
 clear h
 by_cases c3 : (l0.length : Int) = (l1.length : Int)
 rotate_left
 ·rw [if_neg c3] at H
  have c3b0 : ((l0.length : Int) == (l1.length : Int)) = false := beq_eq_false_iff_ne.mpr c3
  have c3b1 : ((l0.length : Int) != (l1.length : Int)) = true := bne_iff_ne.mpr c3
  have c3b2 : (l0.length == l1.length) = false := by first | simpa using c3 | (simp at c3 ⊢; omega)
  obtain rfl := Option.some.inj H
  go_enter Try.func16, Try.ntmps16
  go_wp2
  go_ret
  exact ⟨qX, by exact qW HB.out⟩
 rw [if_pos c3] at H
 have c3b0 : ((l0.length : Int) == (l1.length : Int)) = true := beq_iff_eq.mpr c3
 have c3b1 : ((l0.length : Int) != (l1.length : Int)) = false := bne_eq_false_iff_eq.mpr c3
 have c3b2 : (l0.length == l1.length) = true := by first | simpa using c3 | (simp at c3 ⊢; omega)
 clear c3
 have H' := aM H
 clear H
 go_enter Try.func16, Try.ntmps16
 go_wp2
 go_loopg [5] k (fun kq v5 w' => ∃ (x5_1 : Int), v5 = .int .i64 x5_1 ∧ Aside0 (laws_equalImages.l0 kq l0 l1 x5_1 = some r) ∧ Aside0 (kq ≤ k) ∧ Aside0 (Below w.heap.size w w'))
 case atStart => exact ⟨(0), qE, H', ⟨Nat.le_refl _⟩, ⟨by exact qW HB.out⟩⟩
 case round =>
  clear H'
  try clear c1
  try clear c3
  try clear c3b0
  try clear c3b1
  try clear c3b2
  obtain ⟨x5_1, rfl, HA, HK1, HB⟩ := hrel
  cases gk with
  | zero => exact absurd HA.out (by simp [laws_equalImages.l0])
  | succ k1 =>
   have H := HA.out
   clear HA
   simp only [laws_equalImages.l0] at H
   by_cases c4 : x5_1 < (l0.length : Int)
   rotate_left
   ·rw [if_neg c4] at H
    have c4b0 : decide (x5_1 < (l0.length : Int)) = false := decide_eq_false c4
    clear c4
    obtain rfl := Option.some.inj H
    go_wp2
    go_ret
    exact ⟨qX, by exact qW HB.out⟩
   rw [if_pos c4] at H
   have c4b0 : decide (x5_1 < (l0.length : Int)) = true := decide_eq_true c4
   clear c4
   replace H := iD H
   obtain ⟨c5b0, H⟩ := H
   replace H := iD H
   obtain ⟨c6b0, H⟩ := H
   replace H := Option.bind_eq_some_iff.mp H
   obtain ⟨t298, A70, H⟩ := H
   replace H : (if t298 = true then (laws_equalImages.l0 k1 l0 l1 (wrap64 (x5_1 + 1))) else (some false)) = some r := H
   have A7 := aM A70
   clear A70
   by_cases c8 : t298 = true
   rotate_left
   ·replace c8 := Bool.eq_false_iff.mpr c8
    subst c8
    have H1 : (some false) = some r := by rw [if_neg (show ¬ (false = true) by decide)] at H; exact H
    clear H
    have H := H1
    clear H1
    obtain rfl := Option.some.inj H
    try go_wp2
    replace HB := aM (below_drew1 HB.out)
    have p296 : 0 ≤ (x5_1 : Int) := oD
    have q296 : x5_1 < (l0.length : Int) := oD
    obtain ⟨ad296, A296_3, c296_3, e296, hx296_0, hx296_1, hx296_2, hx296_3, hl296_3, hi296_3⟩ := at_T27 HR0.out x5_1 p296 q296
    have hw296_3 := hx296_3
    have hw296_2 := hx296_2
    have hw296_1 := hx296_1
    have hw296_0 := hx296_0
    cases e296
    replace hx296_0 := bD HB hx296_0
    replace hx296_1 := bD HB hx296_1
    replace hx296_2 := bD HB hx296_2
    replace hx296_3 := bD HB hx296_3
    have HR296_3 := aM hi296_3
    have HC296_3 := aM hl296_3
    clear hi296_3 hl296_3
    replace p296 := eq_true p296
    replace q296 := eq_true q296
    have p297 : 0 ≤ (x5_1 : Int) := oD
    have q297 : x5_1 < (l1.length : Int) := oD
    obtain ⟨ad297, A297_3, c297_3, e297, hx297_0, hx297_1, hx297_2, hx297_3, hl297_3, hi297_3⟩ := at_T27 HR1.out x5_1 p297 q297
    have hw297_3 := hx297_3
    have hw297_2 := hx297_2
    have hw297_1 := hx297_1
    have hw297_0 := hx297_0
    cases e297
    replace hx297_0 := bD HB hx297_0
    replace hx297_1 := bD HB hx297_1
    replace hx297_2 := bD HB hx297_2
    replace hx297_3 := bD HB hx297_3
    have HR297_3 := aM hi297_3
    have HC297_3 := aM hl297_3
    clear hi297_3 hl297_3
    replace p297 := eq_true p297
    replace q297 := eq_true q297
    refine start_ (n := 10) (S := fun w' => w'.cell? (ad296.add ((x5_1).toNat * 4)) = some (.int .i64 ((rd_T27 l0 x5_1).f0)) ∧ w'.cell? ⟨(ad296.add ((x5_1).toNat * 4)).block, (ad296.add ((x5_1).toNat * 4)).off + 1, none⟩ = some (.int .i64 ((rd_T27 l0 x5_1).f1)) ∧ w'.cell? ⟨(ad296.add ((x5_1).toNat * 4)).block, (ad296.add ((x5_1).toNat * 4)).off + 2, none⟩ = some (.int .i64 ((rd_T27 l0 x5_1).f2)) ∧ w'.cell? ⟨(ad296.add ((x5_1).toNat * 4)).block, (ad296.add ((x5_1).toNat * 4)).off + 3, none⟩ = some (.slice A296_3 ((rd_T27 l0 x5_1).f3).length c296_3) ∧ w'.cell? (ad297.add ((x5_1).toNat * 4)) = some (.int .i64 ((rd_T27 l1 x5_1).f0)) ∧ w'.cell? ⟨(ad297.add ((x5_1).toNat * 4)).block, (ad297.add ((x5_1).toNat * 4)).off + 1, none⟩ = some (.int .i64 ((rd_T27 l1 x5_1).f1)) ∧ w'.cell? ⟨(ad297.add ((x5_1).toNat * 4)).block, (ad297.add ((x5_1).toNat * 4)).off + 2, none⟩ = some (.int .i64 ((rd_T27 l1 x5_1).f2)) ∧ w'.cell? ⟨(ad297.add ((x5_1).toNat * 4)).block, (ad297.add ((x5_1).toNat * 4)).off + 3, none⟩ = some (.slice A297_3 ((rd_T27 l1 x5_1).f3).length c297_3)) (ds := []) (bA 10 0) (by kernel_rfl) rfl rfl ⟨(bC HB hw296_0), (bC HB hw296_1), (bC HB hw296_2), (bC HB hw296_3), (bC HB hw297_0), (bC HB hw297_1), (bC HB hw297_2), (bC HB hw297_3)⟩ (fun hHeld => ?_); refine with_tabW laws_equalImages.tab6 laws_equalImages.bits6 (fun HT_ HW_ => ?_)
    generalize wr.drew = w11 at HB HR296_3 HR297_3 hx296_0 hx296_1 hx296_2 hx296_3 hx297_0 hx297_1 hx297_2 hx297_3 hHeld ⊢
    refine pQ 0 17 HT_ (bA 10 1) ?_
    refine pQ 1 18 HT_ (bA 10 3) ?_
    refine pQ 2 19 HT_ (bA 10 7) ?_
    refine pQ 4 21 HT_ (bA 10 23) ?_
    refine pQ 5 22 HT_ (bA 10 55) ?_
    refine pQ 6 23 HT_ (bA 10 119) ?_
    refine take_ (i := 3) (N := some 20) (v := ?_) (a' := ?_) (bA 10 127) rfl rfl (take_ofW HT_.out HW_.out (by kernel_rfl)) (fun _ _ _ h => h) (Or.inl ⟨by rfl, ?_⟩) hHeld ?_ ?_
    rotate_left
    ·rintro w' ⟨s0, s1, s2, s3, s4, s5, s6, s7⟩
     go_simp
     with_reducible rfl
    rotate_left
    ·refine pZ ?_
     rfl
    refine take_ (i := 7) (N := some 24) (v := ?_) (a' := ?_) (bA 10 255) rfl rfl (take_ofW HT_.out HW_.out (by kernel_rfl)) (fun _ _ _ h => h) (Or.inl ⟨by rfl, ?_⟩) hHeld ?_ ?_
    rotate_left
    ·rintro w' ⟨s0, s1, s2, s3, s4, s5, s6, s7⟩
     go_simp
     with_reducible rfl
    rotate_left
    ·refine pZ ?_
     rfl
    refine one_ (i := 8) (N := some 25) (bA 10 511) rfl rfl (one_of HT_.out (by kernel_rfl)) (by decide) (fun K hK => ?_)
    refine goes_ Try.func15 (by kernel_rfl) rfl #[.agg #[.int .i64 ((rd_T27 l0 x5_1).f0), .int .i64 ((rd_T27 l0 x5_1).f1), .int .i64 ((rd_T27 l0 x5_1).f2), .slice A296_3 ((rd_T27 l0 x5_1).f3).length c296_3], .agg #[.int .i64 ((rd_T27 l1 x5_1).f0), .int .i64 ((rd_T27 l1 x5_1).f1), .int .i64 ((rd_T27 l1 x5_1).f2), .slice A297_3 ((rd_T27 l1 x5_1).f3).length c297_3]] (by rfl) rfl rfl qM ?_
    with_reducible refine (laws_equalImage.calls k1 ((rd_T27 l0 x5_1).f0) ((rd_T27 l0 x5_1).f1) ((rd_T27 l0 x5_1).f2) _ _ ((rd_T27 l0 x5_1).f3) ((rd_T27 l1 x5_1).f0) ((rd_T27 l1 x5_1).f1) ((rd_T27 l1 x5_1).f2) _ _ ((rd_T27 l1 x5_1).f3) false _ ?side1 ?side2 ?side3 ?side4 A7.out).mono ?_
    (case side1 => exact qC (Kd.C_below HR296_3.out HB.out))
    (case side2 => exact HC296_3.out)
    (case side3 => exact qC (Kd.C_below HR297_3.out HB.out))
    (case side4 => exact HC297_3.out)
    rintro e w12 ⟨rfl, hb⟩
    refine ⟨_, rfl, ?_⟩
    replace HB := bS HB hb
    (try clear hb)
    (try clear hb2)
    (try clear hk)
    (try clear hi)
    refine hK.out _ _ ⟨(bC HB hw296_0), (bC HB hw296_1), (bC HB hw296_2), (bC HB hw296_3), (bC HB hw297_0), (bC HB hw297_1), (bC HB hw297_2), (bC HB hw297_3)⟩ (fun hHeld => ?_)
    clear hK K
    refine norm_ (a' := ?_) ?_ ?_
    rotate_left
    ·show Act.put _ (some 25) _ = _
     refine pZ ?_
     rfl
    refine pQ 9 26 HT_ (bA 10 1023) ?_
    refine done_ (done_of HT_.out (by kernel_rfl)) ?_
    try go_wp2
    go_ret
    exact ⟨qX, by exact qW HB.out⟩
   subst c8
   have H1 : (laws_equalImages.l0 k1 l0 l1 (wrap64 (x5_1 + 1))) = some r := by rw [if_pos rfl] at H; exact H
   clear H
   have H := H1
   clear H1
   have H' := aM H
   clear H
   try go_wp2
   replace HB := aM (below_drew1 HB.out)
   have p296 : 0 ≤ (x5_1 : Int) := oD
   have q296 : x5_1 < (l0.length : Int) := oD
   obtain ⟨ad296, A296_3, c296_3, e296, hx296_0, hx296_1, hx296_2, hx296_3, hl296_3, hi296_3⟩ := at_T27 HR0.out x5_1 p296 q296
   have hw296_3 := hx296_3
   have hw296_2 := hx296_2
   have hw296_1 := hx296_1
   have hw296_0 := hx296_0
   cases e296
   replace hx296_0 := bD HB hx296_0
   replace hx296_1 := bD HB hx296_1
   replace hx296_2 := bD HB hx296_2
   replace hx296_3 := bD HB hx296_3
   have HR296_3 := aM hi296_3
   have HC296_3 := aM hl296_3
   clear hi296_3 hl296_3
   replace p296 := eq_true p296
   replace q296 := eq_true q296
   have p297 : 0 ≤ (x5_1 : Int) := oD
   have q297 : x5_1 < (l1.length : Int) := oD
   obtain ⟨ad297, A297_3, c297_3, e297, hx297_0, hx297_1, hx297_2, hx297_3, hl297_3, hi297_3⟩ := at_T27 HR1.out x5_1 p297 q297
   have hw297_3 := hx297_3
   have hw297_2 := hx297_2
   have hw297_1 := hx297_1
   have hw297_0 := hx297_0
   cases e297
   replace hx297_0 := bD HB hx297_0
   replace hx297_1 := bD HB hx297_1
   replace hx297_2 := bD HB hx297_2
   replace hx297_3 := bD HB hx297_3
   have HR297_3 := aM hi297_3
   have HC297_3 := aM hl297_3
   clear hi297_3 hl297_3
   replace p297 := eq_true p297
   replace q297 := eq_true q297
   refine start_ (n := 10) (S := fun w' => w'.cell? (ad296.add ((x5_1).toNat * 4)) = some (.int .i64 ((rd_T27 l0 x5_1).f0)) ∧ w'.cell? ⟨(ad296.add ((x5_1).toNat * 4)).block, (ad296.add ((x5_1).toNat * 4)).off + 1, none⟩ = some (.int .i64 ((rd_T27 l0 x5_1).f1)) ∧ w'.cell? ⟨(ad296.add ((x5_1).toNat * 4)).block, (ad296.add ((x5_1).toNat * 4)).off + 2, none⟩ = some (.int .i64 ((rd_T27 l0 x5_1).f2)) ∧ w'.cell? ⟨(ad296.add ((x5_1).toNat * 4)).block, (ad296.add ((x5_1).toNat * 4)).off + 3, none⟩ = some (.slice A296_3 ((rd_T27 l0 x5_1).f3).length c296_3) ∧ w'.cell? (ad297.add ((x5_1).toNat * 4)) = some (.int .i64 ((rd_T27 l1 x5_1).f0)) ∧ w'.cell? ⟨(ad297.add ((x5_1).toNat * 4)).block, (ad297.add ((x5_1).toNat * 4)).off + 1, none⟩ = some (.int .i64 ((rd_T27 l1 x5_1).f1)) ∧ w'.cell? ⟨(ad297.add ((x5_1).toNat * 4)).block, (ad297.add ((x5_1).toNat * 4)).off + 2, none⟩ = some (.int .i64 ((rd_T27 l1 x5_1).f2)) ∧ w'.cell? ⟨(ad297.add ((x5_1).toNat * 4)).block, (ad297.add ((x5_1).toNat * 4)).off + 3, none⟩ = some (.slice A297_3 ((rd_T27 l1 x5_1).f3).length c297_3)) (ds := []) (bA 10 0) (by kernel_rfl) rfl rfl ⟨(bC HB hw296_0), (bC HB hw296_1), (bC HB hw296_2), (bC HB hw296_3), (bC HB hw297_0), (bC HB hw297_1), (bC HB hw297_2), (bC HB hw297_3)⟩ (fun hHeld => ?_); refine with_tabW laws_equalImages.tab6 laws_equalImages.bits6 (fun HT_ HW_ => ?_)
   generalize wr.drew = w9 at HB HR296_3 HR297_3 hx296_0 hx296_1 hx296_2 hx296_3 hx297_0 hx297_1 hx297_2 hx297_3 hHeld ⊢
   refine pQ 0 17 HT_ (bA 10 1) ?_
   refine pQ 1 18 HT_ (bA 10 3) ?_
   refine pQ 2 19 HT_ (bA 10 7) ?_
   refine pQ 4 21 HT_ (bA 10 23) ?_
   refine pQ 5 22 HT_ (bA 10 55) ?_
   refine pQ 6 23 HT_ (bA 10 119) ?_
   refine take_ (i := 3) (N := some 20) (v := ?_) (a' := ?_) (bA 10 127) rfl rfl (take_ofW HT_.out HW_.out (by kernel_rfl)) (fun _ _ _ h => h) (Or.inl ⟨by rfl, ?_⟩) hHeld ?_ ?_
   rotate_left
   ·rintro w' ⟨s0, s1, s2, s3, s4, s5, s6, s7⟩
    go_simp
    with_reducible rfl
   rotate_left
   ·refine pZ ?_
    rfl
   refine take_ (i := 7) (N := some 24) (v := ?_) (a' := ?_) (bA 10 255) rfl rfl (take_ofW HT_.out HW_.out (by kernel_rfl)) (fun _ _ _ h => h) (Or.inl ⟨by rfl, ?_⟩) hHeld ?_ ?_
   rotate_left
   ·rintro w' ⟨s0, s1, s2, s3, s4, s5, s6, s7⟩
    go_simp
    with_reducible rfl
   rotate_left
   ·refine pZ ?_
    rfl
   refine one_ (i := 8) (N := some 25) (bA 10 511) rfl rfl (one_of HT_.out (by kernel_rfl)) (by decide) (fun K hK => ?_)
   refine goes_ Try.func15 (by kernel_rfl) rfl #[.agg #[.int .i64 ((rd_T27 l0 x5_1).f0), .int .i64 ((rd_T27 l0 x5_1).f1), .int .i64 ((rd_T27 l0 x5_1).f2), .slice A296_3 ((rd_T27 l0 x5_1).f3).length c296_3], .agg #[.int .i64 ((rd_T27 l1 x5_1).f0), .int .i64 ((rd_T27 l1 x5_1).f1), .int .i64 ((rd_T27 l1 x5_1).f2), .slice A297_3 ((rd_T27 l1 x5_1).f3).length c297_3]] (by rfl) rfl rfl qM ?_
   with_reducible refine (laws_equalImage.calls k1 ((rd_T27 l0 x5_1).f0) ((rd_T27 l0 x5_1).f1) ((rd_T27 l0 x5_1).f2) _ _ ((rd_T27 l0 x5_1).f3) ((rd_T27 l1 x5_1).f0) ((rd_T27 l1 x5_1).f1) ((rd_T27 l1 x5_1).f2) _ _ ((rd_T27 l1 x5_1).f3) true _ ?side1 ?side2 ?side3 ?side4 A7.out).mono ?_
   (case side1 => exact qC (Kd.C_below HR296_3.out HB.out))
   (case side2 => exact HC296_3.out)
   (case side3 => exact qC (Kd.C_below HR297_3.out HB.out))
   (case side4 => exact HC297_3.out)
   rintro e w10 ⟨rfl, hb⟩
   refine ⟨_, rfl, ?_⟩
   replace HB := bS HB hb
   (try clear hb)
   (try clear hb2)
   (try clear hk)
   (try clear hi)
   refine hK.out _ _ ⟨(bC HB hw296_0), (bC HB hw296_1), (bC HB hw296_2), (bC HB hw296_3), (bC HB hw297_0), (bC HB hw297_1), (bC HB hw297_2), (bC HB hw297_3)⟩ (fun hHeld => ?_)
   clear hK K
   refine norm_ (a' := ?_) ?_ ?_
   rotate_left
   ·show Act.put _ (some 25) _ = _
    refine pZ ?_
    rfl
   refine pQ 9 26 HT_ (bA 10 1023) ?_
   refine done_ (done_of HT_.out (by kernel_rfl)) ?_
   try go_wp2
   go_roundg k1
   case measure => have := HK1.out; omega
   case rel => exact ⟨(wrap64 (x5_1 + 1)), qE, H', ⟨by have := HK1.out; omega⟩, ⟨by exact qW HB.out⟩⟩
def splPix (l : List Int) (a0 a2 k x y : Int) : List Int := ((pixOf l a0 a2 x y).take (k + 1).toNat).drop k.toNat
set_option maxHeartbeats 8000000 in
set_option maxRecDepth 100000 in
theorem splitPlanesPix (w : World) (B1 B2 : Nat) (a0 a1 a2 : Int) (A : Option Addr) (c : Nat) (l : List Int) (kk : Int)
  (hB1 : w.heap[B1]? = some (.cells #[.int .i64 a0, .int .i64 a1, .int .i64 a2, .slice A l.length c] 27 (0, 0))) (hB2 : w.heap[B2]? = some (.cells #[.int .i64 kk] 3 (0, 0)))
  (hr : Kd.C (Kd.int .i64) w A l.length l) (hc : l.length ≤ c) (V : ImgOk a0 a1 a2 l) (hk0 : 0 ≤ kk) (hk1 : kk < a2) :
  PixAt 55 #[.pointer (some ⟨B1, 0, none⟩), .pointer (some ⟨B2, 0, none⟩)] (fun x y => splPix l a0 a2 kk x y) a0 a1 w := fun W x y hb hx hx' hy hy' => by
 obtain ⟨⟨v0, v0'⟩, ⟨v1, v1'⟩, ⟨v2, v2'⟩, hlen, hby⟩ := V
 have hfit := pix_fits (a0 := a0) (a1 := a1) (a2 := a2) (x := x) (y := y) (by omega) (by omega) (by omega) (by omega) (by omega)
 rw [← hlen] at hfit
 have m1 : 0 ≤ y * a0 := Int.mul_nonneg hy (by omega)
 have m2 : 0 ≤ (y * a0 + x) * a2 := Int.mul_nonneg (by omega) (by omega)
 have hpl := pixOf_length (l := l) (n := a0) (p := a2) (x := x) (y := y) m2 (by omega) hfit
 have HR0 := aM (Kd.C_below hr hb)
 have KB1 := aM (blk_below hB1 hb)
 have KB2 := aM (blk_below hB2 hb)
 have HC := aM (fun (W' : World) (hb' : Below W.heap.size W W') => impl_at.calls2 a0 a1 a2 A c l x y W' (Kd.C_below HR0.out hb') hc (by omega) v0' (by omega) (by omega) (by omega) (by omega) (by omega) (by omega) hfit)
 clear hfit hlen hr hc hB1 hB2 hb m1 m2 hby
 dsimp only
 unfold splPix
 generalize pixOf l a0 a2 x y = px at HC hpl ⊢
 have f1 : IntKind.i64.wrap (kk + 1) = kk + 1 := (i64_w _).trans (wrap_small (by omega) (by omega))
 show Calls Try.prog 55 _ W fun e w' => ∃ (A : Option Addr) (c : Nat), e = .returned (.slice A ((px.take (kk + 1).toNat).drop kk.toNat).length c) ∧ Kd.C (Kd.int .i64) w' A ((px.take (kk + 1).toNat).drop kk.toNat).length ((px.take (kk + 1).toNat).drop kk.toNat) ∧ ((px.take (kk + 1).toNat).drop kk.toNat).length ≤ c ∧ Below W.heap.size W w'
 go_enter Try.func55, Try.ntmps55
 go_wp2
 refine start_ (n := 9) (S := fun w' => Below W.heap.size W w') (ds := []) (bA 9 0) (by kernel_rfl) rfl rfl (below_drew (Below.refl _ _)) (fun hHeld => ?_)
 have HB := aM hHeld
 clear hHeld
 generalize W.drew = w2 at HB ⊢
 refine pure_ (i := 1) (N := some 8) (v := ?_) (a' := ?_) (bA 9 2) rfl rfl (by kernel_rfl) (fun _ _ _ h => h) (Or.inl ⟨by rfl, ?_⟩) ?_ ?_
 rotate_left
 ·intro w'
  go_simp
  with_reducible rfl
 rotate_left
 ·refine pZ ?_
  rfl
 refine pure_ (i := 2) (N := some 9) (v := ?_) (a' := ?_) (bA 9 6) rfl rfl (by kernel_rfl) (fun _ _ _ h => h) (Or.inl ⟨by rfl, ?_⟩) ?_ ?_
 rotate_left
 ·intro w'
  go_simp
  with_reducible rfl
 rotate_left
 ·refine pZ ?_
  rfl
 refine take_ (i := 0) (N := some 7) (v := ?_) (a' := ?_) (bA 9 7) rfl rfl (by kernel_rfl) (fun _ _ _ h => h) (Or.inl ⟨by rfl, ?_⟩) HB.out ?_ ?_
 rotate_left
 ·intro w' s0
  have z0 : w'.cell? ⟨B1, 0, none⟩ = some (.int .i64 a0) := (blk_cell (blk_below KB1.out s0) 0).trans rfl
  have z1 : w'.cell? ⟨B1, 1, none⟩ = some (.int .i64 a1) := (blk_cell (blk_below KB1.out s0) 1).trans rfl
  have z2 : w'.cell? ⟨B1, 2, none⟩ = some (.int .i64 a2) := (blk_cell (blk_below KB1.out s0) 2).trans rfl
  have z3 : w'.cell? ⟨B1, 3, none⟩ = some (.slice A l.length c) := (blk_cell (blk_below KB1.out s0) 3).trans rfl
  go_simp
  with_reducible rfl
 rotate_left
 ·refine pZ ?_
  rfl
 refine take_ (i := 4) (N := some 11) (v := ?_) (a' := ?_) (bA 9 23) rfl rfl (by kernel_rfl) (fun _ _ _ h => h) (Or.inl ⟨by rfl, ?_⟩) HB.out ?_ ?_
 rotate_left
 ·intro w' s0
  have z : w'.cell? ⟨B2, 0, none⟩ = some (.int .i64 kk) := (blk_cell (blk_below KB2.out s0) 0).trans rfl
  go_simp
  with_reducible rfl
 rotate_left
 ·refine pZ ?_
  rfl
 refine take_ (i := 5) (N := some 12) (v := ?_) (a' := ?_) (bA 9 55) rfl rfl (by kernel_rfl) (fun _ _ _ h => h) (Or.inl ⟨by rfl, ?_⟩) HB.out ?_ ?_
 rotate_left
 ·intro w' s0
  have z : w'.cell? ⟨B2, 0, none⟩ = some (.int .i64 kk) := (blk_cell (blk_below KB2.out s0) 0).trans rfl
  go_simp
  with_reducible rfl
 rotate_left
 ·refine pZ ?_
  rfl
 refine pure_ (i := 6) (N := some 13) (v := ?_) (a' := ?_) (bA 9 119) rfl rfl (by kernel_rfl) (fun _ _ _ h => h) (Or.inl ⟨by rfl, ?_⟩) ?_ ?_
 rotate_left
 ·intro w'
  go_simp
  with_reducible rfl
 rotate_left
 ·refine pZ ?_
  rfl
 refine one_ (i := 3) (N := some 10) (bA 9 127) rfl rfl (by kernel_rfl) (by decide) (fun K hK => ?_)
 refine goes_ Try.func50 (by kernel_rfl) rfl #[.agg #[.int .i64 a0, .int .i64 a1, .int .i64 a2, .slice A l.length c], .int .i64 x, .int .i64 y] (by rfl) rfl rfl (by (try simp only [List.map_toArray, List.map_cons, List.map_nil]); first | done | rfl) ?_
 refine (HC.out _ HB.out).mono ?_
 rintro e w3 ⟨A', c', rfl, hr', hl', hb', hall⟩
 refine ⟨_, rfl, ?_⟩
 have HB3 := aM (below_step HB.out hb')
 have HALL := aM hall
 have HLC := aM hl'
 clear HB hr' hall hb' hl'
 have HB := HB3
 clear HB3
 refine hK.out _ _ HB.out (fun hHeld => ?_)
 clear hK K hHeld
 refine norm_ (a' := ?_) ?_ ?_
 rotate_left
 ·show Act.put _ (some 10) _ = _
  refine pZ ?_
  rfl
 obtain ⟨i010, hi010, _, hsz10, _⟩ := info_parts info3
 obtain ⟨A10, hcut10, hA10, hC10⟩ := print_mid_of (P := Try.prog) (Value.int .i64) 0 25 3 .i64 .i64 Try.underlying25 hi010 hsz10 A' c' px kk (kk + 1) hk0 (by omega) (by omega) HLC.out
 have HRC := aM (Kd.C_of_reads (d := (0 : Int)) (h1 := fun _ => rfl) (hA10 w3 (Kd.reads_of_C (HALL.out w3 (Kd.C_below HR0.out HB.out)))))
 have HCC := aM hC10
 clear hA10 hC10 hi010 hsz10
 refine pure_ (i := 7) (N := some 14) (v := ?_) (a' := ?_) (bA 9 255) rfl rfl (by kernel_rfl) (fun _ _ _ h => h) (Or.inl ⟨by rfl, ?_⟩) ?_ ?_
 rotate_left
 ·intro w'
  go_simp
  with_reducible rfl
 rotate_left
 ·refine pZ ?_
  rfl
 refine pure_ (i := 8) (N := some 6) (v := ?_) (a' := ?_) (bA 9 511) rfl rfl (by kernel_rfl) (fun _ _ _ h => h) (Or.inl ⟨by rfl, ?_⟩) ?_ ?_
 rotate_left
 ·intro w'
  go_simp
  with_reducible rfl
 rotate_left
 ·refine pZ ?_
  rfl
 refine done_ (by kernel_rfl) ?_
 try go_wp2
 go_ret
 exact ⟨A10, _, (by rw [List.length_drop, List.length_take]; rfl), HRC.out, HCC.out, HB.out⟩
def splAll (l : List Int) (a0 a1 a2 : Int) : Nat → List S27
 | 0 => []
 | k + 1 => splAll l a0 a1 a2 k ++ [(⟨a0, a1, 1, imgOf (fun x y => splPix l a0 a2 (k : Int) x y) a0.toNat a1.toNat⟩ : S27)]
theorem splAll_len (l : List Int) (a0 a1 a2 : Int) : ∀ k, (splAll l a0 a1 a2 k).length = k
 | 0 => rfl
 | k + 1 => by rw [splAll, List.length_append, splAll_len l a0 a1 a2 k]; rfl
theorem splPix_len (l : List Int) (a0 a2 : Int) (h0 : 0 ≤ a2) (h1 : a2 ≤ 4) (k x y : Int) : (splPix l a0 a2 k x y).length ≤ 100 := by
 have := pixOf_len l a0 a2 x y h0 h1
 unfold splPix
 rw [List.length_drop, List.length_take]
 omega
def impl_SplitPlanes.f (a0_0 : Int) (a0_1 : Int) (a0_2 : Int) (l0_3 : List Int) : Option (List S27) := (impl_isImage.f a0_0 a0_1 a0_2 l0_3).bind fun t0 => (if t0 = true then some (splAll l0_3 a0_0 a0_1 a0_2 a0_2.toNat) else some ([] : List S27))
set_option maxHeartbeats 8000000 in
set_option maxRecDepth 100000 in
theorem impl_SplitPlanes.calls (a0_0 : Int) (a0_1 : Int) (a0_2 : Int) (A0_3 : Option Addr) (c0_3 : Nat) (l0_3 : List Int) (r : List S27) (w : World) (hr0_3 : Kd.C (Kd.int .i64) w A0_3 l0_3.length l0_3) (hc0_3 : l0_3.length ≤ c0_3) (h : impl_SplitPlanes.f a0_0 a0_1 a0_2 l0_3 = some r) :
  Calls Try.prog 17 #[.agg #[.int .i64 a0_0, .int .i64 a0_1, .int .i64 a0_2, .slice A0_3 l0_3.length c0_3]] w fun e w' => ∃ v0_ : Value, e = .returned (v0_) ∧ Kd.S k27 27 w' w.heap.size (fun _ => True) v0_ r ∧ Below w.heap.size w w' := by
 have hu26 := Try.underlying27
 have HR0 := aM hr0_3
 have HC0 := aM hc0_3
 clear hr0_3 hc0_3
 have HB := aM (Below.refl w.heap.size w)
 unfold impl_SplitPlanes.f at h
 obtain ⟨t0, q0, H⟩ := Option.bind_eq_some_iff.mp h
 clear h
 have A0 := aM q0
 clear q0
 cases t0 with
 | false =>
  rw [if_neg (show ¬ (false = true) by decide)] at H
  obtain rfl := Option.some.inj H
  go_enter Try.func17, Try.ntmps17
  go_wp2_with (first | ((with_reducible refine gate_dst (N := 1) rfl ?_); (try (refine gate_guard (by rfl) ?_; dsimp only)); refine bxE (N := 1) (cs := #[.int .i64 a0_0, .int .i64 a0_1, .int .i64 a0_2, .slice A0_3 l0_3.length c0_3]) (t := 27) ?_; intro gm hg w1 hbox hb; have n2 := bS HB hb; have n3 := aM hbox; have n4 := aM ((by rw [hg]; exact (below_size (qW HB.out))) : w.heap.size ≤ gm); clear HB; have HB := n2; have BKgm := n3; have GEgm := n4; clear n2 n3 n4; clear hb hbox hg; have hz5 : w1.cell? ⟨gm, 0, none⟩ = some (.int .i64 a0_0) := (blk_cell BKgm.out 0).trans rfl; have hz6 : w1.cell? ⟨gm, 1, none⟩ = some (.int .i64 a0_1) := (blk_cell BKgm.out 1).trans rfl; have hz7 : w1.cell? ⟨gm, 2, none⟩ = some (.int .i64 a0_2) := (blk_cell BKgm.out 2).trans rfl; have hz8 : w1.cell? ⟨gm, 3, none⟩ = some (.slice A0_3 l0_3.length c0_3) := (blk_cell BKgm.out 3).trans rfl; have hf9 := blk_frozen BKgm.out 0; have hf10 := blk_frozen BKgm.out 1; have hf11 := blk_frozen BKgm.out 2; have hf12 := blk_frozen BKgm.out 3) | (go_at_call 47; (with_reducible refine (impl_isImage.calls a0_0 a0_1 a0_2 _ _ l0_3 false _ ?side1 ?side2 A0.out).mono ?_); (case side1 => exact (Kd.C_below HR0.out (qW HB.out))); (case side2 => exact HC0.out); rintro e w13 ⟨rfl, hb⟩; have n14 := bB BKgm hb; have n15 := bS HB hb; clear HB BKgm; have BKgm := n14; have HB := n15; clear n14 n15 hb; have hz16 : w13.cell? ⟨gm, 0, none⟩ = some (.int .i64 a0_0) := (blk_cell BKgm.out 0).trans rfl; have hz17 : w13.cell? ⟨gm, 1, none⟩ = some (.int .i64 a0_1) := (blk_cell BKgm.out 1).trans rfl; have hz18 : w13.cell? ⟨gm, 2, none⟩ = some (.int .i64 a0_2) := (blk_cell BKgm.out 2).trans rfl; have hz19 : w13.cell? ⟨gm, 3, none⟩ = some (.slice A0_3 l0_3.length c0_3) := (blk_cell BKgm.out 3).trans rfl; have hf20 := blk_frozen BKgm.out 0; have hf21 := blk_frozen BKgm.out 1; have hf22 := blk_frozen BKgm.out 2; have hf23 := blk_frozen BKgm.out 3))
  go_ret
  exact ⟨_, rfl, Kd.S_nil _ _ _ _ _, by exact qW HB.out⟩
 | true =>
  rw [if_pos rfl] at H
  obtain rfl := Option.some.inj H
  have V := aM (isImage_true A0.out)
  have b_ := V.out
  obtain ⟨⟨v0, v0'⟩, ⟨v1, v1'⟩, ⟨v2, v2'⟩, hlen, hby⟩ := b_
  clear hlen hby
  obtain ⟨p, rfl⟩ := Int.eq_ofNat_of_zero_le (show 0 ≤ a0_2 by omega)
  rw [Int.toNat_natCast]
  go_enter Try.func17, Try.ntmps17
  go_wp2_with (first | ((with_reducible refine gate_dst (N := 1) rfl ?_); (try (refine gate_guard (by rfl) ?_; dsimp only)); refine bxE (N := 1) (cs := #[.int .i64 a0_0, .int .i64 a0_1, .int .i64 (p : Int), .slice A0_3 l0_3.length c0_3]) (t := 27) ?_; intro gm hg w24 hbox hb; have n25 := bS HB hb; have n26 := aM hbox; have n27 := aM ((by rw [hg]; exact (below_size (qW HB.out))) : w.heap.size ≤ gm); clear HB; have HB := n25; have BKgm := n26; have GEgm := n27; clear n25 n26 n27; clear hb hbox hg; have hz28 : w24.cell? ⟨gm, 0, none⟩ = some (.int .i64 a0_0) := (blk_cell BKgm.out 0).trans rfl; have hz29 : w24.cell? ⟨gm, 1, none⟩ = some (.int .i64 a0_1) := (blk_cell BKgm.out 1).trans rfl; have hz30 : w24.cell? ⟨gm, 2, none⟩ = some (.int .i64 (p : Int)) := (blk_cell BKgm.out 2).trans rfl; have hz31 : w24.cell? ⟨gm, 3, none⟩ = some (.slice A0_3 l0_3.length c0_3) := (blk_cell BKgm.out 3).trans rfl; have hf32 := blk_frozen BKgm.out 0; have hf33 := blk_frozen BKgm.out 1; have hf34 := blk_frozen BKgm.out 2; have hf35 := blk_frozen BKgm.out 3) | (go_at_call 47; (with_reducible refine (impl_isImage.calls a0_0 a0_1 (p : Int) _ _ l0_3 true _ ?side1 ?side2 A0.out).mono ?_); (case side1 => exact (Kd.C_below HR0.out (qW HB.out))); (case side2 => exact HC0.out); rintro e w36 ⟨rfl, hb⟩; have n37 := bB BKgm hb; have n38 := bS HB hb; clear HB BKgm; have BKgm := n37; have HB := n38; clear n37 n38 hb; have hz39 : w36.cell? ⟨gm, 0, none⟩ = some (.int .i64 a0_0) := (blk_cell BKgm.out 0).trans rfl; have hz40 : w36.cell? ⟨gm, 1, none⟩ = some (.int .i64 a0_1) := (blk_cell BKgm.out 1).trans rfl; have hz41 : w36.cell? ⟨gm, 2, none⟩ = some (.int .i64 (p : Int)) := (blk_cell BKgm.out 2).trans rfl; have hz42 : w36.cell? ⟨gm, 3, none⟩ = some (.slice A0_3 l0_3.length c0_3) := (blk_cell BKgm.out 3).trans rfl; have hf43 := blk_frozen BKgm.out 0; have hf44 := blk_frozen BKgm.out 1; have hf45 := blk_frozen BKgm.out 2; have hf46 := blk_frozen BKgm.out 3) | ((with_reducible refine gate_dst (N := 8) rfl ?_); refine Kd.S_lit k27 _ 27 ?hg (N := 8) ?hd (xs := ([] : List S27)) (inner := []) (ok := fun _ => True) (okp := fun _ => True) ?hr ?hp (fun _ hk => hk) trivial (Below.refl _ _) (Nat.le_refl _) (by simp) ?_; (case hd => rfl); (case hg => rfl); (case hr => first | (go_simp; done) | (go_simp; rfl)); (case hp => exact (Reps.none _ _)); intro vl w47 ho4 hb hg_ hnew_; clear hg_ hnew_; have r_ := aM (Kd.S_lower (Kd.S_newB ho4 (g := gm) (o := .cells #[.int .i64 a0_0, .int .i64 a0_1, .int .i64 (p : Int), .slice A0_3 l0_3.length c0_3] 27 (0, 0)) (qB BKgm.out)) (below_size (qW HB.out))); have n48 := bB BKgm hb; have n49 := bS HB hb; clear HB BKgm; have BKgm := n48; have HB := n49; clear n48 n49 hb; have hz50 : w47.cell? ⟨gm, 0, none⟩ = some (.int .i64 a0_0) := (blk_cell BKgm.out 0).trans rfl; have hz51 : w47.cell? ⟨gm, 1, none⟩ = some (.int .i64 a0_1) := (blk_cell BKgm.out 1).trans rfl; have hz52 : w47.cell? ⟨gm, 2, none⟩ = some (.int .i64 (p : Int)) := (blk_cell BKgm.out 2).trans rfl; have hz53 : w47.cell? ⟨gm, 3, none⟩ = some (.slice A0_3 l0_3.length c0_3) := (blk_cell BKgm.out 3).trans rfl; have hf54 := blk_frozen BKgm.out 0; have hf55 := blk_frozen BKgm.out 1; have hf56 := blk_frozen BKgm.out 2; have hf57 := blk_frozen BKgm.out 3; have HO := r_; clear r_ ho4))
  go_loopg [3, 11] p (fun gg s3 s11 w' => ∃ (k : Nat) (u : Value), k ≤ p ∧ p - k ≤ gg ∧ s11 = .int .i64 k ∧ s3 = u ∧ Aside0 (Kd.S k27 27 w' w.heap.size (fun k_ => k_ ≠ gm) u (splAll l0_3 a0_0 a0_1 p k)) ∧ Aside0 (w'.heap[gm]? = some (.cells #[.int .i64 a0_0, .int .i64 a0_1, .int .i64 (p : Int), .slice A0_3 l0_3.length c0_3] 27 (0, 0))) ∧ Aside0 (Below w.heap.size w w'))
  case atStart => exact ⟨0, _, Nat.zero_le _, by omega, rfl, rfl, ⟨by (with_reducible repeat (first | apply Kd.S_alloc | apply Kd.S_drewN | apply Kd.S_drew)); exact Kd.S_mono HO.out (fun _ hk => hk.2)⟩, ⟨by refine qB ?_; exact BKgm.out⟩, ⟨by exact qW HB.out⟩⟩
  case round =>
   clear HO HB BKgm
   obtain ⟨k, u, hk, hg, rfl, rfl, HO, BKgm, HB⟩ := hrel
   obtain ⟨Au, cu, eu⟩ := Kd.S_slice HO.out
   subst eu
   have hz58 : wr.cell? ⟨gm, 0, none⟩ = some (.int .i64 a0_0) := (blk_cell BKgm.out 0).trans rfl
   have hz59 : wr.cell? ⟨gm, 1, none⟩ = some (.int .i64 a0_1) := (blk_cell BKgm.out 1).trans rfl
   have hz60 : wr.cell? ⟨gm, 2, none⟩ = some (.int .i64 (p : Int)) := (blk_cell BKgm.out 2).trans rfl
   have hz61 : wr.cell? ⟨gm, 3, none⟩ = some (.slice A0_3 l0_3.length c0_3) := (blk_cell BKgm.out 3).trans rfl
   have hf62 := blk_frozen BKgm.out 0
   have hf63 := blk_frozen BKgm.out 1
   have hf64 := blk_frozen BKgm.out 2
   have hf65 := blk_frozen BKgm.out 3
   have hn := splAll_len l0_3 a0_0 a0_1 p k
   generalize hxs : splAll l0_3 a0_0 a0_1 p k = xs at HO hn
   have EXS := aM hxs
   clear hxs
   have HLN := aM hn
   clear hn
   by_cases hlt : k < p
   case neg =>
    have hltz : ¬ (k : Int) < (p : Int) := by omega
    have ek : k = p := by omega
    subst ek
    go_wp2
    go_ret
    exact ⟨.slice Au xs.length cu, by first | rfl | (simp; done), by rw [EXS.out]; (with_reducible repeat (first | apply Kd.S_alloc | apply Kd.S_drewN | apply Kd.S_drew)); exact Kd.S_mono HO.out (fun _ _ => trivial), by exact qW HB.out⟩
   case pos =>
    have hltz : (k : Int) < (p : Int) := by omega
    have HF : Aside0 (∀ x y : Int, ((fun x y => splPix l0_3 a0_0 p k x y) x y).length ≤ 100) := ⟨fun _ _ => splPix_len _ _ _ (by omega) (by omega) _ _ _⟩
    generalize hyl : imgOf (fun x y => splPix l0_3 a0_0 p k x y) a0_0.toNat a0_1.toNat = yl
    have HYL := aM hyl
    clear hyl
    go_wp2_with (first | ((with_reducible refine gate_dst (N := 4) rfl ?_); (try (refine gate_guard (by rfl) ?_; dsimp only)); refine bxE (N := 4) (cs := #[.int .i64 0]) (t := 3) ?_; intro gk hg w66 hbox hb; have n67 := bB BKgm hb; have n68 := bS HB hb; have n69 := aM hbox; have n70 := aM ((by rw [hg]; exact (below_size (qW HB.out))) : w.heap.size ≤ gk); have n71 := aM ((by rw [hg]; exact Nat.ne_of_lt (blk_lt (g := gm) (o := .cells #[.int .i64 a0_0, .int .i64 a0_1, .int .i64 (p : Int), .slice A0_3 l0_3.length c0_3] 27 (0, 0)) (qB BKgm.out))) : gm ≠ gk); have n72 := aM ((by rw [hg]; exact Nat.ne_of_gt (blk_lt (g := gm) (o := .cells #[.int .i64 a0_0, .int .i64 a0_1, .int .i64 (p : Int), .slice A0_3 l0_3.length c0_3] 27 (0, 0)) (qB BKgm.out))) : gk ≠ gm); have r_ := aM (Kd.S_below (Kd.S_elderB (by (with_reducible repeat (first | apply Kd.S_alloc | apply Kd.S_drewN | apply Kd.S_drew)); exact HO.out) gk (Nat.le_of_eq hg.symm)) hb); clear HO; have HO := r_; clear r_; clear HB BKgm; have BKgm := n67; have HB := n68; have BKgk := n69; have GEgk := n70; have NBgm_gk := n71; have NBgk_gm := n72; clear n67 n68 n69 n70 n71 n72; clear hb hbox hg; have hz73 : w66.cell? ⟨gm, 0, none⟩ = some (.int .i64 a0_0) := (blk_cell BKgm.out 0).trans rfl; have hz74 : w66.cell? ⟨gm, 1, none⟩ = some (.int .i64 a0_1) := (blk_cell BKgm.out 1).trans rfl; have hz75 : w66.cell? ⟨gm, 2, none⟩ = some (.int .i64 (p : Int)) := (blk_cell BKgm.out 2).trans rfl; have hz76 : w66.cell? ⟨gm, 3, none⟩ = some (.slice A0_3 l0_3.length c0_3) := (blk_cell BKgm.out 3).trans rfl; have hf77 := blk_frozen BKgm.out 0; have hf78 := blk_frozen BKgm.out 1; have hf79 := blk_frozen BKgm.out 2; have hf80 := blk_frozen BKgm.out 3) | ((with_reducible refine gate_store (t := 3) (p := 4) rfl ?_); have hzs0_ : w66.cell? ⟨gk, 0, none⟩ = some (.int .i64 0) := (blk_cell BKgk.out 0).trans rfl; have hfs0_ := blk_frozen BKgk.out 0; refine store_event (t := 3) (p := 4) (v := ?vo_w83) (w1 := (w66.setCell ⟨gk, 0, none⟩ (.int .i64 (k : Int)))) ?hg ?ho ?hn ?hr ?_; (case ho => rfl); (case hg => rfl); (case hn => rfl); (case hr => first | (go_simp; done) | (go_simp; rfl)); intro w83 hw; have r_ := aM (show Kd.S k27 27 w83 w.heap.size (fun k_ => k_ ≠ gm ∧ k_ ≠ gk) (.slice Au xs.length cu) xs by rw [hw]; exact Kd.S_far (p := ⟨gk, 0, none⟩) HO.out (fun _ hk => hk.2) _); clear HO; have HO := r_; clear r_; have n84 := aM (show w83.heap[gm]? = some (.cells #[.int .i64 a0_0, .int .i64 a0_1, .int .i64 (p : Int), .slice A0_3 l0_3.length c0_3] 27 (0, 0)) by rw [hw]; exact blk_far (BKgm.out) NBgm_gk.out _); have n85 := aM (show w83.heap[gk]? = some (.cells #[.int .i64 (k : Int)] 3 (0, 0)) by rw [hw]; refine blk_put (cs := #[.int .i64 0]) ?_ 0 _ rfl; exact BKgk.out); have n86 := aM (show Below w.heap.size w w83 by rw [hw]; exact below_set (HB.out) GEgk.out); clear hzs0_ hfs0_; clear HB BKgm BKgk hw; have BKgm := n84; have BKgk := n85; have HB := n86; clear n84 n85 n86; have hz87 : w83.cell? ⟨gm, 0, none⟩ = some (.int .i64 a0_0) := (blk_cell BKgm.out 0).trans rfl; have hz88 : w83.cell? ⟨gm, 1, none⟩ = some (.int .i64 a0_1) := (blk_cell BKgm.out 1).trans rfl; have hz89 : w83.cell? ⟨gm, 2, none⟩ = some (.int .i64 (p : Int)) := (blk_cell BKgm.out 2).trans rfl; have hz90 : w83.cell? ⟨gm, 3, none⟩ = some (.slice A0_3 l0_3.length c0_3) := (blk_cell BKgm.out 3).trans rfl; have hf91 := blk_frozen BKgm.out 0; have hf92 := blk_frozen BKgm.out 1; have hf93 := blk_frozen BKgm.out 2; have hf94 := blk_frozen BKgm.out 3; have hz95 : w83.cell? ⟨gk, 0, none⟩ = some (.int .i64 (k : Int)) := (blk_cell BKgk.out 0).trans rfl; have hf96 := blk_frozen BKgk.out 0) | (go_at_call 48; refine (impl_imageBy.calls 55 #[.pointer (some ⟨gm, 0, none⟩), .pointer (some ⟨gk, 0, none⟩)] (enters_of Try.func55 (by kernel_rfl) rfl) _ a0_0 a0_1 1 _ ?b0 ?b1 ?b2 ?b3 ?bf (splitPlanesPix _ gm gk a0_0 a0_1 p _ _ l0_3 k (qB BKgm.out) (qB BKgk.out) (Kd.C_below HR0.out (qW HB.out)) HC0.out V.out (by omega) (by omega))).mono ?_; (case b0 => omega); (case b1 => omega); (case b2 => omega); (case b3 => omega); (case bf => exact HF.out); rintro e w97 ⟨v3, rfl, ho, hb⟩; rw [HYL.out] at ho; have ho := Kd.R_newB ho (g := gk) (o := .cells #[.int .i64 (k : Int)] 3 (0, 0)) (qB BKgk.out); have m1_ := aM (Kd.S_elder' (by (with_reducible repeat (first | apply Kd.S_alloc | apply Kd.S_drewN | apply Kd.S_drew)); exact HO.out) (Kd.R_base ho) hb); have m2_ := aM (Kd.R_lower ho (below_size (qW HB.out))); clear HO; obtain ⟨A3, c3, e3⟩ := Kd.R_slice ho; subst e3; clear ho; have n98 := bB BKgm hb; have n99 := bB BKgk hb; have n100 := bS HB hb; clear HB BKgm BKgk; have BKgm := n98; have BKgk := n99; have HB := n100; clear n98 n99 n100 hb; have hz101 : w97.cell? ⟨gm, 0, none⟩ = some (.int .i64 a0_0) := (blk_cell BKgm.out 0).trans rfl; have hz102 : w97.cell? ⟨gm, 1, none⟩ = some (.int .i64 a0_1) := (blk_cell BKgm.out 1).trans rfl; have hz103 : w97.cell? ⟨gm, 2, none⟩ = some (.int .i64 (p : Int)) := (blk_cell BKgm.out 2).trans rfl; have hz104 : w97.cell? ⟨gm, 3, none⟩ = some (.slice A0_3 l0_3.length c0_3) := (blk_cell BKgm.out 3).trans rfl; have hf105 := blk_frozen BKgm.out 0; have hf106 := blk_frozen BKgm.out 1; have hf107 := blk_frozen BKgm.out 2; have hf108 := blk_frozen BKgm.out 3; have hz109 : w97.cell? ⟨gk, 0, none⟩ = some (.int .i64 (k : Int)) := (blk_cell BKgk.out 0).trans rfl; have hf110 := blk_frozen BKgk.out 0; have HO := m1_; have HV := m2_; clear m1_ m2_) | ((with_reducible refine gate_builtin (b := .append) (xs := #[.tmp 14, .tmp 21]) rfl ?_); at_builtin; refine Kd.S_append k27 (w0 := w) w.heap.size rfl (.tmp 14) (.tmp 21) 23 27 (.agg #[(.int .i64 0), (.int .i64 0), (.int .i64 0), (.slice none 0 0)]) 48 rfl Try.underlying23 info27 rfl (by decide) (by omega) (.slice Au xs.length cu) xs (⟨a0_0, a0_1, 1, yl⟩ : S27) [.int .i64 a0_0, .int .i64 a0_1, .int .i64 1, .slice A3 yl.length c3] (fun k_ => k_ ≠ gm ∧ k_ ≠ gk) (fun k_ => some k_ = (.slice A3 yl.length c3 : Value).ownBlock) rfl rfl ?aP (fun k_ hk_ => (Kd.R_mono (ok' := fun k_ => (k_ ≠ gm ∧ k_ ≠ gk) ∧ some k_ ≠ (.slice Au xs.length cu : Value).ownBlock) (Kd.R_types (Kd.R_apart' (HV.out) (Kd.S_typed HO.out) (by decide)) BKgm.out (by decide)) (fun k_ hk => ⟨⟨hk.2, hk.1.1.2⟩, hk.1.2⟩)).1 k_ hk_.symm) ?aF ?aO ?aB ?aS ?aL ?_; (case aP => exact k27_mkM _ _ _ (⟨a0_0, a0_1, 1, yl⟩ : S27) (Kd.R_mono (Kd.R_tight rfl (Kd.R_mono (ok' := fun k_ => (k_ ≠ gm ∧ k_ ≠ gk) ∧ some k_ ≠ (.slice Au xs.length cu : Value).ownBlock) (Kd.R_types (Kd.R_apart' (HV.out) (Kd.S_typed HO.out) (by decide)) BKgm.out (by decide)) (fun k_ hk => ⟨⟨hk.2, hk.1.1.2⟩, hk.1.2⟩))) (fun _ h_ => h_))); (case aB => exact (qW HB.out)); (case aF => exact (fun k_ hk => ⟨Kd.freshB (g := gm) (o := .cells #[.int .i64 a0_0, .int .i64 a0_1, .int .i64 (p : Int), .slice A0_3 l0_3.length c0_3] 27 (0, 0)) (qB BKgm.out) k_ hk, Kd.freshB (g := gk) (o := .cells #[.int .i64 (k : Int)] 3 (0, 0)) (qB BKgk.out) k_ hk⟩)); (case aO => exact (by (with_reducible repeat (first | apply Kd.S_alloc | apply Kd.S_drewN | apply Kd.S_drew)); exact Kd.S_mono HO.out (fun k_ hk => ⟨hk.1, fun e_ => hk.2 e_⟩))); (case aS => exact (below_size (qW HB.out))); (case aL => have := HLN.out; omega); intro v35 w111 ho hb hg hat; have m1_ := aM (blk_grown (g := gm) (o := .cells #[.int .i64 a0_0, .int .i64 a0_1, .int .i64 (p : Int), .slice A0_3 l0_3.length c0_3] 27 (0, 0)) (qB BKgm.out) hg (Kd.S_away HO.out (fun _ hk => hk.1.1))); have m2_ := aM ho; have m3_ := aM hb; clear HO BKgm BKgk HB HV; have HO := m2_; have BKgm := m1_; have HB := m3_; clear m1_ m2_ m3_ ho hb hg hat))
    go_roundg (p - (k + 1))
    case measure => omega
    case rel => exact ⟨k + 1, _, by omega, by omega, by go_num, rfl, ⟨by rw [splAll, EXS.out, HYL.out]; (with_reducible repeat (first | apply Kd.S_alloc | apply Kd.S_drewN | apply Kd.S_drew)); exact Kd.S_mono HO.out (fun _ hk => hk.1)⟩, ⟨by refine qB ?_; exact BKgm.out⟩, ⟨by exact qW HB.out⟩⟩
def mrgPix (L : List S27) (x y : Int) : Nat → List Int
 | 0 => []
 | i + 1 => mrgPix L x y i ++ pixOf (rd_T27 L (i : Int)).f3 (rd_T27 L (i : Int)).f0 (rd_T27 L (i : Int)).f2 x y
theorem rd_T27_mem (L : List S27) (i : Nat) (h : i < L.length) : rd_T27 L (i : Int) ∈ L := by
 unfold rd_T27
 rw [Int.toNat_natCast, List.getD_eq_getElem?_getD, List.getElem?_eq_getElem h]
 exact List.getElem_mem _
theorem mrgPix_len (L : List S27) (x y : Int) (h : ∀ m ∈ L, 0 ≤ m.f2 ∧ m.f2 ≤ 4) : ∀ i : Nat, i ≤ L.length → (mrgPix L x y i).length ≤ i * 100
 | 0, _ => Nat.zero_le _
 | i + 1, hi => by
  have h1 := mrgPix_len L x y h i (by omega)
  have h2 := h _ (rd_T27_mem L i (by omega))
  have h3 := pixOf_len (rd_T27 L (i : Int)).f3 (rd_T27 L (i : Int)).f0 (rd_T27 L (i : Int)).f2 x y h2.1 h2.2
  rw [mrgPix, List.length_append]
  omega
set_option maxHeartbeats 8000000 in
set_option maxRecDepth 100000 in
theorem mergePlanesPix (w0 : World) (B : Nat) (a0 a1 : Int) (AL : Option Addr) (cL : Nat) (L : List S27) (hB : w0.heap[B]? = some (.cells #[.slice AL L.length cL] 23 (0, 0)))
  (hrL : Kd.C k27 w0 AL L.length L) (hcL : L.length ≤ cL) (hL : L.length ≤ 4) (hok : ∀ m ∈ L, ImgOk m.f0 m.f1 m.f2 m.f3 ∧ m.f0 = a0 ∧ m.f1 = a1 ∧ m.f2 = 1) :
  PixAt 49 #[.pointer (some ⟨B, 0, none⟩)] (fun x y => mrgPix L x y L.length) a0 a1 w0 := fun w x y hb hx hx' hy hy' => by
 have KB := aM (blk_below hB hb)
 have HRL := aM (Kd.C_below hrL hb)
 have HOK := aM hok
 have HLM := aM (fun i hi => mrgPix_len L x y (fun m hm => ⟨by have := (hok m hm).2.2.2; omega, by have := (hok m hm).2.2.2; omega⟩) i hi)
 clear hB hrL hcL hb hok
 dsimp only
 have HB := aM (Below.refl w.heap.size w)
 obtain ⟨n, hn⟩ : ∃ n, L.length = n := ⟨_, rfl⟩
 rw [hn] at KB HRL HLM hL
 show Calls Try.prog 49 _ w fun e w' => ∃ (A : Option Addr) (c : Nat), e = .returned (.slice A (mrgPix L x y L.length).length c) ∧ Kd.C (Kd.int .i64) w' A (mrgPix L x y L.length).length (mrgPix L x y L.length) ∧ (mrgPix L x y L.length).length ≤ c ∧ Below w.heap.size w w'
 rw [hn]
 have HN := aM hn
 clear hn
 go_enter Try.func49, Try.ntmps49
 go_wp2_with (first | ((with_reducible refine gate_dst (N := 9) rfl ?_); refine Kd.R_lit (Kd.int .i64) _ 3 ?hg (N := 9) ?hd (xs := ([] : List (Int))) (inner := []) (ok := fun _ => True) (okp := fun _ => True) ?hr ?hp (fun _ hk => hk) trivial (Below.refl _ _) (Nat.le_refl _) (by simp) ?_; (case hd => rfl); (case hg => rfl); (case hr => first | (go_simp; done) | (go_simp; rfl)); (case hp => exact (Reps.none _ _)); intro vl w1 ho4 hb hg_ hnew_; clear hg_ hnew_; have r_ := oR ho4 HB; have n2 := bS HB hb; clear HB ; have HB := n2; clear n2 hb; have HO := r_; clear r_ ho4; have hzB : w1.cell? ⟨B, 0, none⟩ = some (.slice AL n cL) := (blk_cell (blk_below KB.out HB.out) 0).trans rfl))
 go_loopg [6, 12] n (fun gg s6 s12 w' => ∃ (i : Nat) (u : Value), i ≤ n ∧ n - i ≤ gg ∧ s12 = .int .i64 i ∧ s6 = u ∧ Aside0 (Kd.R (Kd.int .i64) 3 w' w.heap.size (fun _ => True) u (mrgPix L x y i)) ∧ Aside0 (Below w.heap.size w w'))
 case atStart => exact ⟨0, _, Nat.zero_le _, by omega, rfl, rfl, ⟨by refine qR ?_; exact HO.out⟩, ⟨by exact qW HB.out⟩⟩
 case round =>
  clear HO HB
  try clear hzB
  obtain ⟨i, u, hi, hg, rfl, rfl, HO, HB⟩ := hrel
  obtain ⟨Au, cu, rfl⟩ := sL HO
  generalize hxs : mrgPix L x y i = xs at HO
  have EXS := aM hxs
  clear hxs
  by_cases hlt : i < n
  case neg =>
   have hltz : ¬ (i : Int) < (n : Int) := by omega
   have ek : i = n := by omega
   subst ek
   go_wp2
   go_ret
   exact ⟨Au, cu, by rw [EXS.out]; first | rfl | (simp; done), by rw [EXS.out]; exact (Kd.R_reads' HO.out).2.2, by rw [EXS.out]; exact (Kd.R_reads' HO.out).2.1, by exact qW HB.out⟩
  case pos =>
   have hltz : (i : Int) < (n : Int) := by omega
   have hi0 : 0 ≤ (i : Int) := by omega
   have hi4 : (i : Int) ≤ 4 := by omega
   obtain ⟨ad, A3, c3, eAL, z0, z1, z2, z3, hl3, hC3⟩ := at_T27 (Kd.C_below HRL.out HB.out) (i : Int) hi0 hltz
   cases eAL
   simp only [Int.toNat_natCast] at z0 z1 z2 z3
   have hm := HOK.out _ (rd_T27_mem L i (by have := HN.out; omega))
   have HXL := aM (HLM.out i hi)
   rw [EXS.out] at HXL
   have E2 := aM (show mrgPix L x y (i + 1) = xs ++ pixOf (rd_T27 L (i : Int)).f3 (rd_T27 L (i : Int)).f0 (rd_T27 L (i : Int)).f2 x y by rw [mrgPix, EXS.out])
   generalize rd_T27 L (i : Int) = m at z0 z1 z2 z3 hl3 hC3 hm E2
   obtain ⟨V, e0, e1, e2⟩ := hm
   obtain ⟨⟨v0, v0'⟩, ⟨v1, v1'⟩, ⟨v2, v2'⟩, hlen, hby⟩ := V
   have hfit := pix_fits (a0 := m.f0) (a1 := m.f1) (a2 := m.f2) (x := x) (y := y) (by omega) (by omega) (by omega) (by omega) (by omega)
   rw [← hlen] at hfit
   have HCA := aM (fun (W' : World) (hb' : Below wr.heap.size wr W') => impl_at.calls2 m.f0 m.f1 m.f2 A3 c3 m.f3 x y W' (Kd.C_below hC3 hb') hl3 (by omega) v0' (by omega) (by omega) (by omega) (by omega) (by omega) (by omega) hfit)
   have hpl := pixOf_len m.f3 m.f0 m.f2 x y (by omega) (by omega)
   generalize pixOf m.f3 m.f0 m.f2 x y = px at HCA hpl E2
   have HPL := aM hpl
   have HNL := aM hL
   clear hpl hfit hlen hby hC3 hl3 v0 v0' v1 v1' v2 v2' e0 e1 e2 hL
   have HBW := aM (Below.refl wr.heap.size wr)
   go_wp2_with (first | ((with_reducible refine gate_dst (N := 8) rfl ?_); (try (refine gate_guard (by rfl) ?_; dsimp only)); refine bxE (N := 8) (cs := #[.int .i64 0, .int .i64 0, .int .i64 0, .slice none 0 0]) (t := 27) ?_; intro gb hg w3 hbox hb; have n4 := bS HB hb; have n5 := aM hbox; have n6 := aM ((by rw [hg]; exact (below_size (qW HB.out))) : w.heap.size ≤ gb); have r_ := aM (Kd.R_below (Kd.R_elderB (qR HO.out) gb (Nat.le_of_eq hg.symm)) hb); clear HO; have HO := r_; clear r_; have q_ := aM (below_step (by repeat (first | exact HBW.out | apply below_alloc | apply pw_below_drewN | apply below_drew1)) hb); have ge_ := aM ((by rw [hg]; exact below_size (by repeat (first | exact HBW.out | apply below_alloc | apply pw_below_drewN | apply below_drew1))) : wr.heap.size ≤ gb); clear HBW; have HBW := q_; have GWgb := ge_; clear q_ ge_; clear HB; have HB := n4; have BKgb := n5; have GEgb := n6; clear n4 n5 n6; clear hb hbox hg) | ((with_reducible refine gate_store (t := 27) (p := 8) rfl ?_); have hzs0_ : w3.cell? ⟨gb, 0, none⟩ = some (.int .i64 0) := (blk_cell BKgb.out 0).trans rfl; have hfs0_ := blk_frozen BKgb.out 0; have hzs1_ : w3.cell? ⟨gb, 1, none⟩ = some (.int .i64 0) := (blk_cell BKgb.out 1).trans rfl; have hfs1_ := blk_frozen BKgb.out 1; have hzs2_ : w3.cell? ⟨gb, 2, none⟩ = some (.int .i64 0) := (blk_cell BKgb.out 2).trans rfl; have hfs2_ := blk_frozen BKgb.out 2; have hzs3_ : w3.cell? ⟨gb, 3, none⟩ = some (.slice none 0 0) := (blk_cell BKgb.out 3).trans rfl; have hfs3_ := blk_frozen BKgb.out 3; refine store_event (t := 27) (p := 8) (v := ?vo_w15) (w1 := ((((w3.setCell ⟨gb, 0, none⟩ (.int .i64 m.f0)).setCell ⟨gb, 1, none⟩ (.int .i64 m.f1)).setCell ⟨gb, 2, none⟩ (.int .i64 m.f2)).setCell ⟨gb, 3, none⟩ (.slice A3 m.f3.length c3))) ?hg ?ho ?hn ?hr ?_; (case ho => rfl); (case hg => rfl); (case hn => rfl); (case hr => first | (go_simp; done) | (go_simp; rfl)); intro w15 hw; have r_ := aM (show Kd.R (Kd.int .i64) 3 w15 w.heap.size (fun k_ => True ∧ k_ ≠ gb) (.slice Au xs.length cu) xs by rw [hw]; exact Kd.R_far (p := ⟨gb, 3, none⟩) (Kd.R_far (p := ⟨gb, 2, none⟩) (Kd.R_far (p := ⟨gb, 1, none⟩) (Kd.R_far (p := ⟨gb, 0, none⟩) (HO.out) (fun _ hk => hk.2) _) (fun _ hk => hk.2) _) (fun _ hk => hk.2) _) (fun _ hk => hk.2) _); clear HO; have HO := r_; clear r_; have q_ := aM (show Below wr.heap.size wr w15 by rw [hw]; exact below_set (below_set (below_set (below_set (HBW.out) GWgb.out) GWgb.out) GWgb.out) GWgb.out); clear HBW; have HBW := q_; clear q_; have n16 := aM (show w15.heap[gb]? = some (.cells #[.int .i64 m.f0, .int .i64 m.f1, .int .i64 m.f2, .slice A3 m.f3.length c3] 27 (0, 0)) by rw [hw]; refine blk_put (cs := #[.int .i64 m.f0, .int .i64 m.f1, .int .i64 m.f2, .slice none 0 0]) ?_ 3 _ rfl; refine blk_put (cs := #[.int .i64 m.f0, .int .i64 m.f1, .int .i64 0, .slice none 0 0]) ?_ 2 _ rfl; refine blk_put (cs := #[.int .i64 m.f0, .int .i64 0, .int .i64 0, .slice none 0 0]) ?_ 1 _ rfl; refine blk_put (cs := #[.int .i64 0, .int .i64 0, .int .i64 0, .slice none 0 0]) ?_ 0 _ rfl; exact BKgb.out); have n17 := aM (show Below w.heap.size w w15 by rw [hw]; exact below_set (below_set (below_set (below_set (HB.out) GEgb.out) GEgb.out) GEgb.out) GEgb.out); clear hzs0_ hfs0_ hzs1_ hfs1_ hzs2_ hfs2_ hzs3_ hfs3_; clear HB BKgb hw; have BKgb := n16; have HB := n17; clear n16 n17; have hz18 : w15.cell? ⟨gb, 0, none⟩ = some (.int .i64 m.f0) := (blk_cell BKgb.out 0).trans rfl; have hz19 : w15.cell? ⟨gb, 1, none⟩ = some (.int .i64 m.f1) := (blk_cell BKgb.out 1).trans rfl; have hz20 : w15.cell? ⟨gb, 2, none⟩ = some (.int .i64 m.f2) := (blk_cell BKgb.out 2).trans rfl; have hz21 : w15.cell? ⟨gb, 3, none⟩ = some (.slice A3 m.f3.length c3) := (blk_cell BKgb.out 3).trans rfl; have hf22 := blk_frozen BKgb.out 0; have hf23 := blk_frozen BKgb.out 1; have hf24 := blk_frozen BKgb.out 2; have hf25 := blk_frozen BKgb.out 3) | (go_at_call 50; refine (HCA.out _ (qW HBW.out)).mono ?_; rintro e w26 ⟨A', c', rfl, hr', hl', hb, hall⟩; have r_ := aM (Kd.R_below (qR HO.out) hb); clear HO; have HO := r_; clear r_; have HPR := aM hr'; clear hr' hall hl'; have n27 := bB BKgb hb; have n28 := bS HB hb; clear HB BKgb; have BKgb := n27; have HB := n28; clear n27 n28 hb; have hz29 : w26.cell? ⟨gb, 0, none⟩ = some (.int .i64 m.f0) := (blk_cell BKgb.out 0).trans rfl; have hz30 : w26.cell? ⟨gb, 1, none⟩ = some (.int .i64 m.f1) := (blk_cell BKgb.out 1).trans rfl; have hz31 : w26.cell? ⟨gb, 2, none⟩ = some (.int .i64 m.f2) := (blk_cell BKgb.out 2).trans rfl; have hz32 : w26.cell? ⟨gb, 3, none⟩ = some (.slice A3 m.f3.length c3) := (blk_cell BKgb.out 3).trans rfl; have hf33 := blk_frozen BKgb.out 0; have hf34 := blk_frozen BKgb.out 1; have hf35 := blk_frozen BKgb.out 2; have hf36 := blk_frozen BKgb.out 3) | ((with_reducible refine gate_builtin (b := .append) (xs := #[.tmp 16, .tmp 20]) rfl ?_); at_builtin; refine Kd.R_append_rows (Kd.int .i64) (w0 := w) w.heap.size rfl (.tmp 16) (.tmp 20) 25 3 (.int .i64 0) 8 rfl Try.underlying25 info3 rfl (by decide) (by omega) (.slice Au xs.length cu) xs px _ _ _ (fun _ => True) (fun _ => False) rfl rfl ?aO ?aR (fun _ _ h => h) (fun _ h => h.elim) ?aF ?aB ?aS ?aL ?_; (case aR => exact HPR.out); (case aB => exact (qW HB.out)); (case aF => exact (fun _ _ => trivial)); (case aO => exact (by refine qR ?_; exact Kd.R_mono HO.out (fun _ _ => trivial))); (case aS => exact (below_size (qW HB.out))); (case aL => have h1 := HPL.out; have h2 := HXL.out; have h3 := HNL.out; omega); intro v311 w37 ho hb hg hat; replace HB := aM (hb); replace HO := aM (ho); clear BKgb HBW; clear ho hb hg hat))
   have hL := HNL.out
   go_roundg (n - (i + 1))
   case measure => omega
   case rel => exact ⟨i + 1, _, by omega, by omega, by go_num, rfl, ⟨by rw [E2.out]; refine qR ?_; exact HO.out⟩, ⟨by exact qW HB.out⟩⟩
end Go.Proofs.Yteeeedmmcdlhjaa.P
