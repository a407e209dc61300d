/- Contracts and row, written by a program of this place out of the translation: the call answers true and its argument reads as before, for every input; no condition. -/
import Derived.Test.YtohbpilokmppbaaK0
import Derived.Test.YtohbpilokmppbaaK1
import Derived.Test.YtohbpilokmppbaaK2
import Derived.Test.YtohbpilokmppbaaK3
namespace Go.Proofs.Ytohbpilokmppbaa.P
open Go.RowKit Go.Proofs.YtohbpilokmppbaaW.PrintWords Go.Proofs.YtohbpilokmppbaaW.PrintLast Go.Proofs.YtohbpilokmppbaaW.PrintMore
attribute [local go_sem] max2_int min2_int max_two min_two max_three min_three max_four min_four   -- for this text's walks alone
set_option linter.unusedVariables false
set_option linter.unusedSimpArgs false
def maxBelow.f (l : List Int) (L : List (List Int)) : Option Bool := (slices_Max_int_int.f 1030 l).map fun m => decide (m < (L.length : Int))
theorem max_l0 (l : List Int) (hl : l.length ≤ 1000000000) : ∀ (k i : Nat) (m r : Int), slices_Max_int_int.l0 k l m i = some r → m ≤ r ∧ ∀ j : Nat, i ≤ j → j < l.length → rd l (j : Int) ≤ r := by
 intro k
 induction k with
 | zero => intro i m r h; rw [slices_Max_int_int.l0] at h; cases h
 | succ k ih =>
  intro i m r h
  rw [slices_Max_int_int.l0] at h
  by_cases h1 : (i : Int) < (l.length : Int)
  rotate_left
  ·rw [if_neg h1] at h
   cases h
   exact ⟨by omega, fun j hj hj' => by omega⟩
  rw [if_pos h1, if_pos (by omega), wrap_small (by omega) (by omega), show (i : Int) + 1 = ((i + 1 : Nat) : Int) by omega] at h
  obtain ⟨q1, q2⟩ := ih (i + 1) _ r h
  have q3 : m ≤ mx m (rd l (i : Int)) ∧ rd l (i : Int) ≤ mx m (rd l (i : Int)) := by unfold mx; (repeat' split) <;> omega
  refine ⟨by omega, fun j hj hj' => ?_⟩
  by_cases e : j = i
  ·subst e; omega
  exact q2 j (by omega) hj'
theorem max_all (l : List Int) (hl : l.length ≤ 1000000000) (k : Nat) (r : Int) (h : slices_Max_int_int.f k l = some r) : ∀ x ∈ l, x ≤ r := by
 intro x hx
 obtain ⟨j, hj, rfl⟩ := List.getElem_of_mem hx
 unfold slices_Max_int_int.f at h
 rw [if_neg (by omega), if_pos (by omega)] at h
 obtain ⟨q1, q2⟩ := max_l0 l hl k 1 _ r h
 have e : l[j] = rd l (j : Int) := by simp [rd, hj]
 rw [e]
 by_cases e0 : j = 0
 ·subst e0; exact q1
 exact q2 j (by omega) hj
theorem maxBelow_true {l : List Int} {L : List (List Int)} (hl : l.length ≤ 1000000000) (h : maxBelow.f l L = some true) : ∀ x ∈ l, x < (L.length : Int) := by
 intro x hx
 unfold maxBelow.f at h
 obtain ⟨m, hm, e⟩ := Option.map_eq_some_iff.mp h
 have := max_all l hl _ m hm x hx
 have := of_decide_eq_true e
 omega
def impl_ColorImage.f (a0_0 : Int) (a0_1 : Int) (a0_2 : Int) (l0_3 : List Int) (l1 : List (List Int)) (a2 : Int) : Option (Int × Int × Int × List Int × Bool) := (impl_isImage.f a0_0 a0_1 a0_2 l0_3).bind fun t0 => (if t0 = true then (if a0_2 = 1 then ((impl_isPalette.f l1 a2).bind fun t2 => (if t2 = true then ((maxBelow.f l0_3 l1).bind fun t3 => (if t3 = true then (some (a0_0, a0_1, a2, imgOf (fun x y => colPix l1 l0_3 a0_0 a0_2 x y) a0_0.toNat a0_1.toNat, true)) else (some (0, 0, 0, ([] : List Int), false)))) else (some (0, 0, 0, ([] : List Int), false)))) else (some (0, 0, 0, ([] : List Int), false))) else (some (0, 0, 0, ([] : List Int), false)))
set_option maxHeartbeats 8000000 in
set_option maxRecDepth 100000 in
theorem impl_ColorImage.calls (a0_0 : Int) (a0_1 : Int) (a0_2 : Int) (A0_3 : Option Addr) (c0_3 : Nat) (l0_3 : List Int) (Aq1 : Option Addr) (cq1 : Nat) (l1 : List (List Int)) (a2 : Int) (r1 : Int) (r2 : Int) (r3 : Int) (r4 : List Int) (r5 : Bool) (w : World) (hr0_3 : Kd.C (Kd.int .i64) w A0_3 l0_3.length l0_3) (hc0_3 : l0_3.length ≤ c0_3) (hr1 : Kd.C (Kd.slice 3 (Kd.int .i64)) w Aq1 l1.length l1) (hc1 : l1.length ≤ cq1) (h : impl_ColorImage.f a0_0 a0_1 a0_2 l0_3 l1 a2 = some (r1, r2, r3, r4, r5)) :
  Calls Try.prog 25 #[.agg #[.int .i64 a0_0, .int .i64 a0_1, .int .i64 a0_2, .slice A0_3 l0_3.length c0_3], .slice Aq1 l1.length cq1, .int .i64 a2] w fun e w' => ∃ v3_ : Value, e = .returned (.tuple #[.agg #[.int .i64 r1, .int .i64 r2, .int .i64 r3, v3_], .bool r5]) ∧ Kd.R (Kd.int .i64) 3 w' w.heap.size (fun _ => True) v3_ r4 ∧ Below w.heap.size w w' := by
 have hu26 := Try.underlying29
 have HR0 := aM hr0_3
 have HC0 := aM hc0_3
 clear hr0_3 hc0_3
 have HR1 := aM hr1
 have HC1 := aM hc1
 clear hr1 hc1
 have HB := aM (Below.refl w.heap.size w)
 unfold impl_ColorImage.f at h
 have H := h
 clear h
 replace H := Option.bind_eq_some_iff.mp H
 obtain ⟨t0, q0, H⟩ := H
 have A0 := aM q0
 clear q0
 cases t0 with
 | false =>
  rw [if_neg (show ¬ (false = true) by decide)] at H
  simp only [Option.some.injEq, Prod.mk.injEq] at H
  obtain ⟨rfl, rfl, rfl, rfl, rfl⟩ := H
  go_enter Try.func25, Try.ntmps25
  go_wp2_with (first | ((with_reducible refine gate_dst (N := 3) rfl ?_); (try (refine gate_guard (by rfl) ?_; dsimp only)); refine bxE (N := 3) (cs := #[.int .i64 a0_0, .int .i64 a0_1, .int .i64 a0_2, .slice A0_3 l0_3.length c0_3]) (t := 29) ?_; intro gm hg w1 hbox hb; have n2 := bS HB hb; have n3 := aM hbox; have n4 := aM ((by rw [hg]; exact (below_size (qW HB.out))) : w.heap.size ≤ gm); clear HB; have HB := n2; have BKgm := n3; have GEgm := n4; clear n2 n3 n4; clear hb hbox hg; have hz5 : w1.cell? ⟨gm, 0, none⟩ = some (.int .i64 a0_0) := (blk_cell BKgm.out 0).trans rfl; have hz6 : w1.cell? ⟨gm, 1, none⟩ = some (.int .i64 a0_1) := (blk_cell BKgm.out 1).trans rfl; have hz7 : w1.cell? ⟨gm, 2, none⟩ = some (.int .i64 a0_2) := (blk_cell BKgm.out 2).trans rfl; have hz8 : w1.cell? ⟨gm, 3, none⟩ = some (.slice A0_3 l0_3.length c0_3) := (blk_cell BKgm.out 3).trans rfl; have hf9 := blk_frozen BKgm.out 0; have hf10 := blk_frozen BKgm.out 1; have hf11 := blk_frozen BKgm.out 2; have hf12 := blk_frozen BKgm.out 3) | ((with_reducible refine gate_dst (N := 4) rfl ?_); (try (refine gate_guard (by rfl) ?_; dsimp only)); refine bxE (N := 4) (cs := #[.slice Aq1 l1.length cq1]) (t := 26) ?_; intro gl hg w13 hbox hb; have n14 := bB BKgm hb; have n15 := bS HB hb; have n16 := aM hbox; have n17 := aM ((by rw [hg]; exact (below_size (qW HB.out))) : w.heap.size ≤ gl); have n18 := aM ((by rw [hg]; exact Nat.ne_of_lt (blk_lt (g := gm) (o := .cells #[.int .i64 a0_0, .int .i64 a0_1, .int .i64 a0_2, .slice A0_3 l0_3.length c0_3] 29 (0, 0)) (qB BKgm.out))) : gm ≠ gl); have n19 := aM ((by rw [hg]; exact Nat.ne_of_gt (blk_lt (g := gm) (o := .cells #[.int .i64 a0_0, .int .i64 a0_1, .int .i64 a0_2, .slice A0_3 l0_3.length c0_3] 29 (0, 0)) (qB BKgm.out))) : gl ≠ gm); clear HB BKgm; have BKgm := n14; have HB := n15; have BKgl := n16; have GEgl := n17; have NBgm_gl := n18; have NBgl_gm := n19; clear n14 n15 n16 n17 n18 n19; clear hb hbox hg; have hz20 : w13.cell? ⟨gm, 0, none⟩ = some (.int .i64 a0_0) := (blk_cell BKgm.out 0).trans rfl; have hz21 : w13.cell? ⟨gm, 1, none⟩ = some (.int .i64 a0_1) := (blk_cell BKgm.out 1).trans rfl; have hz22 : w13.cell? ⟨gm, 2, none⟩ = some (.int .i64 a0_2) := (blk_cell BKgm.out 2).trans rfl; have hz23 : w13.cell? ⟨gm, 3, none⟩ = some (.slice A0_3 l0_3.length c0_3) := (blk_cell BKgm.out 3).trans rfl; have hf24 := blk_frozen BKgm.out 0; have hf25 := blk_frozen BKgm.out 1; have hf26 := blk_frozen BKgm.out 2; have hf27 := blk_frozen BKgm.out 3; have hz28 : w13.cell? ⟨gl, 0, none⟩ = some (.slice Aq1 l1.length cq1) := (blk_cell BKgl.out 0).trans rfl; have hf29 := blk_frozen BKgl.out 0) | ((with_reducible refine gate_dst (N := 6) rfl ?_); (try (refine gate_guard (by rfl) ?_; dsimp only)); refine bxE (N := 6) (cs := #[.int .i64 0, .int .i64 0, .int .i64 0, .slice none 0 0]) (t := 29) ?_; intro gr hg w30 hbox hb; have n31 := bB BKgm hb; have n32 := bB BKgl hb; have n33 := bS HB hb; have n34 := aM hbox; have n35 := aM ((by rw [hg]; exact (below_size (qW HB.out))) : w.heap.size ≤ gr); have n36 := aM ((by rw [hg]; exact Nat.ne_of_lt (blk_lt (g := gm) (o := .cells #[.int .i64 a0_0, .int .i64 a0_1, .int .i64 a0_2, .slice A0_3 l0_3.length c0_3] 29 (0, 0)) (qB BKgm.out))) : gm ≠ gr); have n37 := aM ((by rw [hg]; exact Nat.ne_of_gt (blk_lt (g := gm) (o := .cells #[.int .i64 a0_0, .int .i64 a0_1, .int .i64 a0_2, .slice A0_3 l0_3.length c0_3] 29 (0, 0)) (qB BKgm.out))) : gr ≠ gm); have n38 := aM ((by rw [hg]; exact Nat.ne_of_lt (blk_lt (g := gl) (o := .cells #[.slice Aq1 l1.length cq1] 26 (0, 0)) (qB BKgl.out))) : gl ≠ gr); have n39 := aM ((by rw [hg]; exact Nat.ne_of_gt (blk_lt (g := gl) (o := .cells #[.slice Aq1 l1.length cq1] 26 (0, 0)) (qB BKgl.out))) : gr ≠ gl); clear HB BKgm BKgl; have BKgm := n31; have BKgl := n32; have HB := n33; have BKgr := n34; have GEgr := n35; have NBgm_gr := n36; have NBgr_gm := n37; have NBgl_gr := n38; have NBgr_gl := n39; clear n31 n32 n33 n34 n35 n36 n37 n38 n39; clear hb hbox hg; have hz40 : w30.cell? ⟨gm, 0, none⟩ = some (.int .i64 a0_0) := (blk_cell BKgm.out 0).trans rfl; have hz41 : w30.cell? ⟨gm, 1, none⟩ = some (.int .i64 a0_1) := (blk_cell BKgm.out 1).trans rfl; have hz42 : w30.cell? ⟨gm, 2, none⟩ = some (.int .i64 a0_2) := (blk_cell BKgm.out 2).trans rfl; have hz43 : w30.cell? ⟨gm, 3, none⟩ = some (.slice A0_3 l0_3.length c0_3) := (blk_cell BKgm.out 3).trans rfl; have hf44 := blk_frozen BKgm.out 0; have hf45 := blk_frozen BKgm.out 1; have hf46 := blk_frozen BKgm.out 2; have hf47 := blk_frozen BKgm.out 3; have hz48 : w30.cell? ⟨gl, 0, none⟩ = some (.slice Aq1 l1.length cq1) := (blk_cell BKgl.out 0).trans rfl; have hf49 := blk_frozen BKgl.out 0; have hz50 : w30.cell? ⟨gr, 0, none⟩ = some (.int .i64 0) := (blk_cell BKgr.out 0).trans rfl; have hz51 : w30.cell? ⟨gr, 1, none⟩ = some (.int .i64 0) := (blk_cell BKgr.out 1).trans rfl; have hz52 : w30.cell? ⟨gr, 2, none⟩ = some (.int .i64 0) := (blk_cell BKgr.out 2).trans rfl; have hz53 : w30.cell? ⟨gr, 3, none⟩ = some (.slice none 0 0) := (blk_cell BKgr.out 3).trans rfl; have hf54 := blk_frozen BKgr.out 0; have hf55 := blk_frozen BKgr.out 1; have hf56 := blk_frozen BKgr.out 2; have hf57 := blk_frozen BKgr.out 3))
  refine start_ (n := 22) (S := fun w' => Below w30.heap.size w30 w') (ds := []) (bA 22 0) (by kernel_rfl) rfl rfl (below_drew (Below.refl _ _)) (fun hHeld => ?_)
  have HS := aM hHeld
  clear hHeld
  generalize w30.drew = w58 at HS ⊢
  refine take_ (i := 0) (N := some 8) (v := ?_) (a' := ?_) (bA 22 1) rfl rfl (by kernel_rfl) (fun _ _ _ h => h) (Or.inl ⟨by rfl, ?_⟩) HS.out ?_ ?_
  rotate_left
  ·intro w' s0
   have z0 : w'.cell? ⟨gm, 0, none⟩ = some (.int .i64 a0_0) := (blk_cell (blk_below BKgm.out s0) 0).trans rfl
   have z1 : w'.cell? ⟨gm, 1, none⟩ = some (.int .i64 a0_1) := (blk_cell (blk_below BKgm.out s0) 1).trans rfl
   have z2 : w'.cell? ⟨gm, 2, none⟩ = some (.int .i64 a0_2) := (blk_cell (blk_below BKgm.out s0) 2).trans rfl
   have z3 : w'.cell? ⟨gm, 3, none⟩ = some (.slice A0_3 l0_3.length c0_3) := (blk_cell (blk_below BKgm.out s0) 3).trans rfl
   go_simp
   with_reducible rfl
  rotate_left
  ·refine pZ ?_
   rfl
  refine one_ (i := 1) (N := some 9) (bA 22 3) rfl rfl (by kernel_rfl) (by decide) (fun K hK => ?_)
  refine goes_ Try.func43 (by kernel_rfl) rfl #[.agg #[.int .i64 a0_0, .int .i64 a0_1, .int .i64 a0_2, .slice A0_3 l0_3.length c0_3]] (by rfl) rfl rfl (by (try simp only [List.map_toArray, List.map_cons, List.map_nil]); first | done | rfl) ?_
  refine (impl_isImage.calls a0_0 a0_1 a0_2 _ _ l0_3 false _ (Kd.C_below HR0.out (below_step (qW HB.out) HS.out)) HC0.out A0.out).mono ?_
  rintro e w59 ⟨rfl, hb⟩
  refine ⟨_, rfl, ?_⟩
  have HS3 := aM (below_step HS.out hb)
  clear hb
  clear HS
  have HS := HS3
  clear HS3
  refine hK.out _ _ HS.out (fun hHeld => ?_)
  clear hK K hHeld
  refine norm_ (a' := ?_) ?_ ?_
  rotate_left
  ·show Act.put _ (some 9) _ = _
   refine pZ ?_
   rfl
  refine pure_ (i := 2) (N := some 10) (v := ?_) (a' := ?_) (bA 22 7) rfl rfl (by kernel_rfl) (fun _ _ _ h => h) (Or.inl ⟨by rfl, ?_⟩) ?_ ?_
  rotate_left
  ·intro w'
   go_simp
   with_reducible rfl
  rotate_left
  ·refine pZ ?_
   rfl
  refine pure_ (i := 3) (N := some 11) (v := ?_) (a' := ?_) (bA 22 15) rfl rfl (by kernel_rfl) (fun _ _ _ h => h) (Or.inl ⟨by rfl, ?_⟩) ?_ ?_
  rotate_left
  ·intro w'
   go_simp
   with_reducible rfl
  rotate_left
  ·refine pZ ?_
   rfl
  refine pure_ (i := 4) (N := some 12) (v := _) (a' := ?_) (bA 22 31) rfl rfl (by kernel_rfl) (fun _ _ _ h => h) (Or.inr ⟨by rfl, rfl⟩) ?_ ?_
  rotate_left
  ·refine pZ ?_
   rfl
  refine take_ (i := 5) (N := some 13) (v := _) (a' := ?_) (bA 22 63) rfl rfl (by kernel_rfl) (fun _ _ _ h => h) (Or.inr ⟨by rfl, rfl⟩) HS.out ?_ ?_
  rotate_left
  ·refine pZ ?_
   rfl
  refine pure_ (i := 6) (N := some 14) (v := _) (a' := ?_) (bA 22 127) rfl rfl (by kernel_rfl) (fun _ _ _ h => h) (Or.inr ⟨by rfl, rfl⟩) ?_ ?_
  rotate_left
  ·refine pZ ?_
   rfl
  refine pure_ (i := 7) (N := some 15) (v := ?_) (a' := ?_) (bA 22 255) rfl rfl (by kernel_rfl) (fun _ _ _ h => h) (Or.inl ⟨by rfl, ?_⟩) ?_ ?_
  rotate_left
  ·intro w'
   go_simp
   with_reducible rfl
  rotate_left
  ·refine pZ ?_
   rfl
  refine pure_ (i := 8) (N := some 16) (v := ?_) (a' := ?_) (bA 22 511) rfl rfl (by kernel_rfl) (fun _ _ _ h => h) (Or.inl ⟨by rfl, ?_⟩) ?_ ?_
  rotate_left
  ·intro w'
   go_simp
   with_reducible rfl
  rotate_left
  ·refine pZ ?_
   rfl
  refine take_ (i := 9) (N := some 17) (v := _) (a' := ?_) (bA 22 1023) rfl rfl (by kernel_rfl) (fun _ _ _ h => h) (Or.inr ⟨by rfl, rfl⟩) HS.out ?_ ?_
  rotate_left
  ·refine pZ ?_
   rfl
  refine pure_ (i := 10) (N := some 18) (v := _) (a' := ?_) (bA 22 2047) rfl rfl (by kernel_rfl) (fun _ _ _ h => h) (Or.inr ⟨by rfl, rfl⟩) ?_ ?_
  rotate_left
  ·refine pZ ?_
   rfl
  refine one_ (i := 11) (N := some 19) (bA 22 4095) rfl rfl (by kernel_rfl) (by decide) (fun K hK => ?_)
  refine (iff_of_eq (if_neg (Bool.eq_false_iff.mp (by rfl)))).mpr ?_
  refine hK.out _ _ HS.out (fun hHeld => ?_)
  clear hK K hHeld
  refine norm_ (a' := ?_) ?_ ?_
  rotate_left
  ·show Act.put _ (some 19) _ = _
   refine pZ ?_
   rfl
  refine pure_ (i := 12) (N := some 20) (v := _) (a' := ?_) (bA 22 8191) rfl rfl (by kernel_rfl) (fun _ _ _ h => h) (Or.inr ⟨by rfl, rfl⟩) ?_ ?_
  rotate_left
  ·refine pZ ?_
   rfl
  refine pure_ (i := 13) (N := some 21) (v := ?_) (a' := ?_) (bA 22 16383) rfl rfl (by kernel_rfl) (fun _ _ _ h => h) (Or.inl ⟨by rfl, ?_⟩) ?_ ?_
  rotate_left
  ·intro w'
   go_simp
   with_reducible rfl
  rotate_left
  ·refine pZ ?_
   rfl
  refine pure_ (i := 14) (N := some 22) (v := ?_) (a' := ?_) (bA 22 32767) rfl rfl (by kernel_rfl) (fun _ _ _ h => h) (Or.inl ⟨by rfl, ?_⟩) ?_ ?_
  rotate_left
  ·intro w'
   go_simp
   with_reducible rfl
  rotate_left
  ·refine pZ ?_
   rfl
  refine pure_ (i := 15) (N := some 23) (v := _) (a' := ?_) (bA 22 65535) rfl rfl (by kernel_rfl) (fun _ _ _ h => h) (Or.inr ⟨by rfl, rfl⟩) ?_ ?_
  rotate_left
  ·refine pZ ?_
   rfl
  refine take_ (i := 16) (N := some 24) (v := _) (a' := ?_) (bA 22 131071) rfl rfl (by kernel_rfl) (fun _ _ _ h => h) (Or.inr ⟨by rfl, rfl⟩) HS.out ?_ ?_
  rotate_left
  ·refine pZ ?_
   rfl
  refine take_ (i := 18) (N := some 26) (v := _) (a' := ?_) (bA 22 393215) rfl rfl (by kernel_rfl) (fun _ _ _ h => h) (Or.inr ⟨by rfl, rfl⟩) HS.out ?_ ?_
  rotate_left
  ·refine pZ ?_
   rfl
  refine pure_ (i := 19) (N := some 27) (v := _) (a' := ?_) (bA 22 917503) rfl rfl (by kernel_rfl) (fun _ _ _ h => h) (Or.inr ⟨by rfl, rfl⟩) ?_ ?_
  rotate_left
  ·refine pZ ?_
   rfl
  refine one_ (i := 17) (N := some 25) (bA 22 1048575) rfl rfl (by kernel_rfl) (by decide) (fun K hK => ?_)
  refine (iff_of_eq (if_neg (Bool.eq_false_iff.mp (by rfl)))).mpr ?_
  refine hK.out _ _ HS.out (fun hHeld => ?_)
  clear hK K hHeld
  refine norm_ (a' := ?_) ?_ ?_
  rotate_left
  ·show Act.put _ (some 25) _ = _
   refine pZ ?_
   rfl
  refine pure_ (i := 20) (N := some 28) (v := _) (a' := ?_) (bA 22 2097151) rfl rfl (by kernel_rfl) (fun _ _ _ h => h) (Or.inr ⟨by rfl, rfl⟩) ?_ ?_
  rotate_left
  ·refine pZ ?_
   rfl
  refine pure_ (i := 21) (N := some 29) (v := ?_) (a' := ?_) (bA 22 4194303) rfl rfl (by kernel_rfl) (fun _ _ _ h => h) (Or.inl ⟨by rfl, ?_⟩) ?_ ?_
  rotate_left
  ·intro w'
   go_simp
   with_reducible rfl
  rotate_left
  ·refine pZ ?_
   rfl
  have hb := HS.out
  clear HS
  have n60 := bB BKgm hb
  have n61 := bB BKgl hb
  have n62 := bB BKgr hb
  have n63 := bS HB hb
  clear HB BKgm BKgl BKgr
  have BKgm := n60
  have BKgl := n61
  have BKgr := n62
  have HB := n63
  clear n60 n61 n62 n63 hb
  have hz64 : w59.cell? ⟨gm, 0, none⟩ = some (.int .i64 a0_0) := (blk_cell BKgm.out 0).trans rfl
  have hz65 : w59.cell? ⟨gm, 1, none⟩ = some (.int .i64 a0_1) := (blk_cell BKgm.out 1).trans rfl
  have hz66 : w59.cell? ⟨gm, 2, none⟩ = some (.int .i64 a0_2) := (blk_cell BKgm.out 2).trans rfl
  have hz67 : w59.cell? ⟨gm, 3, none⟩ = some (.slice A0_3 l0_3.length c0_3) := (blk_cell BKgm.out 3).trans rfl
  have hf68 := blk_frozen BKgm.out 0
  have hf69 := blk_frozen BKgm.out 1
  have hf70 := blk_frozen BKgm.out 2
  have hf71 := blk_frozen BKgm.out 3
  have hz72 : w59.cell? ⟨gl, 0, none⟩ = some (.slice Aq1 l1.length cq1) := (blk_cell BKgl.out 0).trans rfl
  have hf73 := blk_frozen BKgl.out 0
  have hz74 : w59.cell? ⟨gr, 0, none⟩ = some (.int .i64 0) := (blk_cell BKgr.out 0).trans rfl
  have hz75 : w59.cell? ⟨gr, 1, none⟩ = some (.int .i64 0) := (blk_cell BKgr.out 1).trans rfl
  have hz76 : w59.cell? ⟨gr, 2, none⟩ = some (.int .i64 0) := (blk_cell BKgr.out 2).trans rfl
  have hz77 : w59.cell? ⟨gr, 3, none⟩ = some (.slice none 0 0) := (blk_cell BKgr.out 3).trans rfl
  have hf78 := blk_frozen BKgr.out 0
  have hf79 := blk_frozen BKgr.out 1
  have hf80 := blk_frozen BKgr.out 2
  have hf81 := blk_frozen BKgr.out 3
  refine done_ (by kernel_rfl) ?_
  go_wp2
  refine bodyPost_ret (results_ct rfl _ _ gr 29 #[.int .i64 0, .int .i64 0, .int .i64 0, .slice none 0 0] (0, 0) _ rfl (by exact bP BKgr.out) Try.underlying29 rfl (by kernel_rfl)) rfl ?_
  exact ⟨_, by first | rfl | (simp; done), Kd.R_nil _ _ _ _ _, by exact qW HB.out⟩
 | true =>
  rw [if_pos rfl] at H
  by_cases k1 : a0_2 = 1
  rotate_left
  ·rw [if_neg k1] at H
   simp only [Option.some.injEq, Prod.mk.injEq] at H
   obtain ⟨rfl, rfl, rfl, rfl, rfl⟩ := H
   have k_a : (a0_2 == 1) = false := beq_eq_false_iff_ne.mpr (by omega)
   have k_b : (a0_2 != 1) = true := bne_iff_ne.mpr (by omega)
   clear k1
   go_enter Try.func25, Try.ntmps25
   go_wp2_with (first | ((with_reducible refine gate_dst (N := 3) rfl ?_); (try (refine gate_guard (by rfl) ?_; dsimp only)); refine bxE (N := 3) (cs := #[.int .i64 a0_0, .int .i64 a0_1, .int .i64 a0_2, .slice A0_3 l0_3.length c0_3]) (t := 29) ?_; intro gm hg w354 hbox hb; have n355 := bS HB hb; have n356 := aM hbox; have n357 := aM ((by rw [hg]; exact (below_size (qW HB.out))) : w.heap.size ≤ gm); clear HB; have HB := n355; have BKgm := n356; have GEgm := n357; clear n355 n356 n357; clear hb hbox hg; have hz358 : w354.cell? ⟨gm, 0, none⟩ = some (.int .i64 a0_0) := (blk_cell BKgm.out 0).trans rfl; have hz359 : w354.cell? ⟨gm, 1, none⟩ = some (.int .i64 a0_1) := (blk_cell BKgm.out 1).trans rfl; have hz360 : w354.cell? ⟨gm, 2, none⟩ = some (.int .i64 a0_2) := (blk_cell BKgm.out 2).trans rfl; have hz361 : w354.cell? ⟨gm, 3, none⟩ = some (.slice A0_3 l0_3.length c0_3) := (blk_cell BKgm.out 3).trans rfl; have hf362 := blk_frozen BKgm.out 0; have hf363 := blk_frozen BKgm.out 1; have hf364 := blk_frozen BKgm.out 2; have hf365 := blk_frozen BKgm.out 3) | ((with_reducible refine gate_dst (N := 4) rfl ?_); (try (refine gate_guard (by rfl) ?_; dsimp only)); refine bxE (N := 4) (cs := #[.slice Aq1 l1.length cq1]) (t := 26) ?_; intro gl hg w366 hbox hb; have n367 := bB BKgm hb; have n368 := bS HB hb; have n369 := aM hbox; have n370 := aM ((by rw [hg]; exact (below_size (qW HB.out))) : w.heap.size ≤ gl); have n371 := aM ((by rw [hg]; exact Nat.ne_of_lt (blk_lt (g := gm) (o := .cells #[.int .i64 a0_0, .int .i64 a0_1, .int .i64 a0_2, .slice A0_3 l0_3.length c0_3] 29 (0, 0)) (qB BKgm.out))) : gm ≠ gl); have n372 := aM ((by rw [hg]; exact Nat.ne_of_gt (blk_lt (g := gm) (o := .cells #[.int .i64 a0_0, .int .i64 a0_1, .int .i64 a0_2, .slice A0_3 l0_3.length c0_3] 29 (0, 0)) (qB BKgm.out))) : gl ≠ gm); clear HB BKgm; have BKgm := n367; have HB := n368; have BKgl := n369; have GEgl := n370; have NBgm_gl := n371; have NBgl_gm := n372; clear n367 n368 n369 n370 n371 n372; clear hb hbox hg; have hz373 : w366.cell? ⟨gm, 0, none⟩ = some (.int .i64 a0_0) := (blk_cell BKgm.out 0).trans rfl; have hz374 : w366.cell? ⟨gm, 1, none⟩ = some (.int .i64 a0_1) := (blk_cell BKgm.out 1).trans rfl; have hz375 : w366.cell? ⟨gm, 2, none⟩ = some (.int .i64 a0_2) := (blk_cell BKgm.out 2).trans rfl; have hz376 : w366.cell? ⟨gm, 3, none⟩ = some (.slice A0_3 l0_3.length c0_3) := (blk_cell BKgm.out 3).trans rfl; have hf377 := blk_frozen BKgm.out 0; have hf378 := blk_frozen BKgm.out 1; have hf379 := blk_frozen BKgm.out 2; have hf380 := blk_frozen BKgm.out 3; have hz381 : w366.cell? ⟨gl, 0, none⟩ = some (.slice Aq1 l1.length cq1) := (blk_cell BKgl.out 0).trans rfl; have hf382 := blk_frozen BKgl.out 0) | ((with_reducible refine gate_dst (N := 6) rfl ?_); (try (refine gate_guard (by rfl) ?_; dsimp only)); refine bxE (N := 6) (cs := #[.int .i64 0, .int .i64 0, .int .i64 0, .slice none 0 0]) (t := 29) ?_; intro gr hg w383 hbox hb; have n384 := bB BKgm hb; have n385 := bB BKgl hb; have n386 := bS HB hb; have n387 := aM hbox; have n388 := aM ((by rw [hg]; exact (below_size (qW HB.out))) : w.heap.size ≤ gr); have n389 := aM ((by rw [hg]; exact Nat.ne_of_lt (blk_lt (g := gm) (o := .cells #[.int .i64 a0_0, .int .i64 a0_1, .int .i64 a0_2, .slice A0_3 l0_3.length c0_3] 29 (0, 0)) (qB BKgm.out))) : gm ≠ gr); have n390 := aM ((by rw [hg]; exact Nat.ne_of_gt (blk_lt (g := gm) (o := .cells #[.int .i64 a0_0, .int .i64 a0_1, .int .i64 a0_2, .slice A0_3 l0_3.length c0_3] 29 (0, 0)) (qB BKgm.out))) : gr ≠ gm); have n391 := aM ((by rw [hg]; exact Nat.ne_of_lt (blk_lt (g := gl) (o := .cells #[.slice Aq1 l1.length cq1] 26 (0, 0)) (qB BKgl.out))) : gl ≠ gr); have n392 := aM ((by rw [hg]; exact Nat.ne_of_gt (blk_lt (g := gl) (o := .cells #[.slice Aq1 l1.length cq1] 26 (0, 0)) (qB BKgl.out))) : gr ≠ gl); clear HB BKgm BKgl; have BKgm := n384; have BKgl := n385; have HB := n386; have BKgr := n387; have GEgr := n388; have NBgm_gr := n389; have NBgr_gm := n390; have NBgl_gr := n391; have NBgr_gl := n392; clear n384 n385 n386 n387 n388 n389 n390 n391 n392; clear hb hbox hg; have hz393 : w383.cell? ⟨gm, 0, none⟩ = some (.int .i64 a0_0) := (blk_cell BKgm.out 0).trans rfl; have hz394 : w383.cell? ⟨gm, 1, none⟩ = some (.int .i64 a0_1) := (blk_cell BKgm.out 1).trans rfl; have hz395 : w383.cell? ⟨gm, 2, none⟩ = some (.int .i64 a0_2) := (blk_cell BKgm.out 2).trans rfl; have hz396 : w383.cell? ⟨gm, 3, none⟩ = some (.slice A0_3 l0_3.length c0_3) := (blk_cell BKgm.out 3).trans rfl; have hf397 := blk_frozen BKgm.out 0; have hf398 := blk_frozen BKgm.out 1; have hf399 := blk_frozen BKgm.out 2; have hf400 := blk_frozen BKgm.out 3; have hz401 : w383.cell? ⟨gl, 0, none⟩ = some (.slice Aq1 l1.length cq1) := (blk_cell BKgl.out 0).trans rfl; have hf402 := blk_frozen BKgl.out 0; have hz403 : w383.cell? ⟨gr, 0, none⟩ = some (.int .i64 0) := (blk_cell BKgr.out 0).trans rfl; have hz404 : w383.cell? ⟨gr, 1, none⟩ = some (.int .i64 0) := (blk_cell BKgr.out 1).trans rfl; have hz405 : w383.cell? ⟨gr, 2, none⟩ = some (.int .i64 0) := (blk_cell BKgr.out 2).trans rfl; have hz406 : w383.cell? ⟨gr, 3, none⟩ = some (.slice none 0 0) := (blk_cell BKgr.out 3).trans rfl; have hf407 := blk_frozen BKgr.out 0; have hf408 := blk_frozen BKgr.out 1; have hf409 := blk_frozen BKgr.out 2; have hf410 := blk_frozen BKgr.out 3))
   refine start_ (n := 22) (S := fun w' => Below w383.heap.size w383 w') (ds := []) (bA 22 0) (by kernel_rfl) rfl rfl (below_drew (Below.refl _ _)) (fun hHeld => ?_)
   have HS := aM hHeld
   clear hHeld
   generalize w383.drew = w411 at HS ⊢
   refine take_ (i := 0) (N := some 8) (v := ?_) (a' := ?_) (bA 22 1) rfl rfl (by kernel_rfl) (fun _ _ _ h => h) (Or.inl ⟨by rfl, ?_⟩) HS.out ?_ ?_
   rotate_left
   ·intro w' s0
    have z0 : w'.cell? ⟨gm, 0, none⟩ = some (.int .i64 a0_0) := (blk_cell (blk_below BKgm.out s0) 0).trans rfl
    have z1 : w'.cell? ⟨gm, 1, none⟩ = some (.int .i64 a0_1) := (blk_cell (blk_below BKgm.out s0) 1).trans rfl
    have z2 : w'.cell? ⟨gm, 2, none⟩ = some (.int .i64 a0_2) := (blk_cell (blk_below BKgm.out s0) 2).trans rfl
    have z3 : w'.cell? ⟨gm, 3, none⟩ = some (.slice A0_3 l0_3.length c0_3) := (blk_cell (blk_below BKgm.out s0) 3).trans rfl
    go_simp
    with_reducible rfl
   rotate_left
   ·refine pZ ?_
    rfl
   refine one_ (i := 1) (N := some 9) (bA 22 3) rfl rfl (by kernel_rfl) (by decide) (fun K hK => ?_)
   refine goes_ Try.func43 (by kernel_rfl) rfl #[.agg #[.int .i64 a0_0, .int .i64 a0_1, .int .i64 a0_2, .slice A0_3 l0_3.length c0_3]] (by rfl) rfl rfl (by (try simp only [List.map_toArray, List.map_cons, List.map_nil]); first | done | rfl) ?_
   refine (impl_isImage.calls a0_0 a0_1 a0_2 _ _ l0_3 true _ (Kd.C_below HR0.out (below_step (qW HB.out) HS.out)) HC0.out A0.out).mono ?_
   rintro e w412 ⟨rfl, hb⟩
   refine ⟨_, rfl, ?_⟩
   have HS3 := aM (below_step HS.out hb)
   clear hb
   clear HS
   have HS := HS3
   clear HS3
   refine hK.out _ _ HS.out (fun hHeld => ?_)
   clear hK K hHeld
   refine norm_ (a' := ?_) ?_ ?_
   rotate_left
   ·show Act.put _ (some 9) _ = _
    refine pZ ?_
    rfl
   refine pure_ (i := 2) (N := some 10) (v := ?_) (a' := ?_) (bA 22 7) rfl rfl (by kernel_rfl) (fun _ _ _ h => h) (Or.inl ⟨by rfl, ?_⟩) ?_ ?_
   rotate_left
   ·intro w'
    go_simp
    with_reducible rfl
   rotate_left
   ·refine pZ ?_
    rfl
   refine pure_ (i := 3) (N := some 11) (v := ?_) (a' := ?_) (bA 22 15) rfl rfl (by kernel_rfl) (fun _ _ _ h => h) (Or.inl ⟨by rfl, ?_⟩) ?_ ?_
   rotate_left
   ·intro w'
    go_simp
    with_reducible rfl
   rotate_left
   ·refine pZ ?_
    rfl
   refine pure_ (i := 4) (N := some 12) (v := ?_) (a' := ?_) (bA 22 31) rfl rfl (by kernel_rfl) (fun _ _ _ h => h) (Or.inl ⟨by rfl, ?_⟩) ?_ ?_
   rotate_left
   ·intro w'
    go_simp
    with_reducible rfl
   rotate_left
   ·refine pZ ?_
    rfl
   refine take_ (i := 5) (N := some 13) (v := ?_) (a' := ?_) (bA 22 63) rfl rfl (by kernel_rfl) (fun _ _ _ h => h) (Or.inl ⟨by rfl, ?_⟩) HS.out ?_ ?_
   rotate_left
   ·intro w' s0
    have z0 : w'.cell? ⟨gm, 0, none⟩ = some (.int .i64 a0_0) := (blk_cell (blk_below BKgm.out s0) 0).trans rfl
    have z1 : w'.cell? ⟨gm, 1, none⟩ = some (.int .i64 a0_1) := (blk_cell (blk_below BKgm.out s0) 1).trans rfl
    have z2 : w'.cell? ⟨gm, 2, none⟩ = some (.int .i64 a0_2) := (blk_cell (blk_below BKgm.out s0) 2).trans rfl
    have z3 : w'.cell? ⟨gm, 3, none⟩ = some (.slice A0_3 l0_3.length c0_3) := (blk_cell (blk_below BKgm.out s0) 3).trans rfl
    go_simp
    with_reducible rfl
   rotate_left
   ·refine pZ ?_
    rfl
   refine pure_ (i := 6) (N := some 14) (v := ?_) (a' := ?_) (bA 22 127) rfl rfl (by kernel_rfl) (fun _ _ _ h => h) (Or.inl ⟨by rfl, ?_⟩) ?_ ?_
   rotate_left
   ·intro w'
    go_simp
    with_reducible rfl
   rotate_left
   ·refine pZ ?_
    rfl
   refine pure_ (i := 7) (N := some 15) (v := ?_) (a' := ?_) (bA 22 255) rfl rfl (by kernel_rfl) (fun _ _ _ h => h) (Or.inl ⟨by rfl, ?_⟩) ?_ ?_
   rotate_left
   ·intro w'
    go_simp
    with_reducible rfl
   rotate_left
   ·refine pZ ?_
    rfl
   refine pure_ (i := 8) (N := some 16) (v := ?_) (a' := ?_) (bA 22 511) rfl rfl (by kernel_rfl) (fun _ _ _ h => h) (Or.inl ⟨by rfl, ?_⟩) ?_ ?_
   rotate_left
   ·intro w'
    go_simp
    with_reducible rfl
   rotate_left
   ·refine pZ ?_
    rfl
   refine take_ (i := 9) (N := some 17) (v := _) (a' := ?_) (bA 22 1023) rfl rfl (by kernel_rfl) (fun _ _ _ h => h) (Or.inr ⟨by rfl, rfl⟩) HS.out ?_ ?_
   rotate_left
   ·refine pZ ?_
    rfl
   refine pure_ (i := 10) (N := some 18) (v := _) (a' := ?_) (bA 22 2047) rfl rfl (by kernel_rfl) (fun _ _ _ h => h) (Or.inr ⟨by rfl, rfl⟩) ?_ ?_
   rotate_left
   ·refine pZ ?_
    rfl
   refine one_ (i := 11) (N := some 19) (bA 22 4095) rfl rfl (by kernel_rfl) (by decide) (fun K hK => ?_)
   refine (iff_of_eq (if_neg (Bool.eq_false_iff.mp (by rfl)))).mpr ?_
   refine hK.out _ _ HS.out (fun hHeld => ?_)
   clear hK K hHeld
   refine norm_ (a' := ?_) ?_ ?_
   rotate_left
   ·show Act.put _ (some 19) _ = _
    refine pZ ?_
    rfl
   refine pure_ (i := 12) (N := some 20) (v := _) (a' := ?_) (bA 22 8191) rfl rfl (by kernel_rfl) (fun _ _ _ h => h) (Or.inr ⟨by rfl, rfl⟩) ?_ ?_
   rotate_left
   ·refine pZ ?_
    rfl
   refine pure_ (i := 13) (N := some 21) (v := ?_) (a' := ?_) (bA 22 16383) rfl rfl (by kernel_rfl) (fun _ _ _ h => h) (Or.inl ⟨by rfl, ?_⟩) ?_ ?_
   rotate_left
   ·intro w'
    go_simp
    with_reducible rfl
   rotate_left
   ·refine pZ ?_
    rfl
   refine pure_ (i := 14) (N := some 22) (v := ?_) (a' := ?_) (bA 22 32767) rfl rfl (by kernel_rfl) (fun _ _ _ h => h) (Or.inl ⟨by rfl, ?_⟩) ?_ ?_
   rotate_left
   ·intro w'
    go_simp
    with_reducible rfl
   rotate_left
   ·refine pZ ?_
    rfl
   refine pure_ (i := 15) (N := some 23) (v := _) (a' := ?_) (bA 22 65535) rfl rfl (by kernel_rfl) (fun _ _ _ h => h) (Or.inr ⟨by rfl, rfl⟩) ?_ ?_
   rotate_left
   ·refine pZ ?_
    rfl
   refine take_ (i := 16) (N := some 24) (v := _) (a' := ?_) (bA 22 131071) rfl rfl (by kernel_rfl) (fun _ _ _ h => h) (Or.inr ⟨by rfl, rfl⟩) HS.out ?_ ?_
   rotate_left
   ·refine pZ ?_
    rfl
   refine take_ (i := 18) (N := some 26) (v := _) (a' := ?_) (bA 22 393215) rfl rfl (by kernel_rfl) (fun _ _ _ h => h) (Or.inr ⟨by rfl, rfl⟩) HS.out ?_ ?_
   rotate_left
   ·refine pZ ?_
    rfl
   refine pure_ (i := 19) (N := some 27) (v := _) (a' := ?_) (bA 22 917503) rfl rfl (by kernel_rfl) (fun _ _ _ h => h) (Or.inr ⟨by rfl, rfl⟩) ?_ ?_
   rotate_left
   ·refine pZ ?_
    rfl
   refine one_ (i := 17) (N := some 25) (bA 22 1048575) rfl rfl (by kernel_rfl) (by decide) (fun K hK => ?_)
   refine (iff_of_eq (if_neg (Bool.eq_false_iff.mp (by rfl)))).mpr ?_
   refine hK.out _ _ HS.out (fun hHeld => ?_)
   clear hK K hHeld
   refine norm_ (a' := ?_) ?_ ?_
   rotate_left
   ·show Act.put _ (some 25) _ = _
    refine pZ ?_
    rfl
   refine pure_ (i := 20) (N := some 28) (v := _) (a' := ?_) (bA 22 2097151) rfl rfl (by kernel_rfl) (fun _ _ _ h => h) (Or.inr ⟨by rfl, rfl⟩) ?_ ?_
   rotate_left
   ·refine pZ ?_
    rfl
   refine pure_ (i := 21) (N := some 29) (v := ?_) (a' := ?_) (bA 22 4194303) rfl rfl (by kernel_rfl) (fun _ _ _ h => h) (Or.inl ⟨by rfl, ?_⟩) ?_ ?_
   rotate_left
   ·intro w'
    go_simp
    with_reducible rfl
   rotate_left
   ·refine pZ ?_
    rfl
   have hb := HS.out
   clear HS
   have n413 := bB BKgm hb
   have n414 := bB BKgl hb
   have n415 := bB BKgr hb
   have n416 := bS HB hb
   clear HB BKgm BKgl BKgr
   have BKgm := n413
   have BKgl := n414
   have BKgr := n415
   have HB := n416
   clear n413 n414 n415 n416 hb
   have hz417 : w412.cell? ⟨gm, 0, none⟩ = some (.int .i64 a0_0) := (blk_cell BKgm.out 0).trans rfl
   have hz418 : w412.cell? ⟨gm, 1, none⟩ = some (.int .i64 a0_1) := (blk_cell BKgm.out 1).trans rfl
   have hz419 : w412.cell? ⟨gm, 2, none⟩ = some (.int .i64 a0_2) := (blk_cell BKgm.out 2).trans rfl
   have hz420 : w412.cell? ⟨gm, 3, none⟩ = some (.slice A0_3 l0_3.length c0_3) := (blk_cell BKgm.out 3).trans rfl
   have hf421 := blk_frozen BKgm.out 0
   have hf422 := blk_frozen BKgm.out 1
   have hf423 := blk_frozen BKgm.out 2
   have hf424 := blk_frozen BKgm.out 3
   have hz425 : w412.cell? ⟨gl, 0, none⟩ = some (.slice Aq1 l1.length cq1) := (blk_cell BKgl.out 0).trans rfl
   have hf426 := blk_frozen BKgl.out 0
   have hz427 : w412.cell? ⟨gr, 0, none⟩ = some (.int .i64 0) := (blk_cell BKgr.out 0).trans rfl
   have hz428 : w412.cell? ⟨gr, 1, none⟩ = some (.int .i64 0) := (blk_cell BKgr.out 1).trans rfl
   have hz429 : w412.cell? ⟨gr, 2, none⟩ = some (.int .i64 0) := (blk_cell BKgr.out 2).trans rfl
   have hz430 : w412.cell? ⟨gr, 3, none⟩ = some (.slice none 0 0) := (blk_cell BKgr.out 3).trans rfl
   have hf431 := blk_frozen BKgr.out 0
   have hf432 := blk_frozen BKgr.out 1
   have hf433 := blk_frozen BKgr.out 2
   have hf434 := blk_frozen BKgr.out 3
   refine done_ (by kernel_rfl) ?_
   go_wp2
   refine bodyPost_ret (results_ct rfl _ _ gr 29 #[.int .i64 0, .int .i64 0, .int .i64 0, .slice none 0 0] (0, 0) _ rfl (by exact bP BKgr.out) Try.underlying29 rfl (by kernel_rfl)) rfl ?_
   exact ⟨_, by first | rfl | (simp; done), Kd.R_nil _ _ _ _ _, by exact qW HB.out⟩
  rw [if_pos k1] at H
  have k_a : (a0_2 == 1) = true := beq_iff_eq.mpr (by omega)
  have k_b : (a0_2 != 1) = false := bne_eq_false_iff_eq.mpr (by omega)
  have k_c : Aside0 (a0_2 = 1) := ⟨by omega⟩
  clear k1
  replace H := Option.bind_eq_some_iff.mp H
  obtain ⟨t2, q2, H⟩ := H
  have A2 := aM q2
  clear q2
  cases t2 with
  | false =>
   rw [if_neg (show ¬ (false = true) by decide)] at H
   simp only [Option.some.injEq, Prod.mk.injEq] at H
   obtain ⟨rfl, rfl, rfl, rfl, rfl⟩ := H
   go_enter Try.func25, Try.ntmps25
   go_wp2_with (first | ((with_reducible refine gate_dst (N := 3) rfl ?_); (try (refine gate_guard (by rfl) ?_; dsimp only)); refine bxE (N := 3) (cs := #[.int .i64 a0_0, .int .i64 a0_1, .int .i64 a0_2, .slice A0_3 l0_3.length c0_3]) (t := 29) ?_; intro gm hg w82 hbox hb; have n83 := bS HB hb; have n84 := aM hbox; have n85 := aM ((by rw [hg]; exact (below_size (qW HB.out))) : w.heap.size ≤ gm); clear HB; have HB := n83; have BKgm := n84; have GEgm := n85; clear n83 n84 n85; clear hb hbox hg; have hz86 : w82.cell? ⟨gm, 0, none⟩ = some (.int .i64 a0_0) := (blk_cell BKgm.out 0).trans rfl; have hz87 : w82.cell? ⟨gm, 1, none⟩ = some (.int .i64 a0_1) := (blk_cell BKgm.out 1).trans rfl; have hz88 : w82.cell? ⟨gm, 2, none⟩ = some (.int .i64 a0_2) := (blk_cell BKgm.out 2).trans rfl; have hz89 : w82.cell? ⟨gm, 3, none⟩ = some (.slice A0_3 l0_3.length c0_3) := (blk_cell BKgm.out 3).trans rfl; have hf90 := blk_frozen BKgm.out 0; have hf91 := blk_frozen BKgm.out 1; have hf92 := blk_frozen BKgm.out 2; have hf93 := blk_frozen BKgm.out 3) | ((with_reducible refine gate_dst (N := 4) rfl ?_); (try (refine gate_guard (by rfl) ?_; dsimp only)); refine bxE (N := 4) (cs := #[.slice Aq1 l1.length cq1]) (t := 26) ?_; intro gl hg w94 hbox hb; have n95 := bB BKgm hb; have n96 := bS HB hb; have n97 := aM hbox; have n98 := aM ((by rw [hg]; exact (below_size (qW HB.out))) : w.heap.size ≤ gl); have n99 := aM ((by rw [hg]; exact Nat.ne_of_lt (blk_lt (g := gm) (o := .cells #[.int .i64 a0_0, .int .i64 a0_1, .int .i64 a0_2, .slice A0_3 l0_3.length c0_3] 29 (0, 0)) (qB BKgm.out))) : gm ≠ gl); have n100 := aM ((by rw [hg]; exact Nat.ne_of_gt (blk_lt (g := gm) (o := .cells #[.int .i64 a0_0, .int .i64 a0_1, .int .i64 a0_2, .slice A0_3 l0_3.length c0_3] 29 (0, 0)) (qB BKgm.out))) : gl ≠ gm); clear HB BKgm; have BKgm := n95; have HB := n96; have BKgl := n97; have GEgl := n98; have NBgm_gl := n99; have NBgl_gm := n100; clear n95 n96 n97 n98 n99 n100; clear hb hbox hg; have hz101 : w94.cell? ⟨gm, 0, none⟩ = some (.int .i64 a0_0) := (blk_cell BKgm.out 0).trans rfl; have hz102 : w94.cell? ⟨gm, 1, none⟩ = some (.int .i64 a0_1) := (blk_cell BKgm.out 1).trans rfl; have hz103 : w94.cell? ⟨gm, 2, none⟩ = some (.int .i64 a0_2) := (blk_cell BKgm.out 2).trans rfl; have hz104 : w94.cell? ⟨gm, 3, none⟩ = some (.slice A0_3 l0_3.length c0_3) := (blk_cell BKgm.out 3).trans rfl; have hf105 := blk_frozen BKgm.out 0; have hf106 := blk_frozen BKgm.out 1; have hf107 := blk_frozen BKgm.out 2; have hf108 := blk_frozen BKgm.out 3; have hz109 : w94.cell? ⟨gl, 0, none⟩ = some (.slice Aq1 l1.length cq1) := (blk_cell BKgl.out 0).trans rfl; have hf110 := blk_frozen BKgl.out 0) | ((with_reducible refine gate_dst (N := 6) rfl ?_); (try (refine gate_guard (by rfl) ?_; dsimp only)); refine bxE (N := 6) (cs := #[.int .i64 0, .int .i64 0, .int .i64 0, .slice none 0 0]) (t := 29) ?_; intro gr hg w111 hbox hb; have n112 := bB BKgm hb; have n113 := bB BKgl hb; have n114 := bS HB hb; have n115 := aM hbox; have n116 := aM ((by rw [hg]; exact (below_size (qW HB.out))) : w.heap.size ≤ gr); have n117 := aM ((by rw [hg]; exact Nat.ne_of_lt (blk_lt (g := gm) (o := .cells #[.int .i64 a0_0, .int .i64 a0_1, .int .i64 a0_2, .slice A0_3 l0_3.length c0_3] 29 (0, 0)) (qB BKgm.out))) : gm ≠ gr); have n118 := aM ((by rw [hg]; exact Nat.ne_of_gt (blk_lt (g := gm) (o := .cells #[.int .i64 a0_0, .int .i64 a0_1, .int .i64 a0_2, .slice A0_3 l0_3.length c0_3] 29 (0, 0)) (qB BKgm.out))) : gr ≠ gm); have n119 := aM ((by rw [hg]; exact Nat.ne_of_lt (blk_lt (g := gl) (o := .cells #[.slice Aq1 l1.length cq1] 26 (0, 0)) (qB BKgl.out))) : gl ≠ gr); have n120 := aM ((by rw [hg]; exact Nat.ne_of_gt (blk_lt (g := gl) (o := .cells #[.slice Aq1 l1.length cq1] 26 (0, 0)) (qB BKgl.out))) : gr ≠ gl); clear HB BKgm BKgl; have BKgm := n112; have BKgl := n113; have HB := n114; have BKgr := n115; have GEgr := n116; have NBgm_gr := n117; have NBgr_gm := n118; have NBgl_gr := n119; have NBgr_gl := n120; clear n112 n113 n114 n115 n116 n117 n118 n119 n120; clear hb hbox hg; have hz121 : w111.cell? ⟨gm, 0, none⟩ = some (.int .i64 a0_0) := (blk_cell BKgm.out 0).trans rfl; have hz122 : w111.cell? ⟨gm, 1, none⟩ = some (.int .i64 a0_1) := (blk_cell BKgm.out 1).trans rfl; have hz123 : w111.cell? ⟨gm, 2, none⟩ = some (.int .i64 a0_2) := (blk_cell BKgm.out 2).trans rfl; have hz124 : w111.cell? ⟨gm, 3, none⟩ = some (.slice A0_3 l0_3.length c0_3) := (blk_cell BKgm.out 3).trans rfl; have hf125 := blk_frozen BKgm.out 0; have hf126 := blk_frozen BKgm.out 1; have hf127 := blk_frozen BKgm.out 2; have hf128 := blk_frozen BKgm.out 3; have hz129 : w111.cell? ⟨gl, 0, none⟩ = some (.slice Aq1 l1.length cq1) := (blk_cell BKgl.out 0).trans rfl; have hf130 := blk_frozen BKgl.out 0; have hz131 : w111.cell? ⟨gr, 0, none⟩ = some (.int .i64 0) := (blk_cell BKgr.out 0).trans rfl; have hz132 : w111.cell? ⟨gr, 1, none⟩ = some (.int .i64 0) := (blk_cell BKgr.out 1).trans rfl; have hz133 : w111.cell? ⟨gr, 2, none⟩ = some (.int .i64 0) := (blk_cell BKgr.out 2).trans rfl; have hz134 : w111.cell? ⟨gr, 3, none⟩ = some (.slice none 0 0) := (blk_cell BKgr.out 3).trans rfl; have hf135 := blk_frozen BKgr.out 0; have hf136 := blk_frozen BKgr.out 1; have hf137 := blk_frozen BKgr.out 2; have hf138 := blk_frozen BKgr.out 3))
   refine start_ (n := 22) (S := fun w' => Below w111.heap.size w111 w') (ds := []) (bA 22 0) (by kernel_rfl) rfl rfl (below_drew (Below.refl _ _)) (fun hHeld => ?_)
   have HS := aM hHeld
   clear hHeld
   generalize w111.drew = w139 at HS ⊢
   refine take_ (i := 0) (N := some 8) (v := ?_) (a' := ?_) (bA 22 1) rfl rfl (by kernel_rfl) (fun _ _ _ h => h) (Or.inl ⟨by rfl, ?_⟩) HS.out ?_ ?_
   rotate_left
   ·intro w' s0
    have z0 : w'.cell? ⟨gm, 0, none⟩ = some (.int .i64 a0_0) := (blk_cell (blk_below BKgm.out s0) 0).trans rfl
    have z1 : w'.cell? ⟨gm, 1, none⟩ = some (.int .i64 a0_1) := (blk_cell (blk_below BKgm.out s0) 1).trans rfl
    have z2 : w'.cell? ⟨gm, 2, none⟩ = some (.int .i64 a0_2) := (blk_cell (blk_below BKgm.out s0) 2).trans rfl
    have z3 : w'.cell? ⟨gm, 3, none⟩ = some (.slice A0_3 l0_3.length c0_3) := (blk_cell (blk_below BKgm.out s0) 3).trans rfl
    go_simp
    with_reducible rfl
   rotate_left
   ·refine pZ ?_
    rfl
   refine one_ (i := 1) (N := some 9) (bA 22 3) rfl rfl (by kernel_rfl) (by decide) (fun K hK => ?_)
   refine goes_ Try.func43 (by kernel_rfl) rfl #[.agg #[.int .i64 a0_0, .int .i64 a0_1, .int .i64 a0_2, .slice A0_3 l0_3.length c0_3]] (by rfl) rfl rfl (by (try simp only [List.map_toArray, List.map_cons, List.map_nil]); first | done | rfl) ?_
   refine (impl_isImage.calls a0_0 a0_1 a0_2 _ _ l0_3 true _ (Kd.C_below HR0.out (below_step (qW HB.out) HS.out)) HC0.out A0.out).mono ?_
   rintro e w140 ⟨rfl, hb⟩
   refine ⟨_, rfl, ?_⟩
   have HS3 := aM (below_step HS.out hb)
   clear hb
   clear HS
   have HS := HS3
   clear HS3
   refine hK.out _ _ HS.out (fun hHeld => ?_)
   clear hK K hHeld
   refine norm_ (a' := ?_) ?_ ?_
   rotate_left
   ·show Act.put _ (some 9) _ = _
    refine pZ ?_
    rfl
   refine pure_ (i := 2) (N := some 10) (v := ?_) (a' := ?_) (bA 22 7) rfl rfl (by kernel_rfl) (fun _ _ _ h => h) (Or.inl ⟨by rfl, ?_⟩) ?_ ?_
   rotate_left
   ·intro w'
    go_simp
    with_reducible rfl
   rotate_left
   ·refine pZ ?_
    rfl
   refine pure_ (i := 3) (N := some 11) (v := ?_) (a' := ?_) (bA 22 15) rfl rfl (by kernel_rfl) (fun _ _ _ h => h) (Or.inl ⟨by rfl, ?_⟩) ?_ ?_
   rotate_left
   ·intro w'
    go_simp
    with_reducible rfl
   rotate_left
   ·refine pZ ?_
    rfl
   refine pure_ (i := 4) (N := some 12) (v := ?_) (a' := ?_) (bA 22 31) rfl rfl (by kernel_rfl) (fun _ _ _ h => h) (Or.inl ⟨by rfl, ?_⟩) ?_ ?_
   rotate_left
   ·intro w'
    go_simp
    with_reducible rfl
   rotate_left
   ·refine pZ ?_
    rfl
   refine take_ (i := 5) (N := some 13) (v := ?_) (a' := ?_) (bA 22 63) rfl rfl (by kernel_rfl) (fun _ _ _ h => h) (Or.inl ⟨by rfl, ?_⟩) HS.out ?_ ?_
   rotate_left
   ·intro w' s0
    have z0 : w'.cell? ⟨gm, 0, none⟩ = some (.int .i64 a0_0) := (blk_cell (blk_below BKgm.out s0) 0).trans rfl
    have z1 : w'.cell? ⟨gm, 1, none⟩ = some (.int .i64 a0_1) := (blk_cell (blk_below BKgm.out s0) 1).trans rfl
    have z2 : w'.cell? ⟨gm, 2, none⟩ = some (.int .i64 a0_2) := (blk_cell (blk_below BKgm.out s0) 2).trans rfl
    have z3 : w'.cell? ⟨gm, 3, none⟩ = some (.slice A0_3 l0_3.length c0_3) := (blk_cell (blk_below BKgm.out s0) 3).trans rfl
    go_simp
    with_reducible rfl
   rotate_left
   ·refine pZ ?_
    rfl
   refine pure_ (i := 6) (N := some 14) (v := ?_) (a' := ?_) (bA 22 127) rfl rfl (by kernel_rfl) (fun _ _ _ h => h) (Or.inl ⟨by rfl, ?_⟩) ?_ ?_
   rotate_left
   ·intro w'
    go_simp
    with_reducible rfl
   rotate_left
   ·refine pZ ?_
    rfl
   refine pure_ (i := 7) (N := some 15) (v := ?_) (a' := ?_) (bA 22 255) rfl rfl (by kernel_rfl) (fun _ _ _ h => h) (Or.inl ⟨by rfl, ?_⟩) ?_ ?_
   rotate_left
   ·intro w'
    go_simp
    with_reducible rfl
   rotate_left
   ·refine pZ ?_
    rfl
   refine pure_ (i := 8) (N := some 16) (v := ?_) (a' := ?_) (bA 22 511) rfl rfl (by kernel_rfl) (fun _ _ _ h => h) (Or.inl ⟨by rfl, ?_⟩) ?_ ?_
   rotate_left
   ·intro w'
    go_simp
    with_reducible rfl
   rotate_left
   ·refine pZ ?_
    rfl
   refine take_ (i := 9) (N := some 17) (v := ?_) (a' := ?_) (bA 22 1023) rfl rfl (by kernel_rfl) (fun _ _ _ h => h) (Or.inl ⟨by rfl, ?_⟩) HS.out ?_ ?_
   rotate_left
   ·intro w' s0
    have z : w'.cell? ⟨gl, 0, none⟩ = some (.slice Aq1 l1.length cq1) := (blk_cell (blk_below BKgl.out s0) 0).trans rfl
    go_simp
    with_reducible rfl
   rotate_left
   ·refine pZ ?_
    rfl
   refine pure_ (i := 10) (N := some 18) (v := ?_) (a' := ?_) (bA 22 2047) rfl rfl (by kernel_rfl) (fun _ _ _ h => h) (Or.inl ⟨by rfl, ?_⟩) ?_ ?_
   rotate_left
   ·intro w'
    go_simp
    with_reducible rfl
   rotate_left
   ·refine pZ ?_
    rfl
   refine one_ (i := 11) (N := some 19) (bA 22 4095) rfl rfl (by kernel_rfl) (by decide) (fun K hK => ?_)
   refine goes_ Try.func53 (by kernel_rfl) rfl #[.slice Aq1 l1.length cq1, .int .i64 a2] (by rfl) rfl rfl (by (try simp only [List.map_toArray, List.map_cons, List.map_nil]); first | done | rfl) ?_
   refine (impl_isPalette.calls _ _ l1 a2 false _ (Kd.C_below HR1.out (below_step (qW HB.out) HS.out)) HC1.out A2.out).mono ?_
   rintro e w141 ⟨rfl, hb⟩
   refine ⟨_, rfl, ?_⟩
   have HS3 := aM (below_step HS.out hb)
   clear hb
   clear HS
   have HS := HS3
   clear HS3
   refine hK.out _ _ HS.out (fun hHeld => ?_)
   clear hK K hHeld
   refine norm_ (a' := ?_) ?_ ?_
   rotate_left
   ·show Act.put _ (some 19) _ = _
    refine pZ ?_
    rfl
   refine pure_ (i := 12) (N := some 20) (v := ?_) (a' := ?_) (bA 22 8191) rfl rfl (by kernel_rfl) (fun _ _ _ h => h) (Or.inl ⟨by rfl, ?_⟩) ?_ ?_
   rotate_left
   ·intro w'
    go_simp
    with_reducible rfl
   rotate_left
   ·refine pZ ?_
    rfl
   refine pure_ (i := 13) (N := some 21) (v := ?_) (a' := ?_) (bA 22 16383) rfl rfl (by kernel_rfl) (fun _ _ _ h => h) (Or.inl ⟨by rfl, ?_⟩) ?_ ?_
   rotate_left
   ·intro w'
    go_simp
    with_reducible rfl
   rotate_left
   ·refine pZ ?_
    rfl
   refine pure_ (i := 14) (N := some 22) (v := ?_) (a' := ?_) (bA 22 32767) rfl rfl (by kernel_rfl) (fun _ _ _ h => h) (Or.inl ⟨by rfl, ?_⟩) ?_ ?_
   rotate_left
   ·intro w'
    go_simp
    with_reducible rfl
   rotate_left
   ·refine pZ ?_
    rfl
   refine pure_ (i := 15) (N := some 23) (v := _) (a' := ?_) (bA 22 65535) rfl rfl (by kernel_rfl) (fun _ _ _ h => h) (Or.inr ⟨by rfl, rfl⟩) ?_ ?_
   rotate_left
   ·refine pZ ?_
    rfl
   refine take_ (i := 16) (N := some 24) (v := _) (a' := ?_) (bA 22 131071) rfl rfl (by kernel_rfl) (fun _ _ _ h => h) (Or.inr ⟨by rfl, rfl⟩) HS.out ?_ ?_
   rotate_left
   ·refine pZ ?_
    rfl
   refine take_ (i := 18) (N := some 26) (v := _) (a' := ?_) (bA 22 393215) rfl rfl (by kernel_rfl) (fun _ _ _ h => h) (Or.inr ⟨by rfl, rfl⟩) HS.out ?_ ?_
   rotate_left
   ·refine pZ ?_
    rfl
   refine pure_ (i := 19) (N := some 27) (v := _) (a' := ?_) (bA 22 917503) rfl rfl (by kernel_rfl) (fun _ _ _ h => h) (Or.inr ⟨by rfl, rfl⟩) ?_ ?_
   rotate_left
   ·refine pZ ?_
    rfl
   refine one_ (i := 17) (N := some 25) (bA 22 1048575) rfl rfl (by kernel_rfl) (by decide) (fun K hK => ?_)
   refine (iff_of_eq (if_neg (Bool.eq_false_iff.mp (by rfl)))).mpr ?_
   refine hK.out _ _ HS.out (fun hHeld => ?_)
   clear hK K hHeld
   refine norm_ (a' := ?_) ?_ ?_
   rotate_left
   ·show Act.put _ (some 25) _ = _
    refine pZ ?_
    rfl
   refine pure_ (i := 20) (N := some 28) (v := _) (a' := ?_) (bA 22 2097151) rfl rfl (by kernel_rfl) (fun _ _ _ h => h) (Or.inr ⟨by rfl, rfl⟩) ?_ ?_
   rotate_left
   ·refine pZ ?_
    rfl
   refine pure_ (i := 21) (N := some 29) (v := ?_) (a' := ?_) (bA 22 4194303) rfl rfl (by kernel_rfl) (fun _ _ _ h => h) (Or.inl ⟨by rfl, ?_⟩) ?_ ?_
   rotate_left
   ·intro w'
    go_simp
    with_reducible rfl
   rotate_left
   ·refine pZ ?_
    rfl
   have hb := HS.out
   clear HS
   have n142 := bB BKgm hb
   have n143 := bB BKgl hb
   have n144 := bB BKgr hb
   have n145 := bS HB hb
   clear HB BKgm BKgl BKgr
   have BKgm := n142
   have BKgl := n143
   have BKgr := n144
   have HB := n145
   clear n142 n143 n144 n145 hb
   have hz146 : w141.cell? ⟨gm, 0, none⟩ = some (.int .i64 a0_0) := (blk_cell BKgm.out 0).trans rfl
   have hz147 : w141.cell? ⟨gm, 1, none⟩ = some (.int .i64 a0_1) := (blk_cell BKgm.out 1).trans rfl
   have hz148 : w141.cell? ⟨gm, 2, none⟩ = some (.int .i64 a0_2) := (blk_cell BKgm.out 2).trans rfl
   have hz149 : w141.cell? ⟨gm, 3, none⟩ = some (.slice A0_3 l0_3.length c0_3) := (blk_cell BKgm.out 3).trans rfl
   have hf150 := blk_frozen BKgm.out 0
   have hf151 := blk_frozen BKgm.out 1
   have hf152 := blk_frozen BKgm.out 2
   have hf153 := blk_frozen BKgm.out 3
   have hz154 : w141.cell? ⟨gl, 0, none⟩ = some (.slice Aq1 l1.length cq1) := (blk_cell BKgl.out 0).trans rfl
   have hf155 := blk_frozen BKgl.out 0
   have hz156 : w141.cell? ⟨gr, 0, none⟩ = some (.int .i64 0) := (blk_cell BKgr.out 0).trans rfl
   have hz157 : w141.cell? ⟨gr, 1, none⟩ = some (.int .i64 0) := (blk_cell BKgr.out 1).trans rfl
   have hz158 : w141.cell? ⟨gr, 2, none⟩ = some (.int .i64 0) := (blk_cell BKgr.out 2).trans rfl
   have hz159 : w141.cell? ⟨gr, 3, none⟩ = some (.slice none 0 0) := (blk_cell BKgr.out 3).trans rfl
   have hf160 := blk_frozen BKgr.out 0
   have hf161 := blk_frozen BKgr.out 1
   have hf162 := blk_frozen BKgr.out 2
   have hf163 := blk_frozen BKgr.out 3
   refine done_ (by kernel_rfl) ?_
   go_wp2
   refine bodyPost_ret (results_ct rfl _ _ gr 29 #[.int .i64 0, .int .i64 0, .int .i64 0, .slice none 0 0] (0, 0) _ rfl (by exact bP BKgr.out) Try.underlying29 rfl (by kernel_rfl)) rfl ?_
   exact ⟨_, by first | rfl | (simp; done), Kd.R_nil _ _ _ _ _, by exact qW HB.out⟩
  | true =>
   rw [if_pos rfl] at H
   replace H := Option.bind_eq_some_iff.mp H
   obtain ⟨t3, q3, H⟩ := H
   have A3 := aM q3
   clear q3
   cases t3 with
   | false =>
    rw [if_neg (show ¬ (false = true) by decide)] at H
    simp only [Option.some.injEq, Prod.mk.injEq] at H
    obtain ⟨rfl, rfl, rfl, rfl, rfl⟩ := H
    go_enter Try.func25, Try.ntmps25
    go_wp2_with (first | ((with_reducible refine gate_dst (N := 3) rfl ?_); (try (refine gate_guard (by rfl) ?_; dsimp only)); refine bxE (N := 3) (cs := #[.int .i64 a0_0, .int .i64 a0_1, .int .i64 a0_2, .slice A0_3 l0_3.length c0_3]) (t := 29) ?_; intro gm hg w164 hbox hb; have n165 := bS HB hb; have n166 := aM hbox; have n167 := aM ((by rw [hg]; exact (below_size (qW HB.out))) : w.heap.size ≤ gm); clear HB; have HB := n165; have BKgm := n166; have GEgm := n167; clear n165 n166 n167; clear hb hbox hg; have hz168 : w164.cell? ⟨gm, 0, none⟩ = some (.int .i64 a0_0) := (blk_cell BKgm.out 0).trans rfl; have hz169 : w164.cell? ⟨gm, 1, none⟩ = some (.int .i64 a0_1) := (blk_cell BKgm.out 1).trans rfl; have hz170 : w164.cell? ⟨gm, 2, none⟩ = some (.int .i64 a0_2) := (blk_cell BKgm.out 2).trans rfl; have hz171 : w164.cell? ⟨gm, 3, none⟩ = some (.slice A0_3 l0_3.length c0_3) := (blk_cell BKgm.out 3).trans rfl; have hf172 := blk_frozen BKgm.out 0; have hf173 := blk_frozen BKgm.out 1; have hf174 := blk_frozen BKgm.out 2; have hf175 := blk_frozen BKgm.out 3) | ((with_reducible refine gate_dst (N := 4) rfl ?_); (try (refine gate_guard (by rfl) ?_; dsimp only)); refine bxE (N := 4) (cs := #[.slice Aq1 l1.length cq1]) (t := 26) ?_; intro gl hg w176 hbox hb; have n177 := bB BKgm hb; have n178 := bS HB hb; have n179 := aM hbox; have n180 := aM ((by rw [hg]; exact (below_size (qW HB.out))) : w.heap.size ≤ gl); have n181 := aM ((by rw [hg]; exact Nat.ne_of_lt (blk_lt (g := gm) (o := .cells #[.int .i64 a0_0, .int .i64 a0_1, .int .i64 a0_2, .slice A0_3 l0_3.length c0_3] 29 (0, 0)) (qB BKgm.out))) : gm ≠ gl); have n182 := aM ((by rw [hg]; exact Nat.ne_of_gt (blk_lt (g := gm) (o := .cells #[.int .i64 a0_0, .int .i64 a0_1, .int .i64 a0_2, .slice A0_3 l0_3.length c0_3] 29 (0, 0)) (qB BKgm.out))) : gl ≠ gm); clear HB BKgm; have BKgm := n177; have HB := n178; have BKgl := n179; have GEgl := n180; have NBgm_gl := n181; have NBgl_gm := n182; clear n177 n178 n179 n180 n181 n182; clear hb hbox hg; have hz183 : w176.cell? ⟨gm, 0, none⟩ = some (.int .i64 a0_0) := (blk_cell BKgm.out 0).trans rfl; have hz184 : w176.cell? ⟨gm, 1, none⟩ = some (.int .i64 a0_1) := (blk_cell BKgm.out 1).trans rfl; have hz185 : w176.cell? ⟨gm, 2, none⟩ = some (.int .i64 a0_2) := (blk_cell BKgm.out 2).trans rfl; have hz186 : w176.cell? ⟨gm, 3, none⟩ = some (.slice A0_3 l0_3.length c0_3) := (blk_cell BKgm.out 3).trans rfl; have hf187 := blk_frozen BKgm.out 0; have hf188 := blk_frozen BKgm.out 1; have hf189 := blk_frozen BKgm.out 2; have hf190 := blk_frozen BKgm.out 3; have hz191 : w176.cell? ⟨gl, 0, none⟩ = some (.slice Aq1 l1.length cq1) := (blk_cell BKgl.out 0).trans rfl; have hf192 := blk_frozen BKgl.out 0) | ((with_reducible refine gate_dst (N := 6) rfl ?_); (try (refine gate_guard (by rfl) ?_; dsimp only)); refine bxE (N := 6) (cs := #[.int .i64 0, .int .i64 0, .int .i64 0, .slice none 0 0]) (t := 29) ?_; intro gr hg w193 hbox hb; have n194 := bB BKgm hb; have n195 := bB BKgl hb; have n196 := bS HB hb; have n197 := aM hbox; have n198 := aM ((by rw [hg]; exact (below_size (qW HB.out))) : w.heap.size ≤ gr); have n199 := aM ((by rw [hg]; exact Nat.ne_of_lt (blk_lt (g := gm) (o := .cells #[.int .i64 a0_0, .int .i64 a0_1, .int .i64 a0_2, .slice A0_3 l0_3.length c0_3] 29 (0, 0)) (qB BKgm.out))) : gm ≠ gr); have n200 := aM ((by rw [hg]; exact Nat.ne_of_gt (blk_lt (g := gm) (o := .cells #[.int .i64 a0_0, .int .i64 a0_1, .int .i64 a0_2, .slice A0_3 l0_3.length c0_3] 29 (0, 0)) (qB BKgm.out))) : gr ≠ gm); have n201 := aM ((by rw [hg]; exact Nat.ne_of_lt (blk_lt (g := gl) (o := .cells #[.slice Aq1 l1.length cq1] 26 (0, 0)) (qB BKgl.out))) : gl ≠ gr); have n202 := aM ((by rw [hg]; exact Nat.ne_of_gt (blk_lt (g := gl) (o := .cells #[.slice Aq1 l1.length cq1] 26 (0, 0)) (qB BKgl.out))) : gr ≠ gl); clear HB BKgm BKgl; have BKgm := n194; have BKgl := n195; have HB := n196; have BKgr := n197; have GEgr := n198; have NBgm_gr := n199; have NBgr_gm := n200; have NBgl_gr := n201; have NBgr_gl := n202; clear n194 n195 n196 n197 n198 n199 n200 n201 n202; clear hb hbox hg; have hz203 : w193.cell? ⟨gm, 0, none⟩ = some (.int .i64 a0_0) := (blk_cell BKgm.out 0).trans rfl; have hz204 : w193.cell? ⟨gm, 1, none⟩ = some (.int .i64 a0_1) := (blk_cell BKgm.out 1).trans rfl; have hz205 : w193.cell? ⟨gm, 2, none⟩ = some (.int .i64 a0_2) := (blk_cell BKgm.out 2).trans rfl; have hz206 : w193.cell? ⟨gm, 3, none⟩ = some (.slice A0_3 l0_3.length c0_3) := (blk_cell BKgm.out 3).trans rfl; have hf207 := blk_frozen BKgm.out 0; have hf208 := blk_frozen BKgm.out 1; have hf209 := blk_frozen BKgm.out 2; have hf210 := blk_frozen BKgm.out 3; have hz211 : w193.cell? ⟨gl, 0, none⟩ = some (.slice Aq1 l1.length cq1) := (blk_cell BKgl.out 0).trans rfl; have hf212 := blk_frozen BKgl.out 0; have hz213 : w193.cell? ⟨gr, 0, none⟩ = some (.int .i64 0) := (blk_cell BKgr.out 0).trans rfl; have hz214 : w193.cell? ⟨gr, 1, none⟩ = some (.int .i64 0) := (blk_cell BKgr.out 1).trans rfl; have hz215 : w193.cell? ⟨gr, 2, none⟩ = some (.int .i64 0) := (blk_cell BKgr.out 2).trans rfl; have hz216 : w193.cell? ⟨gr, 3, none⟩ = some (.slice none 0 0) := (blk_cell BKgr.out 3).trans rfl; have hf217 := blk_frozen BKgr.out 0; have hf218 := blk_frozen BKgr.out 1; have hf219 := blk_frozen BKgr.out 2; have hf220 := blk_frozen BKgr.out 3))
    refine start_ (n := 22) (S := fun w' => Below w193.heap.size w193 w') (ds := []) (bA 22 0) (by kernel_rfl) rfl rfl (below_drew (Below.refl _ _)) (fun hHeld => ?_)
    have HS := aM hHeld
    clear hHeld
    generalize w193.drew = w221 at HS ⊢
    refine take_ (i := 0) (N := some 8) (v := ?_) (a' := ?_) (bA 22 1) rfl rfl (by kernel_rfl) (fun _ _ _ h => h) (Or.inl ⟨by rfl, ?_⟩) HS.out ?_ ?_
    rotate_left
    ·intro w' s0
     have z0 : w'.cell? ⟨gm, 0, none⟩ = some (.int .i64 a0_0) := (blk_cell (blk_below BKgm.out s0) 0).trans rfl
     have z1 : w'.cell? ⟨gm, 1, none⟩ = some (.int .i64 a0_1) := (blk_cell (blk_below BKgm.out s0) 1).trans rfl
     have z2 : w'.cell? ⟨gm, 2, none⟩ = some (.int .i64 a0_2) := (blk_cell (blk_below BKgm.out s0) 2).trans rfl
     have z3 : w'.cell? ⟨gm, 3, none⟩ = some (.slice A0_3 l0_3.length c0_3) := (blk_cell (blk_below BKgm.out s0) 3).trans rfl
     go_simp
     with_reducible rfl
    rotate_left
    ·refine pZ ?_
     rfl
    refine one_ (i := 1) (N := some 9) (bA 22 3) rfl rfl (by kernel_rfl) (by decide) (fun K hK => ?_)
    refine goes_ Try.func43 (by kernel_rfl) rfl #[.agg #[.int .i64 a0_0, .int .i64 a0_1, .int .i64 a0_2, .slice A0_3 l0_3.length c0_3]] (by rfl) rfl rfl (by (try simp only [List.map_toArray, List.map_cons, List.map_nil]); first | done | rfl) ?_
    refine (impl_isImage.calls a0_0 a0_1 a0_2 _ _ l0_3 true _ (Kd.C_below HR0.out (below_step (qW HB.out) HS.out)) HC0.out A0.out).mono ?_
    rintro e w222 ⟨rfl, hb⟩
    refine ⟨_, rfl, ?_⟩
    have HS3 := aM (below_step HS.out hb)
    clear hb
    clear HS
    have HS := HS3
    clear HS3
    refine hK.out _ _ HS.out (fun hHeld => ?_)
    clear hK K hHeld
    refine norm_ (a' := ?_) ?_ ?_
    rotate_left
    ·show Act.put _ (some 9) _ = _
     refine pZ ?_
     rfl
    refine pure_ (i := 2) (N := some 10) (v := ?_) (a' := ?_) (bA 22 7) rfl rfl (by kernel_rfl) (fun _ _ _ h => h) (Or.inl ⟨by rfl, ?_⟩) ?_ ?_
    rotate_left
    ·intro w'
     go_simp
     with_reducible rfl
    rotate_left
    ·refine pZ ?_
     rfl
    refine pure_ (i := 3) (N := some 11) (v := ?_) (a' := ?_) (bA 22 15) rfl rfl (by kernel_rfl) (fun _ _ _ h => h) (Or.inl ⟨by rfl, ?_⟩) ?_ ?_
    rotate_left
    ·intro w'
     go_simp
     with_reducible rfl
    rotate_left
    ·refine pZ ?_
     rfl
    refine pure_ (i := 4) (N := some 12) (v := ?_) (a' := ?_) (bA 22 31) rfl rfl (by kernel_rfl) (fun _ _ _ h => h) (Or.inl ⟨by rfl, ?_⟩) ?_ ?_
    rotate_left
    ·intro w'
     go_simp
     with_reducible rfl
    rotate_left
    ·refine pZ ?_
     rfl
    refine take_ (i := 5) (N := some 13) (v := ?_) (a' := ?_) (bA 22 63) rfl rfl (by kernel_rfl) (fun _ _ _ h => h) (Or.inl ⟨by rfl, ?_⟩) HS.out ?_ ?_
    rotate_left
    ·intro w' s0
     have z0 : w'.cell? ⟨gm, 0, none⟩ = some (.int .i64 a0_0) := (blk_cell (blk_below BKgm.out s0) 0).trans rfl
     have z1 : w'.cell? ⟨gm, 1, none⟩ = some (.int .i64 a0_1) := (blk_cell (blk_below BKgm.out s0) 1).trans rfl
     have z2 : w'.cell? ⟨gm, 2, none⟩ = some (.int .i64 a0_2) := (blk_cell (blk_below BKgm.out s0) 2).trans rfl
     have z3 : w'.cell? ⟨gm, 3, none⟩ = some (.slice A0_3 l0_3.length c0_3) := (blk_cell (blk_below BKgm.out s0) 3).trans rfl
     go_simp
     with_reducible rfl
    rotate_left
    ·refine pZ ?_
     rfl
    refine pure_ (i := 6) (N := some 14) (v := ?_) (a' := ?_) (bA 22 127) rfl rfl (by kernel_rfl) (fun _ _ _ h => h) (Or.inl ⟨by rfl, ?_⟩) ?_ ?_
    rotate_left
    ·intro w'
     go_simp
     with_reducible rfl
    rotate_left
    ·refine pZ ?_
     rfl
    refine pure_ (i := 7) (N := some 15) (v := ?_) (a' := ?_) (bA 22 255) rfl rfl (by kernel_rfl) (fun _ _ _ h => h) (Or.inl ⟨by rfl, ?_⟩) ?_ ?_
    rotate_left
    ·intro w'
     go_simp
     with_reducible rfl
    rotate_left
    ·refine pZ ?_
     rfl
    refine pure_ (i := 8) (N := some 16) (v := ?_) (a' := ?_) (bA 22 511) rfl rfl (by kernel_rfl) (fun _ _ _ h => h) (Or.inl ⟨by rfl, ?_⟩) ?_ ?_
    rotate_left
    ·intro w'
     go_simp
     with_reducible rfl
    rotate_left
    ·refine pZ ?_
     rfl
    refine take_ (i := 9) (N := some 17) (v := ?_) (a' := ?_) (bA 22 1023) rfl rfl (by kernel_rfl) (fun _ _ _ h => h) (Or.inl ⟨by rfl, ?_⟩) HS.out ?_ ?_
    rotate_left
    ·intro w' s0
     have z : w'.cell? ⟨gl, 0, none⟩ = some (.slice Aq1 l1.length cq1) := (blk_cell (blk_below BKgl.out s0) 0).trans rfl
     go_simp
     with_reducible rfl
    rotate_left
    ·refine pZ ?_
     rfl
    refine pure_ (i := 10) (N := some 18) (v := ?_) (a' := ?_) (bA 22 2047) rfl rfl (by kernel_rfl) (fun _ _ _ h => h) (Or.inl ⟨by rfl, ?_⟩) ?_ ?_
    rotate_left
    ·intro w'
     go_simp
     with_reducible rfl
    rotate_left
    ·refine pZ ?_
     rfl
    refine one_ (i := 11) (N := some 19) (bA 22 4095) rfl rfl (by kernel_rfl) (by decide) (fun K hK => ?_)
    refine goes_ Try.func53 (by kernel_rfl) rfl #[.slice Aq1 l1.length cq1, .int .i64 a2] (by rfl) rfl rfl (by (try simp only [List.map_toArray, List.map_cons, List.map_nil]); first | done | rfl) ?_
    refine (impl_isPalette.calls _ _ l1 a2 true _ (Kd.C_below HR1.out (below_step (qW HB.out) HS.out)) HC1.out A2.out).mono ?_
    rintro e w223 ⟨rfl, hb⟩
    refine ⟨_, rfl, ?_⟩
    have HS3 := aM (below_step HS.out hb)
    clear hb
    clear HS
    have HS := HS3
    clear HS3
    refine hK.out _ _ HS.out (fun hHeld => ?_)
    clear hK K hHeld
    refine norm_ (a' := ?_) ?_ ?_
    rotate_left
    ·show Act.put _ (some 19) _ = _
     refine pZ ?_
     rfl
    refine pure_ (i := 12) (N := some 20) (v := ?_) (a' := ?_) (bA 22 8191) rfl rfl (by kernel_rfl) (fun _ _ _ h => h) (Or.inl ⟨by rfl, ?_⟩) ?_ ?_
    rotate_left
    ·intro w'
     go_simp
     with_reducible rfl
    rotate_left
    ·refine pZ ?_
     rfl
    refine pure_ (i := 13) (N := some 21) (v := ?_) (a' := ?_) (bA 22 16383) rfl rfl (by kernel_rfl) (fun _ _ _ h => h) (Or.inl ⟨by rfl, ?_⟩) ?_ ?_
    rotate_left
    ·intro w'
     go_simp
     with_reducible rfl
    rotate_left
    ·refine pZ ?_
     rfl
    refine pure_ (i := 14) (N := some 22) (v := ?_) (a' := ?_) (bA 22 32767) rfl rfl (by kernel_rfl) (fun _ _ _ h => h) (Or.inl ⟨by rfl, ?_⟩) ?_ ?_
    rotate_left
    ·intro w'
     go_simp
     with_reducible rfl
    rotate_left
    ·refine pZ ?_
     rfl
    refine pure_ (i := 15) (N := some 23) (v := ?_) (a' := ?_) (bA 22 65535) rfl rfl (by kernel_rfl) (fun _ _ _ h => h) (Or.inl ⟨by rfl, ?_⟩) ?_ ?_
    rotate_left
    ·intro w'
     go_simp
     with_reducible rfl
    rotate_left
    ·refine pZ ?_
     rfl
    refine take_ (i := 16) (N := some 24) (v := ?_) (a' := ?_) (bA 22 131071) rfl rfl (by kernel_rfl) (fun _ _ _ h => h) (Or.inl ⟨by rfl, ?_⟩) HS.out ?_ ?_
    rotate_left
    ·intro w' s0
     have z0 : w'.cell? ⟨gm, 0, none⟩ = some (.int .i64 a0_0) := (blk_cell (blk_below BKgm.out s0) 0).trans rfl
     have z1 : w'.cell? ⟨gm, 1, none⟩ = some (.int .i64 a0_1) := (blk_cell (blk_below BKgm.out s0) 1).trans rfl
     have z2 : w'.cell? ⟨gm, 2, none⟩ = some (.int .i64 a0_2) := (blk_cell (blk_below BKgm.out s0) 2).trans rfl
     have z3 : w'.cell? ⟨gm, 3, none⟩ = some (.slice A0_3 l0_3.length c0_3) := (blk_cell (blk_below BKgm.out s0) 3).trans rfl
     go_simp
     with_reducible rfl
    rotate_left
    ·refine pZ ?_
     rfl
    refine take_ (i := 18) (N := some 26) (v := ?_) (a' := ?_) (bA 22 393215) rfl rfl (by kernel_rfl) (fun _ _ _ h => h) (Or.inl ⟨by rfl, ?_⟩) HS.out ?_ ?_
    rotate_left
    ·intro w' s0
     have z : w'.cell? ⟨gl, 0, none⟩ = some (.slice Aq1 l1.length cq1) := (blk_cell (blk_below BKgl.out s0) 0).trans rfl
     go_simp
     with_reducible rfl
    rotate_left
    ·refine pZ ?_
     rfl
    refine pure_ (i := 19) (N := some 27) (v := ?_) (a' := ?_) (bA 22 917503) rfl rfl (by kernel_rfl) (fun _ _ _ h => h) (Or.inl ⟨by rfl, ?_⟩) ?_ ?_
    rotate_left
    ·intro w'
     go_simp
     with_reducible rfl
    rotate_left
    ·refine pZ ?_
     rfl
    obtain ⟨mm, hmm, em⟩ := Option.map_eq_some_iff.mp A3.out
    have HMM := aM hmm
    clear hmm
    have em1 := of_decide_eq_false em
    have em2 : ((l1.length : Int) ≤ mm) := by omega
    clear em
    refine one_ (i := 17) (N := some 25) (bA 22 1048575) rfl rfl (by kernel_rfl) (by decide) (fun K hK => ?_)
    refine goes_ Try.func57 (by kernel_rfl) rfl #[.slice A0_3 l0_3.length c0_3] (by rfl) rfl rfl (by (try simp only [List.map_toArray, List.map_cons, List.map_nil]); first | done | rfl) ?_
    refine (slices_Max_int_int.calls 1030 _ _ l0_3 mm _ (Kd.C_below HR0.out (below_step (qW HB.out) HS.out)) HC0.out HMM.out).mono ?_
    rintro e w224 ⟨rfl, hb⟩
    refine ⟨_, rfl, ?_⟩
    have HS3 := aM (below_step HS.out hb)
    clear hb
    clear HS
    have HS := HS3
    clear HS3
    refine hK.out _ _ HS.out (fun hHeld => ?_)
    clear hK K hHeld
    refine norm_ (a' := ?_) ?_ ?_
    rotate_left
    ·show Act.put _ (some 25) _ = _
     refine pZ ?_
     rfl
    refine pure_ (i := 20) (N := some 28) (v := ?_) (a' := ?_) (bA 22 2097151) rfl rfl (by kernel_rfl) (fun _ _ _ h => h) (Or.inl ⟨by rfl, ?_⟩) ?_ ?_
    rotate_left
    ·intro w'
     go_simp
     with_reducible rfl
    rotate_left
    ·refine pZ ?_
     rfl
    refine pure_ (i := 21) (N := some 29) (v := ?_) (a' := ?_) (bA 22 4194303) rfl rfl (by kernel_rfl) (fun _ _ _ h => h) (Or.inl ⟨by rfl, ?_⟩) ?_ ?_
    rotate_left
    ·intro w'
     go_simp
     with_reducible rfl
    rotate_left
    ·refine pZ ?_
     rfl
    have hb := HS.out
    clear HS
    have n225 := bB BKgm hb
    have n226 := bB BKgl hb
    have n227 := bB BKgr hb
    have n228 := bS HB hb
    clear HB BKgm BKgl BKgr
    have BKgm := n225
    have BKgl := n226
    have BKgr := n227
    have HB := n228
    clear n225 n226 n227 n228 hb
    have hz229 : w224.cell? ⟨gm, 0, none⟩ = some (.int .i64 a0_0) := (blk_cell BKgm.out 0).trans rfl
    have hz230 : w224.cell? ⟨gm, 1, none⟩ = some (.int .i64 a0_1) := (blk_cell BKgm.out 1).trans rfl
    have hz231 : w224.cell? ⟨gm, 2, none⟩ = some (.int .i64 a0_2) := (blk_cell BKgm.out 2).trans rfl
    have hz232 : w224.cell? ⟨gm, 3, none⟩ = some (.slice A0_3 l0_3.length c0_3) := (blk_cell BKgm.out 3).trans rfl
    have hf233 := blk_frozen BKgm.out 0
    have hf234 := blk_frozen BKgm.out 1
    have hf235 := blk_frozen BKgm.out 2
    have hf236 := blk_frozen BKgm.out 3
    have hz237 : w224.cell? ⟨gl, 0, none⟩ = some (.slice Aq1 l1.length cq1) := (blk_cell BKgl.out 0).trans rfl
    have hf238 := blk_frozen BKgl.out 0
    have hz239 : w224.cell? ⟨gr, 0, none⟩ = some (.int .i64 0) := (blk_cell BKgr.out 0).trans rfl
    have hz240 : w224.cell? ⟨gr, 1, none⟩ = some (.int .i64 0) := (blk_cell BKgr.out 1).trans rfl
    have hz241 : w224.cell? ⟨gr, 2, none⟩ = some (.int .i64 0) := (blk_cell BKgr.out 2).trans rfl
    have hz242 : w224.cell? ⟨gr, 3, none⟩ = some (.slice none 0 0) := (blk_cell BKgr.out 3).trans rfl
    have hf243 := blk_frozen BKgr.out 0
    have hf244 := blk_frozen BKgr.out 1
    have hf245 := blk_frozen BKgr.out 2
    have hf246 := blk_frozen BKgr.out 3
    refine done_ (by kernel_rfl) ?_
    go_wp2
    refine bodyPost_ret (results_ct rfl _ _ gr 29 #[.int .i64 0, .int .i64 0, .int .i64 0, .slice none 0 0] (0, 0) _ rfl (by exact bP BKgr.out) Try.underlying29 rfl (by kernel_rfl)) rfl ?_
    exact ⟨_, by first | rfl | (simp; done), Kd.R_nil _ _ _ _ _, by exact qW HB.out⟩
   | true =>
    rw [if_pos rfl] at H
    simp only [Option.some.injEq, Prod.mk.injEq] at H
    obtain ⟨rfl, rfl, rfl, hy, rfl⟩ := H
    have HY := aM hy
    clear hy
    have V := aM (isImage_true A0.out)
    have b0 := V.out.1
    have b1 := V.out.2.1
    have b2 := V.out.2.2.1
    have U := aM (isPalette_true A2.out)
    have p1 := U.out.2.1
    have MB := aM (maxBelow_true (by have := V.out.2.2.2.1; have h1 := img_bounds V.out.1 V.out.2.1 V.out.2.2.1; omega) A3.out)
    have HF : Aside0 (∀ x y : Int, ((fun x y => colPix l1 l0_3 a0_0 a0_2 x y) x y).length ≤ 100) := ⟨fun _ _ => colPix_len _ _ _ _ _ _ (fun z hz => by have := (U.out.2.2 z hz).1; omega)⟩
    generalize hyl : imgOf (fun x y => colPix l1 l0_3 a0_0 a0_2 x y) a0_0.toNat a0_1.toNat = yl at HY
    have HYL := aM hyl
    clear hyl
    go_enter Try.func25, Try.ntmps25
    go_wp2_with (first | ((with_reducible refine gate_dst (N := 3) rfl ?_); (try (refine gate_guard (by rfl) ?_; dsimp only)); refine bxE (N := 3) (cs := #[.int .i64 a0_0, .int .i64 a0_1, .int .i64 a0_2, .slice A0_3 l0_3.length c0_3]) (t := 29) ?_; intro gm hg w247 hbox hb; have n248 := bS HB hb; have n249 := aM hbox; have n250 := aM ((by rw [hg]; exact (below_size (qW HB.out))) : w.heap.size ≤ gm); clear HB; have HB := n248; have BKgm := n249; have GEgm := n250; clear n248 n249 n250; clear hb hbox hg; have hz251 : w247.cell? ⟨gm, 0, none⟩ = some (.int .i64 a0_0) := (blk_cell BKgm.out 0).trans rfl; have hz252 : w247.cell? ⟨gm, 1, none⟩ = some (.int .i64 a0_1) := (blk_cell BKgm.out 1).trans rfl; have hz253 : w247.cell? ⟨gm, 2, none⟩ = some (.int .i64 a0_2) := (blk_cell BKgm.out 2).trans rfl; have hz254 : w247.cell? ⟨gm, 3, none⟩ = some (.slice A0_3 l0_3.length c0_3) := (blk_cell BKgm.out 3).trans rfl; have hf255 := blk_frozen BKgm.out 0; have hf256 := blk_frozen BKgm.out 1; have hf257 := blk_frozen BKgm.out 2; have hf258 := blk_frozen BKgm.out 3) | ((with_reducible refine gate_dst (N := 4) rfl ?_); (try (refine gate_guard (by rfl) ?_; dsimp only)); refine bxE (N := 4) (cs := #[.slice Aq1 l1.length cq1]) (t := 26) ?_; intro gl hg w259 hbox hb; have n260 := bB BKgm hb; have n261 := bS HB hb; have n262 := aM hbox; have n263 := aM ((by rw [hg]; exact (below_size (qW HB.out))) : w.heap.size ≤ gl); have n264 := aM ((by rw [hg]; exact Nat.ne_of_lt (blk_lt (g := gm) (o := .cells #[.int .i64 a0_0, .int .i64 a0_1, .int .i64 a0_2, .slice A0_3 l0_3.length c0_3] 29 (0, 0)) (qB BKgm.out))) : gm ≠ gl); have n265 := aM ((by rw [hg]; exact Nat.ne_of_gt (blk_lt (g := gm) (o := .cells #[.int .i64 a0_0, .int .i64 a0_1, .int .i64 a0_2, .slice A0_3 l0_3.length c0_3] 29 (0, 0)) (qB BKgm.out))) : gl ≠ gm); clear HB BKgm; have BKgm := n260; have HB := n261; have BKgl := n262; have GEgl := n263; have NBgm_gl := n264; have NBgl_gm := n265; clear n260 n261 n262 n263 n264 n265; clear hb hbox hg; have hz266 : w259.cell? ⟨gm, 0, none⟩ = some (.int .i64 a0_0) := (blk_cell BKgm.out 0).trans rfl; have hz267 : w259.cell? ⟨gm, 1, none⟩ = some (.int .i64 a0_1) := (blk_cell BKgm.out 1).trans rfl; have hz268 : w259.cell? ⟨gm, 2, none⟩ = some (.int .i64 a0_2) := (blk_cell BKgm.out 2).trans rfl; have hz269 : w259.cell? ⟨gm, 3, none⟩ = some (.slice A0_3 l0_3.length c0_3) := (blk_cell BKgm.out 3).trans rfl; have hf270 := blk_frozen BKgm.out 0; have hf271 := blk_frozen BKgm.out 1; have hf272 := blk_frozen BKgm.out 2; have hf273 := blk_frozen BKgm.out 3; have hz274 : w259.cell? ⟨gl, 0, none⟩ = some (.slice Aq1 l1.length cq1) := (blk_cell BKgl.out 0).trans rfl; have hf275 := blk_frozen BKgl.out 0) | ((with_reducible refine gate_dst (N := 6) rfl ?_); (try (refine gate_guard (by rfl) ?_; dsimp only)); refine bxE (N := 6) (cs := #[.int .i64 0, .int .i64 0, .int .i64 0, .slice none 0 0]) (t := 29) ?_; intro gr hg w276 hbox hb; have n277 := bB BKgm hb; have n278 := bB BKgl hb; have n279 := bS HB hb; have n280 := aM hbox; have n281 := aM ((by rw [hg]; exact (below_size (qW HB.out))) : w.heap.size ≤ gr); have n282 := aM ((by rw [hg]; exact Nat.ne_of_lt (blk_lt (g := gm) (o := .cells #[.int .i64 a0_0, .int .i64 a0_1, .int .i64 a0_2, .slice A0_3 l0_3.length c0_3] 29 (0, 0)) (qB BKgm.out))) : gm ≠ gr); have n283 := aM ((by rw [hg]; exact Nat.ne_of_gt (blk_lt (g := gm) (o := .cells #[.int .i64 a0_0, .int .i64 a0_1, .int .i64 a0_2, .slice A0_3 l0_3.length c0_3] 29 (0, 0)) (qB BKgm.out))) : gr ≠ gm); have n284 := aM ((by rw [hg]; exact Nat.ne_of_lt (blk_lt (g := gl) (o := .cells #[.slice Aq1 l1.length cq1] 26 (0, 0)) (qB BKgl.out))) : gl ≠ gr); have n285 := aM ((by rw [hg]; exact Nat.ne_of_gt (blk_lt (g := gl) (o := .cells #[.slice Aq1 l1.length cq1] 26 (0, 0)) (qB BKgl.out))) : gr ≠ gl); clear HB BKgm BKgl; have BKgm := n277; have BKgl := n278; have HB := n279; have BKgr := n280; have GEgr := n281; have NBgm_gr := n282; have NBgr_gm := n283; have NBgl_gr := n284; have NBgr_gl := n285; clear n277 n278 n279 n280 n281 n282 n283 n284 n285; clear hb hbox hg; have hz286 : w276.cell? ⟨gm, 0, none⟩ = some (.int .i64 a0_0) := (blk_cell BKgm.out 0).trans rfl; have hz287 : w276.cell? ⟨gm, 1, none⟩ = some (.int .i64 a0_1) := (blk_cell BKgm.out 1).trans rfl; have hz288 : w276.cell? ⟨gm, 2, none⟩ = some (.int .i64 a0_2) := (blk_cell BKgm.out 2).trans rfl; have hz289 : w276.cell? ⟨gm, 3, none⟩ = some (.slice A0_3 l0_3.length c0_3) := (blk_cell BKgm.out 3).trans rfl; have hf290 := blk_frozen BKgm.out 0; have hf291 := blk_frozen BKgm.out 1; have hf292 := blk_frozen BKgm.out 2; have hf293 := blk_frozen BKgm.out 3; have hz294 : w276.cell? ⟨gl, 0, none⟩ = some (.slice Aq1 l1.length cq1) := (blk_cell BKgl.out 0).trans rfl; have hf295 := blk_frozen BKgl.out 0; have hz296 : w276.cell? ⟨gr, 0, none⟩ = some (.int .i64 0) := (blk_cell BKgr.out 0).trans rfl; have hz297 : w276.cell? ⟨gr, 1, none⟩ = some (.int .i64 0) := (blk_cell BKgr.out 1).trans rfl; have hz298 : w276.cell? ⟨gr, 2, none⟩ = some (.int .i64 0) := (blk_cell BKgr.out 2).trans rfl; have hz299 : w276.cell? ⟨gr, 3, none⟩ = some (.slice none 0 0) := (blk_cell BKgr.out 3).trans rfl; have hf300 := blk_frozen BKgr.out 0; have hf301 := blk_frozen BKgr.out 1; have hf302 := blk_frozen BKgr.out 2; have hf303 := blk_frozen BKgr.out 3))
    refine start_ (n := 22) (S := fun w' => Below w276.heap.size w276 w') (ds := []) (bA 22 0) (by kernel_rfl) rfl rfl (below_drew (Below.refl _ _)) (fun hHeld => ?_)
    have HS := aM hHeld
    clear hHeld
    generalize w276.drew = w304 at HS ⊢
    refine take_ (i := 0) (N := some 8) (v := ?_) (a' := ?_) (bA 22 1) rfl rfl (by kernel_rfl) (fun _ _ _ h => h) (Or.inl ⟨by rfl, ?_⟩) HS.out ?_ ?_
    rotate_left
    ·intro w' s0
     have z0 : w'.cell? ⟨gm, 0, none⟩ = some (.int .i64 a0_0) := (blk_cell (blk_below BKgm.out s0) 0).trans rfl
     have z1 : w'.cell? ⟨gm, 1, none⟩ = some (.int .i64 a0_1) := (blk_cell (blk_below BKgm.out s0) 1).trans rfl
     have z2 : w'.cell? ⟨gm, 2, none⟩ = some (.int .i64 a0_2) := (blk_cell (blk_below BKgm.out s0) 2).trans rfl
     have z3 : w'.cell? ⟨gm, 3, none⟩ = some (.slice A0_3 l0_3.length c0_3) := (blk_cell (blk_below BKgm.out s0) 3).trans rfl
     go_simp
     with_reducible rfl
    rotate_left
    ·refine pZ ?_
     rfl
    refine one_ (i := 1) (N := some 9) (bA 22 3) rfl rfl (by kernel_rfl) (by decide) (fun K hK => ?_)
    refine goes_ Try.func43 (by kernel_rfl) rfl #[.agg #[.int .i64 a0_0, .int .i64 a0_1, .int .i64 a0_2, .slice A0_3 l0_3.length c0_3]] (by rfl) rfl rfl (by (try simp only [List.map_toArray, List.map_cons, List.map_nil]); first | done | rfl) ?_
    refine (impl_isImage.calls a0_0 a0_1 a0_2 _ _ l0_3 true _ (Kd.C_below HR0.out (below_step (qW HB.out) HS.out)) HC0.out A0.out).mono ?_
    rintro e w305 ⟨rfl, hb⟩
    refine ⟨_, rfl, ?_⟩
    have HS3 := aM (below_step HS.out hb)
    clear hb
    clear HS
    have HS := HS3
    clear HS3
    refine hK.out _ _ HS.out (fun hHeld => ?_)
    clear hK K hHeld
    refine norm_ (a' := ?_) ?_ ?_
    rotate_left
    ·show Act.put _ (some 9) _ = _
     refine pZ ?_
     rfl
    refine pure_ (i := 2) (N := some 10) (v := ?_) (a' := ?_) (bA 22 7) rfl rfl (by kernel_rfl) (fun _ _ _ h => h) (Or.inl ⟨by rfl, ?_⟩) ?_ ?_
    rotate_left
    ·intro w'
     go_simp
     with_reducible rfl
    rotate_left
    ·refine pZ ?_
     rfl
    refine pure_ (i := 3) (N := some 11) (v := ?_) (a' := ?_) (bA 22 15) rfl rfl (by kernel_rfl) (fun _ _ _ h => h) (Or.inl ⟨by rfl, ?_⟩) ?_ ?_
    rotate_left
    ·intro w'
     go_simp
     with_reducible rfl
    rotate_left
    ·refine pZ ?_
     rfl
    refine pure_ (i := 4) (N := some 12) (v := ?_) (a' := ?_) (bA 22 31) rfl rfl (by kernel_rfl) (fun _ _ _ h => h) (Or.inl ⟨by rfl, ?_⟩) ?_ ?_
    rotate_left
    ·intro w'
     go_simp
     with_reducible rfl
    rotate_left
    ·refine pZ ?_
     rfl
    refine take_ (i := 5) (N := some 13) (v := ?_) (a' := ?_) (bA 22 63) rfl rfl (by kernel_rfl) (fun _ _ _ h => h) (Or.inl ⟨by rfl, ?_⟩) HS.out ?_ ?_
    rotate_left
    ·intro w' s0
     have z0 : w'.cell? ⟨gm, 0, none⟩ = some (.int .i64 a0_0) := (blk_cell (blk_below BKgm.out s0) 0).trans rfl
     have z1 : w'.cell? ⟨gm, 1, none⟩ = some (.int .i64 a0_1) := (blk_cell (blk_below BKgm.out s0) 1).trans rfl
     have z2 : w'.cell? ⟨gm, 2, none⟩ = some (.int .i64 a0_2) := (blk_cell (blk_below BKgm.out s0) 2).trans rfl
     have z3 : w'.cell? ⟨gm, 3, none⟩ = some (.slice A0_3 l0_3.length c0_3) := (blk_cell (blk_below BKgm.out s0) 3).trans rfl
     go_simp
     with_reducible rfl
    rotate_left
    ·refine pZ ?_
     rfl
    refine pure_ (i := 6) (N := some 14) (v := ?_) (a' := ?_) (bA 22 127) rfl rfl (by kernel_rfl) (fun _ _ _ h => h) (Or.inl ⟨by rfl, ?_⟩) ?_ ?_
    rotate_left
    ·intro w'
     go_simp
     with_reducible rfl
    rotate_left
    ·refine pZ ?_
     rfl
    refine pure_ (i := 7) (N := some 15) (v := ?_) (a' := ?_) (bA 22 255) rfl rfl (by kernel_rfl) (fun _ _ _ h => h) (Or.inl ⟨by rfl, ?_⟩) ?_ ?_
    rotate_left
    ·intro w'
     go_simp
     with_reducible rfl
    rotate_left
    ·refine pZ ?_
     rfl
    refine pure_ (i := 8) (N := some 16) (v := ?_) (a' := ?_) (bA 22 511) rfl rfl (by kernel_rfl) (fun _ _ _ h => h) (Or.inl ⟨by rfl, ?_⟩) ?_ ?_
    rotate_left
    ·intro w'
     go_simp
     with_reducible rfl
    rotate_left
    ·refine pZ ?_
     rfl
    refine take_ (i := 9) (N := some 17) (v := ?_) (a' := ?_) (bA 22 1023) rfl rfl (by kernel_rfl) (fun _ _ _ h => h) (Or.inl ⟨by rfl, ?_⟩) HS.out ?_ ?_
    rotate_left
    ·intro w' s0
     have z : w'.cell? ⟨gl, 0, none⟩ = some (.slice Aq1 l1.length cq1) := (blk_cell (blk_below BKgl.out s0) 0).trans rfl
     go_simp
     with_reducible rfl
    rotate_left
    ·refine pZ ?_
     rfl
    refine pure_ (i := 10) (N := some 18) (v := ?_) (a' := ?_) (bA 22 2047) rfl rfl (by kernel_rfl) (fun _ _ _ h => h) (Or.inl ⟨by rfl, ?_⟩) ?_ ?_
    rotate_left
    ·intro w'
     go_simp
     with_reducible rfl
    rotate_left
    ·refine pZ ?_
     rfl
    refine one_ (i := 11) (N := some 19) (bA 22 4095) rfl rfl (by kernel_rfl) (by decide) (fun K hK => ?_)
    refine goes_ Try.func53 (by kernel_rfl) rfl #[.slice Aq1 l1.length cq1, .int .i64 a2] (by rfl) rfl rfl (by (try simp only [List.map_toArray, List.map_cons, List.map_nil]); first | done | rfl) ?_
    refine (impl_isPalette.calls _ _ l1 a2 true _ (Kd.C_below HR1.out (below_step (qW HB.out) HS.out)) HC1.out A2.out).mono ?_
    rintro e w306 ⟨rfl, hb⟩
    refine ⟨_, rfl, ?_⟩
    have HS3 := aM (below_step HS.out hb)
    clear hb
    clear HS
    have HS := HS3
    clear HS3
    refine hK.out _ _ HS.out (fun hHeld => ?_)
    clear hK K hHeld
    refine norm_ (a' := ?_) ?_ ?_
    rotate_left
    ·show Act.put _ (some 19) _ = _
     refine pZ ?_
     rfl
    refine pure_ (i := 12) (N := some 20) (v := ?_) (a' := ?_) (bA 22 8191) rfl rfl (by kernel_rfl) (fun _ _ _ h => h) (Or.inl ⟨by rfl, ?_⟩) ?_ ?_
    rotate_left
    ·intro w'
     go_simp
     with_reducible rfl
    rotate_left
    ·refine pZ ?_
     rfl
    refine pure_ (i := 13) (N := some 21) (v := ?_) (a' := ?_) (bA 22 16383) rfl rfl (by kernel_rfl) (fun _ _ _ h => h) (Or.inl ⟨by rfl, ?_⟩) ?_ ?_
    rotate_left
    ·intro w'
     go_simp
     with_reducible rfl
    rotate_left
    ·refine pZ ?_
     rfl
    refine pure_ (i := 14) (N := some 22) (v := ?_) (a' := ?_) (bA 22 32767) rfl rfl (by kernel_rfl) (fun _ _ _ h => h) (Or.inl ⟨by rfl, ?_⟩) ?_ ?_
    rotate_left
    ·intro w'
     go_simp
     with_reducible rfl
    rotate_left
    ·refine pZ ?_
     rfl
    refine pure_ (i := 15) (N := some 23) (v := ?_) (a' := ?_) (bA 22 65535) rfl rfl (by kernel_rfl) (fun _ _ _ h => h) (Or.inl ⟨by rfl, ?_⟩) ?_ ?_
    rotate_left
    ·intro w'
     go_simp
     with_reducible rfl
    rotate_left
    ·refine pZ ?_
     rfl
    refine take_ (i := 16) (N := some 24) (v := ?_) (a' := ?_) (bA 22 131071) rfl rfl (by kernel_rfl) (fun _ _ _ h => h) (Or.inl ⟨by rfl, ?_⟩) HS.out ?_ ?_
    rotate_left
    ·intro w' s0
     have z0 : w'.cell? ⟨gm, 0, none⟩ = some (.int .i64 a0_0) := (blk_cell (blk_below BKgm.out s0) 0).trans rfl
     have z1 : w'.cell? ⟨gm, 1, none⟩ = some (.int .i64 a0_1) := (blk_cell (blk_below BKgm.out s0) 1).trans rfl
     have z2 : w'.cell? ⟨gm, 2, none⟩ = some (.int .i64 a0_2) := (blk_cell (blk_below BKgm.out s0) 2).trans rfl
     have z3 : w'.cell? ⟨gm, 3, none⟩ = some (.slice A0_3 l0_3.length c0_3) := (blk_cell (blk_below BKgm.out s0) 3).trans rfl
     go_simp
     with_reducible rfl
    rotate_left
    ·refine pZ ?_
     rfl
    refine take_ (i := 18) (N := some 26) (v := ?_) (a' := ?_) (bA 22 393215) rfl rfl (by kernel_rfl) (fun _ _ _ h => h) (Or.inl ⟨by rfl, ?_⟩) HS.out ?_ ?_
    rotate_left
    ·intro w' s0
     have z : w'.cell? ⟨gl, 0, none⟩ = some (.slice Aq1 l1.length cq1) := (blk_cell (blk_below BKgl.out s0) 0).trans rfl
     go_simp
     with_reducible rfl
    rotate_left
    ·refine pZ ?_
     rfl
    refine pure_ (i := 19) (N := some 27) (v := ?_) (a' := ?_) (bA 22 917503) rfl rfl (by kernel_rfl) (fun _ _ _ h => h) (Or.inl ⟨by rfl, ?_⟩) ?_ ?_
    rotate_left
    ·intro w'
     go_simp
     with_reducible rfl
    rotate_left
    ·refine pZ ?_
     rfl
    obtain ⟨mm, hmm, em⟩ := Option.map_eq_some_iff.mp A3.out
    have HMM := aM hmm
    clear hmm
    have em1 := of_decide_eq_true em
    have em2 : ¬ ((l1.length : Int) ≤ mm) := by omega
    clear em
    refine one_ (i := 17) (N := some 25) (bA 22 1048575) rfl rfl (by kernel_rfl) (by decide) (fun K hK => ?_)
    refine goes_ Try.func57 (by kernel_rfl) rfl #[.slice A0_3 l0_3.length c0_3] (by rfl) rfl rfl (by (try simp only [List.map_toArray, List.map_cons, List.map_nil]); first | done | rfl) ?_
    refine (slices_Max_int_int.calls 1030 _ _ l0_3 mm _ (Kd.C_below HR0.out (below_step (qW HB.out) HS.out)) HC0.out HMM.out).mono ?_
    rintro e w307 ⟨rfl, hb⟩
    refine ⟨_, rfl, ?_⟩
    have HS3 := aM (below_step HS.out hb)
    clear hb
    clear HS
    have HS := HS3
    clear HS3
    refine hK.out _ _ HS.out (fun hHeld => ?_)
    clear hK K hHeld
    refine norm_ (a' := ?_) ?_ ?_
    rotate_left
    ·show Act.put _ (some 25) _ = _
     refine pZ ?_
     rfl
    refine pure_ (i := 20) (N := some 28) (v := ?_) (a' := ?_) (bA 22 2097151) rfl rfl (by kernel_rfl) (fun _ _ _ h => h) (Or.inl ⟨by rfl, ?_⟩) ?_ ?_
    rotate_left
    ·intro w'
     go_simp
     with_reducible rfl
    rotate_left
    ·refine pZ ?_
     rfl
    refine pure_ (i := 21) (N := some 29) (v := ?_) (a' := ?_) (bA 22 4194303) rfl rfl (by kernel_rfl) (fun _ _ _ h => h) (Or.inl ⟨by rfl, ?_⟩) ?_ ?_
    rotate_left
    ·intro w'
     go_simp
     with_reducible rfl
    rotate_left
    ·refine pZ ?_
     rfl
    have hb := HS.out
    clear HS
    have n308 := bB BKgm hb
    have n309 := bB BKgl hb
    have n310 := bB BKgr hb
    have n311 := bS HB hb
    clear HB BKgm BKgl BKgr
    have BKgm := n308
    have BKgl := n309
    have BKgr := n310
    have HB := n311
    clear n308 n309 n310 n311 hb
    have hz312 : w307.cell? ⟨gm, 0, none⟩ = some (.int .i64 a0_0) := (blk_cell BKgm.out 0).trans rfl
    have hz313 : w307.cell? ⟨gm, 1, none⟩ = some (.int .i64 a0_1) := (blk_cell BKgm.out 1).trans rfl
    have hz314 : w307.cell? ⟨gm, 2, none⟩ = some (.int .i64 a0_2) := (blk_cell BKgm.out 2).trans rfl
    have hz315 : w307.cell? ⟨gm, 3, none⟩ = some (.slice A0_3 l0_3.length c0_3) := (blk_cell BKgm.out 3).trans rfl
    have hf316 := blk_frozen BKgm.out 0
    have hf317 := blk_frozen BKgm.out 1
    have hf318 := blk_frozen BKgm.out 2
    have hf319 := blk_frozen BKgm.out 3
    have hz320 : w307.cell? ⟨gl, 0, none⟩ = some (.slice Aq1 l1.length cq1) := (blk_cell BKgl.out 0).trans rfl
    have hf321 := blk_frozen BKgl.out 0
    have hz322 : w307.cell? ⟨gr, 0, none⟩ = some (.int .i64 0) := (blk_cell BKgr.out 0).trans rfl
    have hz323 : w307.cell? ⟨gr, 1, none⟩ = some (.int .i64 0) := (blk_cell BKgr.out 1).trans rfl
    have hz324 : w307.cell? ⟨gr, 2, none⟩ = some (.int .i64 0) := (blk_cell BKgr.out 2).trans rfl
    have hz325 : w307.cell? ⟨gr, 3, none⟩ = some (.slice none 0 0) := (blk_cell BKgr.out 3).trans rfl
    have hf326 := blk_frozen BKgr.out 0
    have hf327 := blk_frozen BKgr.out 1
    have hf328 := blk_frozen BKgr.out 2
    have hf329 := blk_frozen BKgr.out 3
    refine done_ (by kernel_rfl) ?_
    go_wp2_with (first | (go_at_call 54; refine (impl_imageBy.calls 58 #[.pointer (some ⟨gl, 0, none⟩), .pointer (some ⟨gm, 0, none⟩)] (enters_of Try.func58 (by kernel_rfl) rfl) _ a0_0 a0_1 a2 _ ?b0 ?b1 ?b2 ?b3 ?bf (colorImagePix _ gl gm a0_0 a0_1 a0_2 _ _ l0_3 _ _ l1 (qB BKgl.out) (qB BKgm.out) (Kd.C_below HR0.out (qW HB.out)) HC0.out (Kd.C_below HR1.out (qW HB.out)) HC1.out V.out k_c.out MB.out)).mono ?_; (case b0 => omega); (case b1 => omega); (case b2 => omega); (case b3 => omega); (case bf => exact HF.out); rintro e w330 ⟨v3, rfl, ho, hb⟩; rw [HYL.out] at ho; have HLB := aM (below_size (qW HB.out)); obtain ⟨Ao, co, eo⟩ := Kd.R_slice ho; subst eo; have HO := aM ho; clear ho; have n332 := bB BKgm hb; have n333 := bB BKgl hb; have n334 := bB BKgr hb; have n335 := bS HB hb; clear HB BKgm BKgl BKgr; have BKgm := n332; have BKgl := n333; have BKgr := n334; have HB := n335; clear n332 n333 n334 n335 hb; have hz336 : w330.cell? ⟨gm, 0, none⟩ = some (.int .i64 a0_0) := (blk_cell BKgm.out 0).trans rfl; have hz337 : w330.cell? ⟨gm, 1, none⟩ = some (.int .i64 a0_1) := (blk_cell BKgm.out 1).trans rfl; have hz338 : w330.cell? ⟨gm, 2, none⟩ = some (.int .i64 a0_2) := (blk_cell BKgm.out 2).trans rfl; have hz339 : w330.cell? ⟨gm, 3, none⟩ = some (.slice A0_3 l0_3.length c0_3) := (blk_cell BKgm.out 3).trans rfl; have hf340 := blk_frozen BKgm.out 0; have hf341 := blk_frozen BKgm.out 1; have hf342 := blk_frozen BKgm.out 2; have hf343 := blk_frozen BKgm.out 3; have hz344 : w330.cell? ⟨gl, 0, none⟩ = some (.slice Aq1 l1.length cq1) := (blk_cell BKgl.out 0).trans rfl; have hf345 := blk_frozen BKgl.out 0; have hz346 : w330.cell? ⟨gr, 0, none⟩ = some (.int .i64 0) := (blk_cell BKgr.out 0).trans rfl; have hz347 : w330.cell? ⟨gr, 1, none⟩ = some (.int .i64 0) := (blk_cell BKgr.out 1).trans rfl; have hz348 : w330.cell? ⟨gr, 2, none⟩ = some (.int .i64 0) := (blk_cell BKgr.out 2).trans rfl; have hz349 : w330.cell? ⟨gr, 3, none⟩ = some (.slice none 0 0) := (blk_cell BKgr.out 3).trans rfl; have hf350 := blk_frozen BKgr.out 0; have hf351 := blk_frozen BKgr.out 1; have hf352 := blk_frozen BKgr.out 2; have hf353 := blk_frozen BKgr.out 3))
    refine bodyPost_ret (results_ct rfl _ _ gr 29 #[.int .i64 a0_0, .int .i64 a0_1, .int .i64 a2, .slice Ao yl.length co] (0, 0) _ rfl (by exact bP BKgr.out) Try.underlying29 rfl (by kernel_rfl)) rfl ?_
    exact ⟨_, by first | rfl | (simp; done), by rw [← HY.out]; refine qR ?_; exact Kd.R_mono (Kd.R_far (p := ⟨gr, 3, none⟩) (Kd.R_far (p := ⟨gr, 2, none⟩) (Kd.R_far (p := ⟨gr, 1, none⟩) (Kd.R_far (p := ⟨gr, 0, none⟩) (Kd.R_types (Kd.R_lower HO.out HLB.out) BKgr.out (by decide)) (fun _ hk => hk.2) _) (fun _ hk => hk.2) _) (fun _ hk => hk.2) _) (fun _ hk => hk.2) _) (fun _ hk => trivial), by exact qW HB.out⟩
def spec_copyInts.f (l0 : List Int) : Option (List Int) := (some (([] : List Int) : List Int)).bind fun y111 => (if y111.length + l0.length < 17592186044416 then (some (y111 ++ l0)) else (none))
set_option maxHeartbeats 8000000 in
set_option maxRecDepth 100000 in
theorem spec_copyInts.calls (A0 : Option Addr) (c0 : Nat) (l0 : List Int) (r : List Int) (w : World) (hr0 : Kd.C (Kd.int .i64) w A0 l0.length l0) (hc0 : l0.length ≤ c0) (h : spec_copyInts.f l0 = some r) :
  Calls Try.prog 76 #[.slice A0 l0.length c0] w fun e w' => ∃ v0_ : Value, e = .returned (v0_) ∧ Kd.R (Kd.int .i64) 3 w' w.heap.size (fun _ => True) v0_ r ∧ Below w.heap.size w w' := by
 have HR0 := aM hr0
 have HC0 := aM hc0
 clear hr0 hc0
 have HB := aM (Below.refl w.heap.size w)
 unfold spec_copyInts.f at h
 have H := h
 clear h
 obtain ⟨y111, hy111⟩ : ∃ y_ : List Int, y_ = (([] : List Int)) := ⟨_, rfl⟩
 replace H : (if y111.length + l0.length < 17592186044416 then (some (y111 ++ l0)) else (none)) = some r := rY hy111 H
 have Ny111 := aM hy111
 clear hy111
 replace H := iS H
 obtain ⟨c2, H⟩ := H
 have LMc2 := aM c2
 clear c2
 obtain ⟨y114, hy114⟩ : ∃ y_ : List Int, y_ = (y111 ++ l0) := ⟨_, rfl⟩
 replace H : (some y114) = some r := rY hy114 H
 have Ny114 := aM hy114
 clear hy114
 obtain rfl := Option.some.inj H
 go_enter Try.func76, Try.ntmps76
 go_wp2_with (first | ((with_reducible refine gate_dst (N := 3) rfl ?_); refine iL ([] : List Int) [] ?_; intro v112 w3 ho4 hb hg_ hnew_; clear hg_ hnew_; (first | rw [← Ny111.out] at ho4 | (simp only [Int.reduceToNat] at ho4; rw [← Ny111.out] at ho4)); have HO113 := oR ho4 HB; replace HB := bS HB hb; clear hb ho4) | ((with_reducible refine gate_builtin (b := .append) (xs := #[.tmp 3, .tmp 4]) rfl ?_); at_builtin; refine Kd.R_append_rows (Kd.int .i64) (w0 := w) w.heap.size rfl (.tmp 3) (.tmp 4) 22 3 (.int .i64 0) 8 rfl Try.underlying22 info3 rfl (by decide) (by omega) v112 y111 l0 _ _ _ (fun _ => True) (fun _ => False) rfl rfl ?aO ?aR (fun _ _ h => h) (fun _ h => h.elim) ?aF ?aB ?aS ?aL ?_; (case aR => exact qC (Kd.C_below HR0.out HB.out)); (case aB => exact (qW HB.out)); (case aF => exact (fun _ _ => trivial)); (case aO => exact (qR HO113.out)); (case aS => exact (below_size (qW HB.out))); (case aL => have := LMc2.out; omega); intro v115 w5 ho hb hg hat; rw [← Ny114.out] at ho; replace HB := aM (hb); have HO116 := aM (ho); clear HO113; clear ho hb hg hat))
 go_ret
 exact ⟨_, qX, by refine qR ?_; exact HO116.out, by exact qW HB.out⟩
def spec_equalInts.l0 : Nat → List Int → List Int → Int → Option (Bool)
 | 0, _, _, _ => none
 | k + 1, x0, x1, x5 => if x5 < (x0.length : Int) then (if 0 ≤ x5 then (if x5 < (x1.length : Int) then (if (rd x0 x5) = (rd x1 x5) then (spec_equalInts.l0 k x0 x1 (wrap64 (x5 + 1))) else (some false)) else (none)) else (none)) else (some true)
def spec_equalInts.f (k : Nat) (l0 : List Int) (l1 : List Int) : Option (Bool) := if (l0.length : Int) = (l1.length : Int) then (spec_equalInts.l0 k l0 l1 0) else (some false)
theorem spec_equalInts.mono_l : ∀ k, (∀ y0 y1 y2, LeO (spec_equalInts.l0 k y0 y1 y2) (spec_equalInts.l0 (k + 1) y0 y1 y2))
 | 0 => fun _ _ _ r h => by simp [spec_equalInts.l0] at h
 | k + 1 => by
  have ih0 := spec_equalInts.mono_l k
  ·intro y0 y1 y2
   unfold spec_equalInts.l0
   repeat' first | (with_reducible first | exact ih0 _ _ _ | exact lR | exact lN | refine lI ?_ ?_ | refine lB ?_ fun _ => ?_) | exact ih0 _ _ _ | exact lN | refine lI ?_ ?_ | refine lB ?_ fun _ => ?_
theorem spec_equalInts.mono : ∀ a0 a1 k, LeO (spec_equalInts.f k a0 a1) (spec_equalInts.f (k + 1) a0 a1) := by
 intro a0 a1 k
 have ih0 := spec_equalInts.mono_l k
 unfold spec_equalInts.f
 repeat' first | (with_reducible first | exact ih0 _ _ _ | exact lR | exact lN | refine lI ?_ ?_ | refine lB ?_ fun _ => ?_) | exact ih0 _ _ _ | exact lN | refine lI ?_ ?_ | refine lB ?_ fun _ => ?_
set_option maxHeartbeats 8000000 in
set_option maxRecDepth 100000 in
theorem spec_equalInts.calls (k : Nat) (A0 : Option Addr) (c0 : Nat) (l0 : List Int) (A1 : Option Addr) (c1 : Nat) (l1 : List Int) (r : Bool) (w : World) (hr0 : Kd.C (Kd.int .i64) w A0 l0.length l0) (hc0 : l0.length ≤ c0) (hr1 : Kd.C (Kd.int .i64) w A1 l1.length l1) (hc1 : l1.length ≤ c1) (h : spec_equalInts.f k l0 l1 = some r) :
  Calls Try.prog 90 #[.slice A0 l0.length c0, .slice A1 l1.length c1] w fun e w' => e = .returned (.bool r) ∧ Drawn0 w w' := by
 have HR0 := aM hr0
 have HC0 := aM hc0
 clear hr0 hc0
 have HR1 := aM hr1
 have HC1 := aM hc1
 clear hr1 hc1
 unfold spec_equalInts.f at h
 have H := h
 clear h
 by_cases c3 : (l0.length : Int) = (l1.length : Int)
 rotate_left
 ·rw [if_neg c3] at H
  have c3b0 : ((l0.length : Int) == (l1.length : Int)) = false := beq_eq_false_iff_ne.mpr c3
  have c3b1 : ((l0.length : Int) != (l1.length : Int)) = true := bne_iff_ne.mpr c3
  have c3b2 : (l0.length == l1.length) = false := by first | simpa using c3 | (simp at c3 ⊢; omega)
  obtain rfl := Option.some.inj H
  go_enter Try.func90, Try.ntmps90
  go_wp2
  repeat (go_quiet (fail); try go_wp2)
  go_ret
  exact ⟨qE, qD⟩
 rw [if_pos c3] at H
 have c3b0 : ((l0.length : Int) == (l1.length : Int)) = true := beq_iff_eq.mpr c3
 have c3b1 : ((l0.length : Int) != (l1.length : Int)) = false := bne_eq_false_iff_eq.mpr c3
 have c3b2 : (l0.length == l1.length) = true := by first | simpa using c3 | (simp at c3 ⊢; omega)
 clear c3
 have H' := aM H
 clear H
 go_enter Try.func90, Try.ntmps90
 go_wp2
 repeat (go_quiet (fail); try go_wp2)
 go_loopg [5] k (fun kq v5 w' => ∃ (x5_1 : Int), v5 = .int .i64 x5_1 ∧ Aside0 (spec_equalInts.l0 kq l0 l1 x5_1 = some r) ∧ Aside0 (kq ≤ k) ∧ Drawn0 w w')
 case atStart => exact ⟨(0), qE, H', ⟨Nat.le_refl _⟩, qD⟩
 case round =>
  clear H'
  try clear c1
  try clear c3
  try clear c3b0
  try clear c3b1
  try clear c3b2
  obtain ⟨x5_1, rfl, HA, HK1, ⟨m1, rfl⟩⟩ := hrel
  cases gk with
  | zero => exact absurd HA.out (by simp [spec_equalInts.l0])
  | succ k1 =>
   have H := HA.out
   clear HA
   simp only [spec_equalInts.l0] at H
   by_cases c4 : x5_1 < (l0.length : Int)
   rotate_left
   ·rw [if_neg c4] at H
    have c4b0 : decide (x5_1 < (l0.length : Int)) = false := decide_eq_false c4
    clear c4
    obtain rfl := Option.some.inj H
    go_wp2
    repeat (go_quiet (fail); try go_wp2)
    go_ret
    exact ⟨qE, qD⟩
   rw [if_pos c4] at H
   have c4b0 : decide (x5_1 < (l0.length : Int)) = true := decide_eq_true c4
   clear c4
   replace H := iD H
   obtain ⟨c5b0, H⟩ := H
   replace H := iD H
   obtain ⟨c6b0, H⟩ := H
   by_cases c7 : (rd l0 x5_1) = (rd l1 x5_1)
   rotate_left
   ·rw [if_neg c7] at H
    have c7b0 : ((rd l0 x5_1) == (rd l1 x5_1)) = false := beq_eq_false_iff_ne.mpr c7
    have c7b1 : ((rd l0 x5_1) != (rd l1 x5_1)) = true := bne_iff_ne.mpr c7
    obtain rfl := Option.some.inj H
    obtain ⟨ad117, e117, hx117_0⟩ := Kd.at_int HR0.out x5_1 oD oD
    cases e117
    have p117 := eq_true (oD : 0 ≤ (x5_1 : Int))
    have q117 := eq_true (oD : x5_1 < (l0.length : Int))
    obtain ⟨ad118, e118, hx118_0⟩ := Kd.at_int HR1.out x5_1 oD oD
    cases e118
    have p118 := eq_true (oD : 0 ≤ (x5_1 : Int))
    have q118 := eq_true (oD : x5_1 < (l1.length : Int))
    go_wp2
    repeat (go_quiet (fail); try go_wp2)
    go_ret
    exact ⟨qE, qD⟩
   rw [if_pos c7] at H
   have c7b0 : ((rd l0 x5_1) == (rd l1 x5_1)) = true := beq_iff_eq.mpr c7
   have c7b1 : ((rd l0 x5_1) != (rd l1 x5_1)) = false := bne_eq_false_iff_eq.mpr c7
   clear c7
   have H' := aM H
   clear H
   obtain ⟨ad117, e117, hx117_0⟩ := Kd.at_int HR0.out x5_1 oD oD
   cases e117
   have p117 := eq_true (oD : 0 ≤ (x5_1 : Int))
   have q117 := eq_true (oD : x5_1 < (l0.length : Int))
   obtain ⟨ad118, e118, hx118_0⟩ := Kd.at_int HR1.out x5_1 oD oD
   cases e118
   have p118 := eq_true (oD : 0 ≤ (x5_1 : Int))
   have q118 := eq_true (oD : x5_1 < (l1.length : Int))
   go_wp2
   repeat (go_quiet (fail); try go_wp2)
   go_roundg k1
   case measure => have := HK1.out; omega
   case rel => exact ⟨(wrap64 (x5_1 + 1)), qE, H', ⟨by have := HK1.out; omega⟩, qD⟩
def spec_colorAt.l0 : Nat → List (List Int) → List Int → Int → Option (Int)
 | 0, _, _, _ => none
 | k + 1, x0, x1, x5 => if x5 < (x0.length : Int) then (if 0 ≤ x5 then ((spec_equalInts.f k (rd_L1 x0 x5) x1).bind fun t120 => (if t120 = true then (some x5) else (spec_colorAt.l0 k x0 x1 (wrap64 (x5 + 1))))) else (none)) else (some (-1))
def spec_colorAt.f (k : Nat) (l0 : List (List Int)) (l1 : List Int) : Option (Int) := spec_colorAt.l0 k l0 l1 0
theorem spec_colorAt.mono_l : ∀ k, (∀ y0 y1 y2, LeO (spec_colorAt.l0 k y0 y1 y2) (spec_colorAt.l0 (k + 1) y0 y1 y2))
 | 0 => fun _ _ _ r h => by simp [spec_colorAt.l0] at h
 | k + 1 => by
  have ih0 := spec_colorAt.mono_l k
  ·intro y0 y1 y2
   unfold spec_colorAt.l0
   repeat' first | (with_reducible first | exact ih0 _ _ _ | exact spec_equalInts.mono _ _ _ | exact lR | exact lN | refine lI ?_ ?_ | refine lB ?_ fun _ => ?_) | exact ih0 _ _ _ | exact spec_equalInts.mono _ _ _ | exact lN | refine lI ?_ ?_ | refine lB ?_ fun _ => ?_
theorem spec_colorAt.mono : ∀ a0 a1 k, LeO (spec_colorAt.f k a0 a1) (spec_colorAt.f (k + 1) a0 a1) := by
 intro a0 a1 k
 have ih0 := spec_colorAt.mono_l k
 unfold spec_colorAt.f
 repeat' first | (with_reducible first | exact ih0 _ _ _ | exact spec_equalInts.mono _ _ _ | exact lR | exact lN | refine lI ?_ ?_ | refine lB ?_ fun _ => ?_) | exact ih0 _ _ _ | exact spec_equalInts.mono _ _ _ | exact lN | refine lI ?_ ?_ | refine lB ?_ fun _ => ?_
set_option maxHeartbeats 8000000 in
set_option maxRecDepth 100000 in
theorem spec_colorAt.calls (k : Nat) (A0 : Option Addr) (c0 : Nat) (l0 : List (List Int)) (A1 : Option Addr) (c1 : Nat) (l1 : List Int) (r : Int) (w : World) (hr0 : Kd.C (Kd.slice 3 (Kd.int .i64)) w A0 l0.length l0) (hc0 : l0.length ≤ c0) (hr1 : Kd.C (Kd.int .i64) w A1 l1.length l1) (hc1 : l1.length ≤ c1) (h : spec_colorAt.f k l0 l1 = some r) :
  Calls Try.prog 77 #[.slice A0 l0.length c0, .slice A1 l1.length c1] w fun e w' => e = .returned (.int .i64 r) ∧ Drawn0 w w' := by
 have HR0 := aM hr0
 have HC0 := aM hc0
 clear hr0 hc0
 have HR1 := aM hr1
 have HC1 := aM hc1
 clear hr1 hc1
 unfold spec_colorAt.f at h
 have H := h
 clear h
 have H' := aM H
 clear H
 go_enter Try.func77, Try.ntmps77
 go_wp2
 go_loopg [5] k (fun kq v5 w' => ∃ (x5_1 : Int), v5 = .int .i64 x5_1 ∧ Aside0 (spec_colorAt.l0 kq l0 l1 x5_1 = some r) ∧ Aside0 (kq ≤ k) ∧ Drawn0 w w')
 case atStart => exact ⟨(0), qE, H', ⟨Nat.le_refl _⟩, qD⟩
 case round =>
  clear H'
  try clear c1
  obtain ⟨x5_1, rfl, HA, HK1, ⟨m1, rfl⟩⟩ := hrel
  cases gk with
  | zero => exact absurd HA.out (by simp [spec_colorAt.l0])
  | succ k1 =>
   have H := HA.out
   clear HA
   simp only [spec_colorAt.l0] at H
   by_cases c3 : x5_1 < (l0.length : Int)
   rotate_left
   ·rw [if_neg c3] at H
    have c3b0 : decide (x5_1 < (l0.length : Int)) = false := decide_eq_false c3
    clear c3
    obtain rfl := Option.some.inj H
    go_wp2
    go_ret
    exact ⟨qE, qD⟩
   rw [if_pos c3] at H
   have c3b0 : decide (x5_1 < (l0.length : Int)) = true := decide_eq_true c3
   clear c3
   replace H := iD H
   obtain ⟨c4b0, H⟩ := H
   replace H := Option.bind_eq_some_iff.mp H
   obtain ⟨t120, A50, H⟩ := H
   replace H : (if t120 = true then (some x5_1) else (spec_colorAt.l0 k1 l0 l1 (wrap64 (x5_1 + 1)))) = some r := H
   have A5 := aM A50
   clear A50
   by_cases c6 : t120 = true
   ·subst c6
    have H1 : (some x5_1) = some r := by rw [if_pos rfl] at H; exact H
    clear H
    have H := H1
    clear H1
    obtain rfl := Option.some.inj H
    have p119 : 0 ≤ (x5_1 : Int) := oD
    have q119 : x5_1 < (l0.length : Int) := oD
    obtain ⟨ad119, A119_0, c119_0, e119, hx119_0, hl119_0, hi119_0⟩ := at_L1 HR0.out x5_1 p119 q119
    cases e119
    have HR119_0 := aM hi119_0
    have HC119_0 := aM hl119_0
    clear hi119_0 hl119_0
    replace p119 := eq_true p119
    replace q119 := eq_true q119
    go_wp2_with (first | ((with_reducible refine gate_callee (f := 90) rfl ?_); refine gL (some 17) Try.func90 #[.slice A119_0 (rd_L1 l0 x5_1).length c119_0, .slice A1 l1.length c1] ?_; (with_reducible refine (spec_equalInts.calls k1 _ _ (rd_L1 l0 x5_1) _ _ l1 true _ ?side1 ?side2 ?side3 ?side4 A5.out).mono ?_); (case side1 => exact qC HR119_0.out); (case side2 => exact HC119_0.out); (case side3 => exact qC HR1.out); (case side4 => exact HC1.out); rintro e w' ⟨rfl, ⟨nd, rfl⟩⟩; refine ⟨_, rfl, ?_⟩))
    go_ret
    exact ⟨qE, qD⟩
   replace c6 := Bool.eq_false_iff.mpr c6
   subst c6
   have H1 : (spec_colorAt.l0 k1 l0 l1 (wrap64 (x5_1 + 1))) = some r := by rw [if_neg (show ¬ (false = true) by decide)] at H; exact H
   clear H
   have H := H1
   clear H1
   have H' := aM H
   clear H
   have p119 : 0 ≤ (x5_1 : Int) := oD
   have q119 : x5_1 < (l0.length : Int) := oD
   obtain ⟨ad119, A119_0, c119_0, e119, hx119_0, hl119_0, hi119_0⟩ := at_L1 HR0.out x5_1 p119 q119
   cases e119
   have HR119_0 := aM hi119_0
   have HC119_0 := aM hl119_0
   clear hi119_0 hl119_0
   replace p119 := eq_true p119
   replace q119 := eq_true q119
   go_wp2_with (first | ((with_reducible refine gate_callee (f := 90) rfl ?_); refine gL (some 17) Try.func90 #[.slice A119_0 (rd_L1 l0 x5_1).length c119_0, .slice A1 l1.length c1] ?_; (with_reducible refine (spec_equalInts.calls k1 _ _ (rd_L1 l0 x5_1) _ _ l1 false _ ?side1 ?side2 ?side3 ?side4 A5.out).mono ?_); (case side1 => exact qC HR119_0.out); (case side2 => exact HC119_0.out); (case side3 => exact qC HR1.out); (case side4 => exact HC1.out); rintro e w' ⟨rfl, ⟨nd, rfl⟩⟩; refine ⟨_, rfl, ?_⟩))
   go_roundg k1
   case measure => have := HK1.out; omega
   case rel => exact ⟨(wrap64 (x5_1 + 1)), qE, H', ⟨by have := HK1.out; omega⟩, qD⟩
end Go.Proofs.Ytohbpilokmppbaa.P
