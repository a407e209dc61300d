/- Contracts and row, written by a program of this place out of the translation: the call answers true and its argument reads as before, for every input; no condition. -/
import Derived.Test.YteeeedmmcdlhjaaK0
import Derived.Test.YteeeedmmcdlhjaaK1
import Derived.Test.YteeeedmmcdlhjaaK2
namespace Go.Proofs.Yteeeedmmcdlhjaa.P
open Go.RowKit Go.Proofs.YteeeedmmcdlhjaaW.PrintWords Go.Proofs.YteeeedmmcdlhjaaW.PrintLast Go.Proofs.YteeeedmmcdlhjaaW.PrintMore
attribute [local go_sem] max2_int min2_int max_two min_two max_three min_three max_four min_four   -- for this text's walks alone
set_option linter.unusedVariables false
set_option linter.unusedSimpArgs false
theorem isLevels_true {a : Int} (h : impl_isLevels.f a = some true) : 2 ≤ a ∧ a ≤ 16 := by
 unfold impl_isLevels.f at h
 by_cases h1 : 2 ≤ a
 rotate_left
 ·simp [h1] at h
 by_cases h2 : a ≤ 16
 ·exact ⟨h1, h2⟩
 simp [h1, h2] at h
def impl_OrderImage.f (a0_0 : Int) (a0_1 : Int) (a0_2 : Int) (l0_3 : List Int) (a1 : Int) : Option (Int × Int × Int × List Int × Bool) := (impl_isImage.f a0_0 a0_1 a0_2 l0_3).bind fun t0 => (if t0 = true then (if a0_2 = 1 then ((impl_isLevels.f a1).bind fun t2 => (if t2 = true then (some (a0_0, a0_1, 1, imgOf (fun x y => ordPix l0_3 a0_0 a0_2 a1 x y) a0_0.toNat a0_1.toNat, true)) else (some (0, 0, 0, ([] : List Int), false)))) else (some (0, 0, 0, ([] : List Int), false))) else (some (0, 0, 0, ([] : List Int), false)))
set_option maxHeartbeats 8000000 in
set_option maxRecDepth 100000 in
theorem impl_OrderImage.calls (a0_0 : Int) (a0_1 : Int) (a0_2 : Int) (A0_3 : Option Addr) (c0_3 : Nat) (l0_3 : List Int) (a1 : Int) (r1 : Int) (r2 : Int) (r3 : Int) (r4 : List Int) (r5 : Bool) (w : World) (hr0_3 : Kd.C (Kd.int .i64) w A0_3 l0_3.length l0_3) (hc0_3 : l0_3.length ≤ c0_3) (h : impl_OrderImage.f a0_0 a0_1 a0_2 l0_3 a1 = some (r1, r2, r3, r4, r5)) :
  Calls Try.prog 21 #[.agg #[.int .i64 a0_0, .int .i64 a0_1, .int .i64 a0_2, .slice A0_3 l0_3.length c0_3], .int .i64 a1] w fun e w' => ∃ v3_ : Value, e = .returned (.tuple #[.agg #[.int .i64 r1, .int .i64 r2, .int .i64 r3, v3_], .bool r5]) ∧ Kd.R (Kd.int .i64) 3 w' w.heap.size (fun _ => True) v3_ r4 ∧ Below w.heap.size w w' := by
 have hu26 := Try.underlying27
 have HR0 := aM hr0_3
 have HC0 := aM hc0_3
 clear hr0_3 hc0_3
 have HB := aM (Below.refl w.heap.size w)
 unfold impl_OrderImage.f at h
 have H := h
 clear h
 replace H := Option.bind_eq_some_iff.mp H
 obtain ⟨t0, q0, H⟩ := H
 have A0 := aM q0
 clear q0
 cases t0 with
 | false =>
  rw [if_neg (show ¬ (false = true) by decide)] at H
  simp only [Option.some.injEq, Prod.mk.injEq] at H
  obtain ⟨rfl, rfl, rfl, rfl, rfl⟩ := H
  go_enter Try.func21, Try.ntmps21
  go_wp2_with (first | ((with_reducible refine gate_dst (N := 2) rfl ?_); (try (refine gate_guard (by rfl) ?_; dsimp only)); refine bxE (N := 2) (cs := #[.int .i64 a0_0, .int .i64 a0_1, .int .i64 a0_2, .slice A0_3 l0_3.length c0_3]) (t := 27) ?_; intro gm hg w1 hbox hb; have n2 := bS HB hb; have n3 := aM hbox; have n4 := aM ((by rw [hg]; exact (below_size (qW HB.out))) : w.heap.size ≤ gm); clear HB; have HB := n2; have BKgm := n3; have GEgm := n4; clear n2 n3 n4; clear hb hbox hg; have hz5 : w1.cell? ⟨gm, 0, none⟩ = some (.int .i64 a0_0) := (blk_cell BKgm.out 0).trans rfl; have hz6 : w1.cell? ⟨gm, 1, none⟩ = some (.int .i64 a0_1) := (blk_cell BKgm.out 1).trans rfl; have hz7 : w1.cell? ⟨gm, 2, none⟩ = some (.int .i64 a0_2) := (blk_cell BKgm.out 2).trans rfl; have hz8 : w1.cell? ⟨gm, 3, none⟩ = some (.slice A0_3 l0_3.length c0_3) := (blk_cell BKgm.out 3).trans rfl; have hf9 := blk_frozen BKgm.out 0; have hf10 := blk_frozen BKgm.out 1; have hf11 := blk_frozen BKgm.out 2; have hf12 := blk_frozen BKgm.out 3) | ((with_reducible refine gate_dst (N := 3) rfl ?_); (try (refine gate_guard (by rfl) ?_; dsimp only)); refine bxE (N := 3) (cs := #[.int .i64 a1]) (t := 3) ?_; intro gl hg w13 hbox hb; have n14 := bB BKgm hb; have n15 := bS HB hb; have n16 := aM hbox; have n17 := aM ((by rw [hg]; exact (below_size (qW HB.out))) : w.heap.size ≤ gl); have n18 := aM ((by rw [hg]; exact Nat.ne_of_lt (blk_lt (g := gm) (o := .cells #[.int .i64 a0_0, .int .i64 a0_1, .int .i64 a0_2, .slice A0_3 l0_3.length c0_3] 27 (0, 0)) (qB BKgm.out))) : gm ≠ gl); have n19 := aM ((by rw [hg]; exact Nat.ne_of_gt (blk_lt (g := gm) (o := .cells #[.int .i64 a0_0, .int .i64 a0_1, .int .i64 a0_2, .slice A0_3 l0_3.length c0_3] 27 (0, 0)) (qB BKgm.out))) : gl ≠ gm); clear HB BKgm; have BKgm := n14; have HB := n15; have BKgl := n16; have GEgl := n17; have NBgm_gl := n18; have NBgl_gm := n19; clear n14 n15 n16 n17 n18 n19; clear hb hbox hg; have hz20 : w13.cell? ⟨gm, 0, none⟩ = some (.int .i64 a0_0) := (blk_cell BKgm.out 0).trans rfl; have hz21 : w13.cell? ⟨gm, 1, none⟩ = some (.int .i64 a0_1) := (blk_cell BKgm.out 1).trans rfl; have hz22 : w13.cell? ⟨gm, 2, none⟩ = some (.int .i64 a0_2) := (blk_cell BKgm.out 2).trans rfl; have hz23 : w13.cell? ⟨gm, 3, none⟩ = some (.slice A0_3 l0_3.length c0_3) := (blk_cell BKgm.out 3).trans rfl; have hf24 := blk_frozen BKgm.out 0; have hf25 := blk_frozen BKgm.out 1; have hf26 := blk_frozen BKgm.out 2; have hf27 := blk_frozen BKgm.out 3; have hz28 : w13.cell? ⟨gl, 0, none⟩ = some (.int .i64 a1) := (blk_cell BKgl.out 0).trans rfl; have hf29 := blk_frozen BKgl.out 0) | ((with_reducible refine gate_dst (N := 4) rfl ?_); (try (refine gate_guard (by rfl) ?_; dsimp only)); refine bxE (N := 4) (cs := #[.int .i64 0, .int .i64 0, .int .i64 0, .slice none 0 0]) (t := 27) ?_; intro gr hg w30 hbox hb; have n31 := bB BKgm hb; have n32 := bB BKgl hb; have n33 := bS HB hb; have n34 := aM hbox; have n35 := aM ((by rw [hg]; exact (below_size (qW HB.out))) : w.heap.size ≤ gr); have n36 := aM ((by rw [hg]; exact Nat.ne_of_lt (blk_lt (g := gm) (o := .cells #[.int .i64 a0_0, .int .i64 a0_1, .int .i64 a0_2, .slice A0_3 l0_3.length c0_3] 27 (0, 0)) (qB BKgm.out))) : gm ≠ gr); have n37 := aM ((by rw [hg]; exact Nat.ne_of_gt (blk_lt (g := gm) (o := .cells #[.int .i64 a0_0, .int .i64 a0_1, .int .i64 a0_2, .slice A0_3 l0_3.length c0_3] 27 (0, 0)) (qB BKgm.out))) : gr ≠ gm); have n38 := aM ((by rw [hg]; exact Nat.ne_of_lt (blk_lt (g := gl) (o := .cells #[.int .i64 a1] 3 (0, 0)) (qB BKgl.out))) : gl ≠ gr); have n39 := aM ((by rw [hg]; exact Nat.ne_of_gt (blk_lt (g := gl) (o := .cells #[.int .i64 a1] 3 (0, 0)) (qB BKgl.out))) : gr ≠ gl); clear HB BKgm BKgl; have BKgm := n31; have BKgl := n32; have HB := n33; have BKgr := n34; have GEgr := n35; have NBgm_gr := n36; have NBgr_gm := n37; have NBgl_gr := n38; have NBgr_gl := n39; clear n31 n32 n33 n34 n35 n36 n37 n38 n39; clear hb hbox hg; have hz40 : w30.cell? ⟨gm, 0, none⟩ = some (.int .i64 a0_0) := (blk_cell BKgm.out 0).trans rfl; have hz41 : w30.cell? ⟨gm, 1, none⟩ = some (.int .i64 a0_1) := (blk_cell BKgm.out 1).trans rfl; have hz42 : w30.cell? ⟨gm, 2, none⟩ = some (.int .i64 a0_2) := (blk_cell BKgm.out 2).trans rfl; have hz43 : w30.cell? ⟨gm, 3, none⟩ = some (.slice A0_3 l0_3.length c0_3) := (blk_cell BKgm.out 3).trans rfl; have hf44 := blk_frozen BKgm.out 0; have hf45 := blk_frozen BKgm.out 1; have hf46 := blk_frozen BKgm.out 2; have hf47 := blk_frozen BKgm.out 3; have hz48 : w30.cell? ⟨gl, 0, none⟩ = some (.int .i64 a1) := (blk_cell BKgl.out 0).trans rfl; have hf49 := blk_frozen BKgl.out 0; have hz50 : w30.cell? ⟨gr, 0, none⟩ = some (.int .i64 0) := (blk_cell BKgr.out 0).trans rfl; have hz51 : w30.cell? ⟨gr, 1, none⟩ = some (.int .i64 0) := (blk_cell BKgr.out 1).trans rfl; have hz52 : w30.cell? ⟨gr, 2, none⟩ = some (.int .i64 0) := (blk_cell BKgr.out 2).trans rfl; have hz53 : w30.cell? ⟨gr, 3, none⟩ = some (.slice none 0 0) := (blk_cell BKgr.out 3).trans rfl; have hf54 := blk_frozen BKgr.out 0; have hf55 := blk_frozen BKgr.out 1; have hf56 := blk_frozen BKgr.out 2; have hf57 := blk_frozen BKgr.out 3) | (go_at_call 47; (with_reducible refine (impl_isImage.calls a0_0 a0_1 a0_2 _ _ l0_3 false _ ?side1 ?side2 A0.out).mono ?_); (case side1 => exact (Kd.C_below HR0.out (qW HB.out))); (case side2 => exact HC0.out); rintro e w58 ⟨rfl, hb⟩; have n59 := bB BKgm hb; have n60 := bB BKgl hb; have n61 := bB BKgr hb; have n62 := bS HB hb; clear HB BKgm BKgl BKgr; have BKgm := n59; have BKgl := n60; have BKgr := n61; have HB := n62; clear n59 n60 n61 n62 hb; have hz63 : w58.cell? ⟨gm, 0, none⟩ = some (.int .i64 a0_0) := (blk_cell BKgm.out 0).trans rfl; have hz64 : w58.cell? ⟨gm, 1, none⟩ = some (.int .i64 a0_1) := (blk_cell BKgm.out 1).trans rfl; have hz65 : w58.cell? ⟨gm, 2, none⟩ = some (.int .i64 a0_2) := (blk_cell BKgm.out 2).trans rfl; have hz66 : w58.cell? ⟨gm, 3, none⟩ = some (.slice A0_3 l0_3.length c0_3) := (blk_cell BKgm.out 3).trans rfl; have hf67 := blk_frozen BKgm.out 0; have hf68 := blk_frozen BKgm.out 1; have hf69 := blk_frozen BKgm.out 2; have hf70 := blk_frozen BKgm.out 3; have hz71 : w58.cell? ⟨gl, 0, none⟩ = some (.int .i64 a1) := (blk_cell BKgl.out 0).trans rfl; have hf72 := blk_frozen BKgl.out 0; have hz73 : w58.cell? ⟨gr, 0, none⟩ = some (.int .i64 0) := (blk_cell BKgr.out 0).trans rfl; have hz74 : w58.cell? ⟨gr, 1, none⟩ = some (.int .i64 0) := (blk_cell BKgr.out 1).trans rfl; have hz75 : w58.cell? ⟨gr, 2, none⟩ = some (.int .i64 0) := (blk_cell BKgr.out 2).trans rfl; have hz76 : w58.cell? ⟨gr, 3, none⟩ = some (.slice none 0 0) := (blk_cell BKgr.out 3).trans rfl; have hf77 := blk_frozen BKgr.out 0; have hf78 := blk_frozen BKgr.out 1; have hf79 := blk_frozen BKgr.out 2; have hf80 := blk_frozen BKgr.out 3))
  refine bodyPost_ret (results_ct rfl _ _ gr 27 #[.int .i64 0, .int .i64 0, .int .i64 0, .slice none 0 0] (0, 0) _ rfl (by exact bP BKgr.out) Try.underlying27 rfl (by kernel_rfl)) rfl ?_
  exact ⟨_, by first | rfl | (simp; done), Kd.R_nil _ _ _ _ _, by exact qW HB.out⟩
 | true =>
  rw [if_pos rfl] at H
  by_cases k1 : a0_2 = 1
  rotate_left
  ·rw [if_neg k1] at H
   simp only [Option.some.injEq, Prod.mk.injEq] at H
   obtain ⟨rfl, rfl, rfl, rfl, rfl⟩ := H
   have k_a : (a0_2 == 1) = false := beq_eq_false_iff_ne.mpr (by omega)
   have k_b : (a0_2 != 1) = true := bne_iff_ne.mpr (by omega)
   clear k1
   go_enter Try.func21, Try.ntmps21
   go_wp2_with (first | ((with_reducible refine gate_dst (N := 2) rfl ?_); (try (refine gate_guard (by rfl) ?_; dsimp only)); refine bxE (N := 2) (cs := #[.int .i64 a0_0, .int .i64 a0_1, .int .i64 a0_2, .slice A0_3 l0_3.length c0_3]) (t := 27) ?_; intro gm hg w419 hbox hb; have n420 := bS HB hb; have n421 := aM hbox; have n422 := aM ((by rw [hg]; exact (below_size (qW HB.out))) : w.heap.size ≤ gm); clear HB; have HB := n420; have BKgm := n421; have GEgm := n422; clear n420 n421 n422; clear hb hbox hg; have hz423 : w419.cell? ⟨gm, 0, none⟩ = some (.int .i64 a0_0) := (blk_cell BKgm.out 0).trans rfl; have hz424 : w419.cell? ⟨gm, 1, none⟩ = some (.int .i64 a0_1) := (blk_cell BKgm.out 1).trans rfl; have hz425 : w419.cell? ⟨gm, 2, none⟩ = some (.int .i64 a0_2) := (blk_cell BKgm.out 2).trans rfl; have hz426 : w419.cell? ⟨gm, 3, none⟩ = some (.slice A0_3 l0_3.length c0_3) := (blk_cell BKgm.out 3).trans rfl; have hf427 := blk_frozen BKgm.out 0; have hf428 := blk_frozen BKgm.out 1; have hf429 := blk_frozen BKgm.out 2; have hf430 := blk_frozen BKgm.out 3) | ((with_reducible refine gate_dst (N := 3) rfl ?_); (try (refine gate_guard (by rfl) ?_; dsimp only)); refine bxE (N := 3) (cs := #[.int .i64 a1]) (t := 3) ?_; intro gl hg w431 hbox hb; have n432 := bB BKgm hb; have n433 := bS HB hb; have n434 := aM hbox; have n435 := aM ((by rw [hg]; exact (below_size (qW HB.out))) : w.heap.size ≤ gl); have n436 := aM ((by rw [hg]; exact Nat.ne_of_lt (blk_lt (g := gm) (o := .cells #[.int .i64 a0_0, .int .i64 a0_1, .int .i64 a0_2, .slice A0_3 l0_3.length c0_3] 27 (0, 0)) (qB BKgm.out))) : gm ≠ gl); have n437 := aM ((by rw [hg]; exact Nat.ne_of_gt (blk_lt (g := gm) (o := .cells #[.int .i64 a0_0, .int .i64 a0_1, .int .i64 a0_2, .slice A0_3 l0_3.length c0_3] 27 (0, 0)) (qB BKgm.out))) : gl ≠ gm); clear HB BKgm; have BKgm := n432; have HB := n433; have BKgl := n434; have GEgl := n435; have NBgm_gl := n436; have NBgl_gm := n437; clear n432 n433 n434 n435 n436 n437; clear hb hbox hg; have hz438 : w431.cell? ⟨gm, 0, none⟩ = some (.int .i64 a0_0) := (blk_cell BKgm.out 0).trans rfl; have hz439 : w431.cell? ⟨gm, 1, none⟩ = some (.int .i64 a0_1) := (blk_cell BKgm.out 1).trans rfl; have hz440 : w431.cell? ⟨gm, 2, none⟩ = some (.int .i64 a0_2) := (blk_cell BKgm.out 2).trans rfl; have hz441 : w431.cell? ⟨gm, 3, none⟩ = some (.slice A0_3 l0_3.length c0_3) := (blk_cell BKgm.out 3).trans rfl; have hf442 := blk_frozen BKgm.out 0; have hf443 := blk_frozen BKgm.out 1; have hf444 := blk_frozen BKgm.out 2; have hf445 := blk_frozen BKgm.out 3; have hz446 : w431.cell? ⟨gl, 0, none⟩ = some (.int .i64 a1) := (blk_cell BKgl.out 0).trans rfl; have hf447 := blk_frozen BKgl.out 0) | ((with_reducible refine gate_dst (N := 4) rfl ?_); (try (refine gate_guard (by rfl) ?_; dsimp only)); refine bxE (N := 4) (cs := #[.int .i64 0, .int .i64 0, .int .i64 0, .slice none 0 0]) (t := 27) ?_; intro gr hg w448 hbox hb; have n449 := bB BKgm hb; have n450 := bB BKgl hb; have n451 := bS HB hb; have n452 := aM hbox; have n453 := aM ((by rw [hg]; exact (below_size (qW HB.out))) : w.heap.size ≤ gr); have n454 := aM ((by rw [hg]; exact Nat.ne_of_lt (blk_lt (g := gm) (o := .cells #[.int .i64 a0_0, .int .i64 a0_1, .int .i64 a0_2, .slice A0_3 l0_3.length c0_3] 27 (0, 0)) (qB BKgm.out))) : gm ≠ gr); have n455 := aM ((by rw [hg]; exact Nat.ne_of_gt (blk_lt (g := gm) (o := .cells #[.int .i64 a0_0, .int .i64 a0_1, .int .i64 a0_2, .slice A0_3 l0_3.length c0_3] 27 (0, 0)) (qB BKgm.out))) : gr ≠ gm); have n456 := aM ((by rw [hg]; exact Nat.ne_of_lt (blk_lt (g := gl) (o := .cells #[.int .i64 a1] 3 (0, 0)) (qB BKgl.out))) : gl ≠ gr); have n457 := aM ((by rw [hg]; exact Nat.ne_of_gt (blk_lt (g := gl) (o := .cells #[.int .i64 a1] 3 (0, 0)) (qB BKgl.out))) : gr ≠ gl); clear HB BKgm BKgl; have BKgm := n449; have BKgl := n450; have HB := n451; have BKgr := n452; have GEgr := n453; have NBgm_gr := n454; have NBgr_gm := n455; have NBgl_gr := n456; have NBgr_gl := n457; clear n449 n450 n451 n452 n453 n454 n455 n456 n457; clear hb hbox hg; have hz458 : w448.cell? ⟨gm, 0, none⟩ = some (.int .i64 a0_0) := (blk_cell BKgm.out 0).trans rfl; have hz459 : w448.cell? ⟨gm, 1, none⟩ = some (.int .i64 a0_1) := (blk_cell BKgm.out 1).trans rfl; have hz460 : w448.cell? ⟨gm, 2, none⟩ = some (.int .i64 a0_2) := (blk_cell BKgm.out 2).trans rfl; have hz461 : w448.cell? ⟨gm, 3, none⟩ = some (.slice A0_3 l0_3.length c0_3) := (blk_cell BKgm.out 3).trans rfl; have hf462 := blk_frozen BKgm.out 0; have hf463 := blk_frozen BKgm.out 1; have hf464 := blk_frozen BKgm.out 2; have hf465 := blk_frozen BKgm.out 3; have hz466 : w448.cell? ⟨gl, 0, none⟩ = some (.int .i64 a1) := (blk_cell BKgl.out 0).trans rfl; have hf467 := blk_frozen BKgl.out 0; have hz468 : w448.cell? ⟨gr, 0, none⟩ = some (.int .i64 0) := (blk_cell BKgr.out 0).trans rfl; have hz469 : w448.cell? ⟨gr, 1, none⟩ = some (.int .i64 0) := (blk_cell BKgr.out 1).trans rfl; have hz470 : w448.cell? ⟨gr, 2, none⟩ = some (.int .i64 0) := (blk_cell BKgr.out 2).trans rfl; have hz471 : w448.cell? ⟨gr, 3, none⟩ = some (.slice none 0 0) := (blk_cell BKgr.out 3).trans rfl; have hf472 := blk_frozen BKgr.out 0; have hf473 := blk_frozen BKgr.out 1; have hf474 := blk_frozen BKgr.out 2; have hf475 := blk_frozen BKgr.out 3) | (go_at_call 47; (with_reducible refine (impl_isImage.calls a0_0 a0_1 a0_2 _ _ l0_3 true _ ?side1 ?side2 A0.out).mono ?_); (case side1 => exact (Kd.C_below HR0.out (qW HB.out))); (case side2 => exact HC0.out); rintro e w476 ⟨rfl, hb⟩; have n477 := bB BKgm hb; have n478 := bB BKgl hb; have n479 := bB BKgr hb; have n480 := bS HB hb; clear HB BKgm BKgl BKgr; have BKgm := n477; have BKgl := n478; have BKgr := n479; have HB := n480; clear n477 n478 n479 n480 hb; have hz481 : w476.cell? ⟨gm, 0, none⟩ = some (.int .i64 a0_0) := (blk_cell BKgm.out 0).trans rfl; have hz482 : w476.cell? ⟨gm, 1, none⟩ = some (.int .i64 a0_1) := (blk_cell BKgm.out 1).trans rfl; have hz483 : w476.cell? ⟨gm, 2, none⟩ = some (.int .i64 a0_2) := (blk_cell BKgm.out 2).trans rfl; have hz484 : w476.cell? ⟨gm, 3, none⟩ = some (.slice A0_3 l0_3.length c0_3) := (blk_cell BKgm.out 3).trans rfl; have hf485 := blk_frozen BKgm.out 0; have hf486 := blk_frozen BKgm.out 1; have hf487 := blk_frozen BKgm.out 2; have hf488 := blk_frozen BKgm.out 3; have hz489 : w476.cell? ⟨gl, 0, none⟩ = some (.int .i64 a1) := (blk_cell BKgl.out 0).trans rfl; have hf490 := blk_frozen BKgl.out 0; have hz491 : w476.cell? ⟨gr, 0, none⟩ = some (.int .i64 0) := (blk_cell BKgr.out 0).trans rfl; have hz492 : w476.cell? ⟨gr, 1, none⟩ = some (.int .i64 0) := (blk_cell BKgr.out 1).trans rfl; have hz493 : w476.cell? ⟨gr, 2, none⟩ = some (.int .i64 0) := (blk_cell BKgr.out 2).trans rfl; have hz494 : w476.cell? ⟨gr, 3, none⟩ = some (.slice none 0 0) := (blk_cell BKgr.out 3).trans rfl; have hf495 := blk_frozen BKgr.out 0; have hf496 := blk_frozen BKgr.out 1; have hf497 := blk_frozen BKgr.out 2; have hf498 := blk_frozen BKgr.out 3))
   refine bodyPost_ret (results_ct rfl _ _ gr 27 #[.int .i64 0, .int .i64 0, .int .i64 0, .slice none 0 0] (0, 0) _ rfl (by exact bP BKgr.out) Try.underlying27 rfl (by kernel_rfl)) rfl ?_
   exact ⟨_, by first | rfl | (simp; done), Kd.R_nil _ _ _ _ _, by exact qW HB.out⟩
  rw [if_pos k1] at H
  have k_a : (a0_2 == 1) = true := beq_iff_eq.mpr (by omega)
  have k_b : (a0_2 != 1) = false := bne_eq_false_iff_eq.mpr (by omega)
  have k_c : Aside0 (a0_2 = 1) := ⟨by omega⟩
  clear k1
  replace H := Option.bind_eq_some_iff.mp H
  obtain ⟨t2, q2, H⟩ := H
  have A2 := aM q2
  clear q2
  cases t2 with
  | false =>
   rw [if_neg (show ¬ (false = true) by decide)] at H
   simp only [Option.some.injEq, Prod.mk.injEq] at H
   obtain ⟨rfl, rfl, rfl, rfl, rfl⟩ := H
   go_enter Try.func21, Try.ntmps21
   go_wp2_with (first | ((with_reducible refine gate_dst (N := 2) rfl ?_); (try (refine gate_guard (by rfl) ?_; dsimp only)); refine bxE (N := 2) (cs := #[.int .i64 a0_0, .int .i64 a0_1, .int .i64 a0_2, .slice A0_3 l0_3.length c0_3]) (t := 27) ?_; intro gm hg w81 hbox hb; have n82 := bS HB hb; have n83 := aM hbox; have n84 := aM ((by rw [hg]; exact (below_size (qW HB.out))) : w.heap.size ≤ gm); clear HB; have HB := n82; have BKgm := n83; have GEgm := n84; clear n82 n83 n84; clear hb hbox hg; have hz85 : w81.cell? ⟨gm, 0, none⟩ = some (.int .i64 a0_0) := (blk_cell BKgm.out 0).trans rfl; have hz86 : w81.cell? ⟨gm, 1, none⟩ = some (.int .i64 a0_1) := (blk_cell BKgm.out 1).trans rfl; have hz87 : w81.cell? ⟨gm, 2, none⟩ = some (.int .i64 a0_2) := (blk_cell BKgm.out 2).trans rfl; have hz88 : w81.cell? ⟨gm, 3, none⟩ = some (.slice A0_3 l0_3.length c0_3) := (blk_cell BKgm.out 3).trans rfl; have hf89 := blk_frozen BKgm.out 0; have hf90 := blk_frozen BKgm.out 1; have hf91 := blk_frozen BKgm.out 2; have hf92 := blk_frozen BKgm.out 3) | ((with_reducible refine gate_dst (N := 3) rfl ?_); (try (refine gate_guard (by rfl) ?_; dsimp only)); refine bxE (N := 3) (cs := #[.int .i64 a1]) (t := 3) ?_; intro gl hg w93 hbox hb; have n94 := bB BKgm hb; have n95 := bS HB hb; have n96 := aM hbox; have n97 := aM ((by rw [hg]; exact (below_size (qW HB.out))) : w.heap.size ≤ gl); have n98 := aM ((by rw [hg]; exact Nat.ne_of_lt (blk_lt (g := gm) (o := .cells #[.int .i64 a0_0, .int .i64 a0_1, .int .i64 a0_2, .slice A0_3 l0_3.length c0_3] 27 (0, 0)) (qB BKgm.out))) : gm ≠ gl); have n99 := aM ((by rw [hg]; exact Nat.ne_of_gt (blk_lt (g := gm) (o := .cells #[.int .i64 a0_0, .int .i64 a0_1, .int .i64 a0_2, .slice A0_3 l0_3.length c0_3] 27 (0, 0)) (qB BKgm.out))) : gl ≠ gm); clear HB BKgm; have BKgm := n94; have HB := n95; have BKgl := n96; have GEgl := n97; have NBgm_gl := n98; have NBgl_gm := n99; clear n94 n95 n96 n97 n98 n99; clear hb hbox hg; have hz100 : w93.cell? ⟨gm, 0, none⟩ = some (.int .i64 a0_0) := (blk_cell BKgm.out 0).trans rfl; have hz101 : w93.cell? ⟨gm, 1, none⟩ = some (.int .i64 a0_1) := (blk_cell BKgm.out 1).trans rfl; have hz102 : w93.cell? ⟨gm, 2, none⟩ = some (.int .i64 a0_2) := (blk_cell BKgm.out 2).trans rfl; have hz103 : w93.cell? ⟨gm, 3, none⟩ = some (.slice A0_3 l0_3.length c0_3) := (blk_cell BKgm.out 3).trans rfl; have hf104 := blk_frozen BKgm.out 0; have hf105 := blk_frozen BKgm.out 1; have hf106 := blk_frozen BKgm.out 2; have hf107 := blk_frozen BKgm.out 3; have hz108 : w93.cell? ⟨gl, 0, none⟩ = some (.int .i64 a1) := (blk_cell BKgl.out 0).trans rfl; have hf109 := blk_frozen BKgl.out 0) | ((with_reducible refine gate_dst (N := 4) rfl ?_); (try (refine gate_guard (by rfl) ?_; dsimp only)); refine bxE (N := 4) (cs := #[.int .i64 0, .int .i64 0, .int .i64 0, .slice none 0 0]) (t := 27) ?_; intro gr hg w110 hbox hb; have n111 := bB BKgm hb; have n112 := bB BKgl hb; have n113 := bS HB hb; have n114 := aM hbox; have n115 := aM ((by rw [hg]; exact (below_size (qW HB.out))) : w.heap.size ≤ gr); have n116 := aM ((by rw [hg]; exact Nat.ne_of_lt (blk_lt (g := gm) (o := .cells #[.int .i64 a0_0, .int .i64 a0_1, .int .i64 a0_2, .slice A0_3 l0_3.length c0_3] 27 (0, 0)) (qB BKgm.out))) : gm ≠ gr); have n117 := aM ((by rw [hg]; exact Nat.ne_of_gt (blk_lt (g := gm) (o := .cells #[.int .i64 a0_0, .int .i64 a0_1, .int .i64 a0_2, .slice A0_3 l0_3.length c0_3] 27 (0, 0)) (qB BKgm.out))) : gr ≠ gm); have n118 := aM ((by rw [hg]; exact Nat.ne_of_lt (blk_lt (g := gl) (o := .cells #[.int .i64 a1] 3 (0, 0)) (qB BKgl.out))) : gl ≠ gr); have n119 := aM ((by rw [hg]; exact Nat.ne_of_gt (blk_lt (g := gl) (o := .cells #[.int .i64 a1] 3 (0, 0)) (qB BKgl.out))) : gr ≠ gl); clear HB BKgm BKgl; have BKgm := n111; have BKgl := n112; have HB := n113; have BKgr := n114; have GEgr := n115; have NBgm_gr := n116; have NBgr_gm := n117; have NBgl_gr := n118; have NBgr_gl := n119; clear n111 n112 n113 n114 n115 n116 n117 n118 n119; clear hb hbox hg; have hz120 : w110.cell? ⟨gm, 0, none⟩ = some (.int .i64 a0_0) := (blk_cell BKgm.out 0).trans rfl; have hz121 : w110.cell? ⟨gm, 1, none⟩ = some (.int .i64 a0_1) := (blk_cell BKgm.out 1).trans rfl; have hz122 : w110.cell? ⟨gm, 2, none⟩ = some (.int .i64 a0_2) := (blk_cell BKgm.out 2).trans rfl; have hz123 : w110.cell? ⟨gm, 3, none⟩ = some (.slice A0_3 l0_3.length c0_3) := (blk_cell BKgm.out 3).trans rfl; have hf124 := blk_frozen BKgm.out 0; have hf125 := blk_frozen BKgm.out 1; have hf126 := blk_frozen BKgm.out 2; have hf127 := blk_frozen BKgm.out 3; have hz128 : w110.cell? ⟨gl, 0, none⟩ = some (.int .i64 a1) := (blk_cell BKgl.out 0).trans rfl; have hf129 := blk_frozen BKgl.out 0; have hz130 : w110.cell? ⟨gr, 0, none⟩ = some (.int .i64 0) := (blk_cell BKgr.out 0).trans rfl; have hz131 : w110.cell? ⟨gr, 1, none⟩ = some (.int .i64 0) := (blk_cell BKgr.out 1).trans rfl; have hz132 : w110.cell? ⟨gr, 2, none⟩ = some (.int .i64 0) := (blk_cell BKgr.out 2).trans rfl; have hz133 : w110.cell? ⟨gr, 3, none⟩ = some (.slice none 0 0) := (blk_cell BKgr.out 3).trans rfl; have hf134 := blk_frozen BKgr.out 0; have hf135 := blk_frozen BKgr.out 1; have hf136 := blk_frozen BKgr.out 2; have hf137 := blk_frozen BKgr.out 3) | (go_at_call 47; (with_reducible refine (impl_isImage.calls a0_0 a0_1 a0_2 _ _ l0_3 true _ ?side1 ?side2 A0.out).mono ?_); (case side1 => exact (Kd.C_below HR0.out (qW HB.out))); (case side2 => exact HC0.out); rintro e w138 ⟨rfl, hb⟩; have n139 := bB BKgm hb; have n140 := bB BKgl hb; have n141 := bB BKgr hb; have n142 := bS HB hb; clear HB BKgm BKgl BKgr; have BKgm := n139; have BKgl := n140; have BKgr := n141; have HB := n142; clear n139 n140 n141 n142 hb; have hz143 : w138.cell? ⟨gm, 0, none⟩ = some (.int .i64 a0_0) := (blk_cell BKgm.out 0).trans rfl; have hz144 : w138.cell? ⟨gm, 1, none⟩ = some (.int .i64 a0_1) := (blk_cell BKgm.out 1).trans rfl; have hz145 : w138.cell? ⟨gm, 2, none⟩ = some (.int .i64 a0_2) := (blk_cell BKgm.out 2).trans rfl; have hz146 : w138.cell? ⟨gm, 3, none⟩ = some (.slice A0_3 l0_3.length c0_3) := (blk_cell BKgm.out 3).trans rfl; have hf147 := blk_frozen BKgm.out 0; have hf148 := blk_frozen BKgm.out 1; have hf149 := blk_frozen BKgm.out 2; have hf150 := blk_frozen BKgm.out 3; have hz151 : w138.cell? ⟨gl, 0, none⟩ = some (.int .i64 a1) := (blk_cell BKgl.out 0).trans rfl; have hf152 := blk_frozen BKgl.out 0; have hz153 : w138.cell? ⟨gr, 0, none⟩ = some (.int .i64 0) := (blk_cell BKgr.out 0).trans rfl; have hz154 : w138.cell? ⟨gr, 1, none⟩ = some (.int .i64 0) := (blk_cell BKgr.out 1).trans rfl; have hz155 : w138.cell? ⟨gr, 2, none⟩ = some (.int .i64 0) := (blk_cell BKgr.out 2).trans rfl; have hz156 : w138.cell? ⟨gr, 3, none⟩ = some (.slice none 0 0) := (blk_cell BKgr.out 3).trans rfl; have hf157 := blk_frozen BKgr.out 0; have hf158 := blk_frozen BKgr.out 1; have hf159 := blk_frozen BKgr.out 2; have hf160 := blk_frozen BKgr.out 3) | (go_at_call 62; (with_reducible refine (impl_isLevels.calls a1 false _ A2.out).mono ?_); rintro e w' ⟨rfl, ⟨nd, rfl⟩⟩))
   refine bodyPost_ret (results_ct rfl _ _ gr 27 #[.int .i64 0, .int .i64 0, .int .i64 0, .slice none 0 0] (0, 0) _ rfl (by exact bP BKgr.out) Try.underlying27 rfl (by kernel_rfl)) rfl ?_
   exact ⟨_, by first | rfl | (simp; done), Kd.R_nil _ _ _ _ _, by exact qW HB.out⟩
  | true =>
   rw [if_pos rfl] at H
   simp only [Option.some.injEq, Prod.mk.injEq] at H
   obtain ⟨rfl, rfl, rfl, hy, rfl⟩ := H
   have HY := aM hy
   clear hy
   have V := aM (isImage_true A0.out)
   have b0 := V.out.1
   have b1 := V.out.2.1
   have b2 := V.out.2.2.1
   have lv := isLevels_true A2.out
   obtain ⟨lv0, lv1⟩ := lv
   have HF : Aside0 (∀ x y : Int, ((fun x y => ordPix l0_3 a0_0 a0_2 a1 x y) x y).length ≤ 100) := ⟨fun _ _ => by simp [ordPix]⟩
   generalize hyl : imgOf (fun x y => ordPix l0_3 a0_0 a0_2 a1 x y) a0_0.toNat a0_1.toNat = yl at HY
   have HYL := aM hyl
   clear hyl
   go_enter Try.func21, Try.ntmps21
   go_wp2_with (first | ((with_reducible refine gate_dst (N := 2) rfl ?_); (try (refine gate_guard (by rfl) ?_; dsimp only)); refine bxE (N := 2) (cs := #[.int .i64 a0_0, .int .i64 a0_1, .int .i64 a0_2, .slice A0_3 l0_3.length c0_3]) (t := 27) ?_; intro gm hg w162 hbox hb; have n163 := bS HB hb; have n164 := aM hbox; have n165 := aM ((by rw [hg]; exact (below_size (qW HB.out))) : w.heap.size ≤ gm); clear HB; have HB := n163; have BKgm := n164; have GEgm := n165; clear n163 n164 n165; clear hb hbox hg; have hz166 : w162.cell? ⟨gm, 0, none⟩ = some (.int .i64 a0_0) := (blk_cell BKgm.out 0).trans rfl; have hz167 : w162.cell? ⟨gm, 1, none⟩ = some (.int .i64 a0_1) := (blk_cell BKgm.out 1).trans rfl; have hz168 : w162.cell? ⟨gm, 2, none⟩ = some (.int .i64 a0_2) := (blk_cell BKgm.out 2).trans rfl; have hz169 : w162.cell? ⟨gm, 3, none⟩ = some (.slice A0_3 l0_3.length c0_3) := (blk_cell BKgm.out 3).trans rfl; have hf170 := blk_frozen BKgm.out 0; have hf171 := blk_frozen BKgm.out 1; have hf172 := blk_frozen BKgm.out 2; have hf173 := blk_frozen BKgm.out 3) | ((with_reducible refine gate_dst (N := 3) rfl ?_); (try (refine gate_guard (by rfl) ?_; dsimp only)); refine bxE (N := 3) (cs := #[.int .i64 a1]) (t := 3) ?_; intro gl hg w174 hbox hb; have n175 := bB BKgm hb; have n176 := bS HB hb; have n177 := aM hbox; have n178 := aM ((by rw [hg]; exact (below_size (qW HB.out))) : w.heap.size ≤ gl); have n179 := aM ((by rw [hg]; exact Nat.ne_of_lt (blk_lt (g := gm) (o := .cells #[.int .i64 a0_0, .int .i64 a0_1, .int .i64 a0_2, .slice A0_3 l0_3.length c0_3] 27 (0, 0)) (qB BKgm.out))) : gm ≠ gl); have n180 := aM ((by rw [hg]; exact Nat.ne_of_gt (blk_lt (g := gm) (o := .cells #[.int .i64 a0_0, .int .i64 a0_1, .int .i64 a0_2, .slice A0_3 l0_3.length c0_3] 27 (0, 0)) (qB BKgm.out))) : gl ≠ gm); clear HB BKgm; have BKgm := n175; have HB := n176; have BKgl := n177; have GEgl := n178; have NBgm_gl := n179; have NBgl_gm := n180; clear n175 n176 n177 n178 n179 n180; clear hb hbox hg; have hz181 : w174.cell? ⟨gm, 0, none⟩ = some (.int .i64 a0_0) := (blk_cell BKgm.out 0).trans rfl; have hz182 : w174.cell? ⟨gm, 1, none⟩ = some (.int .i64 a0_1) := (blk_cell BKgm.out 1).trans rfl; have hz183 : w174.cell? ⟨gm, 2, none⟩ = some (.int .i64 a0_2) := (blk_cell BKgm.out 2).trans rfl; have hz184 : w174.cell? ⟨gm, 3, none⟩ = some (.slice A0_3 l0_3.length c0_3) := (blk_cell BKgm.out 3).trans rfl; have hf185 := blk_frozen BKgm.out 0; have hf186 := blk_frozen BKgm.out 1; have hf187 := blk_frozen BKgm.out 2; have hf188 := blk_frozen BKgm.out 3; have hz189 : w174.cell? ⟨gl, 0, none⟩ = some (.int .i64 a1) := (blk_cell BKgl.out 0).trans rfl; have hf190 := blk_frozen BKgl.out 0) | ((with_reducible refine gate_dst (N := 4) rfl ?_); (try (refine gate_guard (by rfl) ?_; dsimp only)); refine bxE (N := 4) (cs := #[.int .i64 0, .int .i64 0, .int .i64 0, .slice none 0 0]) (t := 27) ?_; intro gr hg w191 hbox hb; have n192 := bB BKgm hb; have n193 := bB BKgl hb; have n194 := bS HB hb; have n195 := aM hbox; have n196 := aM ((by rw [hg]; exact (below_size (qW HB.out))) : w.heap.size ≤ gr); have n197 := aM ((by rw [hg]; exact Nat.ne_of_lt (blk_lt (g := gm) (o := .cells #[.int .i64 a0_0, .int .i64 a0_1, .int .i64 a0_2, .slice A0_3 l0_3.length c0_3] 27 (0, 0)) (qB BKgm.out))) : gm ≠ gr); have n198 := aM ((by rw [hg]; exact Nat.ne_of_gt (blk_lt (g := gm) (o := .cells #[.int .i64 a0_0, .int .i64 a0_1, .int .i64 a0_2, .slice A0_3 l0_3.length c0_3] 27 (0, 0)) (qB BKgm.out))) : gr ≠ gm); have n199 := aM ((by rw [hg]; exact Nat.ne_of_lt (blk_lt (g := gl) (o := .cells #[.int .i64 a1] 3 (0, 0)) (qB BKgl.out))) : gl ≠ gr); have n200 := aM ((by rw [hg]; exact Nat.ne_of_gt (blk_lt (g := gl) (o := .cells #[.int .i64 a1] 3 (0, 0)) (qB BKgl.out))) : gr ≠ gl); clear HB BKgm BKgl; have BKgm := n192; have BKgl := n193; have HB := n194; have BKgr := n195; have GEgr := n196; have NBgm_gr := n197; have NBgr_gm := n198; have NBgl_gr := n199; have NBgr_gl := n200; clear n192 n193 n194 n195 n196 n197 n198 n199 n200; clear hb hbox hg; have hz201 : w191.cell? ⟨gm, 0, none⟩ = some (.int .i64 a0_0) := (blk_cell BKgm.out 0).trans rfl; have hz202 : w191.cell? ⟨gm, 1, none⟩ = some (.int .i64 a0_1) := (blk_cell BKgm.out 1).trans rfl; have hz203 : w191.cell? ⟨gm, 2, none⟩ = some (.int .i64 a0_2) := (blk_cell BKgm.out 2).trans rfl; have hz204 : w191.cell? ⟨gm, 3, none⟩ = some (.slice A0_3 l0_3.length c0_3) := (blk_cell BKgm.out 3).trans rfl; have hf205 := blk_frozen BKgm.out 0; have hf206 := blk_frozen BKgm.out 1; have hf207 := blk_frozen BKgm.out 2; have hf208 := blk_frozen BKgm.out 3; have hz209 : w191.cell? ⟨gl, 0, none⟩ = some (.int .i64 a1) := (blk_cell BKgl.out 0).trans rfl; have hf210 := blk_frozen BKgl.out 0; have hz211 : w191.cell? ⟨gr, 0, none⟩ = some (.int .i64 0) := (blk_cell BKgr.out 0).trans rfl; have hz212 : w191.cell? ⟨gr, 1, none⟩ = some (.int .i64 0) := (blk_cell BKgr.out 1).trans rfl; have hz213 : w191.cell? ⟨gr, 2, none⟩ = some (.int .i64 0) := (blk_cell BKgr.out 2).trans rfl; have hz214 : w191.cell? ⟨gr, 3, none⟩ = some (.slice none 0 0) := (blk_cell BKgr.out 3).trans rfl; have hf215 := blk_frozen BKgr.out 0; have hf216 := blk_frozen BKgr.out 1; have hf217 := blk_frozen BKgr.out 2; have hf218 := blk_frozen BKgr.out 3) | (go_at_call 47; (with_reducible refine (impl_isImage.calls a0_0 a0_1 a0_2 _ _ l0_3 true _ ?side1 ?side2 A0.out).mono ?_); (case side1 => exact (Kd.C_below HR0.out (qW HB.out))); (case side2 => exact HC0.out); rintro e w219 ⟨rfl, hb⟩; have n220 := bB BKgm hb; have n221 := bB BKgl hb; have n222 := bB BKgr hb; have n223 := bS HB hb; clear HB BKgm BKgl BKgr; have BKgm := n220; have BKgl := n221; have BKgr := n222; have HB := n223; clear n220 n221 n222 n223 hb; have hz224 : w219.cell? ⟨gm, 0, none⟩ = some (.int .i64 a0_0) := (blk_cell BKgm.out 0).trans rfl; have hz225 : w219.cell? ⟨gm, 1, none⟩ = some (.int .i64 a0_1) := (blk_cell BKgm.out 1).trans rfl; have hz226 : w219.cell? ⟨gm, 2, none⟩ = some (.int .i64 a0_2) := (blk_cell BKgm.out 2).trans rfl; have hz227 : w219.cell? ⟨gm, 3, none⟩ = some (.slice A0_3 l0_3.length c0_3) := (blk_cell BKgm.out 3).trans rfl; have hf228 := blk_frozen BKgm.out 0; have hf229 := blk_frozen BKgm.out 1; have hf230 := blk_frozen BKgm.out 2; have hf231 := blk_frozen BKgm.out 3; have hz232 : w219.cell? ⟨gl, 0, none⟩ = some (.int .i64 a1) := (blk_cell BKgl.out 0).trans rfl; have hf233 := blk_frozen BKgl.out 0; have hz234 : w219.cell? ⟨gr, 0, none⟩ = some (.int .i64 0) := (blk_cell BKgr.out 0).trans rfl; have hz235 : w219.cell? ⟨gr, 1, none⟩ = some (.int .i64 0) := (blk_cell BKgr.out 1).trans rfl; have hz236 : w219.cell? ⟨gr, 2, none⟩ = some (.int .i64 0) := (blk_cell BKgr.out 2).trans rfl; have hz237 : w219.cell? ⟨gr, 3, none⟩ = some (.slice none 0 0) := (blk_cell BKgr.out 3).trans rfl; have hf238 := blk_frozen BKgr.out 0; have hf239 := blk_frozen BKgr.out 1; have hf240 := blk_frozen BKgr.out 2; have hf241 := blk_frozen BKgr.out 3) | (go_at_call 62; (with_reducible refine (impl_isLevels.calls a1 true _ A2.out).mono ?_); rintro e w' ⟨rfl, ⟨nd, rfl⟩⟩) | ((with_reducible refine gate_dst (N := 6) rfl ?_); (try (refine gate_guard (by rfl) ?_; dsimp only)); refine bxE (N := 6) (cs := #[.int .i64 0, .int .i64 0, .int .i64 0, .int .i64 0, .int .i64 0, .int .i64 0, .int .i64 0, .int .i64 0, .int .i64 0, .int .i64 0, .int .i64 0, .int .i64 0, .int .i64 0, .int .i64 0, .int .i64 0, .int .i64 0]) (t := 75) ?_; intro gx hg w243 hbox hb; have n244 := bB BKgm hb; have n245 := bB BKgl hb; have n246 := bB BKgr hb; have n247 := bS HB hb; have n248 := aM hbox; have n249 := aM ((by rw [hg]; exact (below_size (qW HB.out))) : w.heap.size ≤ gx); have n250 := aM ((by rw [hg]; exact Nat.ne_of_lt (blk_lt (g := gm) (o := .cells #[.int .i64 a0_0, .int .i64 a0_1, .int .i64 a0_2, .slice A0_3 l0_3.length c0_3] 27 (0, 0)) (qB BKgm.out))) : gm ≠ gx); have n251 := aM ((by rw [hg]; exact Nat.ne_of_gt (blk_lt (g := gm) (o := .cells #[.int .i64 a0_0, .int .i64 a0_1, .int .i64 a0_2, .slice A0_3 l0_3.length c0_3] 27 (0, 0)) (qB BKgm.out))) : gx ≠ gm); have n252 := aM ((by rw [hg]; exact Nat.ne_of_lt (blk_lt (g := gl) (o := .cells #[.int .i64 a1] 3 (0, 0)) (qB BKgl.out))) : gl ≠ gx); have n253 := aM ((by rw [hg]; exact Nat.ne_of_gt (blk_lt (g := gl) (o := .cells #[.int .i64 a1] 3 (0, 0)) (qB BKgl.out))) : gx ≠ gl); have n254 := aM ((by rw [hg]; exact Nat.ne_of_lt (blk_lt (g := gr) (o := .cells #[.int .i64 0, .int .i64 0, .int .i64 0, .slice none 0 0] 27 (0, 0)) (qB BKgr.out))) : gr ≠ gx); have n255 := aM ((by rw [hg]; exact Nat.ne_of_gt (blk_lt (g := gr) (o := .cells #[.int .i64 0, .int .i64 0, .int .i64 0, .slice none 0 0] 27 (0, 0)) (qB BKgr.out))) : gx ≠ gr); clear HB BKgm BKgl BKgr; have BKgm := n244; have BKgl := n245; have BKgr := n246; have HB := n247; have BKgx := n248; have GEgx := n249; have NBgm_gx := n250; have NBgx_gm := n251; have NBgl_gx := n252; have NBgx_gl := n253; have NBgr_gx := n254; have NBgx_gr := n255; clear n244 n245 n246 n247 n248 n249 n250 n251 n252 n253 n254 n255; clear hb hbox hg; have hz256 : w243.cell? ⟨gm, 0, none⟩ = some (.int .i64 a0_0) := (blk_cell BKgm.out 0).trans rfl; have hz257 : w243.cell? ⟨gm, 1, none⟩ = some (.int .i64 a0_1) := (blk_cell BKgm.out 1).trans rfl; have hz258 : w243.cell? ⟨gm, 2, none⟩ = some (.int .i64 a0_2) := (blk_cell BKgm.out 2).trans rfl; have hz259 : w243.cell? ⟨gm, 3, none⟩ = some (.slice A0_3 l0_3.length c0_3) := (blk_cell BKgm.out 3).trans rfl; have hf260 := blk_frozen BKgm.out 0; have hf261 := blk_frozen BKgm.out 1; have hf262 := blk_frozen BKgm.out 2; have hf263 := blk_frozen BKgm.out 3; have hz264 : w243.cell? ⟨gl, 0, none⟩ = some (.int .i64 a1) := (blk_cell BKgl.out 0).trans rfl; have hf265 := blk_frozen BKgl.out 0; have hz266 : w243.cell? ⟨gr, 0, none⟩ = some (.int .i64 0) := (blk_cell BKgr.out 0).trans rfl; have hz267 : w243.cell? ⟨gr, 1, none⟩ = some (.int .i64 0) := (blk_cell BKgr.out 1).trans rfl; have hz268 : w243.cell? ⟨gr, 2, none⟩ = some (.int .i64 0) := (blk_cell BKgr.out 2).trans rfl; have hz269 : w243.cell? ⟨gr, 3, none⟩ = some (.slice none 0 0) := (blk_cell BKgr.out 3).trans rfl; have hf270 := blk_frozen BKgr.out 0; have hf271 := blk_frozen BKgr.out 1; have hf272 := blk_frozen BKgr.out 2; have hf273 := blk_frozen BKgr.out 3) | ((with_reducible refine gate_store (t := 75) (p := 6) rfl ?_); have hzs0_ : w243.cell? ⟨gx, 0, none⟩ = some (.int .i64 0) := (blk_cell BKgx.out 0).trans rfl; have hfs0_ := blk_frozen BKgx.out 0; have hzs1_ : w243.cell? ⟨gx, 1, none⟩ = some (.int .i64 0) := (blk_cell BKgx.out 1).trans rfl; have hfs1_ := blk_frozen BKgx.out 1; have hzs2_ : w243.cell? ⟨gx, 2, none⟩ = some (.int .i64 0) := (blk_cell BKgx.out 2).trans rfl; have hfs2_ := blk_frozen BKgx.out 2; have hzs3_ : w243.cell? ⟨gx, 3, none⟩ = some (.int .i64 0) := (blk_cell BKgx.out 3).trans rfl; have hfs3_ := blk_frozen BKgx.out 3; have hzs4_ : w243.cell? ⟨gx, 4, none⟩ = some (.int .i64 0) := (blk_cell BKgx.out 4).trans rfl; have hfs4_ := blk_frozen BKgx.out 4; have hzs5_ : w243.cell? ⟨gx, 5, none⟩ = some (.int .i64 0) := (blk_cell BKgx.out 5).trans rfl; have hfs5_ := blk_frozen BKgx.out 5; have hzs6_ : w243.cell? ⟨gx, 6, none⟩ = some (.int .i64 0) := (blk_cell BKgx.out 6).trans rfl; have hfs6_ := blk_frozen BKgx.out 6; have hzs7_ : w243.cell? ⟨gx, 7, none⟩ = some (.int .i64 0) := (blk_cell BKgx.out 7).trans rfl; have hfs7_ := blk_frozen BKgx.out 7; have hzs8_ : w243.cell? ⟨gx, 8, none⟩ = some (.int .i64 0) := (blk_cell BKgx.out 8).trans rfl; have hfs8_ := blk_frozen BKgx.out 8; have hzs9_ : w243.cell? ⟨gx, 9, none⟩ = some (.int .i64 0) := (blk_cell BKgx.out 9).trans rfl; have hfs9_ := blk_frozen BKgx.out 9; have hzs10_ : w243.cell? ⟨gx, 10, none⟩ = some (.int .i64 0) := (blk_cell BKgx.out 10).trans rfl; have hfs10_ := blk_frozen BKgx.out 10; have hzs11_ : w243.cell? ⟨gx, 11, none⟩ = some (.int .i64 0) := (blk_cell BKgx.out 11).trans rfl; have hfs11_ := blk_frozen BKgx.out 11; have hzs12_ : w243.cell? ⟨gx, 12, none⟩ = some (.int .i64 0) := (blk_cell BKgx.out 12).trans rfl; have hfs12_ := blk_frozen BKgx.out 12; have hzs13_ : w243.cell? ⟨gx, 13, none⟩ = some (.int .i64 0) := (blk_cell BKgx.out 13).trans rfl; have hfs13_ := blk_frozen BKgx.out 13; have hzs14_ : w243.cell? ⟨gx, 14, none⟩ = some (.int .i64 0) := (blk_cell BKgx.out 14).trans rfl; have hfs14_ := blk_frozen BKgx.out 14; have hzs15_ : w243.cell? ⟨gx, 15, none⟩ = some (.int .i64 0) := (blk_cell BKgx.out 15).trans rfl; have hfs15_ := blk_frozen BKgx.out 15; refine store_event (t := 75) (p := 6) (v := ?vo_w306) (w1 := ((((((((((((((((w243.setCell ⟨gx, 0, none⟩ (.int .i64 0)).setCell ⟨gx, 1, none⟩ (.int .i64 8)).setCell ⟨gx, 2, none⟩ (.int .i64 2)).setCell ⟨gx, 3, none⟩ (.int .i64 10)).setCell ⟨gx, 4, none⟩ (.int .i64 12)).setCell ⟨gx, 5, none⟩ (.int .i64 4)).setCell ⟨gx, 6, none⟩ (.int .i64 14)).setCell ⟨gx, 7, none⟩ (.int .i64 6)).setCell ⟨gx, 8, none⟩ (.int .i64 3)).setCell ⟨gx, 9, none⟩ (.int .i64 11)).setCell ⟨gx, 10, none⟩ (.int .i64 1)).setCell ⟨gx, 11, none⟩ (.int .i64 9)).setCell ⟨gx, 12, none⟩ (.int .i64 15)).setCell ⟨gx, 13, none⟩ (.int .i64 7)).setCell ⟨gx, 14, none⟩ (.int .i64 13)).setCell ⟨gx, 15, none⟩ (.int .i64 5))) ?hg ?ho ?hn ?hr ?_; (case ho => rfl); (case hg => rfl); (case hn => rfl); (case hr => first | (go_simp; done) | (go_simp; rfl)); intro w306 hw; have n307 := aM (show w306.heap[gm]? = some (.cells #[.int .i64 a0_0, .int .i64 a0_1, .int .i64 a0_2, .slice A0_3 l0_3.length c0_3] 27 (0, 0)) by rw [hw]; exact blk_far (blk_far (blk_far (blk_far (blk_far (blk_far (blk_far (blk_far (blk_far (blk_far (blk_far (blk_far (blk_far (blk_far (blk_far (blk_far (BKgm.out) NBgm_gx.out _) NBgm_gx.out _) NBgm_gx.out _) NBgm_gx.out _) NBgm_gx.out _) NBgm_gx.out _) NBgm_gx.out _) NBgm_gx.out _) NBgm_gx.out _) NBgm_gx.out _) NBgm_gx.out _) NBgm_gx.out _) NBgm_gx.out _) NBgm_gx.out _) NBgm_gx.out _) NBgm_gx.out _); have n308 := aM (show w306.heap[gl]? = some (.cells #[.int .i64 a1] 3 (0, 0)) by rw [hw]; exact blk_far (blk_far (blk_far (blk_far (blk_far (blk_far (blk_far (blk_far (blk_far (blk_far (blk_far (blk_far (blk_far (blk_far (blk_far (blk_far (BKgl.out) NBgl_gx.out _) NBgl_gx.out _) NBgl_gx.out _) NBgl_gx.out _) NBgl_gx.out _) NBgl_gx.out _) NBgl_gx.out _) NBgl_gx.out _) NBgl_gx.out _) NBgl_gx.out _) NBgl_gx.out _) NBgl_gx.out _) NBgl_gx.out _) NBgl_gx.out _) NBgl_gx.out _) NBgl_gx.out _); have n309 := aM (show w306.heap[gr]? = some (.cells #[.int .i64 0, .int .i64 0, .int .i64 0, .slice none 0 0] 27 (0, 0)) by rw [hw]; exact blk_far (blk_far (blk_far (blk_far (blk_far (blk_far (blk_far (blk_far (blk_far (blk_far (blk_far (blk_far (blk_far (blk_far (blk_far (blk_far (BKgr.out) NBgr_gx.out _) NBgr_gx.out _) NBgr_gx.out _) NBgr_gx.out _) NBgr_gx.out _) NBgr_gx.out _) NBgr_gx.out _) NBgr_gx.out _) NBgr_gx.out _) NBgr_gx.out _) NBgr_gx.out _) NBgr_gx.out _) NBgr_gx.out _) NBgr_gx.out _) NBgr_gx.out _) NBgr_gx.out _); have n310 := aM (show w306.heap[gx]? = some (.cells #[.int .i64 0, .int .i64 8, .int .i64 2, .int .i64 10, .int .i64 12, .int .i64 4, .int .i64 14, .int .i64 6, .int .i64 3, .int .i64 11, .int .i64 1, .int .i64 9, .int .i64 15, .int .i64 7, .int .i64 13, .int .i64 5] 75 (0, 0)) by rw [hw]; refine blk_put (cs := #[.int .i64 0, .int .i64 8, .int .i64 2, .int .i64 10, .int .i64 12, .int .i64 4, .int .i64 14, .int .i64 6, .int .i64 3, .int .i64 11, .int .i64 1, .int .i64 9, .int .i64 15, .int .i64 7, .int .i64 13, .int .i64 0]) ?_ 15 _ rfl; refine blk_put (cs := #[.int .i64 0, .int .i64 8, .int .i64 2, .int .i64 10, .int .i64 12, .int .i64 4, .int .i64 14, .int .i64 6, .int .i64 3, .int .i64 11, .int .i64 1, .int .i64 9, .int .i64 15, .int .i64 7, .int .i64 0, .int .i64 0]) ?_ 14 _ rfl; refine blk_put (cs := #[.int .i64 0, .int .i64 8, .int .i64 2, .int .i64 10, .int .i64 12, .int .i64 4, .int .i64 14, .int .i64 6, .int .i64 3, .int .i64 11, .int .i64 1, .int .i64 9, .int .i64 15, .int .i64 0, .int .i64 0, .int .i64 0]) ?_ 13 _ rfl; refine blk_put (cs := #[.int .i64 0, .int .i64 8, .int .i64 2, .int .i64 10, .int .i64 12, .int .i64 4, .int .i64 14, .int .i64 6, .int .i64 3, .int .i64 11, .int .i64 1, .int .i64 9, .int .i64 0, .int .i64 0, .int .i64 0, .int .i64 0]) ?_ 12 _ rfl; refine blk_put (cs := #[.int .i64 0, .int .i64 8, .int .i64 2, .int .i64 10, .int .i64 12, .int .i64 4, .int .i64 14, .int .i64 6, .int .i64 3, .int .i64 11, .int .i64 1, .int .i64 0, .int .i64 0, .int .i64 0, .int .i64 0, .int .i64 0]) ?_ 11 _ rfl; refine blk_put (cs := #[.int .i64 0, .int .i64 8, .int .i64 2, .int .i64 10, .int .i64 12, .int .i64 4, .int .i64 14, .int .i64 6, .int .i64 3, .int .i64 11, .int .i64 0, .int .i64 0, .int .i64 0, .int .i64 0, .int .i64 0, .int .i64 0]) ?_ 10 _ rfl; refine blk_put (cs := #[.int .i64 0, .int .i64 8, .int .i64 2, .int .i64 10, .int .i64 12, .int .i64 4, .int .i64 14, .int .i64 6, .int .i64 3, .int .i64 0, .int .i64 0, .int .i64 0, .int .i64 0, .int .i64 0, .int .i64 0, .int .i64 0]) ?_ 9 _ rfl; refine blk_put (cs := #[.int .i64 0, .int .i64 8, .int .i64 2, .int .i64 10, .int .i64 12, .int .i64 4, .int .i64 14, .int .i64 6, .int .i64 0, .int .i64 0, .int .i64 0, .int .i64 0, .int .i64 0, .int .i64 0, .int .i64 0, .int .i64 0]) ?_ 8 _ rfl; refine blk_put (cs := #[.int .i64 0, .int .i64 8, .int .i64 2, .int .i64 10, .int .i64 12, .int .i64 4, .int .i64 14, .int .i64 0, .int .i64 0, .int .i64 0, .int .i64 0, .int .i64 0, .int .i64 0, .int .i64 0, .int .i64 0, .int .i64 0]) ?_ 7 _ rfl; refine blk_put (cs := #[.int .i64 0, .int .i64 8, .int .i64 2, .int .i64 10, .int .i64 12, .int .i64 4, .int .i64 0, .int .i64 0, .int .i64 0, .int .i64 0, .int .i64 0, .int .i64 0, .int .i64 0, .int .i64 0, .int .i64 0, .int .i64 0]) ?_ 6 _ rfl; refine blk_put (cs := #[.int .i64 0, .int .i64 8, .int .i64 2, .int .i64 10, .int .i64 12, .int .i64 0, .int .i64 0, .int .i64 0, .int .i64 0, .int .i64 0, .int .i64 0, .int .i64 0, .int .i64 0, .int .i64 0, .int .i64 0, .int .i64 0]) ?_ 5 _ rfl; refine blk_put (cs := #[.int .i64 0, .int .i64 8, .int .i64 2, .int .i64 10, .int .i64 0, .int .i64 0, .int .i64 0, .int .i64 0, .int .i64 0, .int .i64 0, .int .i64 0, .int .i64 0, .int .i64 0, .int .i64 0, .int .i64 0, .int .i64 0]) ?_ 4 _ rfl; refine blk_put (cs := #[.int .i64 0, .int .i64 8, .int .i64 2, .int .i64 0, .int .i64 0, .int .i64 0, .int .i64 0, .int .i64 0, .int .i64 0, .int .i64 0, .int .i64 0, .int .i64 0, .int .i64 0, .int .i64 0, .int .i64 0, .int .i64 0]) ?_ 3 _ rfl; refine blk_put (cs := #[.int .i64 0, .int .i64 8, .int .i64 0, .int .i64 0, .int .i64 0, .int .i64 0, .int .i64 0, .int .i64 0, .int .i64 0, .int .i64 0, .int .i64 0, .int .i64 0, .int .i64 0, .int .i64 0, .int .i64 0, .int .i64 0]) ?_ 2 _ rfl; refine blk_put (cs := #[.int .i64 0, .int .i64 0, .int .i64 0, .int .i64 0, .int .i64 0, .int .i64 0, .int .i64 0, .int .i64 0, .int .i64 0, .int .i64 0, .int .i64 0, .int .i64 0, .int .i64 0, .int .i64 0, .int .i64 0, .int .i64 0]) ?_ 1 _ rfl; refine blk_put (cs := #[.int .i64 0, .int .i64 0, .int .i64 0, .int .i64 0, .int .i64 0, .int .i64 0, .int .i64 0, .int .i64 0, .int .i64 0, .int .i64 0, .int .i64 0, .int .i64 0, .int .i64 0, .int .i64 0, .int .i64 0, .int .i64 0]) ?_ 0 _ rfl; exact BKgx.out); have n311 := aM (show Below w.heap.size w w306 by rw [hw]; exact below_set (below_set (below_set (below_set (below_set (below_set (below_set (below_set (below_set (below_set (below_set (below_set (below_set (below_set (below_set (below_set (HB.out) GEgx.out) GEgx.out) GEgx.out) GEgx.out) GEgx.out) GEgx.out) GEgx.out) GEgx.out) GEgx.out) GEgx.out) GEgx.out) GEgx.out) GEgx.out) GEgx.out) GEgx.out) GEgx.out); clear hzs0_ hfs0_ hzs1_ hfs1_ hzs2_ hfs2_ hzs3_ hfs3_ hzs4_ hfs4_ hzs5_ hfs5_ hzs6_ hfs6_ hzs7_ hfs7_ hzs8_ hfs8_ hzs9_ hfs9_ hzs10_ hfs10_ hzs11_ hfs11_ hzs12_ hfs12_ hzs13_ hfs13_ hzs14_ hfs14_ hzs15_ hfs15_; clear HB BKgm BKgl BKgr BKgx hw; have BKgm := n307; have BKgl := n308; have BKgr := n309; have BKgx := n310; have HB := n311; clear n307 n308 n309 n310 n311; have hz312 : w306.cell? ⟨gm, 0, none⟩ = some (.int .i64 a0_0) := (blk_cell BKgm.out 0).trans rfl; have hz313 : w306.cell? ⟨gm, 1, none⟩ = some (.int .i64 a0_1) := (blk_cell BKgm.out 1).trans rfl; have hz314 : w306.cell? ⟨gm, 2, none⟩ = some (.int .i64 a0_2) := (blk_cell BKgm.out 2).trans rfl; have hz315 : w306.cell? ⟨gm, 3, none⟩ = some (.slice A0_3 l0_3.length c0_3) := (blk_cell BKgm.out 3).trans rfl; have hf316 := blk_frozen BKgm.out 0; have hf317 := blk_frozen BKgm.out 1; have hf318 := blk_frozen BKgm.out 2; have hf319 := blk_frozen BKgm.out 3; have hz320 : w306.cell? ⟨gl, 0, none⟩ = some (.int .i64 a1) := (blk_cell BKgl.out 0).trans rfl; have hf321 := blk_frozen BKgl.out 0; have hz322 : w306.cell? ⟨gr, 0, none⟩ = some (.int .i64 0) := (blk_cell BKgr.out 0).trans rfl; have hz323 : w306.cell? ⟨gr, 1, none⟩ = some (.int .i64 0) := (blk_cell BKgr.out 1).trans rfl; have hz324 : w306.cell? ⟨gr, 2, none⟩ = some (.int .i64 0) := (blk_cell BKgr.out 2).trans rfl; have hz325 : w306.cell? ⟨gr, 3, none⟩ = some (.slice none 0 0) := (blk_cell BKgr.out 3).trans rfl; have hf326 := blk_frozen BKgr.out 0; have hf327 := blk_frozen BKgr.out 1; have hf328 := blk_frozen BKgr.out 2; have hf329 := blk_frozen BKgr.out 3; have hz330 : w306.cell? ⟨gx, 0, none⟩ = some (.int .i64 0) := (blk_cell BKgx.out 0).trans rfl; have hz331 : w306.cell? ⟨gx, 1, none⟩ = some (.int .i64 8) := (blk_cell BKgx.out 1).trans rfl; have hz332 : w306.cell? ⟨gx, 2, none⟩ = some (.int .i64 2) := (blk_cell BKgx.out 2).trans rfl; have hz333 : w306.cell? ⟨gx, 3, none⟩ = some (.int .i64 10) := (blk_cell BKgx.out 3).trans rfl; have hz334 : w306.cell? ⟨gx, 4, none⟩ = some (.int .i64 12) := (blk_cell BKgx.out 4).trans rfl; have hz335 : w306.cell? ⟨gx, 5, none⟩ = some (.int .i64 4) := (blk_cell BKgx.out 5).trans rfl; have hz336 : w306.cell? ⟨gx, 6, none⟩ = some (.int .i64 14) := (blk_cell BKgx.out 6).trans rfl; have hz337 : w306.cell? ⟨gx, 7, none⟩ = some (.int .i64 6) := (blk_cell BKgx.out 7).trans rfl; have hz338 : w306.cell? ⟨gx, 8, none⟩ = some (.int .i64 3) := (blk_cell BKgx.out 8).trans rfl; have hz339 : w306.cell? ⟨gx, 9, none⟩ = some (.int .i64 11) := (blk_cell BKgx.out 9).trans rfl; have hz340 : w306.cell? ⟨gx, 10, none⟩ = some (.int .i64 1) := (blk_cell BKgx.out 10).trans rfl; have hz341 : w306.cell? ⟨gx, 11, none⟩ = some (.int .i64 9) := (blk_cell BKgx.out 11).trans rfl; have hz342 : w306.cell? ⟨gx, 12, none⟩ = some (.int .i64 15) := (blk_cell BKgx.out 12).trans rfl; have hz343 : w306.cell? ⟨gx, 13, none⟩ = some (.int .i64 7) := (blk_cell BKgx.out 13).trans rfl; have hz344 : w306.cell? ⟨gx, 14, none⟩ = some (.int .i64 13) := (blk_cell BKgx.out 14).trans rfl; have hz345 : w306.cell? ⟨gx, 15, none⟩ = some (.int .i64 5) := (blk_cell BKgx.out 15).trans rfl; have hf346 := blk_frozen BKgx.out 0; have hf347 := blk_frozen BKgx.out 1; have hf348 := blk_frozen BKgx.out 2; have hf349 := blk_frozen BKgx.out 3; have hf350 := blk_frozen BKgx.out 4; have hf351 := blk_frozen BKgx.out 5; have hf352 := blk_frozen BKgx.out 6; have hf353 := blk_frozen BKgx.out 7; have hf354 := blk_frozen BKgx.out 8; have hf355 := blk_frozen BKgx.out 9; have hf356 := blk_frozen BKgx.out 10; have hf357 := blk_frozen BKgx.out 11; have hf358 := blk_frozen BKgx.out 12; have hf359 := blk_frozen BKgx.out 13; have hf360 := blk_frozen BKgx.out 14; have hf361 := blk_frozen BKgx.out 15) | (go_at_call 48; refine (impl_imageBy.calls 63 #[.pointer (some ⟨gm, 0, none⟩), .pointer (some ⟨gl, 0, none⟩), .pointer (some ⟨gx, 0, none⟩)] (enters_of Try.func63 (by kernel_rfl) rfl) _ a0_0 a0_1 1 _ ?b0 ?b1 ?b2 ?b3 ?bf (orderImagePix _ gm gl gx a0_0 a0_1 a0_2 _ _ l0_3 a1 (qB BKgm.out) (qB BKgl.out) (qB BKgx.out) (Kd.C_below HR0.out (qW HB.out)) HC0.out V.out k_c.out lv0 lv1)).mono ?_; (case b0 => omega); (case b1 => omega); (case b2 => omega); (case b3 => omega); (case bf => exact HF.out); rintro e w362 ⟨v3, rfl, ho, hb⟩; rw [HYL.out] at ho; have HLB := aM (below_size (qW HB.out)); obtain ⟨Ao, co, eo⟩ := Kd.R_slice ho; subst eo; have HO := aM ho; clear ho; have n364 := bB BKgm hb; have n365 := bB BKgl hb; have n366 := bB BKgr hb; have n367 := bB BKgx hb; have n368 := bS HB hb; clear HB BKgm BKgl BKgr BKgx; have BKgm := n364; have BKgl := n365; have BKgr := n366; have BKgx := n367; have HB := n368; clear n364 n365 n366 n367 n368 hb; have hz369 : w362.cell? ⟨gm, 0, none⟩ = some (.int .i64 a0_0) := (blk_cell BKgm.out 0).trans rfl; have hz370 : w362.cell? ⟨gm, 1, none⟩ = some (.int .i64 a0_1) := (blk_cell BKgm.out 1).trans rfl; have hz371 : w362.cell? ⟨gm, 2, none⟩ = some (.int .i64 a0_2) := (blk_cell BKgm.out 2).trans rfl; have hz372 : w362.cell? ⟨gm, 3, none⟩ = some (.slice A0_3 l0_3.length c0_3) := (blk_cell BKgm.out 3).trans rfl; have hf373 := blk_frozen BKgm.out 0; have hf374 := blk_frozen BKgm.out 1; have hf375 := blk_frozen BKgm.out 2; have hf376 := blk_frozen BKgm.out 3; have hz377 : w362.cell? ⟨gl, 0, none⟩ = some (.int .i64 a1) := (blk_cell BKgl.out 0).trans rfl; have hf378 := blk_frozen BKgl.out 0; have hz379 : w362.cell? ⟨gr, 0, none⟩ = some (.int .i64 0) := (blk_cell BKgr.out 0).trans rfl; have hz380 : w362.cell? ⟨gr, 1, none⟩ = some (.int .i64 0) := (blk_cell BKgr.out 1).trans rfl; have hz381 : w362.cell? ⟨gr, 2, none⟩ = some (.int .i64 0) := (blk_cell BKgr.out 2).trans rfl; have hz382 : w362.cell? ⟨gr, 3, none⟩ = some (.slice none 0 0) := (blk_cell BKgr.out 3).trans rfl; have hf383 := blk_frozen BKgr.out 0; have hf384 := blk_frozen BKgr.out 1; have hf385 := blk_frozen BKgr.out 2; have hf386 := blk_frozen BKgr.out 3; have hz387 : w362.cell? ⟨gx, 0, none⟩ = some (.int .i64 0) := (blk_cell BKgx.out 0).trans rfl; have hz388 : w362.cell? ⟨gx, 1, none⟩ = some (.int .i64 8) := (blk_cell BKgx.out 1).trans rfl; have hz389 : w362.cell? ⟨gx, 2, none⟩ = some (.int .i64 2) := (blk_cell BKgx.out 2).trans rfl; have hz390 : w362.cell? ⟨gx, 3, none⟩ = some (.int .i64 10) := (blk_cell BKgx.out 3).trans rfl; have hz391 : w362.cell? ⟨gx, 4, none⟩ = some (.int .i64 12) := (blk_cell BKgx.out 4).trans rfl; have hz392 : w362.cell? ⟨gx, 5, none⟩ = some (.int .i64 4) := (blk_cell BKgx.out 5).trans rfl; have hz393 : w362.cell? ⟨gx, 6, none⟩ = some (.int .i64 14) := (blk_cell BKgx.out 6).trans rfl; have hz394 : w362.cell? ⟨gx, 7, none⟩ = some (.int .i64 6) := (blk_cell BKgx.out 7).trans rfl; have hz395 : w362.cell? ⟨gx, 8, none⟩ = some (.int .i64 3) := (blk_cell BKgx.out 8).trans rfl; have hz396 : w362.cell? ⟨gx, 9, none⟩ = some (.int .i64 11) := (blk_cell BKgx.out 9).trans rfl; have hz397 : w362.cell? ⟨gx, 10, none⟩ = some (.int .i64 1) := (blk_cell BKgx.out 10).trans rfl; have hz398 : w362.cell? ⟨gx, 11, none⟩ = some (.int .i64 9) := (blk_cell BKgx.out 11).trans rfl; have hz399 : w362.cell? ⟨gx, 12, none⟩ = some (.int .i64 15) := (blk_cell BKgx.out 12).trans rfl; have hz400 : w362.cell? ⟨gx, 13, none⟩ = some (.int .i64 7) := (blk_cell BKgx.out 13).trans rfl; have hz401 : w362.cell? ⟨gx, 14, none⟩ = some (.int .i64 13) := (blk_cell BKgx.out 14).trans rfl; have hz402 : w362.cell? ⟨gx, 15, none⟩ = some (.int .i64 5) := (blk_cell BKgx.out 15).trans rfl; have hf403 := blk_frozen BKgx.out 0; have hf404 := blk_frozen BKgx.out 1; have hf405 := blk_frozen BKgx.out 2; have hf406 := blk_frozen BKgx.out 3; have hf407 := blk_frozen BKgx.out 4; have hf408 := blk_frozen BKgx.out 5; have hf409 := blk_frozen BKgx.out 6; have hf410 := blk_frozen BKgx.out 7; have hf411 := blk_frozen BKgx.out 8; have hf412 := blk_frozen BKgx.out 9; have hf413 := blk_frozen BKgx.out 10; have hf414 := blk_frozen BKgx.out 11; have hf415 := blk_frozen BKgx.out 12; have hf416 := blk_frozen BKgx.out 13; have hf417 := blk_frozen BKgx.out 14; have hf418 := blk_frozen BKgx.out 15))
   refine bodyPost_ret (results_ct rfl _ _ gr 27 #[.int .i64 a0_0, .int .i64 a0_1, .int .i64 1, .slice Ao yl.length co] (0, 0) _ rfl (by exact bP BKgr.out) Try.underlying27 rfl (by kernel_rfl)) rfl ?_
   exact ⟨_, by first | rfl | (simp; done), by rw [← HY.out]; refine qR ?_; exact Kd.R_mono (Kd.R_far (p := ⟨gr, 3, none⟩) (Kd.R_far (p := ⟨gr, 2, none⟩) (Kd.R_far (p := ⟨gr, 1, none⟩) (Kd.R_far (p := ⟨gr, 0, none⟩) (Kd.R_types (Kd.R_lower HO.out HLB.out) BKgr.out (by decide)) (fun _ hk => hk.2) _) (fun _ hk => hk.2) _) (fun _ hk => hk.2) _) (fun _ hk => hk.2) _) (fun _ hk => trivial), by exact qW HB.out⟩
def IsS85 (w0 W : World) (g : Nat) (f0 : List Int) (f1 : Int) : Prop := ∃ A0 c0, W.heap[g]? = some (.cells #[.slice A0 f0.length c0, .int .i64 f1] 85 (0, 0)) ∧ w0.heap.size ≤ g ∧ Kd.C (Kd.int .u8) w0 A0 f0.length f0
theorem IsS85.grown {w0 W : World} {g : Nat} {f0 : List Int} {f1 : Int} {W1 : World} {row : Option Nat} (h : IsS85 w0 W g f0 f1) (hw : W.grownBy W1 row) (hne : some g ≠ row) : IsS85 w0 W1 g f0 f1 := by
 obtain ⟨A0, c0, hb, hg, hr0⟩ := h
 exact ⟨A0, c0, blk_grown hb hw hne, hg, hr0⟩
theorem IsS85.own_neN {w0 W : World} {g : Nat} {f0 : List Int} {f1 : Int} {α : Type} {d : Kd α} {e : Nat} {base : Nat} {ok : Nat → Prop} {v : Value} {xs : List α} (h : IsS85 w0 W g f0 f1) (ho : Kd.N d e W base ok v xs) (ht : e ≠ 85) : some g ≠ v.ownBlock := by
 obtain ⟨A0, c0, hb, hg, hr0⟩ := h
 exact Kd.N_ne ho hb ht
theorem IsS85.fresh {w0 W : World} {g : Nat} {f0 : List Int} {f1 : Int} (h : IsS85 w0 W g f0 f1) : ∀ k, W.heap.size ≤ k → k ≠ g := by
 obtain ⟨A0, c0, hb, hg, hr0⟩ := h
 exact Kd.freshB hb
theorem IsS85.kept {w0 W : World} {g : Nat} {f0 : List Int} {f1 : Int} {W1 : World} {S : Nat → Prop} (h : IsS85 w0 W g f0 f1) (hk : Kept W W1 S) (hne : ¬ S g) : IsS85 w0 W1 g f0 f1 := by
 obtain ⟨A0, c0, hb, hg, hr0⟩ := h
 exact ⟨A0, c0, blk_kept hb hk hne, hg, hr0⟩
theorem IsS85.below {w0 W : World} {g : Nat} {f0 : List Int} {f1 : Int} {W1 : World} (h : IsS85 w0 W g f0 f1) (hw : Below W.heap.size W W1) : IsS85 w0 W1 g f0 f1 := h.grown (grown_of_below hw none) (by simp)
theorem IsS85.alloc {w0 W : World} {g : Nat} {f0 : List Int} {f1 : Int} (h : IsS85 w0 W g f0 f1) (o : Obj) : IsS85 w0 (W.alloc o) g f0 f1 := h.below (below_alloc (Below.refl _ _) o)
theorem IsS85.drewN {w0 W : World} {g : Nat} {f0 : List Int} {f1 : Int} (h : IsS85 w0 W g f0 f1) (m : Nat) : IsS85 w0 (W.drewN m) g f0 f1 := h
theorem IsS85.drew {w0 W : World} {g : Nat} {f0 : List Int} {f1 : Int} (h : IsS85 w0 W g f0 f1) : IsS85 w0 W.drew g f0 f1 := h
theorem IsS85.at_ {w0 W : World} {g : Nat} {f0 : List Int} {f1 : Int} {w' : World} {m : Nat} (hq : W.drewN m = w') (h : IsS85 w0 W g f0 f1) : IsS85 w0 w' g f0 f1 := by subst hq; exact IsS85.drewN h m
theorem IsS85.apart {w0 W : World} {g : Nat} {f0 : List Int} {f1 : Int} {α : Type} {d : Kd α} {e : Nat} {base : Nat} {ok : Nat → Prop} {v : Value} {xs : List α} (h : IsS85 w0 W g f0 f1) (ho : d.R e W base ok v xs) (ht : ∀ q, q ∈ e :: d.E → q ≠ 85) : d.R e W base (fun k => ok k ∧ k ≠ g) v xs := by
 obtain ⟨A0, c0, hb, hg, hr0⟩ := h
 exact Kd.R_types ho hb ht
theorem IsS85.own_ne {w0 W : World} {g : Nat} {f0 : List Int} {f1 : Int} {α : Type} {d : Kd α} {e : Nat} {base : Nat} {ok : Nat → Prop} {v : Value} {xs : List α} (h : IsS85 w0 W g f0 f1) (ho : d.R e W base ok v xs) (ht : e ≠ 85) : some g ≠ v.ownBlock := by
 obtain ⟨A0, c0, hb, hg, hr0⟩ := h
 exact Kd.R_ne ho hb ht
theorem IsS85.apartQ {w0 W : World} {g : Nat} {f0 : List Int} {f1 : Int} {α : Type} {d : Kd α} {e : Nat} {base : Nat} {ok : Nat → Prop} {v : Value} {xs : List α} (h : IsS85 w0 W g f0 f1) (ho : d.Q e W base ok v xs) (ht : ∀ q, q ∈ e :: d.E → q ≠ 85) : d.Q e W base (fun k => ok k ∧ k ≠ g) v xs := by
 obtain ⟨A0, c0, hb, hg, hr0⟩ := h
 exact Kd.Q_types ho hb ht
theorem IsS85.own_neQ {w0 W : World} {g : Nat} {f0 : List Int} {f1 : Int} {α : Type} {d : Kd α} {e : Nat} {base : Nat} {ok : Nat → Prop} {v : Value} {xs : List α} (h : IsS85 w0 W g f0 f1) (ho : d.Q e W base ok v xs) (ht : e ≠ 85) : some g ≠ v.ownBlock := by
 obtain ⟨A0, c0, hb, hg, hr0⟩ := h
 exact Kd.Q_ne ho hb ht
theorem IsS85.apartS {w0 W : World} {g : Nat} {f0 : List Int} {f1 : Int} {α : Type} {d : Kd α} {e : Nat} {base : Nat} {ok : Nat → Prop} {v : Value} {xs : List α} (h : IsS85 w0 W g f0 f1) (ho : d.S e W base ok v xs) (ht : ∀ q, q ∈ e :: d.E → q ≠ 85) : d.S e W base (fun k => ok k ∧ k ≠ g) v xs := by
 obtain ⟨A0, c0, hb, hg, hr0⟩ := h
 exact Kd.S_types ho hb ht
theorem IsS85.own_neS {w0 W : World} {g : Nat} {f0 : List Int} {f1 : Int} {α : Type} {d : Kd α} {e : Nat} {base : Nat} {ok : Nat → Prop} {v : Value} {xs : List α} (h : IsS85 w0 W g f0 f1) (ho : d.S e W base ok v xs) (ht : e ≠ 85) : some g ≠ v.ownBlock := by
 obtain ⟨A0, c0, hb, hg, hr0⟩ := h
 exact Kd.S_ne ho hb ht
theorem IsS85.lt {w0 W : World} {g : Nat} {f0 : List Int} {f1 : Int} (h : IsS85 w0 W g f0 f1) : g < W.heap.size := by
 obtain ⟨A0, c0, hb, hg, hr0⟩ := h
 exact blk_lt hb
theorem IsS85.ge {w0 W : World} {g : Nat} {f0 : List Int} {f1 : Int} (h : IsS85 w0 W g f0 f1) : w0.heap.size ≤ g := by
 obtain ⟨A0, c0, hb, hg, hr0⟩ := h
 exact hg
theorem IsS85.ne_blk {w0 W : World} {g : Nat} {f0 : List Int} {f1 : Int} {a : Nat} {cs : Array Value} {t : TypeId} {fr : Nat × Nat} (h : IsS85 w0 W g f0 f1) (hb2 : W.heap[a]? = some (.cells cs t fr)) (ht : t ≠ 85) : g ≠ a := by
 obtain ⟨A0, c0, hb, hg, hr0⟩ := h
 rintro rfl
 rw [hb] at hb2
 injection hb2 with hb2
 injection hb2 with _ ht2
 exact ht ht2.symm
theorem IsS85.far {w0 W : World} {g : Nat} {f0 : List Int} {f1 : Int} {p : Addr} (h : IsS85 w0 W g f0 f1) (hne : g ≠ p.block) (u : Value) : IsS85 w0 (W.setCell p u) g f0 f1 := by
 obtain ⟨A0, c0, hb, hg, hr0⟩ := h
 exact ⟨A0, c0, blk_far hb hne u, hg, hr0⟩
theorem cellS85_0 {W : World} {g : Nat} {A0 : Option Addr} {c0 : Nat} {f0 : List Int} {f1 : Int} (h : W.heap[g]? = some (.cells #[.slice A0 f0.length c0, .int .i64 f1] 85 (0, 0))) : W.cell? ⟨g, 0, none⟩ = some (.slice A0 f0.length c0) := (blk_cell h 0).trans rfl
theorem cellS85_1 {W : World} {g : Nat} {A0 : Option Addr} {c0 : Nat} {f0 : List Int} {f1 : Int} (h : W.heap[g]? = some (.cells #[.slice A0 f0.length c0, .int .i64 f1] 85 (0, 0))) : W.cell? ⟨g, 1, none⟩ = some (.int .i64 f1) := (blk_cell h 1).trans rfl
theorem IsS85.set_1 {w0 W : World} {g : Nat} {f0 : List Int} {f1 : Int} (h : IsS85 w0 W g f0 f1) (x : Int) : IsS85 w0 (W.setCell ⟨g, 1, none⟩ (.int .i64 x)) g f0 x := by
 obtain ⟨A0, c0, hb, hg, hr0⟩ := h
 exact ⟨A0, c0, by simpa using blk_set hb 1 (.int .i64 x), hg, hr0⟩
theorem IsS85.new (w0 W : World) (A0 : Option Addr) (c0 : Nat) (f0 : List Int) (f1 : Int) (hB : Below w0.heap.size w0 W) (hr0 : Kd.C (Kd.int .u8) w0 A0 f0.length f0) : IsS85 w0 (W.alloc (.cells #[.slice A0 f0.length c0, .int .i64 f1] 85)) W.heap.size f0 f1 := ⟨A0, c0, by simpa using heap_alloc_new W _, hB.size, hr0⟩
theorem farA85 {w0 W : World} {g : Nat} {f0 : List Int} {f1 : Int} {g2 j : Nat} {u : Value} (h : IsS85 w0 W g f0 f1) (hn : Aside0 (g ≠ g2)) : IsS85 w0 (W.setCell ⟨g2, j, none⟩ u) g f0 f1 := IsS85.far h hn.out u
theorem iS85 {w0 W W2 : World} {g : Nat} {f0 : List Int} {f1 : Int} {f0' : List Int} {f1' : Int} (a : IsS85 w0 W g f0 f1) (f : IsS85 w0 W g f0 f1 → IsS85 w0 W2 g f0' f1' := by intro h_; repeat (first | (with_reducible first | exact h_ | apply IsS85.alloc | apply IsS85.drewN | apply IsS85.drew | apply IsS85.set_1 | (refine farA85 ?_ ?_; rotate_left; assumption)) | exact h_)) : IsS85 w0 W2 g f0' f1' := f a
theorem wS85 {n : Nat} {w w' W : World} (a : Below n w w') (f : Below n w w' → Below n w W := by intro h_; repeat (first | (with_reducible first | exact h_ | apply below_alloc | apply pw_below_drewN | apply below_drew1 | (refine below_set ?_ ?_; rotate_left; exact IsS85.ge (Aside0.out (by assumption))) | (refine below_setA ?_ ?_; rotate_left; assumption)) | exact h_)) : Below n w W := f a
def spec_newReader.f (l0 : List Int) : Option (List Int × Int) := if (l0.length : Int) > 2000 then (if 2000 ≤ (l0.length : Int) then (some (l0.take 2000, 0)) else (none)) else (some (l0, 0))
set_option maxHeartbeats 8000000 in
set_option maxRecDepth 100000 in
theorem spec_newReader.calls (A0 : Option Addr) (c0 : Nat) (l0 : List Int) (r1 : List Int) (r2 : Int) (w0 w : World) (hB : Below w0.heap.size w0 w) (hr0 : Kd.C (Kd.int .u8) w0 A0 l0.length l0) (hc0 : l0.length ≤ c0) (h : spec_newReader.f l0 = some (r1, r2)) :
  Calls Try.prog 42 #[.slice A0 l0.length c0] w fun e w' => ∃ g_ : Nat, e = .returned (.pointer (some ⟨g_, 0, none⟩)) ∧ IsS85 w0 w' g_ r1 r2 ∧ Below w0.heap.size w0 w' ∧ Below w.heap.size w w' := by
 have hu85 := Try.underlying85
 have HR0 := aM hr0
 have HC0 := aM hc0
 clear hr0 hc0
 have HBW := aM (Below.refl w.heap.size w)
 have HW0 := aM hB.size
 have HB := aM hB
 clear hB
 unfold spec_newReader.f at h
 have H := h
 clear h
 by_cases c2 : (l0.length : Int) > 2000
 rotate_left
 ·rw [if_neg c2] at H
  have c2b0 : decide (2000 < (l0.length : Int)) = false := decide_eq_false c2
  have c2b1 : decide (2000 < l0.length) = false := decide_eq_false (by omega)
  clear c2
  simp only [Option.some.injEq, Prod.mk.injEq] at H
  obtain ⟨rfl, rfl⟩ := H
  go_enter Try.func42, Try.ntmps42
  go_wp2_with (first | ((with_reducible refine gate_dst (N := 10) rfl ?_); refine bxE (N := 10) (cs := #[.slice A0 l0.length c0, .int .i64 0]) (t := 85) ?_; intro gb103 hg w6 hbox hb; replace HB := bS HB hb; have BK103 := aM (hbox); have GW103 := aM ((by rw [hg]; exact (below_size (qW HBW.out)) : w.heap.size ≤ gb103)); have GE103 := aM ((Nat.le_trans HW0.out (by rw [hg]; exact (below_size (qW HBW.out)) : w.heap.size ≤ gb103) : w0.heap.size ≤ gb103)); replace HBW := aM (below_step HBW.out hb); clear hb hbox hg))
  go_ret
  exact ⟨_, rfl, (show IsS85 w0 _ gb103 l0 0 from ⟨_, _, by refine qB ?_; exact BK103.out, GE103.out, HR0.out⟩), by exact qW HB.out, by exact qW HBW.out⟩
 rw [if_pos c2] at H
 have c2b0 : decide (2000 < (l0.length : Int)) = true := decide_eq_true c2
 have c2b1 : decide (2000 < l0.length) = true := decide_eq_true (by omega)
 clear c2
 replace H := iS H
 obtain ⟨c3, H⟩ := H
 have c3b0 := eq_true c3
 have c3b1 : decide (2000 ≤ (l0.length : Int)) = true := decide_eq_true c3
 clear c3
 simp only [Option.some.injEq, Prod.mk.injEq] at H
 obtain ⟨rfl, rfl⟩ := H
 obtain ⟨i04, hi04, _, hsz4, _⟩ := info_parts info5
 obtain ⟨hcut4, hA4, hC4⟩ := print_take_of (P := Try.prog) (Value.int .u8) 0 22 5 .i64 Try.underlying22 hi04 hsz4 A0 c0 l0 2000 (by omega) oD HC0.out
 have HR101 := aM (Kd.C_of_reads (h1 := fun _ => rfl) (hA4 _ (Kd.reads_of_C HR0.out)))
 have HC101 := aM hC4
 clear hA4 hC4 hi04 hsz4
 go_enter Try.func42, Try.ntmps42
 go_wp2_with (first | ((with_reducible refine gate_dst (N := 10) rfl ?_); refine bxE (N := 10) (cs := #[.slice A0 (l0.take 2000).length c0, .int .i64 0]) (t := 85) ?_; intro gb102 hg w5 hbox hb; replace HB := bS HB hb; have BK102 := aM (hbox); have GW102 := aM ((by rw [hg]; exact (below_size (qW HBW.out)) : w.heap.size ≤ gb102)); have GE102 := aM ((Nat.le_trans HW0.out (by rw [hg]; exact (below_size (qW HBW.out)) : w.heap.size ≤ gb102) : w0.heap.size ≤ gb102)); replace HBW := aM (below_step HBW.out hb); clear hb hbox hg))
 go_ret
 exact ⟨_, rfl, (show IsS85 w0 _ gb102 (l0.take 2000) 0 from ⟨_, _, by refine qB ?_; exact BK102.out, GE102.out, HR101.out⟩), by exact qW HB.out, by exact qW HBW.out⟩
def spec_reader_pick.j0 : Nat → Int → Bool → List Int → Int → Option (Int × Int)
 | 0, _, _, _, _ => none
 | k + 1, x1, x24, x1000, x1001 => if x24 = true then (some (0, x1001)) else (if (wrap64 (x1001 - 1)) < (x1000.length : Int) then (if 0 ≤ (wrap64 (x1001 - 1)) then (if x1 = 0 then (none) else (some (Int.tmod (wrap64 (rd x1000 (wrap64 (x1001 - 1)))) x1, x1001))) else (none)) else (if (x1000.length : Int) = 0 then (none) else (if 0 ≤ (Int.tmod (wrap64 (x1001 - 1)) (x1000.length : Int)) then (if (Int.tmod (wrap64 (x1001 - 1)) (x1000.length : Int)) < (x1000.length : Int) then (if 0 ≤ (Int.tmod (wrap64 ((wrap64 ((wrap64 (x1001 - 1)) * 7)) + 3)) (x1000.length : Int)) then (if (Int.tmod (wrap64 ((wrap64 ((wrap64 (x1001 - 1)) * 7)) + 3)) (x1000.length : Int)) < (x1000.length : Int) then (if x1 = 0 then (none) else (some (Int.tmod (Go.bits .xor .i64 (wrap64 ((wrap64 ((wrap64 ((wrap64 ((wrap64 (rd x1000 (Int.tmod (wrap64 (x1001 - 1)) (x1000.length : Int)))) * 131)) + (wrap64 ((wrap64 (rd x1000 (Int.tmod (wrap64 ((wrap64 ((wrap64 (x1001 - 1)) * 7)) + 3)) (x1000.length : Int)))) * 1117)))) + (wrap64 ((wrap64 (x1001 - 1)) * 29)))) + (wrap64 ((wrap64 (Int.tdiv (wrap64 (x1001 - 1)) (x1000.length : Int))) * 53)))) (wrap64 (Int.tdiv (wrap64 ((wrap64 ((wrap64 ((wrap64 ((wrap64 (rd x1000 (Int.tmod (wrap64 (x1001 - 1)) (x1000.length : Int)))) * 131)) + (wrap64 ((wrap64 (rd x1000 (Int.tmod (wrap64 ((wrap64 ((wrap64 (x1001 - 1)) * 7)) + 3)) (x1000.length : Int)))) * 1117)))) + (wrap64 ((wrap64 (x1001 - 1)) * 29)))) + (wrap64 ((wrap64 (Int.tdiv (wrap64 (x1001 - 1)) (x1000.length : Int))) * 53)))) 64))) x1, x1001))) else (none)) else (none)) else (none)) else (none))))
def spec_reader_pick.f (k : Nat) (s0_0 : List Int) (s0_1 : Int) (a1 : Int) : Option (Int × Int) := if a1 < 1 then (spec_reader_pick.j0 k a1 true s0_0 (wrap64 (s0_1 + 1))) else (spec_reader_pick.j0 k a1 ((s0_0.length : Int) == 0) s0_0 (wrap64 (s0_1 + 1)))
theorem spec_reader_pick.mono_l : ∀ k, (∀ y0 y1 y2 y3, LeO (spec_reader_pick.j0 k y0 y1 y2 y3) (spec_reader_pick.j0 (k + 1) y0 y1 y2 y3))
 | 0 => fun _ _ _ _ r h => by simp [spec_reader_pick.j0] at h
 | k + 1 => by
  have ih0 := spec_reader_pick.mono_l k
  ·intro y0 y1 y2 y3
   unfold spec_reader_pick.j0
   repeat' first | (with_reducible first | exact ih0 _ _ _ _ | exact lR | exact lN | refine lI ?_ ?_ | refine lB ?_ fun _ => ?_) | exact ih0 _ _ _ _ | exact lN | refine lI ?_ ?_ | refine lB ?_ fun _ => ?_
theorem spec_reader_pick.mono : ∀ a0 a1 a2 k, LeO (spec_reader_pick.f k a0 a1 a2) (spec_reader_pick.f (k + 1) a0 a1 a2) := by
 intro a0 a1 a2 k
 have ih0 := spec_reader_pick.mono_l k
 unfold spec_reader_pick.f
 repeat' first | (with_reducible first | exact ih0 _ _ _ _ | exact lR | exact lN | refine lI ?_ ?_ | refine lB ?_ fun _ => ?_) | exact ih0 _ _ _ _ | exact lN | refine lI ?_ ?_ | refine lB ?_ fun _ => ?_
set_option maxHeartbeats 8000000 in
set_option maxRecDepth 100000 in
theorem spec_reader_pick.calls (k : Nat) (g : Nat) (s0_0 : List Int) (s0_1 : Int) (a1 : Int) (r1 : Int) (r2 : Int) (w0 w : World) (hI : IsS85 w0 w g s0_0 s0_1) (hB : Below w0.heap.size w0 w) (h : spec_reader_pick.f k s0_0 s0_1 a1 = some (r1, r2)) :
  Calls Try.prog 45 #[.pointer (some ⟨g, 0, none⟩), .int .i64 a1] w fun e w' => e = .returned (.int .i64 r1) ∧ IsS85 w0 w' g s0_0 r2 ∧ Below w0.heap.size w0 w' ∧ KeepBut w w' g none := by
 have HI0 := aM hI
 have HK := aM (KeepBut.refl w g none)
 have HL := aM hB.size
 clear hI
 have HW0 := aM hB.size
 have HB := aM hB
 clear hB
 unfold spec_reader_pick.f at h
 have H := h
 clear h
 have HC3 := aM H
 clear H
 obtain ⟨ASz4_0, cSz4_0, HGz4, hgz4, HSz4_0⟩ := HI0.out
 have hcz4_0 := cellS85_0 HGz4
 have hcz4_1 := cellS85_1 HGz4
 have hfz4_1 := blk_frozen HGz4 1
 clear HGz4 hgz4
 go_enter Try.func45, Try.ntmps45
 go_upto_region 2 with (fail)
 repeat (go_quiet (fail); go_upto_region 2 with (fail))
 go_cut [24] (fun v24 wc => ∃ (kq : Nat) (x24_2 : Bool), v24 = .bool x24_2 ∧ Aside0 (spec_reader_pick.j0 kq a1 x24_2 s0_0 (wrap64 (s0_1 + 1)) = some (r1, r2)) ∧ Aside0 (kq ≤ k) ∧ Aside0 (IsS85 w0 wc g s0_0 (wrap64 (s0_1 + 1))) ∧ Aside0 (KeepBut w wc g none) ∧ Aside0 (Below w0.heap.size w0 wc))
 case first =>
  have H := HC3.out
  clear HC3
  by_cases c5 : a1 < 1
  ·rw [if_pos c5] at H
   have c5b0 : decide (a1 < 1) = true := decide_eq_true c5
   clear c5
   (first | rw [c5b0] | (simp only [i64_w, i32_w]; rw [c5b0]) | skip)
   have H' := aM H
   clear H
   go_wp2
   repeat (go_quiet (fail); try go_wp2)
   go_meet
   case rel => exact ⟨_, (true), qE, H', ⟨by first | omega | exact Nat.le_refl _⟩, ⟨iS85 HI0.out⟩, ⟨kB HK.out⟩, ⟨wS85 HB.out⟩⟩
  rw [if_neg c5] at H
  have c5b0 : decide (a1 < 1) = false := decide_eq_false c5
  clear c5
  (first | rw [c5b0] | (simp only [i64_w, i32_w]; rw [c5b0]) | skip)
  have H' := aM H
  clear H
  obtain ⟨ASz6_0, cSz6_0, HGz6, hgz6, HSz6_0⟩ := HI0.out
  have hcz6_0 := cellS85_0 HGz6
  have hcz6_1 := cellS85_1 HGz6
  have hfz6_1 := blk_frozen HGz6 1
  clear HGz6 hgz6
  go_wp2
  repeat (go_quiet (fail); try go_wp2)
  go_meet
  case rel => exact ⟨_, (((s0_0.length : Int) == 0)), qE, H', ⟨by first | omega | exact Nat.le_refl _⟩, ⟨iS85 HI0.out⟩, ⟨kB HK.out⟩, ⟨wS85 HB.out⟩⟩
 case rest =>
  clear HC3
  try clear c5
  try clear c5b0
  try clear hcz4_0 hcz4_1 hfz4_1
  try clear hcz6_0 hcz6_1 hfz6_1
  obtain ⟨kq, x24_2, rfl, HA, HJ2, HI0, HK, HB⟩ := hcut
  cases kq with
  | zero => exact absurd HA.out (by simp [spec_reader_pick.j0])
  | succ kj2 =>
   have H := HA.out
   clear HA
   simp only [spec_reader_pick.j0] at H
   by_cases c7 : x24_2 = true
   ·subst c7
    have H1 : (some (0, (wrap64 (s0_1 + 1)))) = some (r1, r2) := by rw [if_pos rfl] at H; exact H
    clear H
    have H := H1
    clear H1
    simp only [Option.some.injEq, Prod.mk.injEq] at H
    obtain ⟨rfl, rfl⟩ := H
    go_wp2
    repeat (go_quiet (fail); try go_wp2)
    go_ret
    exact ⟨qX, iS85 HI0.out, wS85 HB.out, kB HK.out⟩
   replace c7 := Bool.eq_false_iff.mpr c7
   subst c7
   have H1 : (if (wrap64 ((wrap64 (s0_1 + 1)) - 1)) < (s0_0.length : Int) then (if 0 ≤ (wrap64 ((wrap64 (s0_1 + 1)) - 1)) then (if a1 = 0 then (none) else (some (Int.tmod (wrap64 (rd s0_0 (wrap64 ((wrap64 (s0_1 + 1)) - 1)))) a1, (wrap64 (s0_1 + 1))))) else (none)) else (if (s0_0.length : Int) = 0 then (none) else (if 0 ≤ (Int.tmod (wrap64 ((wrap64 (s0_1 + 1)) - 1)) (s0_0.length : Int)) then (if (Int.tmod (wrap64 ((wrap64 (s0_1 + 1)) - 1)) (s0_0.length : Int)) < (s0_0.length : Int) then (if 0 ≤ (Int.tmod (wrap64 ((wrap64 ((wrap64 ((wrap64 (s0_1 + 1)) - 1)) * 7)) + 3)) (s0_0.length : Int)) then (if (Int.tmod (wrap64 ((wrap64 ((wrap64 ((wrap64 (s0_1 + 1)) - 1)) * 7)) + 3)) (s0_0.length : Int)) < (s0_0.length : Int) then (if a1 = 0 then (none) else (some (Int.tmod (Go.bits .xor .i64 (wrap64 ((wrap64 ((wrap64 ((wrap64 ((wrap64 (rd s0_0 (Int.tmod (wrap64 ((wrap64 (s0_1 + 1)) - 1)) (s0_0.length : Int)))) * 131)) + (wrap64 ((wrap64 (rd s0_0 (Int.tmod (wrap64 ((wrap64 ((wrap64 ((wrap64 (s0_1 + 1)) - 1)) * 7)) + 3)) (s0_0.length : Int)))) * 1117)))) + (wrap64 ((wrap64 ((wrap64 (s0_1 + 1)) - 1)) * 29)))) + (wrap64 ((wrap64 (Int.tdiv (wrap64 ((wrap64 (s0_1 + 1)) - 1)) (s0_0.length : Int))) * 53)))) (wrap64 (Int.tdiv (wrap64 ((wrap64 ((wrap64 ((wrap64 ((wrap64 (rd s0_0 (Int.tmod (wrap64 ((wrap64 (s0_1 + 1)) - 1)) (s0_0.length : Int)))) * 131)) + (wrap64 ((wrap64 (rd s0_0 (Int.tmod (wrap64 ((wrap64 ((wrap64 ((wrap64 (s0_1 + 1)) - 1)) * 7)) + 3)) (s0_0.length : Int)))) * 1117)))) + (wrap64 ((wrap64 ((wrap64 (s0_1 + 1)) - 1)) * 29)))) + (wrap64 ((wrap64 (Int.tdiv (wrap64 ((wrap64 (s0_1 + 1)) - 1)) (s0_0.length : Int))) * 53)))) 64))) a1, (wrap64 (s0_1 + 1))))) else (none)) else (none)) else (none)) else (none)))) = some (r1, r2) := by rw [if_neg (show ¬ (false = true) by decide)] at H; exact H
   clear H
   have H := H1
   clear H1
   by_cases c8 : (wrap64 ((wrap64 (s0_1 + 1)) - 1)) < (s0_0.length : Int)
   ·rw [if_pos c8] at H
    have c8b0 : decide ((wrap64 ((wrap64 (s0_1 + 1)) - 1)) < (s0_0.length : Int)) = true := decide_eq_true c8
    clear c8
    obtain ⟨ji9, hji9⟩ : ∃ j_ : Int, (wrap64 ((wrap64 (s0_1 + 1)) - 1)) = j_ := ⟨_, rfl⟩
    replace H : (if 0 ≤ (ji9) then (if a1 = 0 then (none) else (some (Int.tmod (wrap64 (rd s0_0 (ji9))) a1, (wrap64 (s0_1 + 1))))) else (none)) = some (r1, r2) := by first | (rw [hji9] at H; exact H) | (simp only [hji9] at H ⊢; exact H)
    (try rw [hji9] at c8b0)
    have hji9w : (IntKind.i64.wrap ((wrap64 (s0_1 + 1)) - 1)) = ji9 := (i64_w _).trans hji9
    replace H := iD H
    obtain ⟨c10b0, H⟩ := H
    by_cases c11 : a1 = 0
    ·rw [if_pos c11] at H
     exact absurd H (by simp)
    rw [if_neg c11] at H
    have c11b0 : (a1 == 0) = false := beq_eq_false_iff_ne.mpr c11
    have c11b1 : (a1 != 0) = true := bne_iff_ne.mpr c11
    simp only [Option.some.injEq, Prod.mk.injEq] at H
    obtain ⟨rfl, rfl⟩ := H
    obtain ⟨ASz12_0, cSz12_0, HGz12, hgz12, HSz12_0⟩ := HI0.out
    have hcz12_0 := cellS85_0 HGz12
    have hcz12_1 := cellS85_1 HGz12
    have hfz12_1 := blk_frozen HGz12 1
    clear HGz12 hgz12
    obtain ⟨ad133, e133, hx133_0⟩ := Kd.at_int HSz12_0 (ji9) oD oD
    cases e133
    replace hx133_0 := pw_cell_below HB.out hx133_0
    have p133 := eq_true (oD : 0 ≤ ((ji9) : Int))
    have q133 := eq_true (oD : (ji9) < (s0_0.length : Int))
    go_wp2
    repeat (go_quiet (fail); try go_wp2)
    go_ret
    exact ⟨by first | rfl | (simp [errW_none, errW_some] <;> rfl) | (simp only [← hji9]; first | rfl | (simp [errW_none, errW_some] <;> rfl)) | (simp [*, errW_none, errW_some] <;> rfl), iS85 HI0.out, wS85 HB.out, kB HK.out⟩
   rw [if_neg c8] at H
   have c8b0 : decide ((wrap64 ((wrap64 (s0_1 + 1)) - 1)) < (s0_0.length : Int)) = false := decide_eq_false c8
   clear c8
   by_cases c13 : (s0_0.length : Int) = 0
   ·rw [if_pos c13] at H
    exact absurd H (by simp)
   rw [if_neg c13] at H
   have c13b0 : ((s0_0.length : Int) == 0) = false := beq_eq_false_iff_ne.mpr c13
   have c13b1 : ((s0_0.length : Int) != 0) = true := bne_iff_ne.mpr c13
   have c13b2 : ¬ (s0_0 = []) := fun h_ => c13 (by rw [h_]; rfl)
   obtain ⟨ji14, hji14⟩ : ∃ j_ : Int, (Int.tmod (wrap64 ((wrap64 (s0_1 + 1)) - 1)) (s0_0.length : Int)) = j_ := ⟨_, rfl⟩
   replace H : (if 0 ≤ (ji14) then (if (ji14) < (s0_0.length : Int) then (if 0 ≤ (Int.tmod (wrap64 ((wrap64 ((wrap64 ((wrap64 (s0_1 + 1)) - 1)) * 7)) + 3)) (s0_0.length : Int)) then (if (Int.tmod (wrap64 ((wrap64 ((wrap64 ((wrap64 (s0_1 + 1)) - 1)) * 7)) + 3)) (s0_0.length : Int)) < (s0_0.length : Int) then (if a1 = 0 then (none) else (some (Int.tmod (Go.bits .xor .i64 (wrap64 ((wrap64 ((wrap64 ((wrap64 ((wrap64 (rd s0_0 (ji14))) * 131)) + (wrap64 ((wrap64 (rd s0_0 (Int.tmod (wrap64 ((wrap64 ((wrap64 ((wrap64 (s0_1 + 1)) - 1)) * 7)) + 3)) (s0_0.length : Int)))) * 1117)))) + (wrap64 ((wrap64 ((wrap64 (s0_1 + 1)) - 1)) * 29)))) + (wrap64 ((wrap64 (Int.tdiv (wrap64 ((wrap64 (s0_1 + 1)) - 1)) (s0_0.length : Int))) * 53)))) (wrap64 (Int.tdiv (wrap64 ((wrap64 ((wrap64 ((wrap64 ((wrap64 (rd s0_0 (ji14))) * 131)) + (wrap64 ((wrap64 (rd s0_0 (Int.tmod (wrap64 ((wrap64 ((wrap64 ((wrap64 (s0_1 + 1)) - 1)) * 7)) + 3)) (s0_0.length : Int)))) * 1117)))) + (wrap64 ((wrap64 ((wrap64 (s0_1 + 1)) - 1)) * 29)))) + (wrap64 ((wrap64 (Int.tdiv (wrap64 ((wrap64 (s0_1 + 1)) - 1)) (s0_0.length : Int))) * 53)))) 64))) a1, (wrap64 (s0_1 + 1))))) else (none)) else (none)) else (none)) else (none)) = some (r1, r2) := by first | (rw [hji14] at H; exact H) | (simp only [hji14] at H ⊢; exact H)
   replace H := iD H
   obtain ⟨c15b0, H⟩ := H
   replace H := iD H
   obtain ⟨c16b0, H⟩ := H
   obtain ⟨ji17, hji17⟩ : ∃ j_ : Int, (Int.tmod (wrap64 ((wrap64 ((wrap64 ((wrap64 (s0_1 + 1)) - 1)) * 7)) + 3)) (s0_0.length : Int)) = j_ := ⟨_, rfl⟩
   replace H : (if 0 ≤ (ji17) then (if (ji17) < (s0_0.length : Int) then (if a1 = 0 then (none) else (some (Int.tmod (Go.bits .xor .i64 (wrap64 ((wrap64 ((wrap64 ((wrap64 ((wrap64 (rd s0_0 (ji14))) * 131)) + (wrap64 ((wrap64 (rd s0_0 (ji17))) * 1117)))) + (wrap64 ((wrap64 ((wrap64 (s0_1 + 1)) - 1)) * 29)))) + (wrap64 ((wrap64 (Int.tdiv (wrap64 ((wrap64 (s0_1 + 1)) - 1)) (s0_0.length : Int))) * 53)))) (wrap64 (Int.tdiv (wrap64 ((wrap64 ((wrap64 ((wrap64 ((wrap64 (rd s0_0 (ji14))) * 131)) + (wrap64 ((wrap64 (rd s0_0 (ji17))) * 1117)))) + (wrap64 ((wrap64 ((wrap64 (s0_1 + 1)) - 1)) * 29)))) + (wrap64 ((wrap64 (Int.tdiv (wrap64 ((wrap64 (s0_1 + 1)) - 1)) (s0_0.length : Int))) * 53)))) 64))) a1, (wrap64 (s0_1 + 1))))) else (none)) else (none)) = some (r1, r2) := by first | (rw [hji17] at H; exact H) | (simp only [hji17] at H ⊢; exact H)
   replace H := iD H
   obtain ⟨c18b0, H⟩ := H
   replace H := iD H
   obtain ⟨c19b0, H⟩ := H
   by_cases c20 : a1 = 0
   ·rw [if_pos c20] at H
    exact absurd H (by simp)
   rw [if_neg c20] at H
   have c20b0 : (a1 == 0) = false := beq_eq_false_iff_ne.mpr c20
   have c20b1 : (a1 != 0) = true := bne_iff_ne.mpr c20
   simp only [Option.some.injEq, Prod.mk.injEq] at H
   obtain ⟨rfl, rfl⟩ := H
   obtain ⟨ASz21_0, cSz21_0, HGz21, hgz21, HSz21_0⟩ := HI0.out
   have hcz21_0 := cellS85_0 HGz21
   have hcz21_1 := cellS85_1 HGz21
   have hfz21_1 := blk_frozen HGz21 1
   clear HGz21 hgz21
   obtain ⟨ad134, e134, hx134_0⟩ := Kd.at_int HSz21_0 (ji14) oD oD
   cases e134
   replace hx134_0 := pw_cell_below HB.out hx134_0
   have p134 := eq_true (oD : 0 ≤ ((ji14) : Int))
   have q134 := eq_true (oD : (ji14) < (s0_0.length : Int))
   obtain ⟨ad135, e135, hx135_0⟩ := Kd.at_int HSz21_0 (ji17) oD oD
   obtain rfl : ad134 = ad135 := (by injection e135)
   replace hx135_0 := pw_cell_below HB.out hx135_0
   have p135 := eq_true (oD : 0 ≤ ((ji17) : Int))
   have q135 := eq_true (oD : (ji17) < (s0_0.length : Int))
   go_wp2
   repeat (go_quiet (fail); try go_wp2)
   go_ret
   exact ⟨by first | rfl | (simp [errW_none, errW_some] <;> rfl) | (simp only [← hji14, ← hji17]; first | rfl | (simp [errW_none, errW_some] <;> rfl)) | (simp [*, errW_none, errW_some] <;> rfl), iS85 HI0.out, wS85 HB.out, kB HK.out⟩
def spec_reader_one.f (k : Nat) (s0_0 : List Int) (s0_1 : Int) (l1 : List Int) : Option (Int × Int) := (spec_reader_pick.f k s0_0 s0_1 (l1.length : Int)).bind fun bt136 => (if 0 ≤ bt136.1 then (if bt136.1 < (l1.length : Int) then (some (rd l1 bt136.1, bt136.2)) else (none)) else (none))
theorem spec_reader_one.mono : ∀ a0 a1 a2 k, LeO (spec_reader_one.f k a0 a1 a2) (spec_reader_one.f (k + 1) a0 a1 a2) := by
 intro a0 a1 a2 k
 unfold spec_reader_one.f
 repeat' first | (with_reducible first | exact spec_reader_pick.mono _ _ _ _ | exact lR | exact lN | refine lI ?_ ?_ | refine lB ?_ fun _ => ?_) | exact spec_reader_pick.mono _ _ _ _ | exact lN | refine lI ?_ ?_ | refine lB ?_ fun _ => ?_
set_option maxHeartbeats 8000000 in
set_option maxRecDepth 100000 in
theorem spec_reader_one.calls (k : Nat) (g : Nat) (s0_0 : List Int) (s0_1 : Int) (A1 : Option Addr) (c1 : Nat) (l1 : List Int) (r1 : Int) (r2 : Int) (w0 w : World) (hI : IsS85 w0 w g s0_0 s0_1) (hB : Below w0.heap.size w0 w) (hr1 : Kd.C (Kd.int .i64) w A1 l1.length l1) (hc1 : l1.length ≤ c1) (hf1 : ∀ ad, A1 = some ad → 0 < l1.length → ad.block ≠ g) (h : spec_reader_one.f k s0_0 s0_1 l1 = some (r1, r2)) :
  Calls Try.prog 98 #[.pointer (some ⟨g, 0, none⟩), .slice A1 l1.length c1] w fun e w' => e = .returned (.int .i64 r1) ∧ IsS85 w0 w' g s0_0 r2 ∧ Below w0.heap.size w0 w' ∧ KeepBut w w' g none := by
 have HR1 := aM hr1
 have HC1 := aM hc1
 clear hr1 hc1
 have HI0 := aM hI
 have HK := aM (KeepBut.refl w g none)
 have HL := aM hB.size
 clear hI
 have HW0 := aM hB.size
 have HB := aM hB
 clear hB
 unfold spec_reader_one.f at h
 have H := h
 clear h
 replace H := Option.bind_eq_some_iff.mp H
 obtain ⟨⟨t136, t137⟩, A30, H⟩ := H
 replace H : (if 0 ≤ t136 then (if t136 < (l1.length : Int) then (some (rd l1 t136, t137)) else (none)) else (none)) = some (r1, r2) := H
 have A3 := aM A30
 clear A30
 replace H := iD H
 obtain ⟨c4b0, H⟩ := H
 replace H := iD H
 obtain ⟨c5b0, H⟩ := H
 simp only [Option.some.injEq, Prod.mk.injEq] at H
 obtain ⟨rfl, rfl⟩ := H
 go_enter Try.func98, Try.ntmps98
 go_wp2_with (first | ((with_reducible refine gate_callee (f := 45) rfl ?_); refine gL (some 9) Try.func45 #[.pointer (some ⟨g, 0, none⟩), .int .i64 (l1.length : Int)] ?_; (with_reducible refine (spec_reader_pick.calls k g s0_0 s0_1 (l1.length : Int) t136 t137 w0 _ ?side1 ?side2 A3.out).mono ?_); (case side1 => exact iS85 HI0.out); (case side2 => exact wS85 HB.out); rintro e w6 ⟨rfl, hi, hb, hk⟩; refine ⟨_, rfl, ?_⟩; replace HK := aM (KeepBut.trans (kB HK.out) hk (.inl rfl)); replace HB := aM (hb); replace HI0 := aM (hi); clear hb hk hi; have p138 : 0 ≤ (t136 : Int) := oD; have q138 : t136 < (l1.length : Int) := oD; obtain ⟨ad138, e138, hx138_0⟩ := Kd.at_int HR1.out t136 p138 q138; cases e138; replace hx138_0 := keep_cell HK.out hx138_0 (by first | (rw [add_block]; exact hf1 _ rfl (by omega)) | exact hf1 _ rfl (by omega) | exact hf1 ad138 rfl (by omega)); replace p138 := eq_true p138; replace q138 := eq_true q138))
 go_ret
 exact ⟨qX, iS85 HI0.out, wS85 HB.out, kB HK.out⟩
end Go.Proofs.Yteeeedmmcdlhjaa.P
