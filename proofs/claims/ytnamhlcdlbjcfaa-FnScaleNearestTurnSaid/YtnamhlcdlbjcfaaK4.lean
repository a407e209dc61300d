/- Contracts and row, written by a program of this place out of the translation: the call answers true and its argument reads as before, for every input; no condition. -/
import Derived.Test.YtnamhlcdlbjcfaaK0
import Derived.Test.YtnamhlcdlbjcfaaK1
import Derived.Test.YtnamhlcdlbjcfaaK3
namespace Go.Proofs.Ytnamhlcdlbjcfaa.P
open Go.RowKit Go.Proofs.YtnamhlcdlbjcfaaW.PrintWords Go.Proofs.YtnamhlcdlbjcfaaW.PrintLast Go.Proofs.YtnamhlcdlbjcfaaW.PrintMore
attribute [local go_sem] max2_int min2_int max_two min_two max_three min_three max_four min_four   -- for this text's walks alone
set_option linter.unusedVariables false
set_option linter.unusedSimpArgs false
def impl_ScaleNearest.f (a0_0 : Int) (a0_1 : Int) (a0_2 : Int) (l0_3 : List Int) (a1 : Int) (a2 : Int) : Option (Int × Int × Int × List Int) := (impl_isImage.f a0_0 a0_1 a0_2 l0_3).bind fun t0 => (if t0 = true then ((impl_isSide.f a1).bind fun t1 => (if t1 = true then ((impl_isSide.f a2).bind fun t2 => (if t2 = true then (some (a1, a2, a0_2, imgOf (fun x y => pixOf l0_3 a0_0 a0_2 (x * a0_0 / a1) (y * a0_1 / a2)) a1.toNat a2.toNat)) else (some (0, 0, 0, ([] : List Int))))) else (some (0, 0, 0, ([] : List Int))))) else (some (0, 0, 0, ([] : List Int))))
set_option maxHeartbeats 8000000 in
set_option maxRecDepth 100000 in
theorem impl_ScaleNearest.calls (a0_0 : Int) (a0_1 : Int) (a0_2 : Int) (A0_3 : Option Addr) (c0_3 : Nat) (l0_3 : List Int) (a1 : Int) (a2 : Int) (r1 : Int) (r2 : Int) (r3 : Int) (r4 : List Int) (w : World) (hr0_3 : Kd.C (Kd.int .i64) w A0_3 l0_3.length l0_3) (hc0_3 : l0_3.length ≤ c0_3) (h : impl_ScaleNearest.f a0_0 a0_1 a0_2 l0_3 a1 a2 = some (r1, r2, r3, r4)) :
  Calls Try.prog 28 #[.agg #[.int .i64 a0_0, .int .i64 a0_1, .int .i64 a0_2, .slice A0_3 l0_3.length c0_3], .int .i64 a1, .int .i64 a2] w fun e w' => ∃ v3_ : Value, e = .returned (.agg #[.int .i64 r1, .int .i64 r2, .int .i64 r3, v3_]) ∧ Kd.R (Kd.int .i64) 3 w' w.heap.size (fun _ => True) v3_ r4 ∧ Below w.heap.size w w' := by
 have hu26 := Try.underlying26
 have HR0 := aM hr0_3
 have HC0 := aM hc0_3
 clear hr0_3 hc0_3
 have HB := aM (Below.refl w.heap.size w)
 unfold impl_ScaleNearest.f at h
 have H := h
 clear h
 replace H := Option.bind_eq_some_iff.mp H
 obtain ⟨t0, q0, H⟩ := H
 have A0 := aM q0
 clear q0
 cases t0 with
 | false =>
  rw [if_neg (show ¬ (false = true) by decide)] at H
  simp only [Option.some.injEq, Prod.mk.injEq] at H
  obtain ⟨rfl, rfl, rfl, rfl⟩ := H
  go_enter Try.func28, Try.ntmps28
  go_wp2_with (first | ((with_reducible refine gate_dst (N := 3) rfl ?_); (try (refine gate_guard (by rfl) ?_; dsimp only)); refine bxE (N := 3) (cs := #[.int .i64 a0_0, .int .i64 a0_1, .int .i64 a0_2, .slice A0_3 l0_3.length c0_3]) (t := 26) ?_; intro gm hg w1 hbox hb; have n2 := bS HB hb; have n3 := aM hbox; have n4 := aM ((by rw [hg]; exact (below_size (qW HB.out))) : w.heap.size ≤ gm); clear HB; have HB := n2; have BKgm := n3; have GEgm := n4; clear n2 n3 n4; clear hb hbox hg; have hz5 : w1.cell? ⟨gm, 0, none⟩ = some (.int .i64 a0_0) := (blk_cell BKgm.out 0).trans rfl; have hz6 : w1.cell? ⟨gm, 1, none⟩ = some (.int .i64 a0_1) := (blk_cell BKgm.out 1).trans rfl; have hz7 : w1.cell? ⟨gm, 2, none⟩ = some (.int .i64 a0_2) := (blk_cell BKgm.out 2).trans rfl; have hz8 : w1.cell? ⟨gm, 3, none⟩ = some (.slice A0_3 l0_3.length c0_3) := (blk_cell BKgm.out 3).trans rfl; have hf9 := blk_frozen BKgm.out 0; have hf10 := blk_frozen BKgm.out 1; have hf11 := blk_frozen BKgm.out 2; have hf12 := blk_frozen BKgm.out 3) | ((with_reducible refine gate_dst (N := 4) rfl ?_); (try (refine gate_guard (by rfl) ?_; dsimp only)); refine bxE (N := 4) (cs := #[.int .i64 a1]) (t := 3) ?_; intro gx hg w13 hbox hb; have n14 := bB BKgm hb; have n15 := bS HB hb; have n16 := aM hbox; have n17 := aM ((by rw [hg]; exact (below_size (qW HB.out))) : w.heap.size ≤ gx); have n18 := aM ((by rw [hg]; exact Nat.ne_of_lt (blk_lt (g := gm) (o := .cells #[.int .i64 a0_0, .int .i64 a0_1, .int .i64 a0_2, .slice A0_3 l0_3.length c0_3] 26 (0, 0)) (qB BKgm.out))) : gm ≠ gx); have n19 := aM ((by rw [hg]; exact Nat.ne_of_gt (blk_lt (g := gm) (o := .cells #[.int .i64 a0_0, .int .i64 a0_1, .int .i64 a0_2, .slice A0_3 l0_3.length c0_3] 26 (0, 0)) (qB BKgm.out))) : gx ≠ gm); clear HB BKgm; have BKgm := n14; have HB := n15; have BKgx := n16; have GEgx := n17; have NBgm_gx := n18; have NBgx_gm := n19; clear n14 n15 n16 n17 n18 n19; clear hb hbox hg; have hz20 : w13.cell? ⟨gm, 0, none⟩ = some (.int .i64 a0_0) := (blk_cell BKgm.out 0).trans rfl; have hz21 : w13.cell? ⟨gm, 1, none⟩ = some (.int .i64 a0_1) := (blk_cell BKgm.out 1).trans rfl; have hz22 : w13.cell? ⟨gm, 2, none⟩ = some (.int .i64 a0_2) := (blk_cell BKgm.out 2).trans rfl; have hz23 : w13.cell? ⟨gm, 3, none⟩ = some (.slice A0_3 l0_3.length c0_3) := (blk_cell BKgm.out 3).trans rfl; have hf24 := blk_frozen BKgm.out 0; have hf25 := blk_frozen BKgm.out 1; have hf26 := blk_frozen BKgm.out 2; have hf27 := blk_frozen BKgm.out 3; have hz28 : w13.cell? ⟨gx, 0, none⟩ = some (.int .i64 a1) := (blk_cell BKgx.out 0).trans rfl; have hf29 := blk_frozen BKgx.out 0) | ((with_reducible refine gate_dst (N := 5) rfl ?_); (try (refine gate_guard (by rfl) ?_; dsimp only)); refine bxE (N := 5) (cs := #[.int .i64 a2]) (t := 3) ?_; intro gy hg w30 hbox hb; have n31 := bB BKgm hb; have n32 := bB BKgx hb; have n33 := bS HB hb; have n34 := aM hbox; have n35 := aM ((by rw [hg]; exact (below_size (qW HB.out))) : w.heap.size ≤ gy); have n36 := aM ((by rw [hg]; exact Nat.ne_of_lt (blk_lt (g := gm) (o := .cells #[.int .i64 a0_0, .int .i64 a0_1, .int .i64 a0_2, .slice A0_3 l0_3.length c0_3] 26 (0, 0)) (qB BKgm.out))) : gm ≠ gy); have n37 := aM ((by rw [hg]; exact Nat.ne_of_gt (blk_lt (g := gm) (o := .cells #[.int .i64 a0_0, .int .i64 a0_1, .int .i64 a0_2, .slice A0_3 l0_3.length c0_3] 26 (0, 0)) (qB BKgm.out))) : gy ≠ gm); have n38 := aM ((by rw [hg]; exact Nat.ne_of_lt (blk_lt (g := gx) (o := .cells #[.int .i64 a1] 3 (0, 0)) (qB BKgx.out))) : gx ≠ gy); have n39 := aM ((by rw [hg]; exact Nat.ne_of_gt (blk_lt (g := gx) (o := .cells #[.int .i64 a1] 3 (0, 0)) (qB BKgx.out))) : gy ≠ gx); clear HB BKgm BKgx; have BKgm := n31; have BKgx := n32; have HB := n33; have BKgy := n34; have GEgy := n35; have NBgm_gy := n36; have NBgy_gm := n37; have NBgx_gy := n38; have NBgy_gx := n39; clear n31 n32 n33 n34 n35 n36 n37 n38 n39; clear hb hbox hg; have hz40 : w30.cell? ⟨gm, 0, none⟩ = some (.int .i64 a0_0) := (blk_cell BKgm.out 0).trans rfl; have hz41 : w30.cell? ⟨gm, 1, none⟩ = some (.int .i64 a0_1) := (blk_cell BKgm.out 1).trans rfl; have hz42 : w30.cell? ⟨gm, 2, none⟩ = some (.int .i64 a0_2) := (blk_cell BKgm.out 2).trans rfl; have hz43 : w30.cell? ⟨gm, 3, none⟩ = some (.slice A0_3 l0_3.length c0_3) := (blk_cell BKgm.out 3).trans rfl; have hf44 := blk_frozen BKgm.out 0; have hf45 := blk_frozen BKgm.out 1; have hf46 := blk_frozen BKgm.out 2; have hf47 := blk_frozen BKgm.out 3; have hz48 : w30.cell? ⟨gx, 0, none⟩ = some (.int .i64 a1) := (blk_cell BKgx.out 0).trans rfl; have hf49 := blk_frozen BKgx.out 0; have hz50 : w30.cell? ⟨gy, 0, none⟩ = some (.int .i64 a2) := (blk_cell BKgy.out 0).trans rfl; have hf51 := blk_frozen BKgy.out 0) | ((with_reducible refine gate_dst (N := 6) rfl ?_); (try (refine gate_guard (by rfl) ?_; dsimp only)); refine bxE (N := 6) (cs := #[.int .i64 0, .int .i64 0, .int .i64 0, .slice none 0 0]) (t := 26) ?_; intro gr hg w52 hbox hb; have n53 := bB BKgm hb; have n54 := bB BKgx hb; have n55 := bB BKgy hb; have n56 := bS HB hb; have n57 := aM hbox; have n58 := aM ((by rw [hg]; exact (below_size (qW HB.out))) : w.heap.size ≤ gr); have n59 := aM ((by rw [hg]; exact Nat.ne_of_lt (blk_lt (g := gm) (o := .cells #[.int .i64 a0_0, .int .i64 a0_1, .int .i64 a0_2, .slice A0_3 l0_3.length c0_3] 26 (0, 0)) (qB BKgm.out))) : gm ≠ gr); have n60 := aM ((by rw [hg]; exact Nat.ne_of_gt (blk_lt (g := gm) (o := .cells #[.int .i64 a0_0, .int .i64 a0_1, .int .i64 a0_2, .slice A0_3 l0_3.length c0_3] 26 (0, 0)) (qB BKgm.out))) : gr ≠ gm); have n61 := aM ((by rw [hg]; exact Nat.ne_of_lt (blk_lt (g := gx) (o := .cells #[.int .i64 a1] 3 (0, 0)) (qB BKgx.out))) : gx ≠ gr); have n62 := aM ((by rw [hg]; exact Nat.ne_of_gt (blk_lt (g := gx) (o := .cells #[.int .i64 a1] 3 (0, 0)) (qB BKgx.out))) : gr ≠ gx); have n63 := aM ((by rw [hg]; exact Nat.ne_of_lt (blk_lt (g := gy) (o := .cells #[.int .i64 a2] 3 (0, 0)) (qB BKgy.out))) : gy ≠ gr); have n64 := aM ((by rw [hg]; exact Nat.ne_of_gt (blk_lt (g := gy) (o := .cells #[.int .i64 a2] 3 (0, 0)) (qB BKgy.out))) : gr ≠ gy); clear HB BKgm BKgx BKgy; have BKgm := n53; have BKgx := n54; have BKgy := n55; have HB := n56; have BKgr := n57; have GEgr := n58; have NBgm_gr := n59; have NBgr_gm := n60; have NBgx_gr := n61; have NBgr_gx := n62; have NBgy_gr := n63; have NBgr_gy := n64; clear n53 n54 n55 n56 n57 n58 n59 n60 n61 n62 n63 n64; clear hb hbox hg; have hz65 : w52.cell? ⟨gm, 0, none⟩ = some (.int .i64 a0_0) := (blk_cell BKgm.out 0).trans rfl; have hz66 : w52.cell? ⟨gm, 1, none⟩ = some (.int .i64 a0_1) := (blk_cell BKgm.out 1).trans rfl; have hz67 : w52.cell? ⟨gm, 2, none⟩ = some (.int .i64 a0_2) := (blk_cell BKgm.out 2).trans rfl; have hz68 : w52.cell? ⟨gm, 3, none⟩ = some (.slice A0_3 l0_3.length c0_3) := (blk_cell BKgm.out 3).trans rfl; have hf69 := blk_frozen BKgm.out 0; have hf70 := blk_frozen BKgm.out 1; have hf71 := blk_frozen BKgm.out 2; have hf72 := blk_frozen BKgm.out 3; have hz73 : w52.cell? ⟨gx, 0, none⟩ = some (.int .i64 a1) := (blk_cell BKgx.out 0).trans rfl; have hf74 := blk_frozen BKgx.out 0; have hz75 : w52.cell? ⟨gy, 0, none⟩ = some (.int .i64 a2) := (blk_cell BKgy.out 0).trans rfl; have hf76 := blk_frozen BKgy.out 0; have hz77 : w52.cell? ⟨gr, 0, none⟩ = some (.int .i64 0) := (blk_cell BKgr.out 0).trans rfl; have hz78 : w52.cell? ⟨gr, 1, none⟩ = some (.int .i64 0) := (blk_cell BKgr.out 1).trans rfl; have hz79 : w52.cell? ⟨gr, 2, none⟩ = some (.int .i64 0) := (blk_cell BKgr.out 2).trans rfl; have hz80 : w52.cell? ⟨gr, 3, none⟩ = some (.slice none 0 0) := (blk_cell BKgr.out 3).trans rfl; have hf81 := blk_frozen BKgr.out 0; have hf82 := blk_frozen BKgr.out 1; have hf83 := blk_frozen BKgr.out 2; have hf84 := blk_frozen BKgr.out 3) | (go_at_call 48; (with_reducible refine (impl_isImage.calls a0_0 a0_1 a0_2 _ _ l0_3 false _ ?side1 ?side2 A0.out).mono ?_); (case side1 => exact (Kd.C_below HR0.out (qW HB.out))); (case side2 => exact HC0.out); rintro e w85 ⟨rfl, hb⟩; have n86 := bB BKgm hb; have n87 := bB BKgx hb; have n88 := bB BKgy hb; have n89 := bB BKgr hb; have n90 := bS HB hb; clear HB BKgm BKgx BKgy BKgr; have BKgm := n86; have BKgx := n87; have BKgy := n88; have BKgr := n89; have HB := n90; clear n86 n87 n88 n89 n90 hb; have hz91 : w85.cell? ⟨gm, 0, none⟩ = some (.int .i64 a0_0) := (blk_cell BKgm.out 0).trans rfl; have hz92 : w85.cell? ⟨gm, 1, none⟩ = some (.int .i64 a0_1) := (blk_cell BKgm.out 1).trans rfl; have hz93 : w85.cell? ⟨gm, 2, none⟩ = some (.int .i64 a0_2) := (blk_cell BKgm.out 2).trans rfl; have hz94 : w85.cell? ⟨gm, 3, none⟩ = some (.slice A0_3 l0_3.length c0_3) := (blk_cell BKgm.out 3).trans rfl; have hf95 := blk_frozen BKgm.out 0; have hf96 := blk_frozen BKgm.out 1; have hf97 := blk_frozen BKgm.out 2; have hf98 := blk_frozen BKgm.out 3; have hz99 : w85.cell? ⟨gx, 0, none⟩ = some (.int .i64 a1) := (blk_cell BKgx.out 0).trans rfl; have hf100 := blk_frozen BKgx.out 0; have hz101 : w85.cell? ⟨gy, 0, none⟩ = some (.int .i64 a2) := (blk_cell BKgy.out 0).trans rfl; have hf102 := blk_frozen BKgy.out 0; have hz103 : w85.cell? ⟨gr, 0, none⟩ = some (.int .i64 0) := (blk_cell BKgr.out 0).trans rfl; have hz104 : w85.cell? ⟨gr, 1, none⟩ = some (.int .i64 0) := (blk_cell BKgr.out 1).trans rfl; have hz105 : w85.cell? ⟨gr, 2, none⟩ = some (.int .i64 0) := (blk_cell BKgr.out 2).trans rfl; have hz106 : w85.cell? ⟨gr, 3, none⟩ = some (.slice none 0 0) := (blk_cell BKgr.out 3).trans rfl; have hf107 := blk_frozen BKgr.out 0; have hf108 := blk_frozen BKgr.out 1; have hf109 := blk_frozen BKgr.out 2; have hf110 := blk_frozen BKgr.out 3))
  refine bodyPost_ret (results_cell_row rfl _ _ gr 26 #[.int .i64 0, .int .i64 0, .int .i64 0, .slice none 0 0] (0, 0) _ rfl (by exact bP BKgr.out) Try.underlying26 rfl (by kernel_rfl)) rfl ?_
  exact ⟨_, by first | rfl | (simp; done), Kd.R_nil _ _ _ _ _, by exact qW HB.out⟩
 | true =>
  rw [if_pos rfl] at H
  replace H := Option.bind_eq_some_iff.mp H
  obtain ⟨t1, q1, H⟩ := H
  have A1 := aM q1
  clear q1
  cases t1 with
  | false =>
   rw [if_neg (show ¬ (false = true) by decide)] at H
   simp only [Option.some.injEq, Prod.mk.injEq] at H
   obtain ⟨rfl, rfl, rfl, rfl⟩ := H
   go_enter Try.func28, Try.ntmps28
   go_wp2_with (first | ((with_reducible refine gate_dst (N := 3) rfl ?_); (try (refine gate_guard (by rfl) ?_; dsimp only)); refine bxE (N := 3) (cs := #[.int .i64 a0_0, .int .i64 a0_1, .int .i64 a0_2, .slice A0_3 l0_3.length c0_3]) (t := 26) ?_; intro gm hg w111 hbox hb; have n112 := bS HB hb; have n113 := aM hbox; have n114 := aM ((by rw [hg]; exact (below_size (qW HB.out))) : w.heap.size ≤ gm); clear HB; have HB := n112; have BKgm := n113; have GEgm := n114; clear n112 n113 n114; clear hb hbox hg; have hz115 : w111.cell? ⟨gm, 0, none⟩ = some (.int .i64 a0_0) := (blk_cell BKgm.out 0).trans rfl; have hz116 : w111.cell? ⟨gm, 1, none⟩ = some (.int .i64 a0_1) := (blk_cell BKgm.out 1).trans rfl; have hz117 : w111.cell? ⟨gm, 2, none⟩ = some (.int .i64 a0_2) := (blk_cell BKgm.out 2).trans rfl; have hz118 : w111.cell? ⟨gm, 3, none⟩ = some (.slice A0_3 l0_3.length c0_3) := (blk_cell BKgm.out 3).trans rfl; have hf119 := blk_frozen BKgm.out 0; have hf120 := blk_frozen BKgm.out 1; have hf121 := blk_frozen BKgm.out 2; have hf122 := blk_frozen BKgm.out 3) | ((with_reducible refine gate_dst (N := 4) rfl ?_); (try (refine gate_guard (by rfl) ?_; dsimp only)); refine bxE (N := 4) (cs := #[.int .i64 a1]) (t := 3) ?_; intro gx hg w123 hbox hb; have n124 := bB BKgm hb; have n125 := bS HB hb; have n126 := aM hbox; have n127 := aM ((by rw [hg]; exact (below_size (qW HB.out))) : w.heap.size ≤ gx); have n128 := aM ((by rw [hg]; exact Nat.ne_of_lt (blk_lt (g := gm) (o := .cells #[.int .i64 a0_0, .int .i64 a0_1, .int .i64 a0_2, .slice A0_3 l0_3.length c0_3] 26 (0, 0)) (qB BKgm.out))) : gm ≠ gx); have n129 := aM ((by rw [hg]; exact Nat.ne_of_gt (blk_lt (g := gm) (o := .cells #[.int .i64 a0_0, .int .i64 a0_1, .int .i64 a0_2, .slice A0_3 l0_3.length c0_3] 26 (0, 0)) (qB BKgm.out))) : gx ≠ gm); clear HB BKgm; have BKgm := n124; have HB := n125; have BKgx := n126; have GEgx := n127; have NBgm_gx := n128; have NBgx_gm := n129; clear n124 n125 n126 n127 n128 n129; clear hb hbox hg; have hz130 : w123.cell? ⟨gm, 0, none⟩ = some (.int .i64 a0_0) := (blk_cell BKgm.out 0).trans rfl; have hz131 : w123.cell? ⟨gm, 1, none⟩ = some (.int .i64 a0_1) := (blk_cell BKgm.out 1).trans rfl; have hz132 : w123.cell? ⟨gm, 2, none⟩ = some (.int .i64 a0_2) := (blk_cell BKgm.out 2).trans rfl; have hz133 : w123.cell? ⟨gm, 3, none⟩ = some (.slice A0_3 l0_3.length c0_3) := (blk_cell BKgm.out 3).trans rfl; have hf134 := blk_frozen BKgm.out 0; have hf135 := blk_frozen BKgm.out 1; have hf136 := blk_frozen BKgm.out 2; have hf137 := blk_frozen BKgm.out 3; have hz138 : w123.cell? ⟨gx, 0, none⟩ = some (.int .i64 a1) := (blk_cell BKgx.out 0).trans rfl; have hf139 := blk_frozen BKgx.out 0) | ((with_reducible refine gate_dst (N := 5) rfl ?_); (try (refine gate_guard (by rfl) ?_; dsimp only)); refine bxE (N := 5) (cs := #[.int .i64 a2]) (t := 3) ?_; intro gy hg w140 hbox hb; have n141 := bB BKgm hb; have n142 := bB BKgx hb; have n143 := bS HB hb; have n144 := aM hbox; have n145 := aM ((by rw [hg]; exact (below_size (qW HB.out))) : w.heap.size ≤ gy); have n146 := aM ((by rw [hg]; exact Nat.ne_of_lt (blk_lt (g := gm) (o := .cells #[.int .i64 a0_0, .int .i64 a0_1, .int .i64 a0_2, .slice A0_3 l0_3.length c0_3] 26 (0, 0)) (qB BKgm.out))) : gm ≠ gy); have n147 := aM ((by rw [hg]; exact Nat.ne_of_gt (blk_lt (g := gm) (o := .cells #[.int .i64 a0_0, .int .i64 a0_1, .int .i64 a0_2, .slice A0_3 l0_3.length c0_3] 26 (0, 0)) (qB BKgm.out))) : gy ≠ gm); have n148 := aM ((by rw [hg]; exact Nat.ne_of_lt (blk_lt (g := gx) (o := .cells #[.int .i64 a1] 3 (0, 0)) (qB BKgx.out))) : gx ≠ gy); have n149 := aM ((by rw [hg]; exact Nat.ne_of_gt (blk_lt (g := gx) (o := .cells #[.int .i64 a1] 3 (0, 0)) (qB BKgx.out))) : gy ≠ gx); clear HB BKgm BKgx; have BKgm := n141; have BKgx := n142; have HB := n143; have BKgy := n144; have GEgy := n145; have NBgm_gy := n146; have NBgy_gm := n147; have NBgx_gy := n148; have NBgy_gx := n149; clear n141 n142 n143 n144 n145 n146 n147 n148 n149; clear hb hbox hg; have hz150 : w140.cell? ⟨gm, 0, none⟩ = some (.int .i64 a0_0) := (blk_cell BKgm.out 0).trans rfl; have hz151 : w140.cell? ⟨gm, 1, none⟩ = some (.int .i64 a0_1) := (blk_cell BKgm.out 1).trans rfl; have hz152 : w140.cell? ⟨gm, 2, none⟩ = some (.int .i64 a0_2) := (blk_cell BKgm.out 2).trans rfl; have hz153 : w140.cell? ⟨gm, 3, none⟩ = some (.slice A0_3 l0_3.length c0_3) := (blk_cell BKgm.out 3).trans rfl; have hf154 := blk_frozen BKgm.out 0; have hf155 := blk_frozen BKgm.out 1; have hf156 := blk_frozen BKgm.out 2; have hf157 := blk_frozen BKgm.out 3; have hz158 : w140.cell? ⟨gx, 0, none⟩ = some (.int .i64 a1) := (blk_cell BKgx.out 0).trans rfl; have hf159 := blk_frozen BKgx.out 0; have hz160 : w140.cell? ⟨gy, 0, none⟩ = some (.int .i64 a2) := (blk_cell BKgy.out 0).trans rfl; have hf161 := blk_frozen BKgy.out 0) | ((with_reducible refine gate_dst (N := 6) rfl ?_); (try (refine gate_guard (by rfl) ?_; dsimp only)); refine bxE (N := 6) (cs := #[.int .i64 0, .int .i64 0, .int .i64 0, .slice none 0 0]) (t := 26) ?_; intro gr hg w162 hbox hb; have n163 := bB BKgm hb; have n164 := bB BKgx hb; have n165 := bB BKgy hb; have n166 := bS HB hb; have n167 := aM hbox; have n168 := aM ((by rw [hg]; exact (below_size (qW HB.out))) : w.heap.size ≤ gr); have n169 := aM ((by rw [hg]; exact Nat.ne_of_lt (blk_lt (g := gm) (o := .cells #[.int .i64 a0_0, .int .i64 a0_1, .int .i64 a0_2, .slice A0_3 l0_3.length c0_3] 26 (0, 0)) (qB BKgm.out))) : gm ≠ gr); have n170 := aM ((by rw [hg]; exact Nat.ne_of_gt (blk_lt (g := gm) (o := .cells #[.int .i64 a0_0, .int .i64 a0_1, .int .i64 a0_2, .slice A0_3 l0_3.length c0_3] 26 (0, 0)) (qB BKgm.out))) : gr ≠ gm); have n171 := aM ((by rw [hg]; exact Nat.ne_of_lt (blk_lt (g := gx) (o := .cells #[.int .i64 a1] 3 (0, 0)) (qB BKgx.out))) : gx ≠ gr); have n172 := aM ((by rw [hg]; exact Nat.ne_of_gt (blk_lt (g := gx) (o := .cells #[.int .i64 a1] 3 (0, 0)) (qB BKgx.out))) : gr ≠ gx); have n173 := aM ((by rw [hg]; exact Nat.ne_of_lt (blk_lt (g := gy) (o := .cells #[.int .i64 a2] 3 (0, 0)) (qB BKgy.out))) : gy ≠ gr); have n174 := aM ((by rw [hg]; exact Nat.ne_of_gt (blk_lt (g := gy) (o := .cells #[.int .i64 a2] 3 (0, 0)) (qB BKgy.out))) : gr ≠ gy); clear HB BKgm BKgx BKgy; have BKgm := n163; have BKgx := n164; have BKgy := n165; have HB := n166; have BKgr := n167; have GEgr := n168; have NBgm_gr := n169; have NBgr_gm := n170; have NBgx_gr := n171; have NBgr_gx := n172; have NBgy_gr := n173; have NBgr_gy := n174; clear n163 n164 n165 n166 n167 n168 n169 n170 n171 n172 n173 n174; clear hb hbox hg; have hz175 : w162.cell? ⟨gm, 0, none⟩ = some (.int .i64 a0_0) := (blk_cell BKgm.out 0).trans rfl; have hz176 : w162.cell? ⟨gm, 1, none⟩ = some (.int .i64 a0_1) := (blk_cell BKgm.out 1).trans rfl; have hz177 : w162.cell? ⟨gm, 2, none⟩ = some (.int .i64 a0_2) := (blk_cell BKgm.out 2).trans rfl; have hz178 : w162.cell? ⟨gm, 3, none⟩ = some (.slice A0_3 l0_3.length c0_3) := (blk_cell BKgm.out 3).trans rfl; have hf179 := blk_frozen BKgm.out 0; have hf180 := blk_frozen BKgm.out 1; have hf181 := blk_frozen BKgm.out 2; have hf182 := blk_frozen BKgm.out 3; have hz183 : w162.cell? ⟨gx, 0, none⟩ = some (.int .i64 a1) := (blk_cell BKgx.out 0).trans rfl; have hf184 := blk_frozen BKgx.out 0; have hz185 : w162.cell? ⟨gy, 0, none⟩ = some (.int .i64 a2) := (blk_cell BKgy.out 0).trans rfl; have hf186 := blk_frozen BKgy.out 0; have hz187 : w162.cell? ⟨gr, 0, none⟩ = some (.int .i64 0) := (blk_cell BKgr.out 0).trans rfl; have hz188 : w162.cell? ⟨gr, 1, none⟩ = some (.int .i64 0) := (blk_cell BKgr.out 1).trans rfl; have hz189 : w162.cell? ⟨gr, 2, none⟩ = some (.int .i64 0) := (blk_cell BKgr.out 2).trans rfl; have hz190 : w162.cell? ⟨gr, 3, none⟩ = some (.slice none 0 0) := (blk_cell BKgr.out 3).trans rfl; have hf191 := blk_frozen BKgr.out 0; have hf192 := blk_frozen BKgr.out 1; have hf193 := blk_frozen BKgr.out 2; have hf194 := blk_frozen BKgr.out 3) | (go_at_call 48; (with_reducible refine (impl_isImage.calls a0_0 a0_1 a0_2 _ _ l0_3 true _ ?side1 ?side2 A0.out).mono ?_); (case side1 => exact (Kd.C_below HR0.out (qW HB.out))); (case side2 => exact HC0.out); rintro e w195 ⟨rfl, hb⟩; have n196 := bB BKgm hb; have n197 := bB BKgx hb; have n198 := bB BKgy hb; have n199 := bB BKgr hb; have n200 := bS HB hb; clear HB BKgm BKgx BKgy BKgr; have BKgm := n196; have BKgx := n197; have BKgy := n198; have BKgr := n199; have HB := n200; clear n196 n197 n198 n199 n200 hb; have hz201 : w195.cell? ⟨gm, 0, none⟩ = some (.int .i64 a0_0) := (blk_cell BKgm.out 0).trans rfl; have hz202 : w195.cell? ⟨gm, 1, none⟩ = some (.int .i64 a0_1) := (blk_cell BKgm.out 1).trans rfl; have hz203 : w195.cell? ⟨gm, 2, none⟩ = some (.int .i64 a0_2) := (blk_cell BKgm.out 2).trans rfl; have hz204 : w195.cell? ⟨gm, 3, none⟩ = some (.slice A0_3 l0_3.length c0_3) := (blk_cell BKgm.out 3).trans rfl; have hf205 := blk_frozen BKgm.out 0; have hf206 := blk_frozen BKgm.out 1; have hf207 := blk_frozen BKgm.out 2; have hf208 := blk_frozen BKgm.out 3; have hz209 : w195.cell? ⟨gx, 0, none⟩ = some (.int .i64 a1) := (blk_cell BKgx.out 0).trans rfl; have hf210 := blk_frozen BKgx.out 0; have hz211 : w195.cell? ⟨gy, 0, none⟩ = some (.int .i64 a2) := (blk_cell BKgy.out 0).trans rfl; have hf212 := blk_frozen BKgy.out 0; have hz213 : w195.cell? ⟨gr, 0, none⟩ = some (.int .i64 0) := (blk_cell BKgr.out 0).trans rfl; have hz214 : w195.cell? ⟨gr, 1, none⟩ = some (.int .i64 0) := (blk_cell BKgr.out 1).trans rfl; have hz215 : w195.cell? ⟨gr, 2, none⟩ = some (.int .i64 0) := (blk_cell BKgr.out 2).trans rfl; have hz216 : w195.cell? ⟨gr, 3, none⟩ = some (.slice none 0 0) := (blk_cell BKgr.out 3).trans rfl; have hf217 := blk_frozen BKgr.out 0; have hf218 := blk_frozen BKgr.out 1; have hf219 := blk_frozen BKgr.out 2; have hf220 := blk_frozen BKgr.out 3) | (go_at_call 61; (with_reducible refine (impl_isSide.calls a1 false _ A1.out).mono ?_); rintro e w' ⟨rfl, ⟨nd, rfl⟩⟩))
   refine bodyPost_ret (results_cell_row rfl _ _ gr 26 #[.int .i64 0, .int .i64 0, .int .i64 0, .slice none 0 0] (0, 0) _ rfl (by exact bP BKgr.out) Try.underlying26 rfl (by kernel_rfl)) rfl ?_
   exact ⟨_, by first | rfl | (simp; done), Kd.R_nil _ _ _ _ _, by exact qW HB.out⟩
  | true =>
   rw [if_pos rfl] at H
   replace H := Option.bind_eq_some_iff.mp H
   obtain ⟨t2, q2, H⟩ := H
   have A2 := aM q2
   clear q2
   cases t2 with
   | false =>
    rw [if_neg (show ¬ (false = true) by decide)] at H
    simp only [Option.some.injEq, Prod.mk.injEq] at H
    obtain ⟨rfl, rfl, rfl, rfl⟩ := H
    go_enter Try.func28, Try.ntmps28
    go_wp2_with (first | ((with_reducible refine gate_dst (N := 3) rfl ?_); (try (refine gate_guard (by rfl) ?_; dsimp only)); refine bxE (N := 3) (cs := #[.int .i64 a0_0, .int .i64 a0_1, .int .i64 a0_2, .slice A0_3 l0_3.length c0_3]) (t := 26) ?_; intro gm hg w222 hbox hb; have n223 := bS HB hb; have n224 := aM hbox; have n225 := aM ((by rw [hg]; exact (below_size (qW HB.out))) : w.heap.size ≤ gm); clear HB; have HB := n223; have BKgm := n224; have GEgm := n225; clear n223 n224 n225; clear hb hbox hg; have hz226 : w222.cell? ⟨gm, 0, none⟩ = some (.int .i64 a0_0) := (blk_cell BKgm.out 0).trans rfl; have hz227 : w222.cell? ⟨gm, 1, none⟩ = some (.int .i64 a0_1) := (blk_cell BKgm.out 1).trans rfl; have hz228 : w222.cell? ⟨gm, 2, none⟩ = some (.int .i64 a0_2) := (blk_cell BKgm.out 2).trans rfl; have hz229 : w222.cell? ⟨gm, 3, none⟩ = some (.slice A0_3 l0_3.length c0_3) := (blk_cell BKgm.out 3).trans rfl; have hf230 := blk_frozen BKgm.out 0; have hf231 := blk_frozen BKgm.out 1; have hf232 := blk_frozen BKgm.out 2; have hf233 := blk_frozen BKgm.out 3) | ((with_reducible refine gate_dst (N := 4) rfl ?_); (try (refine gate_guard (by rfl) ?_; dsimp only)); refine bxE (N := 4) (cs := #[.int .i64 a1]) (t := 3) ?_; intro gx hg w234 hbox hb; have n235 := bB BKgm hb; have n236 := bS HB hb; have n237 := aM hbox; have n238 := aM ((by rw [hg]; exact (below_size (qW HB.out))) : w.heap.size ≤ gx); have n239 := aM ((by rw [hg]; exact Nat.ne_of_lt (blk_lt (g := gm) (o := .cells #[.int .i64 a0_0, .int .i64 a0_1, .int .i64 a0_2, .slice A0_3 l0_3.length c0_3] 26 (0, 0)) (qB BKgm.out))) : gm ≠ gx); have n240 := aM ((by rw [hg]; exact Nat.ne_of_gt (blk_lt (g := gm) (o := .cells #[.int .i64 a0_0, .int .i64 a0_1, .int .i64 a0_2, .slice A0_3 l0_3.length c0_3] 26 (0, 0)) (qB BKgm.out))) : gx ≠ gm); clear HB BKgm; have BKgm := n235; have HB := n236; have BKgx := n237; have GEgx := n238; have NBgm_gx := n239; have NBgx_gm := n240; clear n235 n236 n237 n238 n239 n240; clear hb hbox hg; have hz241 : w234.cell? ⟨gm, 0, none⟩ = some (.int .i64 a0_0) := (blk_cell BKgm.out 0).trans rfl; have hz242 : w234.cell? ⟨gm, 1, none⟩ = some (.int .i64 a0_1) := (blk_cell BKgm.out 1).trans rfl; have hz243 : w234.cell? ⟨gm, 2, none⟩ = some (.int .i64 a0_2) := (blk_cell BKgm.out 2).trans rfl; have hz244 : w234.cell? ⟨gm, 3, none⟩ = some (.slice A0_3 l0_3.length c0_3) := (blk_cell BKgm.out 3).trans rfl; have hf245 := blk_frozen BKgm.out 0; have hf246 := blk_frozen BKgm.out 1; have hf247 := blk_frozen BKgm.out 2; have hf248 := blk_frozen BKgm.out 3; have hz249 : w234.cell? ⟨gx, 0, none⟩ = some (.int .i64 a1) := (blk_cell BKgx.out 0).trans rfl; have hf250 := blk_frozen BKgx.out 0) | ((with_reducible refine gate_dst (N := 5) rfl ?_); (try (refine gate_guard (by rfl) ?_; dsimp only)); refine bxE (N := 5) (cs := #[.int .i64 a2]) (t := 3) ?_; intro gy hg w251 hbox hb; have n252 := bB BKgm hb; have n253 := bB BKgx hb; have n254 := bS HB hb; have n255 := aM hbox; have n256 := aM ((by rw [hg]; exact (below_size (qW HB.out))) : w.heap.size ≤ gy); have n257 := aM ((by rw [hg]; exact Nat.ne_of_lt (blk_lt (g := gm) (o := .cells #[.int .i64 a0_0, .int .i64 a0_1, .int .i64 a0_2, .slice A0_3 l0_3.length c0_3] 26 (0, 0)) (qB BKgm.out))) : gm ≠ gy); have n258 := aM ((by rw [hg]; exact Nat.ne_of_gt (blk_lt (g := gm) (o := .cells #[.int .i64 a0_0, .int .i64 a0_1, .int .i64 a0_2, .slice A0_3 l0_3.length c0_3] 26 (0, 0)) (qB BKgm.out))) : gy ≠ gm); have n259 := aM ((by rw [hg]; exact Nat.ne_of_lt (blk_lt (g := gx) (o := .cells #[.int .i64 a1] 3 (0, 0)) (qB BKgx.out))) : gx ≠ gy); have n260 := aM ((by rw [hg]; exact Nat.ne_of_gt (blk_lt (g := gx) (o := .cells #[.int .i64 a1] 3 (0, 0)) (qB BKgx.out))) : gy ≠ gx); clear HB BKgm BKgx; have BKgm := n252; have BKgx := n253; have HB := n254; have BKgy := n255; have GEgy := n256; have NBgm_gy := n257; have NBgy_gm := n258; have NBgx_gy := n259; have NBgy_gx := n260; clear n252 n253 n254 n255 n256 n257 n258 n259 n260; clear hb hbox hg; have hz261 : w251.cell? ⟨gm, 0, none⟩ = some (.int .i64 a0_0) := (blk_cell BKgm.out 0).trans rfl; have hz262 : w251.cell? ⟨gm, 1, none⟩ = some (.int .i64 a0_1) := (blk_cell BKgm.out 1).trans rfl; have hz263 : w251.cell? ⟨gm, 2, none⟩ = some (.int .i64 a0_2) := (blk_cell BKgm.out 2).trans rfl; have hz264 : w251.cell? ⟨gm, 3, none⟩ = some (.slice A0_3 l0_3.length c0_3) := (blk_cell BKgm.out 3).trans rfl; have hf265 := blk_frozen BKgm.out 0; have hf266 := blk_frozen BKgm.out 1; have hf267 := blk_frozen BKgm.out 2; have hf268 := blk_frozen BKgm.out 3; have hz269 : w251.cell? ⟨gx, 0, none⟩ = some (.int .i64 a1) := (blk_cell BKgx.out 0).trans rfl; have hf270 := blk_frozen BKgx.out 0; have hz271 : w251.cell? ⟨gy, 0, none⟩ = some (.int .i64 a2) := (blk_cell BKgy.out 0).trans rfl; have hf272 := blk_frozen BKgy.out 0) | ((with_reducible refine gate_dst (N := 6) rfl ?_); (try (refine gate_guard (by rfl) ?_; dsimp only)); refine bxE (N := 6) (cs := #[.int .i64 0, .int .i64 0, .int .i64 0, .slice none 0 0]) (t := 26) ?_; intro gr hg w273 hbox hb; have n274 := bB BKgm hb; have n275 := bB BKgx hb; have n276 := bB BKgy hb; have n277 := bS HB hb; have n278 := aM hbox; have n279 := aM ((by rw [hg]; exact (below_size (qW HB.out))) : w.heap.size ≤ gr); have n280 := aM ((by rw [hg]; exact Nat.ne_of_lt (blk_lt (g := gm) (o := .cells #[.int .i64 a0_0, .int .i64 a0_1, .int .i64 a0_2, .slice A0_3 l0_3.length c0_3] 26 (0, 0)) (qB BKgm.out))) : gm ≠ gr); have n281 := aM ((by rw [hg]; exact Nat.ne_of_gt (blk_lt (g := gm) (o := .cells #[.int .i64 a0_0, .int .i64 a0_1, .int .i64 a0_2, .slice A0_3 l0_3.length c0_3] 26 (0, 0)) (qB BKgm.out))) : gr ≠ gm); have n282 := aM ((by rw [hg]; exact Nat.ne_of_lt (blk_lt (g := gx) (o := .cells #[.int .i64 a1] 3 (0, 0)) (qB BKgx.out))) : gx ≠ gr); have n283 := aM ((by rw [hg]; exact Nat.ne_of_gt (blk_lt (g := gx) (o := .cells #[.int .i64 a1] 3 (0, 0)) (qB BKgx.out))) : gr ≠ gx); have n284 := aM ((by rw [hg]; exact Nat.ne_of_lt (blk_lt (g := gy) (o := .cells #[.int .i64 a2] 3 (0, 0)) (qB BKgy.out))) : gy ≠ gr); have n285 := aM ((by rw [hg]; exact Nat.ne_of_gt (blk_lt (g := gy) (o := .cells #[.int .i64 a2] 3 (0, 0)) (qB BKgy.out))) : gr ≠ gy); clear HB BKgm BKgx BKgy; have BKgm := n274; have BKgx := n275; have BKgy := n276; have HB := n277; have BKgr := n278; have GEgr := n279; have NBgm_gr := n280; have NBgr_gm := n281; have NBgx_gr := n282; have NBgr_gx := n283; have NBgy_gr := n284; have NBgr_gy := n285; clear n274 n275 n276 n277 n278 n279 n280 n281 n282 n283 n284 n285; clear hb hbox hg; have hz286 : w273.cell? ⟨gm, 0, none⟩ = some (.int .i64 a0_0) := (blk_cell BKgm.out 0).trans rfl; have hz287 : w273.cell? ⟨gm, 1, none⟩ = some (.int .i64 a0_1) := (blk_cell BKgm.out 1).trans rfl; have hz288 : w273.cell? ⟨gm, 2, none⟩ = some (.int .i64 a0_2) := (blk_cell BKgm.out 2).trans rfl; have hz289 : w273.cell? ⟨gm, 3, none⟩ = some (.slice A0_3 l0_3.length c0_3) := (blk_cell BKgm.out 3).trans rfl; have hf290 := blk_frozen BKgm.out 0; have hf291 := blk_frozen BKgm.out 1; have hf292 := blk_frozen BKgm.out 2; have hf293 := blk_frozen BKgm.out 3; have hz294 : w273.cell? ⟨gx, 0, none⟩ = some (.int .i64 a1) := (blk_cell BKgx.out 0).trans rfl; have hf295 := blk_frozen BKgx.out 0; have hz296 : w273.cell? ⟨gy, 0, none⟩ = some (.int .i64 a2) := (blk_cell BKgy.out 0).trans rfl; have hf297 := blk_frozen BKgy.out 0; have hz298 : w273.cell? ⟨gr, 0, none⟩ = some (.int .i64 0) := (blk_cell BKgr.out 0).trans rfl; have hz299 : w273.cell? ⟨gr, 1, none⟩ = some (.int .i64 0) := (blk_cell BKgr.out 1).trans rfl; have hz300 : w273.cell? ⟨gr, 2, none⟩ = some (.int .i64 0) := (blk_cell BKgr.out 2).trans rfl; have hz301 : w273.cell? ⟨gr, 3, none⟩ = some (.slice none 0 0) := (blk_cell BKgr.out 3).trans rfl; have hf302 := blk_frozen BKgr.out 0; have hf303 := blk_frozen BKgr.out 1; have hf304 := blk_frozen BKgr.out 2; have hf305 := blk_frozen BKgr.out 3) | (go_at_call 48; (with_reducible refine (impl_isImage.calls a0_0 a0_1 a0_2 _ _ l0_3 true _ ?side1 ?side2 A0.out).mono ?_); (case side1 => exact (Kd.C_below HR0.out (qW HB.out))); (case side2 => exact HC0.out); rintro e w306 ⟨rfl, hb⟩; have n307 := bB BKgm hb; have n308 := bB BKgx hb; have n309 := bB BKgy hb; have n310 := bB BKgr hb; have n311 := bS HB hb; clear HB BKgm BKgx BKgy BKgr; have BKgm := n307; have BKgx := n308; have BKgy := n309; have BKgr := n310; have HB := n311; clear n307 n308 n309 n310 n311 hb; have hz312 : w306.cell? ⟨gm, 0, none⟩ = some (.int .i64 a0_0) := (blk_cell BKgm.out 0).trans rfl; have hz313 : w306.cell? ⟨gm, 1, none⟩ = some (.int .i64 a0_1) := (blk_cell BKgm.out 1).trans rfl; have hz314 : w306.cell? ⟨gm, 2, none⟩ = some (.int .i64 a0_2) := (blk_cell BKgm.out 2).trans rfl; have hz315 : w306.cell? ⟨gm, 3, none⟩ = some (.slice A0_3 l0_3.length c0_3) := (blk_cell BKgm.out 3).trans rfl; have hf316 := blk_frozen BKgm.out 0; have hf317 := blk_frozen BKgm.out 1; have hf318 := blk_frozen BKgm.out 2; have hf319 := blk_frozen BKgm.out 3; have hz320 : w306.cell? ⟨gx, 0, none⟩ = some (.int .i64 a1) := (blk_cell BKgx.out 0).trans rfl; have hf321 := blk_frozen BKgx.out 0; have hz322 : w306.cell? ⟨gy, 0, none⟩ = some (.int .i64 a2) := (blk_cell BKgy.out 0).trans rfl; have hf323 := blk_frozen BKgy.out 0; have hz324 : w306.cell? ⟨gr, 0, none⟩ = some (.int .i64 0) := (blk_cell BKgr.out 0).trans rfl; have hz325 : w306.cell? ⟨gr, 1, none⟩ = some (.int .i64 0) := (blk_cell BKgr.out 1).trans rfl; have hz326 : w306.cell? ⟨gr, 2, none⟩ = some (.int .i64 0) := (blk_cell BKgr.out 2).trans rfl; have hz327 : w306.cell? ⟨gr, 3, none⟩ = some (.slice none 0 0) := (blk_cell BKgr.out 3).trans rfl; have hf328 := blk_frozen BKgr.out 0; have hf329 := blk_frozen BKgr.out 1; have hf330 := blk_frozen BKgr.out 2; have hf331 := blk_frozen BKgr.out 3) | (go_at_call 61; (with_reducible refine (impl_isSide.calls a1 true _ A1.out).mono ?_); rintro e w' ⟨rfl, ⟨nd, rfl⟩⟩) | (go_at_call 61; (with_reducible refine (impl_isSide.calls a2 false _ A2.out).mono ?_); rintro e w' ⟨rfl, ⟨nd, rfl⟩⟩))
    refine bodyPost_ret (results_cell_row rfl _ _ gr 26 #[.int .i64 0, .int .i64 0, .int .i64 0, .slice none 0 0] (0, 0) _ rfl (by exact bP BKgr.out) Try.underlying26 rfl (by kernel_rfl)) rfl ?_
    exact ⟨_, by first | rfl | (simp; done), Kd.R_nil _ _ _ _ _, by exact qW HB.out⟩
   | true =>
    rw [if_pos rfl] at H
    simp only [Option.some.injEq, Prod.mk.injEq] at H
    obtain ⟨rfl, rfl, rfl, hy⟩ := H
    have HY := aM hy
    clear hy
    have V := aM (isImage_true A0.out)
    have b0 := V.out.1
    have b1 := V.out.2.1
    have b2 := V.out.2.2.1
    have s1 := isSide_true A1.out
    have s2 := isSide_true A2.out
    have HF : Aside0 (∀ x y : Int, ((fun x y => pixOf l0_3 a0_0 a0_2 (x * a0_0 / a1) (y * a0_1 / a2)) x y).length ≤ 100) := ⟨fun _ _ => pixOf_len _ _ _ _ _ (by omega) (by omega)⟩
    generalize hyl : imgOf (fun x y => pixOf l0_3 a0_0 a0_2 (x * a0_0 / a1) (y * a0_1 / a2)) a1.toNat a2.toNat = yl at HY
    have HYL := aM hyl
    clear hyl
    go_enter Try.func28, Try.ntmps28
    go_wp2_with (first | ((with_reducible refine gate_dst (N := 3) rfl ?_); (try (refine gate_guard (by rfl) ?_; dsimp only)); refine bxE (N := 3) (cs := #[.int .i64 a0_0, .int .i64 a0_1, .int .i64 a0_2, .slice A0_3 l0_3.length c0_3]) (t := 26) ?_; intro gm hg w334 hbox hb; have n335 := bS HB hb; have n336 := aM hbox; have n337 := aM ((by rw [hg]; exact (below_size (qW HB.out))) : w.heap.size ≤ gm); clear HB; have HB := n335; have BKgm := n336; have GEgm := n337; clear n335 n336 n337; clear hb hbox hg; have hz338 : w334.cell? ⟨gm, 0, none⟩ = some (.int .i64 a0_0) := (blk_cell BKgm.out 0).trans rfl; have hz339 : w334.cell? ⟨gm, 1, none⟩ = some (.int .i64 a0_1) := (blk_cell BKgm.out 1).trans rfl; have hz340 : w334.cell? ⟨gm, 2, none⟩ = some (.int .i64 a0_2) := (blk_cell BKgm.out 2).trans rfl; have hz341 : w334.cell? ⟨gm, 3, none⟩ = some (.slice A0_3 l0_3.length c0_3) := (blk_cell BKgm.out 3).trans rfl; have hf342 := blk_frozen BKgm.out 0; have hf343 := blk_frozen BKgm.out 1; have hf344 := blk_frozen BKgm.out 2; have hf345 := blk_frozen BKgm.out 3) | ((with_reducible refine gate_dst (N := 4) rfl ?_); (try (refine gate_guard (by rfl) ?_; dsimp only)); refine bxE (N := 4) (cs := #[.int .i64 a1]) (t := 3) ?_; intro gx hg w346 hbox hb; have n347 := bB BKgm hb; have n348 := bS HB hb; have n349 := aM hbox; have n350 := aM ((by rw [hg]; exact (below_size (qW HB.out))) : w.heap.size ≤ gx); have n351 := aM ((by rw [hg]; exact Nat.ne_of_lt (blk_lt (g := gm) (o := .cells #[.int .i64 a0_0, .int .i64 a0_1, .int .i64 a0_2, .slice A0_3 l0_3.length c0_3] 26 (0, 0)) (qB BKgm.out))) : gm ≠ gx); have n352 := aM ((by rw [hg]; exact Nat.ne_of_gt (blk_lt (g := gm) (o := .cells #[.int .i64 a0_0, .int .i64 a0_1, .int .i64 a0_2, .slice A0_3 l0_3.length c0_3] 26 (0, 0)) (qB BKgm.out))) : gx ≠ gm); clear HB BKgm; have BKgm := n347; have HB := n348; have BKgx := n349; have GEgx := n350; have NBgm_gx := n351; have NBgx_gm := n352; clear n347 n348 n349 n350 n351 n352; clear hb hbox hg; have hz353 : w346.cell? ⟨gm, 0, none⟩ = some (.int .i64 a0_0) := (blk_cell BKgm.out 0).trans rfl; have hz354 : w346.cell? ⟨gm, 1, none⟩ = some (.int .i64 a0_1) := (blk_cell BKgm.out 1).trans rfl; have hz355 : w346.cell? ⟨gm, 2, none⟩ = some (.int .i64 a0_2) := (blk_cell BKgm.out 2).trans rfl; have hz356 : w346.cell? ⟨gm, 3, none⟩ = some (.slice A0_3 l0_3.length c0_3) := (blk_cell BKgm.out 3).trans rfl; have hf357 := blk_frozen BKgm.out 0; have hf358 := blk_frozen BKgm.out 1; have hf359 := blk_frozen BKgm.out 2; have hf360 := blk_frozen BKgm.out 3; have hz361 : w346.cell? ⟨gx, 0, none⟩ = some (.int .i64 a1) := (blk_cell BKgx.out 0).trans rfl; have hf362 := blk_frozen BKgx.out 0) | ((with_reducible refine gate_dst (N := 5) rfl ?_); (try (refine gate_guard (by rfl) ?_; dsimp only)); refine bxE (N := 5) (cs := #[.int .i64 a2]) (t := 3) ?_; intro gy hg w363 hbox hb; have n364 := bB BKgm hb; have n365 := bB BKgx hb; have n366 := bS HB hb; have n367 := aM hbox; have n368 := aM ((by rw [hg]; exact (below_size (qW HB.out))) : w.heap.size ≤ gy); have n369 := aM ((by rw [hg]; exact Nat.ne_of_lt (blk_lt (g := gm) (o := .cells #[.int .i64 a0_0, .int .i64 a0_1, .int .i64 a0_2, .slice A0_3 l0_3.length c0_3] 26 (0, 0)) (qB BKgm.out))) : gm ≠ gy); have n370 := aM ((by rw [hg]; exact Nat.ne_of_gt (blk_lt (g := gm) (o := .cells #[.int .i64 a0_0, .int .i64 a0_1, .int .i64 a0_2, .slice A0_3 l0_3.length c0_3] 26 (0, 0)) (qB BKgm.out))) : gy ≠ gm); have n371 := aM ((by rw [hg]; exact Nat.ne_of_lt (blk_lt (g := gx) (o := .cells #[.int .i64 a1] 3 (0, 0)) (qB BKgx.out))) : gx ≠ gy); have n372 := aM ((by rw [hg]; exact Nat.ne_of_gt (blk_lt (g := gx) (o := .cells #[.int .i64 a1] 3 (0, 0)) (qB BKgx.out))) : gy ≠ gx); clear HB BKgm BKgx; have BKgm := n364; have BKgx := n365; have HB := n366; have BKgy := n367; have GEgy := n368; have NBgm_gy := n369; have NBgy_gm := n370; have NBgx_gy := n371; have NBgy_gx := n372; clear n364 n365 n366 n367 n368 n369 n370 n371 n372; clear hb hbox hg; have hz373 : w363.cell? ⟨gm, 0, none⟩ = some (.int .i64 a0_0) := (blk_cell BKgm.out 0).trans rfl; have hz374 : w363.cell? ⟨gm, 1, none⟩ = some (.int .i64 a0_1) := (blk_cell BKgm.out 1).trans rfl; have hz375 : w363.cell? ⟨gm, 2, none⟩ = some (.int .i64 a0_2) := (blk_cell BKgm.out 2).trans rfl; have hz376 : w363.cell? ⟨gm, 3, none⟩ = some (.slice A0_3 l0_3.length c0_3) := (blk_cell BKgm.out 3).trans rfl; have hf377 := blk_frozen BKgm.out 0; have hf378 := blk_frozen BKgm.out 1; have hf379 := blk_frozen BKgm.out 2; have hf380 := blk_frozen BKgm.out 3; have hz381 : w363.cell? ⟨gx, 0, none⟩ = some (.int .i64 a1) := (blk_cell BKgx.out 0).trans rfl; have hf382 := blk_frozen BKgx.out 0; have hz383 : w363.cell? ⟨gy, 0, none⟩ = some (.int .i64 a2) := (blk_cell BKgy.out 0).trans rfl; have hf384 := blk_frozen BKgy.out 0) | ((with_reducible refine gate_dst (N := 6) rfl ?_); (try (refine gate_guard (by rfl) ?_; dsimp only)); refine bxE (N := 6) (cs := #[.int .i64 0, .int .i64 0, .int .i64 0, .slice none 0 0]) (t := 26) ?_; intro gr hg w385 hbox hb; have n386 := bB BKgm hb; have n387 := bB BKgx hb; have n388 := bB BKgy hb; have n389 := bS HB hb; have n390 := aM hbox; have n391 := aM ((by rw [hg]; exact (below_size (qW HB.out))) : w.heap.size ≤ gr); have n392 := aM ((by rw [hg]; exact Nat.ne_of_lt (blk_lt (g := gm) (o := .cells #[.int .i64 a0_0, .int .i64 a0_1, .int .i64 a0_2, .slice A0_3 l0_3.length c0_3] 26 (0, 0)) (qB BKgm.out))) : gm ≠ gr); have n393 := aM ((by rw [hg]; exact Nat.ne_of_gt (blk_lt (g := gm) (o := .cells #[.int .i64 a0_0, .int .i64 a0_1, .int .i64 a0_2, .slice A0_3 l0_3.length c0_3] 26 (0, 0)) (qB BKgm.out))) : gr ≠ gm); have n394 := aM ((by rw [hg]; exact Nat.ne_of_lt (blk_lt (g := gx) (o := .cells #[.int .i64 a1] 3 (0, 0)) (qB BKgx.out))) : gx ≠ gr); have n395 := aM ((by rw [hg]; exact Nat.ne_of_gt (blk_lt (g := gx) (o := .cells #[.int .i64 a1] 3 (0, 0)) (qB BKgx.out))) : gr ≠ gx); have n396 := aM ((by rw [hg]; exact Nat.ne_of_lt (blk_lt (g := gy) (o := .cells #[.int .i64 a2] 3 (0, 0)) (qB BKgy.out))) : gy ≠ gr); have n397 := aM ((by rw [hg]; exact Nat.ne_of_gt (blk_lt (g := gy) (o := .cells #[.int .i64 a2] 3 (0, 0)) (qB BKgy.out))) : gr ≠ gy); clear HB BKgm BKgx BKgy; have BKgm := n386; have BKgx := n387; have BKgy := n388; have HB := n389; have BKgr := n390; have GEgr := n391; have NBgm_gr := n392; have NBgr_gm := n393; have NBgx_gr := n394; have NBgr_gx := n395; have NBgy_gr := n396; have NBgr_gy := n397; clear n386 n387 n388 n389 n390 n391 n392 n393 n394 n395 n396 n397; clear hb hbox hg; have hz398 : w385.cell? ⟨gm, 0, none⟩ = some (.int .i64 a0_0) := (blk_cell BKgm.out 0).trans rfl; have hz399 : w385.cell? ⟨gm, 1, none⟩ = some (.int .i64 a0_1) := (blk_cell BKgm.out 1).trans rfl; have hz400 : w385.cell? ⟨gm, 2, none⟩ = some (.int .i64 a0_2) := (blk_cell BKgm.out 2).trans rfl; have hz401 : w385.cell? ⟨gm, 3, none⟩ = some (.slice A0_3 l0_3.length c0_3) := (blk_cell BKgm.out 3).trans rfl; have hf402 := blk_frozen BKgm.out 0; have hf403 := blk_frozen BKgm.out 1; have hf404 := blk_frozen BKgm.out 2; have hf405 := blk_frozen BKgm.out 3; have hz406 : w385.cell? ⟨gx, 0, none⟩ = some (.int .i64 a1) := (blk_cell BKgx.out 0).trans rfl; have hf407 := blk_frozen BKgx.out 0; have hz408 : w385.cell? ⟨gy, 0, none⟩ = some (.int .i64 a2) := (blk_cell BKgy.out 0).trans rfl; have hf409 := blk_frozen BKgy.out 0; have hz410 : w385.cell? ⟨gr, 0, none⟩ = some (.int .i64 0) := (blk_cell BKgr.out 0).trans rfl; have hz411 : w385.cell? ⟨gr, 1, none⟩ = some (.int .i64 0) := (blk_cell BKgr.out 1).trans rfl; have hz412 : w385.cell? ⟨gr, 2, none⟩ = some (.int .i64 0) := (blk_cell BKgr.out 2).trans rfl; have hz413 : w385.cell? ⟨gr, 3, none⟩ = some (.slice none 0 0) := (blk_cell BKgr.out 3).trans rfl; have hf414 := blk_frozen BKgr.out 0; have hf415 := blk_frozen BKgr.out 1; have hf416 := blk_frozen BKgr.out 2; have hf417 := blk_frozen BKgr.out 3) | (go_at_call 48; (with_reducible refine (impl_isImage.calls a0_0 a0_1 a0_2 _ _ l0_3 true _ ?side1 ?side2 A0.out).mono ?_); (case side1 => exact (Kd.C_below HR0.out (qW HB.out))); (case side2 => exact HC0.out); rintro e w418 ⟨rfl, hb⟩; have n419 := bB BKgm hb; have n420 := bB BKgx hb; have n421 := bB BKgy hb; have n422 := bB BKgr hb; have n423 := bS HB hb; clear HB BKgm BKgx BKgy BKgr; have BKgm := n419; have BKgx := n420; have BKgy := n421; have BKgr := n422; have HB := n423; clear n419 n420 n421 n422 n423 hb; have hz424 : w418.cell? ⟨gm, 0, none⟩ = some (.int .i64 a0_0) := (blk_cell BKgm.out 0).trans rfl; have hz425 : w418.cell? ⟨gm, 1, none⟩ = some (.int .i64 a0_1) := (blk_cell BKgm.out 1).trans rfl; have hz426 : w418.cell? ⟨gm, 2, none⟩ = some (.int .i64 a0_2) := (blk_cell BKgm.out 2).trans rfl; have hz427 : w418.cell? ⟨gm, 3, none⟩ = some (.slice A0_3 l0_3.length c0_3) := (blk_cell BKgm.out 3).trans rfl; have hf428 := blk_frozen BKgm.out 0; have hf429 := blk_frozen BKgm.out 1; have hf430 := blk_frozen BKgm.out 2; have hf431 := blk_frozen BKgm.out 3; have hz432 : w418.cell? ⟨gx, 0, none⟩ = some (.int .i64 a1) := (blk_cell BKgx.out 0).trans rfl; have hf433 := blk_frozen BKgx.out 0; have hz434 : w418.cell? ⟨gy, 0, none⟩ = some (.int .i64 a2) := (blk_cell BKgy.out 0).trans rfl; have hf435 := blk_frozen BKgy.out 0; have hz436 : w418.cell? ⟨gr, 0, none⟩ = some (.int .i64 0) := (blk_cell BKgr.out 0).trans rfl; have hz437 : w418.cell? ⟨gr, 1, none⟩ = some (.int .i64 0) := (blk_cell BKgr.out 1).trans rfl; have hz438 : w418.cell? ⟨gr, 2, none⟩ = some (.int .i64 0) := (blk_cell BKgr.out 2).trans rfl; have hz439 : w418.cell? ⟨gr, 3, none⟩ = some (.slice none 0 0) := (blk_cell BKgr.out 3).trans rfl; have hf440 := blk_frozen BKgr.out 0; have hf441 := blk_frozen BKgr.out 1; have hf442 := blk_frozen BKgr.out 2; have hf443 := blk_frozen BKgr.out 3) | (go_at_call 61; (with_reducible refine (impl_isSide.calls a1 true _ A1.out).mono ?_); rintro e w' ⟨rfl, ⟨nd, rfl⟩⟩) | (go_at_call 61; (with_reducible refine (impl_isSide.calls a2 true _ A2.out).mono ?_); rintro e w' ⟨rfl, ⟨nd, rfl⟩⟩) | (go_at_call 49; refine (impl_imageBy.calls 67 #[.pointer (some ⟨gm, 0, none⟩), .pointer (some ⟨gx, 0, none⟩), .pointer (some ⟨gy, 0, none⟩)] (enters_of Try.func67 (by kernel_rfl) rfl) _ a1 a2 a0_2 _ ?b0 ?b1 ?b2 ?b3 ?bf (scaleNearestPix _ gm gx gy a0_0 a0_1 a0_2 _ _ l0_3 a1 a2 (qB BKgm.out) (qB BKgx.out) (qB BKgy.out) (Kd.C_below HR0.out (qW HB.out)) HC0.out V.out s1.1 s1.2 s2.1 s2.2)).mono ?_; (case b0 => omega); (case b1 => omega); (case b2 => omega); (case b3 => omega); (case bf => exact HF.out); rintro e w446 ⟨v3, rfl, ho, hb⟩; rw [HYL.out] at ho; have HLB := aM (below_size (qW HB.out)); obtain ⟨Ao, co, eo⟩ := Kd.R_slice ho; subst eo; have HO := aM ho; clear ho; have n448 := bB BKgm hb; have n449 := bB BKgx hb; have n450 := bB BKgy hb; have n451 := bB BKgr hb; have n452 := bS HB hb; clear HB BKgm BKgx BKgy BKgr; have BKgm := n448; have BKgx := n449; have BKgy := n450; have BKgr := n451; have HB := n452; clear n448 n449 n450 n451 n452 hb; have hz453 : w446.cell? ⟨gm, 0, none⟩ = some (.int .i64 a0_0) := (blk_cell BKgm.out 0).trans rfl; have hz454 : w446.cell? ⟨gm, 1, none⟩ = some (.int .i64 a0_1) := (blk_cell BKgm.out 1).trans rfl; have hz455 : w446.cell? ⟨gm, 2, none⟩ = some (.int .i64 a0_2) := (blk_cell BKgm.out 2).trans rfl; have hz456 : w446.cell? ⟨gm, 3, none⟩ = some (.slice A0_3 l0_3.length c0_3) := (blk_cell BKgm.out 3).trans rfl; have hf457 := blk_frozen BKgm.out 0; have hf458 := blk_frozen BKgm.out 1; have hf459 := blk_frozen BKgm.out 2; have hf460 := blk_frozen BKgm.out 3; have hz461 : w446.cell? ⟨gx, 0, none⟩ = some (.int .i64 a1) := (blk_cell BKgx.out 0).trans rfl; have hf462 := blk_frozen BKgx.out 0; have hz463 : w446.cell? ⟨gy, 0, none⟩ = some (.int .i64 a2) := (blk_cell BKgy.out 0).trans rfl; have hf464 := blk_frozen BKgy.out 0; have hz465 : w446.cell? ⟨gr, 0, none⟩ = some (.int .i64 0) := (blk_cell BKgr.out 0).trans rfl; have hz466 : w446.cell? ⟨gr, 1, none⟩ = some (.int .i64 0) := (blk_cell BKgr.out 1).trans rfl; have hz467 : w446.cell? ⟨gr, 2, none⟩ = some (.int .i64 0) := (blk_cell BKgr.out 2).trans rfl; have hz468 : w446.cell? ⟨gr, 3, none⟩ = some (.slice none 0 0) := (blk_cell BKgr.out 3).trans rfl; have hf469 := blk_frozen BKgr.out 0; have hf470 := blk_frozen BKgr.out 1; have hf471 := blk_frozen BKgr.out 2; have hf472 := blk_frozen BKgr.out 3))
    refine bodyPost_ret (results_cell_row rfl _ _ gr 26 #[.int .i64 a1, .int .i64 a2, .int .i64 a0_2, .slice Ao yl.length co] (0, 0) _ rfl (by exact bP BKgr.out) Try.underlying26 rfl (by kernel_rfl)) rfl ?_
    exact ⟨_, by first | rfl | (simp; done), by rw [← HY.out]; refine qR ?_; exact Kd.R_mono (Kd.R_far (p := ⟨gr, 3, none⟩) (Kd.R_far (p := ⟨gr, 2, none⟩) (Kd.R_far (p := ⟨gr, 1, none⟩) (Kd.R_far (p := ⟨gr, 0, none⟩) (Kd.R_types (Kd.R_lower HO.out HLB.out) BKgr.out (by decide)) (fun _ hk => hk.2) _) (fun _ hk => hk.2) _) (fun _ hk => hk.2) _) (fun _ hk => hk.2) _) (fun _ hk => trivial), by exact qW HB.out⟩
set_option maxHeartbeats 8000000 in
set_option maxRecDepth 100000 in
theorem transposeImagePix (w : World) (B1 : Nat) (a0 a1 a2 : Int) (A : Option Addr) (c : Nat) (l : List Int)
  (hB1 : w.heap[B1]? = some (.cells #[.int .i64 a0, .int .i64 a1, .int .i64 a2, .slice A l.length c] 26 (0, 0)))
  (hr : Kd.C (Kd.int .i64) w A l.length l) (hc : l.length ≤ c) (V : ImgOk a0 a1 a2 l) :
  PixAt 69 #[.pointer (some ⟨B1, 0, none⟩)] (fun x y => pixOf l a0 a2 y x) a1 a0 w := fun W x y hb hx hx' hy hy' => by
 obtain ⟨⟨v0, v0'⟩, ⟨v1, v1'⟩, ⟨v2, v2'⟩, hlen, _⟩ := V
 have hfit := pix_fits (a0 := a0) (a1 := a1) (a2 := a2) (x := y) (y := x) (by omega) (by omega) (by omega) (by omega) (by omega)
 rw [← hlen] at hfit
 have KB1 := aM (blk_below hB1 hb)
 have hcall := fun (W' : World) (hb' : Below W.heap.size W W') => impl_at.calls a0 a1 a2 A c l (y) (x) W' (Kd.C_below (Kd.C_below hr hb) hb') hc (by omega) v0' (by omega) (by omega) (by omega) (by omega) (by omega) (by omega) hfit
 have HC := aM hcall
 clear hcall hfit hlen hr hc hB1 hb
 have hzB1_0 : W.cell? ⟨B1, 0, none⟩ = some (.int .i64 a0) := (blk_cell KB1.out 0).trans rfl
 have hzB1_1 : W.cell? ⟨B1, 1, none⟩ = some (.int .i64 a1) := (blk_cell KB1.out 1).trans rfl
 have hzB1_2 : W.cell? ⟨B1, 2, none⟩ = some (.int .i64 a2) := (blk_cell KB1.out 2).trans rfl
 have hzB1_3 : W.cell? ⟨B1, 3, none⟩ = some (.slice A l.length c) := (blk_cell KB1.out 3).trans rfl
 dsimp only
 generalize pixOf l a0 a2 (y) (x) = px at HC ⊢
 go_enter Try.func69, Try.ntmps69
 go_wp2_with (go_at_call 51; refine (HC.out _ (Below.refl _ _)).mono ?_; rintro e w' ⟨A', c', rfl, hr', hl', hb'⟩)
 go_ret
 exact ⟨A', c', rfl, hr', hl', hb'⟩
def impl_TransposeImage.f (a0_0 : Int) (a0_1 : Int) (a0_2 : Int) (l0_3 : List Int) : Option (Int × Int × Int × List Int) := (impl_isImage.f a0_0 a0_1 a0_2 l0_3).bind fun t0 => (if t0 = true then (some (a0_1, a0_0, a0_2, imgOf (fun x y => pixOf l0_3 a0_0 a0_2 y x) a0_1.toNat a0_0.toNat)) else (some (0, 0, 0, ([] : List Int))))
set_option maxHeartbeats 8000000 in
set_option maxRecDepth 100000 in
theorem impl_TransposeImage.calls (a0_0 : Int) (a0_1 : Int) (a0_2 : Int) (A0_3 : Option Addr) (c0_3 : Nat) (l0_3 : List Int) (r1 : Int) (r2 : Int) (r3 : Int) (r4 : List Int) (w : World) (hr0_3 : Kd.C (Kd.int .i64) w A0_3 l0_3.length l0_3) (hc0_3 : l0_3.length ≤ c0_3) (h : impl_TransposeImage.f a0_0 a0_1 a0_2 l0_3 = some (r1, r2, r3, r4)) :
  Calls Try.prog 30 #[.agg #[.int .i64 a0_0, .int .i64 a0_1, .int .i64 a0_2, .slice A0_3 l0_3.length c0_3]] w fun e w' => ∃ v3_ : Value, e = .returned (.agg #[.int .i64 r1, .int .i64 r2, .int .i64 r3, v3_]) ∧ Kd.R (Kd.int .i64) 3 w' w.heap.size (fun _ => True) v3_ r4 ∧ Below w.heap.size w w' := by
 have hu26 := Try.underlying26
 have HR0 := aM hr0_3
 have HC0 := aM hc0_3
 clear hr0_3 hc0_3
 have HB := aM (Below.refl w.heap.size w)
 unfold impl_TransposeImage.f at h
 have H := h
 clear h
 replace H := Option.bind_eq_some_iff.mp H
 obtain ⟨t0, q0, H⟩ := H
 have A0 := aM q0
 clear q0
 cases t0 with
 | false =>
  rw [if_neg (show ¬ (false = true) by decide)] at H
  simp only [Option.some.injEq, Prod.mk.injEq] at H
  obtain ⟨rfl, rfl, rfl, rfl⟩ := H
  go_enter Try.func30, Try.ntmps30
  go_wp2_with (first | ((with_reducible refine gate_dst (N := 1) rfl ?_); (try (refine gate_guard (by rfl) ?_; dsimp only)); refine bxE (N := 1) (cs := #[.int .i64 a0_0, .int .i64 a0_1, .int .i64 a0_2, .slice A0_3 l0_3.length c0_3]) (t := 26) ?_; intro gm hg w1076 hbox hb; have n1077 := bS HB hb; have n1078 := aM hbox; have n1079 := aM ((by rw [hg]; exact (below_size (qW HB.out))) : w.heap.size ≤ gm); clear HB; have HB := n1077; have BKgm := n1078; have GEgm := n1079; clear n1077 n1078 n1079; clear hb hbox hg; have hz1080 : w1076.cell? ⟨gm, 0, none⟩ = some (.int .i64 a0_0) := (blk_cell BKgm.out 0).trans rfl; have hz1081 : w1076.cell? ⟨gm, 1, none⟩ = some (.int .i64 a0_1) := (blk_cell BKgm.out 1).trans rfl; have hz1082 : w1076.cell? ⟨gm, 2, none⟩ = some (.int .i64 a0_2) := (blk_cell BKgm.out 2).trans rfl; have hz1083 : w1076.cell? ⟨gm, 3, none⟩ = some (.slice A0_3 l0_3.length c0_3) := (blk_cell BKgm.out 3).trans rfl; have hf1084 := blk_frozen BKgm.out 0; have hf1085 := blk_frozen BKgm.out 1; have hf1086 := blk_frozen BKgm.out 2; have hf1087 := blk_frozen BKgm.out 3) | ((with_reducible refine gate_dst (N := 2) rfl ?_); (try (refine gate_guard (by rfl) ?_; dsimp only)); refine bxE (N := 2) (cs := #[.int .i64 0, .int .i64 0, .int .i64 0, .slice none 0 0]) (t := 26) ?_; intro gr hg w1088 hbox hb; have n1089 := bB BKgm hb; have n1090 := bS HB hb; have n1091 := aM hbox; have n1092 := aM ((by rw [hg]; exact (below_size (qW HB.out))) : w.heap.size ≤ gr); have n1093 := aM ((by rw [hg]; exact Nat.ne_of_lt (blk_lt (g := gm) (o := .cells #[.int .i64 a0_0, .int .i64 a0_1, .int .i64 a0_2, .slice A0_3 l0_3.length c0_3] 26 (0, 0)) (qB BKgm.out))) : gm ≠ gr); have n1094 := aM ((by rw [hg]; exact Nat.ne_of_gt (blk_lt (g := gm) (o := .cells #[.int .i64 a0_0, .int .i64 a0_1, .int .i64 a0_2, .slice A0_3 l0_3.length c0_3] 26 (0, 0)) (qB BKgm.out))) : gr ≠ gm); clear HB BKgm; have BKgm := n1089; have HB := n1090; have BKgr := n1091; have GEgr := n1092; have NBgm_gr := n1093; have NBgr_gm := n1094; clear n1089 n1090 n1091 n1092 n1093 n1094; clear hb hbox hg; have hz1095 : w1088.cell? ⟨gm, 0, none⟩ = some (.int .i64 a0_0) := (blk_cell BKgm.out 0).trans rfl; have hz1096 : w1088.cell? ⟨gm, 1, none⟩ = some (.int .i64 a0_1) := (blk_cell BKgm.out 1).trans rfl; have hz1097 : w1088.cell? ⟨gm, 2, none⟩ = some (.int .i64 a0_2) := (blk_cell BKgm.out 2).trans rfl; have hz1098 : w1088.cell? ⟨gm, 3, none⟩ = some (.slice A0_3 l0_3.length c0_3) := (blk_cell BKgm.out 3).trans rfl; have hf1099 := blk_frozen BKgm.out 0; have hf1100 := blk_frozen BKgm.out 1; have hf1101 := blk_frozen BKgm.out 2; have hf1102 := blk_frozen BKgm.out 3; have hz1103 : w1088.cell? ⟨gr, 0, none⟩ = some (.int .i64 0) := (blk_cell BKgr.out 0).trans rfl; have hz1104 : w1088.cell? ⟨gr, 1, none⟩ = some (.int .i64 0) := (blk_cell BKgr.out 1).trans rfl; have hz1105 : w1088.cell? ⟨gr, 2, none⟩ = some (.int .i64 0) := (blk_cell BKgr.out 2).trans rfl; have hz1106 : w1088.cell? ⟨gr, 3, none⟩ = some (.slice none 0 0) := (blk_cell BKgr.out 3).trans rfl; have hf1107 := blk_frozen BKgr.out 0; have hf1108 := blk_frozen BKgr.out 1; have hf1109 := blk_frozen BKgr.out 2; have hf1110 := blk_frozen BKgr.out 3) | (go_at_call 48; (with_reducible refine (impl_isImage.calls a0_0 a0_1 a0_2 _ _ l0_3 false _ ?side1 ?side2 A0.out).mono ?_); (case side1 => exact (Kd.C_below HR0.out (qW HB.out))); (case side2 => exact HC0.out); rintro e w1111 ⟨rfl, hb⟩; have n1112 := bB BKgm hb; have n1113 := bB BKgr hb; have n1114 := bS HB hb; clear HB BKgm BKgr; have BKgm := n1112; have BKgr := n1113; have HB := n1114; clear n1112 n1113 n1114 hb; have hz1115 : w1111.cell? ⟨gm, 0, none⟩ = some (.int .i64 a0_0) := (blk_cell BKgm.out 0).trans rfl; have hz1116 : w1111.cell? ⟨gm, 1, none⟩ = some (.int .i64 a0_1) := (blk_cell BKgm.out 1).trans rfl; have hz1117 : w1111.cell? ⟨gm, 2, none⟩ = some (.int .i64 a0_2) := (blk_cell BKgm.out 2).trans rfl; have hz1118 : w1111.cell? ⟨gm, 3, none⟩ = some (.slice A0_3 l0_3.length c0_3) := (blk_cell BKgm.out 3).trans rfl; have hf1119 := blk_frozen BKgm.out 0; have hf1120 := blk_frozen BKgm.out 1; have hf1121 := blk_frozen BKgm.out 2; have hf1122 := blk_frozen BKgm.out 3; have hz1123 : w1111.cell? ⟨gr, 0, none⟩ = some (.int .i64 0) := (blk_cell BKgr.out 0).trans rfl; have hz1124 : w1111.cell? ⟨gr, 1, none⟩ = some (.int .i64 0) := (blk_cell BKgr.out 1).trans rfl; have hz1125 : w1111.cell? ⟨gr, 2, none⟩ = some (.int .i64 0) := (blk_cell BKgr.out 2).trans rfl; have hz1126 : w1111.cell? ⟨gr, 3, none⟩ = some (.slice none 0 0) := (blk_cell BKgr.out 3).trans rfl; have hf1127 := blk_frozen BKgr.out 0; have hf1128 := blk_frozen BKgr.out 1; have hf1129 := blk_frozen BKgr.out 2; have hf1130 := blk_frozen BKgr.out 3))
  refine bodyPost_ret (results_cell_row rfl _ _ gr 26 #[.int .i64 0, .int .i64 0, .int .i64 0, .slice none 0 0] (0, 0) _ rfl (by exact bP BKgr.out) Try.underlying26 rfl (by kernel_rfl)) rfl ?_
  exact ⟨_, by first | rfl | (simp; done), Kd.R_nil _ _ _ _ _, by exact qW HB.out⟩
 | true =>
  rw [if_pos rfl] at H
  simp only [Option.some.injEq, Prod.mk.injEq] at H
  obtain ⟨rfl, rfl, rfl, hy⟩ := H
  have HY := aM hy
  clear hy
  have V := aM (isImage_true A0.out)
  have b0 := V.out.1
  have b1 := V.out.2.1
  have b2 := V.out.2.2.1
  have HF : Aside0 (∀ x y : Int, ((fun x y => pixOf l0_3 a0_0 a0_2 y x) x y).length ≤ 100) := ⟨fun _ _ => pixOf_len _ _ _ _ _ (by omega) (by omega)⟩
  generalize hyl : imgOf (fun x y => pixOf l0_3 a0_0 a0_2 y x) a0_1.toNat a0_0.toNat = yl at HY
  have HYL := aM hyl
  clear hyl
  go_enter Try.func30, Try.ntmps30
  go_wp2_with (first | ((with_reducible refine gate_dst (N := 1) rfl ?_); (try (refine gate_guard (by rfl) ?_; dsimp only)); refine bxE (N := 1) (cs := #[.int .i64 a0_0, .int .i64 a0_1, .int .i64 a0_2, .slice A0_3 l0_3.length c0_3]) (t := 26) ?_; intro gm hg w1131 hbox hb; have n1132 := bS HB hb; have n1133 := aM hbox; have n1134 := aM ((by rw [hg]; exact (below_size (qW HB.out))) : w.heap.size ≤ gm); clear HB; have HB := n1132; have BKgm := n1133; have GEgm := n1134; clear n1132 n1133 n1134; clear hb hbox hg; have hz1135 : w1131.cell? ⟨gm, 0, none⟩ = some (.int .i64 a0_0) := (blk_cell BKgm.out 0).trans rfl; have hz1136 : w1131.cell? ⟨gm, 1, none⟩ = some (.int .i64 a0_1) := (blk_cell BKgm.out 1).trans rfl; have hz1137 : w1131.cell? ⟨gm, 2, none⟩ = some (.int .i64 a0_2) := (blk_cell BKgm.out 2).trans rfl; have hz1138 : w1131.cell? ⟨gm, 3, none⟩ = some (.slice A0_3 l0_3.length c0_3) := (blk_cell BKgm.out 3).trans rfl; have hf1139 := blk_frozen BKgm.out 0; have hf1140 := blk_frozen BKgm.out 1; have hf1141 := blk_frozen BKgm.out 2; have hf1142 := blk_frozen BKgm.out 3) | ((with_reducible refine gate_dst (N := 2) rfl ?_); (try (refine gate_guard (by rfl) ?_; dsimp only)); refine bxE (N := 2) (cs := #[.int .i64 0, .int .i64 0, .int .i64 0, .slice none 0 0]) (t := 26) ?_; intro gr hg w1143 hbox hb; have n1144 := bB BKgm hb; have n1145 := bS HB hb; have n1146 := aM hbox; have n1147 := aM ((by rw [hg]; exact (below_size (qW HB.out))) : w.heap.size ≤ gr); have n1148 := aM ((by rw [hg]; exact Nat.ne_of_lt (blk_lt (g := gm) (o := .cells #[.int .i64 a0_0, .int .i64 a0_1, .int .i64 a0_2, .slice A0_3 l0_3.length c0_3] 26 (0, 0)) (qB BKgm.out))) : gm ≠ gr); have n1149 := aM ((by rw [hg]; exact Nat.ne_of_gt (blk_lt (g := gm) (o := .cells #[.int .i64 a0_0, .int .i64 a0_1, .int .i64 a0_2, .slice A0_3 l0_3.length c0_3] 26 (0, 0)) (qB BKgm.out))) : gr ≠ gm); clear HB BKgm; have BKgm := n1144; have HB := n1145; have BKgr := n1146; have GEgr := n1147; have NBgm_gr := n1148; have NBgr_gm := n1149; clear n1144 n1145 n1146 n1147 n1148 n1149; clear hb hbox hg; have hz1150 : w1143.cell? ⟨gm, 0, none⟩ = some (.int .i64 a0_0) := (blk_cell BKgm.out 0).trans rfl; have hz1151 : w1143.cell? ⟨gm, 1, none⟩ = some (.int .i64 a0_1) := (blk_cell BKgm.out 1).trans rfl; have hz1152 : w1143.cell? ⟨gm, 2, none⟩ = some (.int .i64 a0_2) := (blk_cell BKgm.out 2).trans rfl; have hz1153 : w1143.cell? ⟨gm, 3, none⟩ = some (.slice A0_3 l0_3.length c0_3) := (blk_cell BKgm.out 3).trans rfl; have hf1154 := blk_frozen BKgm.out 0; have hf1155 := blk_frozen BKgm.out 1; have hf1156 := blk_frozen BKgm.out 2; have hf1157 := blk_frozen BKgm.out 3; have hz1158 : w1143.cell? ⟨gr, 0, none⟩ = some (.int .i64 0) := (blk_cell BKgr.out 0).trans rfl; have hz1159 : w1143.cell? ⟨gr, 1, none⟩ = some (.int .i64 0) := (blk_cell BKgr.out 1).trans rfl; have hz1160 : w1143.cell? ⟨gr, 2, none⟩ = some (.int .i64 0) := (blk_cell BKgr.out 2).trans rfl; have hz1161 : w1143.cell? ⟨gr, 3, none⟩ = some (.slice none 0 0) := (blk_cell BKgr.out 3).trans rfl; have hf1162 := blk_frozen BKgr.out 0; have hf1163 := blk_frozen BKgr.out 1; have hf1164 := blk_frozen BKgr.out 2; have hf1165 := blk_frozen BKgr.out 3) | (go_at_call 48; (with_reducible refine (impl_isImage.calls a0_0 a0_1 a0_2 _ _ l0_3 true _ ?side1 ?side2 A0.out).mono ?_); (case side1 => exact (Kd.C_below HR0.out (qW HB.out))); (case side2 => exact HC0.out); rintro e w1166 ⟨rfl, hb⟩; have n1167 := bB BKgm hb; have n1168 := bB BKgr hb; have n1169 := bS HB hb; clear HB BKgm BKgr; have BKgm := n1167; have BKgr := n1168; have HB := n1169; clear n1167 n1168 n1169 hb; have hz1170 : w1166.cell? ⟨gm, 0, none⟩ = some (.int .i64 a0_0) := (blk_cell BKgm.out 0).trans rfl; have hz1171 : w1166.cell? ⟨gm, 1, none⟩ = some (.int .i64 a0_1) := (blk_cell BKgm.out 1).trans rfl; have hz1172 : w1166.cell? ⟨gm, 2, none⟩ = some (.int .i64 a0_2) := (blk_cell BKgm.out 2).trans rfl; have hz1173 : w1166.cell? ⟨gm, 3, none⟩ = some (.slice A0_3 l0_3.length c0_3) := (blk_cell BKgm.out 3).trans rfl; have hf1174 := blk_frozen BKgm.out 0; have hf1175 := blk_frozen BKgm.out 1; have hf1176 := blk_frozen BKgm.out 2; have hf1177 := blk_frozen BKgm.out 3; have hz1178 : w1166.cell? ⟨gr, 0, none⟩ = some (.int .i64 0) := (blk_cell BKgr.out 0).trans rfl; have hz1179 : w1166.cell? ⟨gr, 1, none⟩ = some (.int .i64 0) := (blk_cell BKgr.out 1).trans rfl; have hz1180 : w1166.cell? ⟨gr, 2, none⟩ = some (.int .i64 0) := (blk_cell BKgr.out 2).trans rfl; have hz1181 : w1166.cell? ⟨gr, 3, none⟩ = some (.slice none 0 0) := (blk_cell BKgr.out 3).trans rfl; have hf1182 := blk_frozen BKgr.out 0; have hf1183 := blk_frozen BKgr.out 1; have hf1184 := blk_frozen BKgr.out 2; have hf1185 := blk_frozen BKgr.out 3) | (go_at_call 49; refine (impl_imageBy.calls 69 #[.pointer (some ⟨gm, 0, none⟩)] (enters_of Try.func69 (by kernel_rfl) rfl) _ a0_1 a0_0 a0_2 _ ?b0 ?b1 ?b2 ?b3 ?bf (transposeImagePix _ gm a0_0 a0_1 a0_2 _ _ l0_3 (qB BKgm.out) (Kd.C_below HR0.out (qW HB.out)) HC0.out V.out)).mono ?_; (case b0 => omega); (case b1 => omega); (case b2 => omega); (case b3 => omega); (case bf => exact HF.out); rintro e w1186 ⟨v3, rfl, ho, hb⟩; rw [HYL.out] at ho; have HLB := aM (below_size (qW HB.out)); obtain ⟨Ao, co, eo⟩ := Kd.R_slice ho; subst eo; have HO := aM ho; clear ho; have n1188 := bB BKgm hb; have n1189 := bB BKgr hb; have n1190 := bS HB hb; clear HB BKgm BKgr; have BKgm := n1188; have BKgr := n1189; have HB := n1190; clear n1188 n1189 n1190 hb; have hz1191 : w1186.cell? ⟨gm, 0, none⟩ = some (.int .i64 a0_0) := (blk_cell BKgm.out 0).trans rfl; have hz1192 : w1186.cell? ⟨gm, 1, none⟩ = some (.int .i64 a0_1) := (blk_cell BKgm.out 1).trans rfl; have hz1193 : w1186.cell? ⟨gm, 2, none⟩ = some (.int .i64 a0_2) := (blk_cell BKgm.out 2).trans rfl; have hz1194 : w1186.cell? ⟨gm, 3, none⟩ = some (.slice A0_3 l0_3.length c0_3) := (blk_cell BKgm.out 3).trans rfl; have hf1195 := blk_frozen BKgm.out 0; have hf1196 := blk_frozen BKgm.out 1; have hf1197 := blk_frozen BKgm.out 2; have hf1198 := blk_frozen BKgm.out 3; have hz1199 : w1186.cell? ⟨gr, 0, none⟩ = some (.int .i64 0) := (blk_cell BKgr.out 0).trans rfl; have hz1200 : w1186.cell? ⟨gr, 1, none⟩ = some (.int .i64 0) := (blk_cell BKgr.out 1).trans rfl; have hz1201 : w1186.cell? ⟨gr, 2, none⟩ = some (.int .i64 0) := (blk_cell BKgr.out 2).trans rfl; have hz1202 : w1186.cell? ⟨gr, 3, none⟩ = some (.slice none 0 0) := (blk_cell BKgr.out 3).trans rfl; have hf1203 := blk_frozen BKgr.out 0; have hf1204 := blk_frozen BKgr.out 1; have hf1205 := blk_frozen BKgr.out 2; have hf1206 := blk_frozen BKgr.out 3))
  refine bodyPost_ret (results_cell_row rfl _ _ gr 26 #[.int .i64 a0_1, .int .i64 a0_0, .int .i64 a0_2, .slice Ao yl.length co] (0, 0) _ rfl (by exact bP BKgr.out) Try.underlying26 rfl (by kernel_rfl)) rfl ?_
  exact ⟨_, by first | rfl | (simp; done), by rw [← HY.out]; refine qR ?_; exact Kd.R_mono (Kd.R_far (p := ⟨gr, 3, none⟩) (Kd.R_far (p := ⟨gr, 2, none⟩) (Kd.R_far (p := ⟨gr, 1, none⟩) (Kd.R_far (p := ⟨gr, 0, none⟩) (Kd.R_types (Kd.R_lower HO.out HLB.out) BKgr.out (by decide)) (fun _ hk => hk.2) _) (fun _ hk => hk.2) _) (fun _ hk => hk.2) _) (fun _ hk => hk.2) _) (fun _ hk => trivial), by exact qW HB.out⟩
def IsS72 (w0 W : World) (g : Nat) (f0 : List Int) (f1 : Int) : Prop := ∃ A0 c0, W.heap[g]? = some (.cells #[.slice A0 f0.length c0, .int .i64 f1] 72 (0, 0)) ∧ w0.heap.size ≤ g ∧ Kd.C (Kd.int .u8) w0 A0 f0.length f0
theorem IsS72.grown {w0 W : World} {g : Nat} {f0 : List Int} {f1 : Int} {W1 : World} {row : Option Nat} (h : IsS72 w0 W g f0 f1) (hw : W.grownBy W1 row) (hne : some g ≠ row) : IsS72 w0 W1 g f0 f1 := by
 obtain ⟨A0, c0, hb, hg, hr0⟩ := h
 exact ⟨A0, c0, blk_grown hb hw hne, hg, hr0⟩
theorem IsS72.own_neN {w0 W : World} {g : Nat} {f0 : List Int} {f1 : Int} {α : Type} {d : Kd α} {e : Nat} {base : Nat} {ok : Nat → Prop} {v : Value} {xs : List α} (h : IsS72 w0 W g f0 f1) (ho : Kd.N d e W base ok v xs) (ht : e ≠ 72) : some g ≠ v.ownBlock := by
 obtain ⟨A0, c0, hb, hg, hr0⟩ := h
 exact Kd.N_ne ho hb ht
theorem IsS72.fresh {w0 W : World} {g : Nat} {f0 : List Int} {f1 : Int} (h : IsS72 w0 W g f0 f1) : ∀ k, W.heap.size ≤ k → k ≠ g := by
 obtain ⟨A0, c0, hb, hg, hr0⟩ := h
 exact Kd.freshB hb
theorem IsS72.kept {w0 W : World} {g : Nat} {f0 : List Int} {f1 : Int} {W1 : World} {S : Nat → Prop} (h : IsS72 w0 W g f0 f1) (hk : Kept W W1 S) (hne : ¬ S g) : IsS72 w0 W1 g f0 f1 := by
 obtain ⟨A0, c0, hb, hg, hr0⟩ := h
 exact ⟨A0, c0, blk_kept hb hk hne, hg, hr0⟩
theorem IsS72.below {w0 W : World} {g : Nat} {f0 : List Int} {f1 : Int} {W1 : World} (h : IsS72 w0 W g f0 f1) (hw : Below W.heap.size W W1) : IsS72 w0 W1 g f0 f1 := h.grown (grown_of_below hw none) (by simp)
theorem IsS72.alloc {w0 W : World} {g : Nat} {f0 : List Int} {f1 : Int} (h : IsS72 w0 W g f0 f1) (o : Obj) : IsS72 w0 (W.alloc o) g f0 f1 := h.below (below_alloc (Below.refl _ _) o)
theorem IsS72.drewN {w0 W : World} {g : Nat} {f0 : List Int} {f1 : Int} (h : IsS72 w0 W g f0 f1) (m : Nat) : IsS72 w0 (W.drewN m) g f0 f1 := h
theorem IsS72.drew {w0 W : World} {g : Nat} {f0 : List Int} {f1 : Int} (h : IsS72 w0 W g f0 f1) : IsS72 w0 W.drew g f0 f1 := h
theorem IsS72.at_ {w0 W : World} {g : Nat} {f0 : List Int} {f1 : Int} {w' : World} {m : Nat} (hq : W.drewN m = w') (h : IsS72 w0 W g f0 f1) : IsS72 w0 w' g f0 f1 := by subst hq; exact IsS72.drewN h m
theorem IsS72.apart {w0 W : World} {g : Nat} {f0 : List Int} {f1 : Int} {α : Type} {d : Kd α} {e : Nat} {base : Nat} {ok : Nat → Prop} {v : Value} {xs : List α} (h : IsS72 w0 W g f0 f1) (ho : d.R e W base ok v xs) (ht : ∀ q, q ∈ e :: d.E → q ≠ 72) : d.R e W base (fun k => ok k ∧ k ≠ g) v xs := by
 obtain ⟨A0, c0, hb, hg, hr0⟩ := h
 exact Kd.R_types ho hb ht
theorem IsS72.own_ne {w0 W : World} {g : Nat} {f0 : List Int} {f1 : Int} {α : Type} {d : Kd α} {e : Nat} {base : Nat} {ok : Nat → Prop} {v : Value} {xs : List α} (h : IsS72 w0 W g f0 f1) (ho : d.R e W base ok v xs) (ht : e ≠ 72) : some g ≠ v.ownBlock := by
 obtain ⟨A0, c0, hb, hg, hr0⟩ := h
 exact Kd.R_ne ho hb ht
theorem IsS72.apartQ {w0 W : World} {g : Nat} {f0 : List Int} {f1 : Int} {α : Type} {d : Kd α} {e : Nat} {base : Nat} {ok : Nat → Prop} {v : Value} {xs : List α} (h : IsS72 w0 W g f0 f1) (ho : d.Q e W base ok v xs) (ht : ∀ q, q ∈ e :: d.E → q ≠ 72) : d.Q e W base (fun k => ok k ∧ k ≠ g) v xs := by
 obtain ⟨A0, c0, hb, hg, hr0⟩ := h
 exact Kd.Q_types ho hb ht
theorem IsS72.own_neQ {w0 W : World} {g : Nat} {f0 : List Int} {f1 : Int} {α : Type} {d : Kd α} {e : Nat} {base : Nat} {ok : Nat → Prop} {v : Value} {xs : List α} (h : IsS72 w0 W g f0 f1) (ho : d.Q e W base ok v xs) (ht : e ≠ 72) : some g ≠ v.ownBlock := by
 obtain ⟨A0, c0, hb, hg, hr0⟩ := h
 exact Kd.Q_ne ho hb ht
theorem IsS72.apartS {w0 W : World} {g : Nat} {f0 : List Int} {f1 : Int} {α : Type} {d : Kd α} {e : Nat} {base : Nat} {ok : Nat → Prop} {v : Value} {xs : List α} (h : IsS72 w0 W g f0 f1) (ho : d.S e W base ok v xs) (ht : ∀ q, q ∈ e :: d.E → q ≠ 72) : d.S e W base (fun k => ok k ∧ k ≠ g) v xs := by
 obtain ⟨A0, c0, hb, hg, hr0⟩ := h
 exact Kd.S_types ho hb ht
theorem IsS72.own_neS {w0 W : World} {g : Nat} {f0 : List Int} {f1 : Int} {α : Type} {d : Kd α} {e : Nat} {base : Nat} {ok : Nat → Prop} {v : Value} {xs : List α} (h : IsS72 w0 W g f0 f1) (ho : d.S e W base ok v xs) (ht : e ≠ 72) : some g ≠ v.ownBlock := by
 obtain ⟨A0, c0, hb, hg, hr0⟩ := h
 exact Kd.S_ne ho hb ht
theorem IsS72.lt {w0 W : World} {g : Nat} {f0 : List Int} {f1 : Int} (h : IsS72 w0 W g f0 f1) : g < W.heap.size := by
 obtain ⟨A0, c0, hb, hg, hr0⟩ := h
 exact blk_lt hb
theorem IsS72.ge {w0 W : World} {g : Nat} {f0 : List Int} {f1 : Int} (h : IsS72 w0 W g f0 f1) : w0.heap.size ≤ g := by
 obtain ⟨A0, c0, hb, hg, hr0⟩ := h
 exact hg
theorem IsS72.ne_blk {w0 W : World} {g : Nat} {f0 : List Int} {f1 : Int} {a : Nat} {cs : Array Value} {t : TypeId} {fr : Nat × Nat} (h : IsS72 w0 W g f0 f1) (hb2 : W.heap[a]? = some (.cells cs t fr)) (ht : t ≠ 72) : g ≠ a := by
 obtain ⟨A0, c0, hb, hg, hr0⟩ := h
 rintro rfl
 rw [hb] at hb2
 injection hb2 with hb2
 injection hb2 with _ ht2
 exact ht ht2.symm
theorem IsS72.far {w0 W : World} {g : Nat} {f0 : List Int} {f1 : Int} {p : Addr} (h : IsS72 w0 W g f0 f1) (hne : g ≠ p.block) (u : Value) : IsS72 w0 (W.setCell p u) g f0 f1 := by
 obtain ⟨A0, c0, hb, hg, hr0⟩ := h
 exact ⟨A0, c0, blk_far hb hne u, hg, hr0⟩
theorem cellS72_0 {W : World} {g : Nat} {A0 : Option Addr} {c0 : Nat} {f0 : List Int} {f1 : Int} (h : W.heap[g]? = some (.cells #[.slice A0 f0.length c0, .int .i64 f1] 72 (0, 0))) : W.cell? ⟨g, 0, none⟩ = some (.slice A0 f0.length c0) := (blk_cell h 0).trans rfl
theorem cellS72_1 {W : World} {g : Nat} {A0 : Option Addr} {c0 : Nat} {f0 : List Int} {f1 : Int} (h : W.heap[g]? = some (.cells #[.slice A0 f0.length c0, .int .i64 f1] 72 (0, 0))) : W.cell? ⟨g, 1, none⟩ = some (.int .i64 f1) := (blk_cell h 1).trans rfl
theorem IsS72.set_1 {w0 W : World} {g : Nat} {f0 : List Int} {f1 : Int} (h : IsS72 w0 W g f0 f1) (x : Int) : IsS72 w0 (W.setCell ⟨g, 1, none⟩ (.int .i64 x)) g f0 x := by
 obtain ⟨A0, c0, hb, hg, hr0⟩ := h
 exact ⟨A0, c0, by simpa using blk_set hb 1 (.int .i64 x), hg, hr0⟩
theorem IsS72.new (w0 W : World) (A0 : Option Addr) (c0 : Nat) (f0 : List Int) (f1 : Int) (hB : Below w0.heap.size w0 W) (hr0 : Kd.C (Kd.int .u8) w0 A0 f0.length f0) : IsS72 w0 (W.alloc (.cells #[.slice A0 f0.length c0, .int .i64 f1] 72)) W.heap.size f0 f1 := ⟨A0, c0, by simpa using heap_alloc_new W _, hB.size, hr0⟩
theorem farA72 {w0 W : World} {g : Nat} {f0 : List Int} {f1 : Int} {g2 j : Nat} {u : Value} (h : IsS72 w0 W g f0 f1) (hn : Aside0 (g ≠ g2)) : IsS72 w0 (W.setCell ⟨g2, j, none⟩ u) g f0 f1 := IsS72.far h hn.out u
theorem iS72 {w0 W W2 : World} {g : Nat} {f0 : List Int} {f1 : Int} {f0' : List Int} {f1' : Int} (a : IsS72 w0 W g f0 f1) (f : IsS72 w0 W g f0 f1 → IsS72 w0 W2 g f0' f1' := by intro h_; repeat (first | (with_reducible first | exact h_ | apply IsS72.alloc | apply IsS72.drewN | apply IsS72.drew | apply IsS72.set_1 | (refine farA72 ?_ ?_; rotate_left; assumption)) | exact h_)) : IsS72 w0 W2 g f0' f1' := f a
theorem wS72 {n : Nat} {w w' W : World} (a : Below n w w') (f : Below n w w' → Below n w W := by intro h_; repeat (first | (with_reducible first | exact h_ | apply below_alloc | apply pw_below_drewN | apply below_drew1 | (refine below_set ?_ ?_; rotate_left; exact IsS72.ge (Aside0.out (by assumption))) | (refine below_setA ?_ ?_; rotate_left; assumption)) | exact h_)) : Below n w W := f a
def spec_newReader.f (l0 : List Int) : Option (List Int × Int) := if (l0.length : Int) > 2000 then (if 2000 ≤ (l0.length : Int) then (some (l0.take 2000, 0)) else (none)) else (some (l0, 0))
set_option maxHeartbeats 8000000 in
set_option maxRecDepth 100000 in
theorem spec_newReader.calls (A0 : Option Addr) (c0 : Nat) (l0 : List Int) (r1 : List Int) (r2 : Int) (w0 w : World) (hB : Below w0.heap.size w0 w) (hr0 : Kd.C (Kd.int .u8) w0 A0 l0.length l0) (hc0 : l0.length ≤ c0) (h : spec_newReader.f l0 = some (r1, r2)) :
  Calls Try.prog 56 #[.slice A0 l0.length c0] w fun e w' => ∃ g_ : Nat, e = .returned (.pointer (some ⟨g_, 0, none⟩)) ∧ IsS72 w0 w' g_ r1 r2 ∧ Below w0.heap.size w0 w' ∧ Below w.heap.size w w' := by
 have hu72 := Try.underlying72
 have HR0 := aM hr0
 have HC0 := aM hc0
 clear hr0 hc0
 have HBW := aM (Below.refl w.heap.size w)
 have HW0 := aM hB.size
 have HB := aM hB
 clear hB
 unfold spec_newReader.f at h
 have H := h
 clear h
 by_cases c2 : (l0.length : Int) > 2000
 rotate_left
 ·rw [if_neg c2] at H
  have c2b0 : decide (2000 < (l0.length : Int)) = false := decide_eq_false c2
  have c2b1 : decide (2000 < l0.length) = false := decide_eq_false (by omega)
  clear c2
  simp only [Option.some.injEq, Prod.mk.injEq] at H
  obtain ⟨rfl, rfl⟩ := H
  go_enter Try.func56, Try.ntmps56
  go_wp2_with (first | ((with_reducible refine gate_dst (N := 10) rfl ?_); refine bxE (N := 10) (cs := #[.slice A0 l0.length c0, .int .i64 0]) (t := 72) ?_; intro gb220 hg w6 hbox hb; replace HB := bS HB hb; have BK220 := aM (hbox); have GW220 := aM ((by rw [hg]; exact (below_size (qW HBW.out)) : w.heap.size ≤ gb220)); have GE220 := aM ((Nat.le_trans HW0.out (by rw [hg]; exact (below_size (qW HBW.out)) : w.heap.size ≤ gb220) : w0.heap.size ≤ gb220)); replace HBW := aM (below_step HBW.out hb); clear hb hbox hg))
  go_ret
  exact ⟨_, rfl, (show IsS72 w0 _ gb220 l0 0 from ⟨_, _, by refine qB ?_; exact BK220.out, GE220.out, HR0.out⟩), by exact qW HB.out, by exact qW HBW.out⟩
 rw [if_pos c2] at H
 have c2b0 : decide (2000 < (l0.length : Int)) = true := decide_eq_true c2
 have c2b1 : decide (2000 < l0.length) = true := decide_eq_true (by omega)
 clear c2
 replace H := iS H
 obtain ⟨c3, H⟩ := H
 have c3b0 := eq_true c3
 have c3b1 : decide (2000 ≤ (l0.length : Int)) = true := decide_eq_true c3
 clear c3
 simp only [Option.some.injEq, Prod.mk.injEq] at H
 obtain ⟨rfl, rfl⟩ := H
 obtain ⟨i04, hi04, _, hsz4, _⟩ := info_parts info5
 obtain ⟨hcut4, hA4, hC4⟩ := print_take_of (P := Try.prog) (Value.int .u8) 0 32 5 .i64 Try.underlying32 hi04 hsz4 A0 c0 l0 2000 (by omega) oD HC0.out
 have HR218 := aM (Kd.C_of_reads (h1 := fun _ => rfl) (hA4 _ (Kd.reads_of_C HR0.out)))
 have HC218 := aM hC4
 clear hA4 hC4 hi04 hsz4
 go_enter Try.func56, Try.ntmps56
 go_wp2_with (first | ((with_reducible refine gate_dst (N := 10) rfl ?_); refine bxE (N := 10) (cs := #[.slice A0 (l0.take 2000).length c0, .int .i64 0]) (t := 72) ?_; intro gb219 hg w5 hbox hb; replace HB := bS HB hb; have BK219 := aM (hbox); have GW219 := aM ((by rw [hg]; exact (below_size (qW HBW.out)) : w.heap.size ≤ gb219)); have GE219 := aM ((Nat.le_trans HW0.out (by rw [hg]; exact (below_size (qW HBW.out)) : w.heap.size ≤ gb219) : w0.heap.size ≤ gb219)); replace HBW := aM (below_step HBW.out hb); clear hb hbox hg))
 go_ret
 exact ⟨_, rfl, (show IsS72 w0 _ gb219 (l0.take 2000) 0 from ⟨_, _, by refine qB ?_; exact BK219.out, GE219.out, HR218.out⟩), by exact qW HB.out, by exact qW HBW.out⟩
def spec_reader_pick.j0 : Nat → Int → Bool → List Int → Int → Option (Int × Int)
 | 0, _, _, _, _ => none
 | k + 1, x1, x24, x1000, x1001 => if x24 = true then (some (0, x1001)) else (if (wrap64 (x1001 - 1)) < (x1000.length : Int) then (if 0 ≤ (wrap64 (x1001 - 1)) then (if x1 = 0 then (none) else (some (Int.tmod (wrap64 (rd x1000 (wrap64 (x1001 - 1)))) x1, x1001))) else (none)) else (if (x1000.length : Int) = 0 then (none) else (if 0 ≤ (Int.tmod (wrap64 (x1001 - 1)) (x1000.length : Int)) then (if (Int.tmod (wrap64 (x1001 - 1)) (x1000.length : Int)) < (x1000.length : Int) then (if 0 ≤ (Int.tmod (wrap64 ((wrap64 ((wrap64 (x1001 - 1)) * 7)) + 3)) (x1000.length : Int)) then (if (Int.tmod (wrap64 ((wrap64 ((wrap64 (x1001 - 1)) * 7)) + 3)) (x1000.length : Int)) < (x1000.length : Int) then (if x1 = 0 then (none) else (some (Int.tmod (Go.bits .xor .i64 (wrap64 ((wrap64 ((wrap64 ((wrap64 ((wrap64 (rd x1000 (Int.tmod (wrap64 (x1001 - 1)) (x1000.length : Int)))) * 131)) + (wrap64 ((wrap64 (rd x1000 (Int.tmod (wrap64 ((wrap64 ((wrap64 (x1001 - 1)) * 7)) + 3)) (x1000.length : Int)))) * 1117)))) + (wrap64 ((wrap64 (x1001 - 1)) * 29)))) + (wrap64 ((wrap64 (Int.tdiv (wrap64 (x1001 - 1)) (x1000.length : Int))) * 53)))) (wrap64 (Int.tdiv (wrap64 ((wrap64 ((wrap64 ((wrap64 ((wrap64 (rd x1000 (Int.tmod (wrap64 (x1001 - 1)) (x1000.length : Int)))) * 131)) + (wrap64 ((wrap64 (rd x1000 (Int.tmod (wrap64 ((wrap64 ((wrap64 (x1001 - 1)) * 7)) + 3)) (x1000.length : Int)))) * 1117)))) + (wrap64 ((wrap64 (x1001 - 1)) * 29)))) + (wrap64 ((wrap64 (Int.tdiv (wrap64 (x1001 - 1)) (x1000.length : Int))) * 53)))) 64))) x1, x1001))) else (none)) else (none)) else (none)) else (none))))
def spec_reader_pick.f (k : Nat) (s0_0 : List Int) (s0_1 : Int) (a1 : Int) : Option (Int × Int) := if a1 < 1 then (spec_reader_pick.j0 k a1 true s0_0 (wrap64 (s0_1 + 1))) else (spec_reader_pick.j0 k a1 ((s0_0.length : Int) == 0) s0_0 (wrap64 (s0_1 + 1)))
theorem spec_reader_pick.mono_l : ∀ k, (∀ y0 y1 y2 y3, LeO (spec_reader_pick.j0 k y0 y1 y2 y3) (spec_reader_pick.j0 (k + 1) y0 y1 y2 y3))
 | 0 => fun _ _ _ _ r h => by simp [spec_reader_pick.j0] at h
 | k + 1 => by
  have ih0 := spec_reader_pick.mono_l k
  ·intro y0 y1 y2 y3
   unfold spec_reader_pick.j0
   repeat' first | (with_reducible first | exact ih0 _ _ _ _ | exact lR | exact lN | refine lI ?_ ?_ | refine lB ?_ fun _ => ?_) | exact ih0 _ _ _ _ | exact lN | refine lI ?_ ?_ | refine lB ?_ fun _ => ?_
theorem spec_reader_pick.mono : ∀ a0 a1 a2 k, LeO (spec_reader_pick.f k a0 a1 a2) (spec_reader_pick.f (k + 1) a0 a1 a2) := by
 intro a0 a1 a2 k
 have ih0 := spec_reader_pick.mono_l k
 unfold spec_reader_pick.f
 repeat' first | (with_reducible first | exact ih0 _ _ _ _ | exact lR | exact lN | refine lI ?_ ?_ | refine lB ?_ fun _ => ?_) | exact ih0 _ _ _ _ | exact lN | refine lI ?_ ?_ | refine lB ?_ fun _ => ?_
set_option maxHeartbeats 8000000 in
set_option maxRecDepth 100000 in
theorem spec_reader_pick.calls (k : Nat) (g : Nat) (s0_0 : List Int) (s0_1 : Int) (a1 : Int) (r1 : Int) (r2 : Int) (w0 w : World) (hI : IsS72 w0 w g s0_0 s0_1) (hB : Below w0.heap.size w0 w) (h : spec_reader_pick.f k s0_0 s0_1 a1 = some (r1, r2)) :
  Calls Try.prog 57 #[.pointer (some ⟨g, 0, none⟩), .int .i64 a1] w fun e w' => e = .returned (.int .i64 r1) ∧ IsS72 w0 w' g s0_0 r2 ∧ Below w0.heap.size w0 w' ∧ KeepBut w w' g none := by
 have HI0 := aM hI
 have HK := aM (KeepBut.refl w g none)
 have HL := aM hB.size
 clear hI
 have HW0 := aM hB.size
 have HB := aM hB
 clear hB
 unfold spec_reader_pick.f at h
 have H := h
 clear h
 have HC3 := aM H
 clear H
 obtain ⟨ASz4_0, cSz4_0, HGz4, hgz4, HSz4_0⟩ := HI0.out
 have hcz4_0 := cellS72_0 HGz4
 have hcz4_1 := cellS72_1 HGz4
 have hfz4_1 := blk_frozen HGz4 1
 clear HGz4 hgz4
 go_enter Try.func57, Try.ntmps57
 go_upto_region 2 with (fail)
 repeat (go_quiet (fail); go_upto_region 2 with (fail))
 go_cut [24] (fun v24 wc => ∃ (kq : Nat) (x24_2 : Bool), v24 = .bool x24_2 ∧ Aside0 (spec_reader_pick.j0 kq a1 x24_2 s0_0 (wrap64 (s0_1 + 1)) = some (r1, r2)) ∧ Aside0 (kq ≤ k) ∧ Aside0 (IsS72 w0 wc g s0_0 (wrap64 (s0_1 + 1))) ∧ Aside0 (KeepBut w wc g none) ∧ Aside0 (Below w0.heap.size w0 wc))
 case first =>
  have H := HC3.out
  clear HC3
  by_cases c5 : a1 < 1
  ·rw [if_pos c5] at H
   have c5b0 : decide (a1 < 1) = true := decide_eq_true c5
   clear c5
   (first | rw [c5b0] | (simp only [i64_w, i32_w]; rw [c5b0]) | skip)
   have H' := aM H
   clear H
   go_wp2
   repeat (go_quiet (fail); try go_wp2)
   go_meet
   case rel => exact ⟨_, (true), qE, H', ⟨by first | omega | exact Nat.le_refl _⟩, ⟨iS72 HI0.out⟩, ⟨kB HK.out⟩, ⟨wS72 HB.out⟩⟩
  rw [if_neg c5] at H
  have c5b0 : decide (a1 < 1) = false := decide_eq_false c5
  clear c5
  (first | rw [c5b0] | (simp only [i64_w, i32_w]; rw [c5b0]) | skip)
  have H' := aM H
  clear H
  obtain ⟨ASz6_0, cSz6_0, HGz6, hgz6, HSz6_0⟩ := HI0.out
  have hcz6_0 := cellS72_0 HGz6
  have hcz6_1 := cellS72_1 HGz6
  have hfz6_1 := blk_frozen HGz6 1
  clear HGz6 hgz6
  go_wp2
  repeat (go_quiet (fail); try go_wp2)
  go_meet
  case rel => exact ⟨_, (((s0_0.length : Int) == 0)), qE, H', ⟨by first | omega | exact Nat.le_refl _⟩, ⟨iS72 HI0.out⟩, ⟨kB HK.out⟩, ⟨wS72 HB.out⟩⟩
 case rest =>
  clear HC3
  try clear c5
  try clear c5b0
  try clear hcz4_0 hcz4_1 hfz4_1
  try clear hcz6_0 hcz6_1 hfz6_1
  obtain ⟨kq, x24_2, rfl, HA, HJ2, HI0, HK, HB⟩ := hcut
  cases kq with
  | zero => exact absurd HA.out (by simp [spec_reader_pick.j0])
  | succ kj2 =>
   have H := HA.out
   clear HA
   simp only [spec_reader_pick.j0] at H
   by_cases c7 : x24_2 = true
   ·subst c7
    have H1 : (some (0, (wrap64 (s0_1 + 1)))) = some (r1, r2) := by rw [if_pos rfl] at H; exact H
    clear H
    have H := H1
    clear H1
    simp only [Option.some.injEq, Prod.mk.injEq] at H
    obtain ⟨rfl, rfl⟩ := H
    go_wp2
    repeat (go_quiet (fail); try go_wp2)
    go_ret
    exact ⟨qX, iS72 HI0.out, wS72 HB.out, kB HK.out⟩
   replace c7 := Bool.eq_false_iff.mpr c7
   subst c7
   have H1 : (if (wrap64 ((wrap64 (s0_1 + 1)) - 1)) < (s0_0.length : Int) then (if 0 ≤ (wrap64 ((wrap64 (s0_1 + 1)) - 1)) then (if a1 = 0 then (none) else (some (Int.tmod (wrap64 (rd s0_0 (wrap64 ((wrap64 (s0_1 + 1)) - 1)))) a1, (wrap64 (s0_1 + 1))))) else (none)) else (if (s0_0.length : Int) = 0 then (none) else (if 0 ≤ (Int.tmod (wrap64 ((wrap64 (s0_1 + 1)) - 1)) (s0_0.length : Int)) then (if (Int.tmod (wrap64 ((wrap64 (s0_1 + 1)) - 1)) (s0_0.length : Int)) < (s0_0.length : Int) then (if 0 ≤ (Int.tmod (wrap64 ((wrap64 ((wrap64 ((wrap64 (s0_1 + 1)) - 1)) * 7)) + 3)) (s0_0.length : Int)) then (if (Int.tmod (wrap64 ((wrap64 ((wrap64 ((wrap64 (s0_1 + 1)) - 1)) * 7)) + 3)) (s0_0.length : Int)) < (s0_0.length : Int) then (if a1 = 0 then (none) else (some (Int.tmod (Go.bits .xor .i64 (wrap64 ((wrap64 ((wrap64 ((wrap64 ((wrap64 (rd s0_0 (Int.tmod (wrap64 ((wrap64 (s0_1 + 1)) - 1)) (s0_0.length : Int)))) * 131)) + (wrap64 ((wrap64 (rd s0_0 (Int.tmod (wrap64 ((wrap64 ((wrap64 ((wrap64 (s0_1 + 1)) - 1)) * 7)) + 3)) (s0_0.length : Int)))) * 1117)))) + (wrap64 ((wrap64 ((wrap64 (s0_1 + 1)) - 1)) * 29)))) + (wrap64 ((wrap64 (Int.tdiv (wrap64 ((wrap64 (s0_1 + 1)) - 1)) (s0_0.length : Int))) * 53)))) (wrap64 (Int.tdiv (wrap64 ((wrap64 ((wrap64 ((wrap64 ((wrap64 (rd s0_0 (Int.tmod (wrap64 ((wrap64 (s0_1 + 1)) - 1)) (s0_0.length : Int)))) * 131)) + (wrap64 ((wrap64 (rd s0_0 (Int.tmod (wrap64 ((wrap64 ((wrap64 ((wrap64 (s0_1 + 1)) - 1)) * 7)) + 3)) (s0_0.length : Int)))) * 1117)))) + (wrap64 ((wrap64 ((wrap64 (s0_1 + 1)) - 1)) * 29)))) + (wrap64 ((wrap64 (Int.tdiv (wrap64 ((wrap64 (s0_1 + 1)) - 1)) (s0_0.length : Int))) * 53)))) 64))) a1, (wrap64 (s0_1 + 1))))) else (none)) else (none)) else (none)) else (none)))) = some (r1, r2) := by rw [if_neg (show ¬ (false = true) by decide)] at H; exact H
   clear H
   have H := H1
   clear H1
   by_cases c8 : (wrap64 ((wrap64 (s0_1 + 1)) - 1)) < (s0_0.length : Int)
   ·rw [if_pos c8] at H
    have c8b0 : decide ((wrap64 ((wrap64 (s0_1 + 1)) - 1)) < (s0_0.length : Int)) = true := decide_eq_true c8
    clear c8
    obtain ⟨ji9, hji9⟩ : ∃ j_ : Int, (wrap64 ((wrap64 (s0_1 + 1)) - 1)) = j_ := ⟨_, rfl⟩
    replace H : (if 0 ≤ (ji9) then (if a1 = 0 then (none) else (some (Int.tmod (wrap64 (rd s0_0 (ji9))) a1, (wrap64 (s0_1 + 1))))) else (none)) = some (r1, r2) := by first | (rw [hji9] at H; exact H) | (simp only [hji9] at H ⊢; exact H)
    (try rw [hji9] at c8b0)
    have hji9w : (IntKind.i64.wrap ((wrap64 (s0_1 + 1)) - 1)) = ji9 := (i64_w _).trans hji9
    replace H := iD H
    obtain ⟨c10b0, H⟩ := H
    by_cases c11 : a1 = 0
    ·rw [if_pos c11] at H
     exact absurd H (by simp)
    rw [if_neg c11] at H
    have c11b0 : (a1 == 0) = false := beq_eq_false_iff_ne.mpr c11
    have c11b1 : (a1 != 0) = true := bne_iff_ne.mpr c11
    simp only [Option.some.injEq, Prod.mk.injEq] at H
    obtain ⟨rfl, rfl⟩ := H
    obtain ⟨ASz12_0, cSz12_0, HGz12, hgz12, HSz12_0⟩ := HI0.out
    have hcz12_0 := cellS72_0 HGz12
    have hcz12_1 := cellS72_1 HGz12
    have hfz12_1 := blk_frozen HGz12 1
    clear HGz12 hgz12
    obtain ⟨ad221, e221, hx221_0⟩ := Kd.at_int HSz12_0 (ji9) oD oD
    cases e221
    replace hx221_0 := pw_cell_below HB.out hx221_0
    have p221 := eq_true (oD : 0 ≤ ((ji9) : Int))
    have q221 := eq_true (oD : (ji9) < (s0_0.length : Int))
    go_wp2
    repeat (go_quiet (fail); try go_wp2)
    go_ret
    exact ⟨by first | rfl | (simp [errW_none, errW_some] <;> rfl) | (simp only [← hji9]; first | rfl | (simp [errW_none, errW_some] <;> rfl)) | (simp [*, errW_none, errW_some] <;> rfl), iS72 HI0.out, wS72 HB.out, kB HK.out⟩
   rw [if_neg c8] at H
   have c8b0 : decide ((wrap64 ((wrap64 (s0_1 + 1)) - 1)) < (s0_0.length : Int)) = false := decide_eq_false c8
   clear c8
   by_cases c13 : (s0_0.length : Int) = 0
   ·rw [if_pos c13] at H
    exact absurd H (by simp)
   rw [if_neg c13] at H
   have c13b0 : ((s0_0.length : Int) == 0) = false := beq_eq_false_iff_ne.mpr c13
   have c13b1 : ((s0_0.length : Int) != 0) = true := bne_iff_ne.mpr c13
   have c13b2 : ¬ (s0_0 = []) := fun h_ => c13 (by rw [h_]; rfl)
   obtain ⟨ji14, hji14⟩ : ∃ j_ : Int, (Int.tmod (wrap64 ((wrap64 (s0_1 + 1)) - 1)) (s0_0.length : Int)) = j_ := ⟨_, rfl⟩
   replace H : (if 0 ≤ (ji14) then (if (ji14) < (s0_0.length : Int) then (if 0 ≤ (Int.tmod (wrap64 ((wrap64 ((wrap64 ((wrap64 (s0_1 + 1)) - 1)) * 7)) + 3)) (s0_0.length : Int)) then (if (Int.tmod (wrap64 ((wrap64 ((wrap64 ((wrap64 (s0_1 + 1)) - 1)) * 7)) + 3)) (s0_0.length : Int)) < (s0_0.length : Int) then (if a1 = 0 then (none) else (some (Int.tmod (Go.bits .xor .i64 (wrap64 ((wrap64 ((wrap64 ((wrap64 ((wrap64 (rd s0_0 (ji14))) * 131)) + (wrap64 ((wrap64 (rd s0_0 (Int.tmod (wrap64 ((wrap64 ((wrap64 ((wrap64 (s0_1 + 1)) - 1)) * 7)) + 3)) (s0_0.length : Int)))) * 1117)))) + (wrap64 ((wrap64 ((wrap64 (s0_1 + 1)) - 1)) * 29)))) + (wrap64 ((wrap64 (Int.tdiv (wrap64 ((wrap64 (s0_1 + 1)) - 1)) (s0_0.length : Int))) * 53)))) (wrap64 (Int.tdiv (wrap64 ((wrap64 ((wrap64 ((wrap64 ((wrap64 (rd s0_0 (ji14))) * 131)) + (wrap64 ((wrap64 (rd s0_0 (Int.tmod (wrap64 ((wrap64 ((wrap64 ((wrap64 (s0_1 + 1)) - 1)) * 7)) + 3)) (s0_0.length : Int)))) * 1117)))) + (wrap64 ((wrap64 ((wrap64 (s0_1 + 1)) - 1)) * 29)))) + (wrap64 ((wrap64 (Int.tdiv (wrap64 ((wrap64 (s0_1 + 1)) - 1)) (s0_0.length : Int))) * 53)))) 64))) a1, (wrap64 (s0_1 + 1))))) else (none)) else (none)) else (none)) else (none)) = some (r1, r2) := by first | (rw [hji14] at H; exact H) | (simp only [hji14] at H ⊢; exact H)
   replace H := iD H
   obtain ⟨c15b0, H⟩ := H
   replace H := iD H
   obtain ⟨c16b0, H⟩ := H
   obtain ⟨ji17, hji17⟩ : ∃ j_ : Int, (Int.tmod (wrap64 ((wrap64 ((wrap64 ((wrap64 (s0_1 + 1)) - 1)) * 7)) + 3)) (s0_0.length : Int)) = j_ := ⟨_, rfl⟩
   replace H : (if 0 ≤ (ji17) then (if (ji17) < (s0_0.length : Int) then (if a1 = 0 then (none) else (some (Int.tmod (Go.bits .xor .i64 (wrap64 ((wrap64 ((wrap64 ((wrap64 ((wrap64 (rd s0_0 (ji14))) * 131)) + (wrap64 ((wrap64 (rd s0_0 (ji17))) * 1117)))) + (wrap64 ((wrap64 ((wrap64 (s0_1 + 1)) - 1)) * 29)))) + (wrap64 ((wrap64 (Int.tdiv (wrap64 ((wrap64 (s0_1 + 1)) - 1)) (s0_0.length : Int))) * 53)))) (wrap64 (Int.tdiv (wrap64 ((wrap64 ((wrap64 ((wrap64 ((wrap64 (rd s0_0 (ji14))) * 131)) + (wrap64 ((wrap64 (rd s0_0 (ji17))) * 1117)))) + (wrap64 ((wrap64 ((wrap64 (s0_1 + 1)) - 1)) * 29)))) + (wrap64 ((wrap64 (Int.tdiv (wrap64 ((wrap64 (s0_1 + 1)) - 1)) (s0_0.length : Int))) * 53)))) 64))) a1, (wrap64 (s0_1 + 1))))) else (none)) else (none)) = some (r1, r2) := by first | (rw [hji17] at H; exact H) | (simp only [hji17] at H ⊢; exact H)
   replace H := iD H
   obtain ⟨c18b0, H⟩ := H
   replace H := iD H
   obtain ⟨c19b0, H⟩ := H
   by_cases c20 : a1 = 0
   ·rw [if_pos c20] at H
    exact absurd H (by simp)
   rw [if_neg c20] at H
   have c20b0 : (a1 == 0) = false := beq_eq_false_iff_ne.mpr c20
   have c20b1 : (a1 != 0) = true := bne_iff_ne.mpr c20
   simp only [Option.some.injEq, Prod.mk.injEq] at H
   obtain ⟨rfl, rfl⟩ := H
   obtain ⟨ASz21_0, cSz21_0, HGz21, hgz21, HSz21_0⟩ := HI0.out
   have hcz21_0 := cellS72_0 HGz21
   have hcz21_1 := cellS72_1 HGz21
   have hfz21_1 := blk_frozen HGz21 1
   clear HGz21 hgz21
   obtain ⟨ad222, e222, hx222_0⟩ := Kd.at_int HSz21_0 (ji14) oD oD
   cases e222
   replace hx222_0 := pw_cell_below HB.out hx222_0
   have p222 := eq_true (oD : 0 ≤ ((ji14) : Int))
   have q222 := eq_true (oD : (ji14) < (s0_0.length : Int))
   obtain ⟨ad223, e223, hx223_0⟩ := Kd.at_int HSz21_0 (ji17) oD oD
   obtain rfl : ad222 = ad223 := (by injection e223)
   replace hx223_0 := pw_cell_below HB.out hx223_0
   have p223 := eq_true (oD : 0 ≤ ((ji17) : Int))
   have q223 := eq_true (oD : (ji17) < (s0_0.length : Int))
   go_wp2
   repeat (go_quiet (fail); try go_wp2)
   go_ret
   exact ⟨by first | rfl | (simp [errW_none, errW_some] <;> rfl) | (simp only [← hji14, ← hji17]; first | rfl | (simp [errW_none, errW_some] <;> rfl)) | (simp [*, errW_none, errW_some] <;> rfl), iS72 HI0.out, wS72 HB.out, kB HK.out⟩
def spec_reader_one.f (k : Nat) (s0_0 : List Int) (s0_1 : Int) (l1 : List Int) : Option (Int × Int) := (spec_reader_pick.f k s0_0 s0_1 (l1.length : Int)).bind fun bt224 => (if 0 ≤ bt224.1 then (if bt224.1 < (l1.length : Int) then (some (rd l1 bt224.1, bt224.2)) else (none)) else (none))
theorem spec_reader_one.mono : ∀ a0 a1 a2 k, LeO (spec_reader_one.f k a0 a1 a2) (spec_reader_one.f (k + 1) a0 a1 a2) := by
 intro a0 a1 a2 k
 unfold spec_reader_one.f
 repeat' first | (with_reducible first | exact spec_reader_pick.mono _ _ _ _ | exact lR | exact lN | refine lI ?_ ?_ | refine lB ?_ fun _ => ?_) | exact spec_reader_pick.mono _ _ _ _ | exact lN | refine lI ?_ ?_ | refine lB ?_ fun _ => ?_
set_option maxHeartbeats 8000000 in
set_option maxRecDepth 100000 in
theorem spec_reader_one.calls (k : Nat) (g : Nat) (s0_0 : List Int) (s0_1 : Int) (A1 : Option Addr) (c1 : Nat) (l1 : List Int) (r1 : Int) (r2 : Int) (w0 w : World) (hI : IsS72 w0 w g s0_0 s0_1) (hB : Below w0.heap.size w0 w) (hr1 : Kd.C (Kd.int .i64) w A1 l1.length l1) (hc1 : l1.length ≤ c1) (hf1 : ∀ ad, A1 = some ad → 0 < l1.length → ad.block ≠ g) (h : spec_reader_one.f k s0_0 s0_1 l1 = some (r1, r2)) :
  Calls Try.prog 81 #[.pointer (some ⟨g, 0, none⟩), .slice A1 l1.length c1] w fun e w' => e = .returned (.int .i64 r1) ∧ IsS72 w0 w' g s0_0 r2 ∧ Below w0.heap.size w0 w' ∧ KeepBut w w' g none := by
 have HR1 := aM hr1
 have HC1 := aM hc1
 clear hr1 hc1
 have HI0 := aM hI
 have HK := aM (KeepBut.refl w g none)
 have HL := aM hB.size
 clear hI
 have HW0 := aM hB.size
 have HB := aM hB
 clear hB
 unfold spec_reader_one.f at h
 have H := h
 clear h
 replace H := Option.bind_eq_some_iff.mp H
 obtain ⟨⟨t224, t225⟩, A30, H⟩ := H
 replace H : (if 0 ≤ t224 then (if t224 < (l1.length : Int) then (some (rd l1 t224, t225)) else (none)) else (none)) = some (r1, r2) := H
 have A3 := aM A30
 clear A30
 replace H := iD H
 obtain ⟨c4b0, H⟩ := H
 replace H := iD H
 obtain ⟨c5b0, H⟩ := H
 simp only [Option.some.injEq, Prod.mk.injEq] at H
 obtain ⟨rfl, rfl⟩ := H
 go_enter Try.func81, Try.ntmps81
 go_wp2_with (first | ((with_reducible refine gate_callee (f := 57) rfl ?_); refine gL (some 9) Try.func57 #[.pointer (some ⟨g, 0, none⟩), .int .i64 (l1.length : Int)] ?_; (with_reducible refine (spec_reader_pick.calls k g s0_0 s0_1 (l1.length : Int) t224 t225 w0 _ ?side1 ?side2 A3.out).mono ?_); (case side1 => exact iS72 HI0.out); (case side2 => exact wS72 HB.out); rintro e w6 ⟨rfl, hi, hb, hk⟩; refine ⟨_, rfl, ?_⟩; replace HK := aM (KeepBut.trans (kB HK.out) hk (.inl rfl)); replace HB := aM (hb); replace HI0 := aM (hi); clear hb hk hi; have p226 : 0 ≤ (t224 : Int) := oD; have q226 : t224 < (l1.length : Int) := oD; obtain ⟨ad226, e226, hx226_0⟩ := Kd.at_int HR1.out t224 p226 q226; cases e226; replace hx226_0 := keep_cell HK.out hx226_0 (by first | (rw [add_block]; exact hf1 _ rfl (by omega)) | exact hf1 _ rfl (by omega) | exact hf1 ad226 rfl (by omega)); replace p226 := eq_true p226; replace q226 := eq_true q226))
 go_ret
 exact ⟨qX, iS72 HI0.out, wS72 HB.out, kB HK.out⟩
end Go.Proofs.Ytnamhlcdlbjcfaa.P
