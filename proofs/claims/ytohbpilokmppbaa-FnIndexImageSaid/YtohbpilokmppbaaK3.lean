/- Contracts and row, written by a program of this place out of the translation: the call answers true and its argument reads as before, for every input; no condition. -/
import Derived.Test.YtohbpilokmppbaaK0
import Derived.Test.YtohbpilokmppbaaK1
import Derived.Test.YtohbpilokmppbaaK2
namespace Go.Proofs.Ytohbpilokmppbaa.P
open Go.RowKit Go.Proofs.YtohbpilokmppbaaW.PrintWords Go.Proofs.YtohbpilokmppbaaW.PrintLast Go.Proofs.YtohbpilokmppbaaW.PrintMore
attribute [local go_sem] max2_int min2_int max_two min_two max_three min_three max_four min_four   -- for this text's walks alone
set_option linter.unusedVariables false
set_option linter.unusedSimpArgs false
def impl_PixelAt.f (a0_0 : Int) (a0_1 : Int) (a0_2 : Int) (l0_3 : List Int) (a1 : Int) (a2 : Int) : Option (List Int) := (impl_isImage.f a0_0 a0_1 a0_2 l0_3).bind fun t0 => (if t0 = true then (if (0 ≤ a1 ∧ a1 < a0_0) ∧ (0 ≤ a2 ∧ a2 < a0_1) then some (pixOf l0_3 a0_0 a0_2 a1 a2) else some ([] : List Int)) else some ([] : List Int))
set_option maxHeartbeats 8000000 in
set_option maxRecDepth 100000 in
theorem impl_PixelAt.calls (a0_0 : Int) (a0_1 : Int) (a0_2 : Int) (A0_3 : Option Addr) (c0_3 : Nat) (l0_3 : List Int) (a1 : Int) (a2 : Int) (r : List Int) (w : World) (hr0_3 : Kd.C (Kd.int .i64) w A0_3 l0_3.length l0_3) (hc0_3 : l0_3.length ≤ c0_3) (h : impl_PixelAt.f a0_0 a0_1 a0_2 l0_3 a1 a2 = some r) :
  Calls Try.prog 27 #[.agg #[.int .i64 a0_0, .int .i64 a0_1, .int .i64 a0_2, .slice A0_3 l0_3.length c0_3], .int .i64 a1, .int .i64 a2] w fun e w' => ∃ v0_ : Value, e = .returned (v0_) ∧ Kd.R (Kd.int .i64) 3 w' w.heap.size (fun _ => True) v0_ r ∧ Below w.heap.size w w' := by
 have HR0 := aM hr0_3
 have HC0 := aM hc0_3
 clear hr0_3 hc0_3
 have HB := aM (Below.refl w.heap.size w)
 unfold impl_PixelAt.f at h
 obtain ⟨t0, q0, H⟩ := Option.bind_eq_some_iff.mp h
 clear h
 have A0 := aM q0
 clear q0
 cases t0 with
 | false =>
  rw [if_neg (show ¬ (false = true) by decide)] at H
  obtain rfl := Option.some.inj H
  go_enter Try.func27, Try.ntmps27
  go_wp2_with (first | ((with_reducible refine gate_dst (N := 3) rfl ?_); (try (refine gate_guard (by rfl) ?_; dsimp only)); refine bxE (N := 3) (cs := #[.int .i64 a0_0, .int .i64 a0_1, .int .i64 a0_2, .slice A0_3 l0_3.length c0_3]) (t := 29) ?_; intro gm hg w1 hbox hb; have n2 := bS HB hb; have n3 := aM hbox; have n4 := aM ((by rw [hg]; exact (below_size (qW HB.out))) : w.heap.size ≤ gm); clear HB; have HB := n2; have BKgm := n3; have GEgm := n4; clear n2 n3 n4; clear hb hbox hg; have hz5 : w1.cell? ⟨gm, 0, none⟩ = some (.int .i64 a0_0) := (blk_cell BKgm.out 0).trans rfl; have hz6 : w1.cell? ⟨gm, 1, none⟩ = some (.int .i64 a0_1) := (blk_cell BKgm.out 1).trans rfl; have hz7 : w1.cell? ⟨gm, 2, none⟩ = some (.int .i64 a0_2) := (blk_cell BKgm.out 2).trans rfl; have hz8 : w1.cell? ⟨gm, 3, none⟩ = some (.slice A0_3 l0_3.length c0_3) := (blk_cell BKgm.out 3).trans rfl; have hf9 := blk_frozen BKgm.out 0; have hf10 := blk_frozen BKgm.out 1; have hf11 := blk_frozen BKgm.out 2; have hf12 := blk_frozen BKgm.out 3) | (go_at_call 43; (with_reducible refine (impl_isImage.calls a0_0 a0_1 a0_2 _ _ l0_3 false _ ?side1 ?side2 A0.out).mono ?_); (case side1 => exact (Kd.C_below HR0.out (qW HB.out))); (case side2 => exact HC0.out); rintro e w13 ⟨rfl, hb⟩; have n14 := bB BKgm hb; have n15 := bS HB hb; clear HB BKgm; have BKgm := n14; have HB := n15; clear n14 n15 hb; have hz16 : w13.cell? ⟨gm, 0, none⟩ = some (.int .i64 a0_0) := (blk_cell BKgm.out 0).trans rfl; have hz17 : w13.cell? ⟨gm, 1, none⟩ = some (.int .i64 a0_1) := (blk_cell BKgm.out 1).trans rfl; have hz18 : w13.cell? ⟨gm, 2, none⟩ = some (.int .i64 a0_2) := (blk_cell BKgm.out 2).trans rfl; have hz19 : w13.cell? ⟨gm, 3, none⟩ = some (.slice A0_3 l0_3.length c0_3) := (blk_cell BKgm.out 3).trans rfl; have hf20 := blk_frozen BKgm.out 0; have hf21 := blk_frozen BKgm.out 1; have hf22 := blk_frozen BKgm.out 2; have hf23 := blk_frozen BKgm.out 3))
  go_ret
  exact ⟨_, rfl, Kd.R_nil _ _ _ _ _, by exact qW HB.out⟩
 | true =>
  rw [if_pos rfl] at H
  have V := aM (isImage_true A0.out)
  by_cases k1 : 0 ≤ a1
  case neg =>
   rw [if_neg (by omega)] at H
   obtain rfl := Option.some.inj H
   go_enter Try.func27, Try.ntmps27
   go_wp2_with (first | ((with_reducible refine gate_dst (N := 3) rfl ?_); (try (refine gate_guard (by rfl) ?_; dsimp only)); refine bxE (N := 3) (cs := #[.int .i64 a0_0, .int .i64 a0_1, .int .i64 a0_2, .slice A0_3 l0_3.length c0_3]) (t := 29) ?_; intro gm hg w24 hbox hb; have n25 := bS HB hb; have n26 := aM hbox; have n27 := aM ((by rw [hg]; exact (below_size (qW HB.out))) : w.heap.size ≤ gm); clear HB; have HB := n25; have BKgm := n26; have GEgm := n27; clear n25 n26 n27; clear hb hbox hg; have hz28 : w24.cell? ⟨gm, 0, none⟩ = some (.int .i64 a0_0) := (blk_cell BKgm.out 0).trans rfl; have hz29 : w24.cell? ⟨gm, 1, none⟩ = some (.int .i64 a0_1) := (blk_cell BKgm.out 1).trans rfl; have hz30 : w24.cell? ⟨gm, 2, none⟩ = some (.int .i64 a0_2) := (blk_cell BKgm.out 2).trans rfl; have hz31 : w24.cell? ⟨gm, 3, none⟩ = some (.slice A0_3 l0_3.length c0_3) := (blk_cell BKgm.out 3).trans rfl; have hf32 := blk_frozen BKgm.out 0; have hf33 := blk_frozen BKgm.out 1; have hf34 := blk_frozen BKgm.out 2; have hf35 := blk_frozen BKgm.out 3) | (go_at_call 43; (with_reducible refine (impl_isImage.calls a0_0 a0_1 a0_2 _ _ l0_3 true _ ?side1 ?side2 A0.out).mono ?_); (case side1 => exact (Kd.C_below HR0.out (qW HB.out))); (case side2 => exact HC0.out); rintro e w36 ⟨rfl, hb⟩; have n37 := bB BKgm hb; have n38 := bS HB hb; clear HB BKgm; have BKgm := n37; have HB := n38; clear n37 n38 hb; have hz39 : w36.cell? ⟨gm, 0, none⟩ = some (.int .i64 a0_0) := (blk_cell BKgm.out 0).trans rfl; have hz40 : w36.cell? ⟨gm, 1, none⟩ = some (.int .i64 a0_1) := (blk_cell BKgm.out 1).trans rfl; have hz41 : w36.cell? ⟨gm, 2, none⟩ = some (.int .i64 a0_2) := (blk_cell BKgm.out 2).trans rfl; have hz42 : w36.cell? ⟨gm, 3, none⟩ = some (.slice A0_3 l0_3.length c0_3) := (blk_cell BKgm.out 3).trans rfl; have hf43 := blk_frozen BKgm.out 0; have hf44 := blk_frozen BKgm.out 1; have hf45 := blk_frozen BKgm.out 2; have hf46 := blk_frozen BKgm.out 3))
   go_ret
   exact ⟨_, rfl, Kd.R_nil _ _ _ _ _, by exact qW HB.out⟩
  by_cases k2 : a1 < a0_0
  case neg =>
   have k2b : a0_0 ≤ a1 := by omega
   rw [if_neg (by omega)] at H
   obtain rfl := Option.some.inj H
   go_enter Try.func27, Try.ntmps27
   go_wp2_with (first | ((with_reducible refine gate_dst (N := 3) rfl ?_); (try (refine gate_guard (by rfl) ?_; dsimp only)); refine bxE (N := 3) (cs := #[.int .i64 a0_0, .int .i64 a0_1, .int .i64 a0_2, .slice A0_3 l0_3.length c0_3]) (t := 29) ?_; intro gm hg w47 hbox hb; have n48 := bS HB hb; have n49 := aM hbox; have n50 := aM ((by rw [hg]; exact (below_size (qW HB.out))) : w.heap.size ≤ gm); clear HB; have HB := n48; have BKgm := n49; have GEgm := n50; clear n48 n49 n50; clear hb hbox hg; have hz51 : w47.cell? ⟨gm, 0, none⟩ = some (.int .i64 a0_0) := (blk_cell BKgm.out 0).trans rfl; have hz52 : w47.cell? ⟨gm, 1, none⟩ = some (.int .i64 a0_1) := (blk_cell BKgm.out 1).trans rfl; have hz53 : w47.cell? ⟨gm, 2, none⟩ = some (.int .i64 a0_2) := (blk_cell BKgm.out 2).trans rfl; have hz54 : w47.cell? ⟨gm, 3, none⟩ = some (.slice A0_3 l0_3.length c0_3) := (blk_cell BKgm.out 3).trans rfl; have hf55 := blk_frozen BKgm.out 0; have hf56 := blk_frozen BKgm.out 1; have hf57 := blk_frozen BKgm.out 2; have hf58 := blk_frozen BKgm.out 3) | (go_at_call 43; (with_reducible refine (impl_isImage.calls a0_0 a0_1 a0_2 _ _ l0_3 true _ ?side1 ?side2 A0.out).mono ?_); (case side1 => exact (Kd.C_below HR0.out (qW HB.out))); (case side2 => exact HC0.out); rintro e w59 ⟨rfl, hb⟩; have n60 := bB BKgm hb; have n61 := bS HB hb; clear HB BKgm; have BKgm := n60; have HB := n61; clear n60 n61 hb; have hz62 : w59.cell? ⟨gm, 0, none⟩ = some (.int .i64 a0_0) := (blk_cell BKgm.out 0).trans rfl; have hz63 : w59.cell? ⟨gm, 1, none⟩ = some (.int .i64 a0_1) := (blk_cell BKgm.out 1).trans rfl; have hz64 : w59.cell? ⟨gm, 2, none⟩ = some (.int .i64 a0_2) := (blk_cell BKgm.out 2).trans rfl; have hz65 : w59.cell? ⟨gm, 3, none⟩ = some (.slice A0_3 l0_3.length c0_3) := (blk_cell BKgm.out 3).trans rfl; have hf66 := blk_frozen BKgm.out 0; have hf67 := blk_frozen BKgm.out 1; have hf68 := blk_frozen BKgm.out 2; have hf69 := blk_frozen BKgm.out 3))
   go_ret
   exact ⟨_, rfl, Kd.R_nil _ _ _ _ _, by exact qW HB.out⟩
  by_cases k3 : 0 ≤ a2
  case neg =>
   rw [if_neg (by omega)] at H
   obtain rfl := Option.some.inj H
   go_enter Try.func27, Try.ntmps27
   go_wp2_with (first | ((with_reducible refine gate_dst (N := 3) rfl ?_); (try (refine gate_guard (by rfl) ?_; dsimp only)); refine bxE (N := 3) (cs := #[.int .i64 a0_0, .int .i64 a0_1, .int .i64 a0_2, .slice A0_3 l0_3.length c0_3]) (t := 29) ?_; intro gm hg w70 hbox hb; have n71 := bS HB hb; have n72 := aM hbox; have n73 := aM ((by rw [hg]; exact (below_size (qW HB.out))) : w.heap.size ≤ gm); clear HB; have HB := n71; have BKgm := n72; have GEgm := n73; clear n71 n72 n73; clear hb hbox hg; have hz74 : w70.cell? ⟨gm, 0, none⟩ = some (.int .i64 a0_0) := (blk_cell BKgm.out 0).trans rfl; have hz75 : w70.cell? ⟨gm, 1, none⟩ = some (.int .i64 a0_1) := (blk_cell BKgm.out 1).trans rfl; have hz76 : w70.cell? ⟨gm, 2, none⟩ = some (.int .i64 a0_2) := (blk_cell BKgm.out 2).trans rfl; have hz77 : w70.cell? ⟨gm, 3, none⟩ = some (.slice A0_3 l0_3.length c0_3) := (blk_cell BKgm.out 3).trans rfl; have hf78 := blk_frozen BKgm.out 0; have hf79 := blk_frozen BKgm.out 1; have hf80 := blk_frozen BKgm.out 2; have hf81 := blk_frozen BKgm.out 3) | (go_at_call 43; (with_reducible refine (impl_isImage.calls a0_0 a0_1 a0_2 _ _ l0_3 true _ ?side1 ?side2 A0.out).mono ?_); (case side1 => exact (Kd.C_below HR0.out (qW HB.out))); (case side2 => exact HC0.out); rintro e w82 ⟨rfl, hb⟩; have n83 := bB BKgm hb; have n84 := bS HB hb; clear HB BKgm; have BKgm := n83; have HB := n84; clear n83 n84 hb; have hz85 : w82.cell? ⟨gm, 0, none⟩ = some (.int .i64 a0_0) := (blk_cell BKgm.out 0).trans rfl; have hz86 : w82.cell? ⟨gm, 1, none⟩ = some (.int .i64 a0_1) := (blk_cell BKgm.out 1).trans rfl; have hz87 : w82.cell? ⟨gm, 2, none⟩ = some (.int .i64 a0_2) := (blk_cell BKgm.out 2).trans rfl; have hz88 : w82.cell? ⟨gm, 3, none⟩ = some (.slice A0_3 l0_3.length c0_3) := (blk_cell BKgm.out 3).trans rfl; have hf89 := blk_frozen BKgm.out 0; have hf90 := blk_frozen BKgm.out 1; have hf91 := blk_frozen BKgm.out 2; have hf92 := blk_frozen BKgm.out 3))
   go_ret
   exact ⟨_, rfl, Kd.R_nil _ _ _ _ _, by exact qW HB.out⟩
  by_cases k4 : a2 < a0_1
  case neg =>
   have k4b : a0_1 ≤ a2 := by omega
   rw [if_neg (by omega)] at H
   obtain rfl := Option.some.inj H
   go_enter Try.func27, Try.ntmps27
   go_wp2_with (first | ((with_reducible refine gate_dst (N := 3) rfl ?_); (try (refine gate_guard (by rfl) ?_; dsimp only)); refine bxE (N := 3) (cs := #[.int .i64 a0_0, .int .i64 a0_1, .int .i64 a0_2, .slice A0_3 l0_3.length c0_3]) (t := 29) ?_; intro gm hg w93 hbox hb; have n94 := bS HB hb; have n95 := aM hbox; have n96 := aM ((by rw [hg]; exact (below_size (qW HB.out))) : w.heap.size ≤ gm); clear HB; have HB := n94; have BKgm := n95; have GEgm := n96; clear n94 n95 n96; clear hb hbox hg; have hz97 : w93.cell? ⟨gm, 0, none⟩ = some (.int .i64 a0_0) := (blk_cell BKgm.out 0).trans rfl; have hz98 : w93.cell? ⟨gm, 1, none⟩ = some (.int .i64 a0_1) := (blk_cell BKgm.out 1).trans rfl; have hz99 : w93.cell? ⟨gm, 2, none⟩ = some (.int .i64 a0_2) := (blk_cell BKgm.out 2).trans rfl; have hz100 : w93.cell? ⟨gm, 3, none⟩ = some (.slice A0_3 l0_3.length c0_3) := (blk_cell BKgm.out 3).trans rfl; have hf101 := blk_frozen BKgm.out 0; have hf102 := blk_frozen BKgm.out 1; have hf103 := blk_frozen BKgm.out 2; have hf104 := blk_frozen BKgm.out 3) | (go_at_call 43; (with_reducible refine (impl_isImage.calls a0_0 a0_1 a0_2 _ _ l0_3 true _ ?side1 ?side2 A0.out).mono ?_); (case side1 => exact (Kd.C_below HR0.out (qW HB.out))); (case side2 => exact HC0.out); rintro e w105 ⟨rfl, hb⟩; have n106 := bB BKgm hb; have n107 := bS HB hb; clear HB BKgm; have BKgm := n106; have HB := n107; clear n106 n107 hb; have hz108 : w105.cell? ⟨gm, 0, none⟩ = some (.int .i64 a0_0) := (blk_cell BKgm.out 0).trans rfl; have hz109 : w105.cell? ⟨gm, 1, none⟩ = some (.int .i64 a0_1) := (blk_cell BKgm.out 1).trans rfl; have hz110 : w105.cell? ⟨gm, 2, none⟩ = some (.int .i64 a0_2) := (blk_cell BKgm.out 2).trans rfl; have hz111 : w105.cell? ⟨gm, 3, none⟩ = some (.slice A0_3 l0_3.length c0_3) := (blk_cell BKgm.out 3).trans rfl; have hf112 := blk_frozen BKgm.out 0; have hf113 := blk_frozen BKgm.out 1; have hf114 := blk_frozen BKgm.out 2; have hf115 := blk_frozen BKgm.out 3))
   go_ret
   exact ⟨_, rfl, Kd.R_nil _ _ _ _ _, by exact qW HB.out⟩
  rw [if_pos ⟨⟨k1, k2⟩, ⟨k3, k4⟩⟩] at H
  obtain rfl := Option.some.inj H
  have b_ := V.out
  obtain ⟨⟨v0, v0'⟩, ⟨v1, v1'⟩, ⟨v2, v2'⟩, hlen, hby⟩ := b_
  have hfit := pix_fits (a0 := a0_0) (a1 := a0_1) (a2 := a0_2) (x := a1) (y := a2) (by omega) (by omega) (by omega) (by omega) (by omega)
  rw [← hlen] at hfit
  have HCA := aM (fun (W' : World) (hb' : Below w.heap.size w W') => impl_at.calls a0_0 a0_1 a0_2 A0_3 c0_3 l0_3 a1 a2 W' (Kd.C_below HR0.out hb') HC0.out (by omega) v0' (by omega) (by omega) (by omega) (by omega) (by omega) (by omega) hfit)
  have hpl := pixOf_len l0_3 a0_0 a0_2 a1 a2 (by omega) (by omega)
  clear hfit hlen hby
  generalize pixOf l0_3 a0_0 a0_2 a1 a2 = px at HCA hpl ⊢
  have HPL := aM hpl
  clear hpl
  go_enter Try.func27, Try.ntmps27
  go_wp2_with (first | ((with_reducible refine gate_dst (N := 3) rfl ?_); (try (refine gate_guard (by rfl) ?_; dsimp only)); refine bxE (N := 3) (cs := #[.int .i64 a0_0, .int .i64 a0_1, .int .i64 a0_2, .slice A0_3 l0_3.length c0_3]) (t := 29) ?_; intro gm hg w116 hbox hb; have n117 := bS HB hb; have n118 := aM hbox; have n119 := aM ((by rw [hg]; exact (below_size (qW HB.out))) : w.heap.size ≤ gm); clear HB; have HB := n117; have BKgm := n118; have GEgm := n119; clear n117 n118 n119; clear hb hbox hg; have hz120 : w116.cell? ⟨gm, 0, none⟩ = some (.int .i64 a0_0) := (blk_cell BKgm.out 0).trans rfl; have hz121 : w116.cell? ⟨gm, 1, none⟩ = some (.int .i64 a0_1) := (blk_cell BKgm.out 1).trans rfl; have hz122 : w116.cell? ⟨gm, 2, none⟩ = some (.int .i64 a0_2) := (blk_cell BKgm.out 2).trans rfl; have hz123 : w116.cell? ⟨gm, 3, none⟩ = some (.slice A0_3 l0_3.length c0_3) := (blk_cell BKgm.out 3).trans rfl; have hf124 := blk_frozen BKgm.out 0; have hf125 := blk_frozen BKgm.out 1; have hf126 := blk_frozen BKgm.out 2; have hf127 := blk_frozen BKgm.out 3) | (go_at_call 43; (with_reducible refine (impl_isImage.calls a0_0 a0_1 a0_2 _ _ l0_3 true _ ?side1 ?side2 A0.out).mono ?_); (case side1 => exact (Kd.C_below HR0.out (qW HB.out))); (case side2 => exact HC0.out); rintro e w128 ⟨rfl, hb⟩; have n129 := bB BKgm hb; have n130 := bS HB hb; clear HB BKgm; have BKgm := n129; have HB := n130; clear n129 n130 hb; have hz131 : w128.cell? ⟨gm, 0, none⟩ = some (.int .i64 a0_0) := (blk_cell BKgm.out 0).trans rfl; have hz132 : w128.cell? ⟨gm, 1, none⟩ = some (.int .i64 a0_1) := (blk_cell BKgm.out 1).trans rfl; have hz133 : w128.cell? ⟨gm, 2, none⟩ = some (.int .i64 a0_2) := (blk_cell BKgm.out 2).trans rfl; have hz134 : w128.cell? ⟨gm, 3, none⟩ = some (.slice A0_3 l0_3.length c0_3) := (blk_cell BKgm.out 3).trans rfl; have hf135 := blk_frozen BKgm.out 0; have hf136 := blk_frozen BKgm.out 1; have hf137 := blk_frozen BKgm.out 2; have hf138 := blk_frozen BKgm.out 3) | ((with_reducible refine gate_dst (N := 30) rfl ?_); refine Kd.R_lit (Kd.int .i64) _ 3 ?hg (N := 30) ?hd (xs := ([] : List (Int))) (inner := []) (ok := fun _ => True) (okp := fun _ => True) ?hr ?hp (fun _ hk => hk) trivial (Below.refl _ _) (Nat.le_refl _) (by simp) ?_; (case hd => rfl); (case hg => rfl); (case hr => first | (go_simp; done) | (go_simp; rfl)); (case hp => exact (Reps.none _ _)); intro vl w139 ho4 hb hg_ hnew_; clear hg_ hnew_; have r_ := oR ho4 HB; have n140 := bB BKgm hb; have n141 := bS HB hb; clear HB BKgm; have BKgm := n140; have HB := n141; clear n140 n141 hb; have hz142 : w139.cell? ⟨gm, 0, none⟩ = some (.int .i64 a0_0) := (blk_cell BKgm.out 0).trans rfl; have hz143 : w139.cell? ⟨gm, 1, none⟩ = some (.int .i64 a0_1) := (blk_cell BKgm.out 1).trans rfl; have hz144 : w139.cell? ⟨gm, 2, none⟩ = some (.int .i64 a0_2) := (blk_cell BKgm.out 2).trans rfl; have hz145 : w139.cell? ⟨gm, 3, none⟩ = some (.slice A0_3 l0_3.length c0_3) := (blk_cell BKgm.out 3).trans rfl; have hf146 := blk_frozen BKgm.out 0; have hf147 := blk_frozen BKgm.out 1; have hf148 := blk_frozen BKgm.out 2; have hf149 := blk_frozen BKgm.out 3; have HO := r_; clear r_ ho4) | (go_at_call 44; refine (HCA.out _ (qW HB.out)).mono ?_; rintro e w150 ⟨A', c', rfl, hr', hl', hb⟩; have r_ := aM (Kd.R_below (qR HO.out) hb); clear HO; have HO := r_; clear r_; have HPR := aM hr'; clear hr'; have n151 := bB BKgm hb; have n152 := bS HB hb; clear HB BKgm; have BKgm := n151; have HB := n152; clear n151 n152 hb; have hz153 : w150.cell? ⟨gm, 0, none⟩ = some (.int .i64 a0_0) := (blk_cell BKgm.out 0).trans rfl; have hz154 : w150.cell? ⟨gm, 1, none⟩ = some (.int .i64 a0_1) := (blk_cell BKgm.out 1).trans rfl; have hz155 : w150.cell? ⟨gm, 2, none⟩ = some (.int .i64 a0_2) := (blk_cell BKgm.out 2).trans rfl; have hz156 : w150.cell? ⟨gm, 3, none⟩ = some (.slice A0_3 l0_3.length c0_3) := (blk_cell BKgm.out 3).trans rfl; have hf157 := blk_frozen BKgm.out 0; have hf158 := blk_frozen BKgm.out 1; have hf159 := blk_frozen BKgm.out 2; have hf160 := blk_frozen BKgm.out 3) | ((with_reducible refine gate_builtin (b := .append) (xs := #[.tmp 30, .tmp 34]) rfl ?_); at_builtin; refine Kd.R_append_rows (Kd.int .i64) (w0 := w) w.heap.size rfl (.tmp 30) (.tmp 34) 22 3 (.int .i64 0) 8 rfl Try.underlying22 info3 rfl (by decide) (by omega) vl [] px _ _ _ (fun _ => True) (fun _ => False) rfl rfl ?aO ?aR (fun _ _ h => h) (fun _ h => h.elim) ?aF ?aB ?aS ?aL ?_; (case aR => exact HPR.out); (case aB => exact (qW HB.out)); (case aF => exact (fun _ _ => trivial)); (case aO => exact HO.out); (case aS => exact (below_size (qW HB.out))); (case aL => have := HPL.out; simp only [List.length_nil]; omega); intro v311 w5 ho hb hg hat; rw [List.nil_append] at ho; replace HB := aM (hb); replace HO := aM (ho); clear ho hb hg hat))
  go_ret
  exact ⟨_, rfl, by refine qR ?_; exact HO.out, by exact qW HB.out⟩
theorem nc_total (L : List (List Int)) (px : List Int) (hL : L.length ≤ 16) (hc : ∀ c ∈ L, c.length ≤ px.length) (hp : px.length ≤ 4) : ∃ r, impl_nearestColor.f 200 L px = some r := by
 have hg : ∀ i : Nat, i < L.length → (rd_L1 L (i : Int)).length ≤ px.length := fun i hi => by
  unfold rd_L1
  rw [Int.toNat_natCast, List.getD_eq_getElem?_getD, List.getElem?_eq_getElem hi]
  exact hc _ (List.getElem_mem _)
 have key : ∀ k : Nat, (∀ (i : Nat) (best least : Int), i ≤ L.length → (L.length - i) * 7 < k → ∃ r, impl_nearestColor.l0 k px best least L L.length i = some r) ∧
   (∀ (i t : Nat) (best least s : Int), i < L.length → t ≤ (rd_L1 L (i : Int)).length → (L.length - i) * 7 < k + 1 + t → ∃ r, impl_nearestColor.l1 k px best least i s L L.length i (rd_L1 L (i : Int)) ((rd_L1 L (i : Int)).length : Int) t = some r) := by
  intro k
  induction k with
  | zero =>
   refine ⟨fun i b s hi h => by omega, fun i t b s z hi ht h => ?_⟩
   have := hg i hi
   omega
  | succ k ih =>
   obtain ⟨ih0, ih1⟩ := ih
   refine ⟨fun i b s hi h => ?_, fun i t b s z hi ht h => ?_⟩
   ·rw [impl_nearestColor.l0]
    by_cases h1 : i < L.length
    ·rw [if_pos (by omega), if_pos (by omega), if_pos (by omega)]
     exact ih1 i 0 b s 0 h1 (Nat.zero_le _) (by omega)
    ·rw [if_neg (by omega)]
     exact ⟨_, rfl⟩
   ·have hgi := hg i hi
    have next : ∀ (b' s' : Int), 0 < k → (L.length - i) * 7 < k + 7 → ∃ r, impl_nearestColor.l0 k px b' s' L L.length (wrap64 ((i : Int) + 1)) = some r := fun b' s' hk0 hk => by
     rw [wrap_small (by omega) (by omega), show (i : Int) + 1 = ((i + 1 : Nat) : Int) by omega]
     exact ih0 (i + 1) b' s' (by omega) (by omega)
    rw [impl_nearestColor.l1]
    by_cases h1 : t < (rd_L1 L (i : Int)).length
    ·rw [if_pos (by omega), if_pos (by omega), if_pos (by omega), if_pos (by omega), wrap_small (x := (t : Int) + 1) (by omega) (by omega), show (t : Int) + 1 = ((t + 1 : Nat) : Int) by omega]
     exact ih1 i (t + 1) b s _ hi (by omega) (by omega)
    ·rw [if_neg (by omega)]
     by_cases h2 : s < 0
     ·rw [if_pos h2]; exact next _ _ (by omega) (by omega)
     ·rw [if_neg h2]
      by_cases h3 : z < s
      ·rw [if_pos h3]; exact next _ _ (by omega) (by omega)
      ·rw [if_neg h3]; exact next _ _ (by omega) (by omega)
 unfold impl_nearestColor.f
 exact (key 200).1 0 0 (-1) (Nat.zero_le _) (by omega)
def idxPix (L : List (List Int)) (l : List Int) (a0 a2 x y : Int) : List Int := [(impl_nearestColor.f 200 L (pixOf l a0 a2 x y)).getD 0]
set_option maxHeartbeats 8000000 in
set_option maxRecDepth 100000 in
theorem indexImagePix (w : World) (B1 B2 : Nat) (a0 a1 a2 : Int) (A : Option Addr) (c : Nat) (l : List Int) (AL : Option Addr) (cL : Nat) (L : List (List Int))
  (hB1 : w.heap[B1]? = some (.cells #[.slice AL L.length cL] 26 (0, 0))) (hB2 : w.heap[B2]? = some (.cells #[.int .i64 a0, .int .i64 a1, .int .i64 a2, .slice A l.length c] 29 (0, 0)))
  (hr : Kd.C (Kd.int .i64) w A l.length l) (hc : l.length ≤ c) (hrL : Kd.C (Kd.slice 3 (Kd.int .i64)) w AL L.length L) (hcL : L.length ≤ cL) (V : ImgOk a0 a1 a2 l) (hL : L.length ≤ 16) (hLc : ∀ z ∈ L, (z.length : Int) = a2) :
  PixAt 55 #[.pointer (some ⟨B1, 0, none⟩), .pointer (some ⟨B2, 0, none⟩)] (fun x y => idxPix L l a0 a2 x y) a0 a1 w := fun W x y hb hx hx' hy hy' => by
 obtain ⟨⟨v0, v0'⟩, ⟨v1, v1'⟩, ⟨v2, v2'⟩, hlen, hby⟩ := V
 have hfit := pix_fits (a0 := a0) (a1 := a1) (a2 := a2) (x := x) (y := y) (by omega) (by omega) (by omega) (by omega) (by omega)
 rw [← hlen] at hfit
 have m1 : 0 ≤ y * a0 := Int.mul_nonneg hy (by omega)
 have m2 : 0 ≤ (y * a0 + x) * a2 := Int.mul_nonneg (by omega) (by omega)
 have hpl := pixOf_length (l := l) (n := a0) (p := a2) (x := x) (y := y) m2 (by omega) hfit
 have hpm : ∀ v ∈ pixOf l a0 a2 x y, v ∈ l := fun v hv => pixOf_mem hv
 have HR0 := aM (Kd.C_below hr hb)
 have HRL := aM (Kd.C_below hrL hb)
 have HCL := aM hcL
 have KB1 := aM (blk_below hB1 hb)
 have KB2 := aM (blk_below hB2 hb)
 have HC := aM (fun (W' : World) (hb' : Below W.heap.size W W') => impl_at.calls2 a0 a1 a2 A c l x y W' (Kd.C_below HR0.out hb') hc (by omega) v0' (by omega) (by omega) (by omega) (by omega) (by omega) (by omega) hfit)
 clear hfit hlen hr hrL hcL hc hB1 hB2 hb m1 m2 hby
 dsimp only
 unfold idxPix
 generalize pixOf l a0 a2 x y = px at HC hpl hpm ⊢
 obtain ⟨r, hr⟩ := nc_total L px hL (fun z hz => by have := hLc z hz; omega) (by omega)
 rw [hr]
 have HNC := aM hr
 have HL := aM hpl
 clear hr hpl hpm hL hLc
 show Calls Try.prog 55 _ W fun e w' => ∃ (A : Option Addr) (c : Nat), e = .returned (.slice A [r].length c) ∧ Kd.C (Kd.int .i64) w' A [r].length [r] ∧ [r].length ≤ c ∧ Below W.heap.size W w'
 go_enter Try.func55, Try.ntmps55
 go_wp2
 refine start_ (n := 8) (S := fun w' => Below W.heap.size W w') (ds := []) (bA 8 0) (by kernel_rfl) rfl rfl (below_drew (Below.refl _ _)) (fun hHeld => ?_)
 have HB := aM hHeld
 clear hHeld
 generalize W.drew = w2 at HB ⊢
 refine pure_ (i := 2) (N := some 9) (v := ?_) (a' := ?_) (bA 8 4) rfl rfl (by kernel_rfl) (fun _ _ _ h => h) (Or.inl ⟨by rfl, ?_⟩) ?_ ?_
 rotate_left
 ·intro w'
  go_simp
  with_reducible rfl
 rotate_left
 ·refine pZ ?_
  rfl
 refine pure_ (i := 3) (N := some 10) (v := ?_) (a' := ?_) (bA 8 12) rfl rfl (by kernel_rfl) (fun _ _ _ h => h) (Or.inl ⟨by rfl, ?_⟩) ?_ ?_
 rotate_left
 ·intro w'
  go_simp
  with_reducible rfl
 rotate_left
 ·refine pZ ?_
  rfl
 refine take_ (i := 0) (N := some 7) (v := ?_) (a' := ?_) (bA 8 13) rfl rfl (by kernel_rfl) (fun _ _ _ h => h) (Or.inl ⟨by rfl, ?_⟩) HB.out ?_ ?_
 rotate_left
 ·intro w' s0
  have z : w'.cell? ⟨B1, 0, none⟩ = some (.slice AL L.length cL) := (blk_cell (blk_below KB1.out s0) 0).trans rfl
  go_simp
  with_reducible rfl
 rotate_left
 ·refine pZ ?_
  rfl
 refine take_ (i := 1) (N := some 8) (v := ?_) (a' := ?_) (bA 8 15) rfl rfl (by kernel_rfl) (fun _ _ _ h => h) (Or.inl ⟨by rfl, ?_⟩) HB.out ?_ ?_
 rotate_left
 ·intro w' s0
  have z0 : w'.cell? ⟨B2, 0, none⟩ = some (.int .i64 a0) := (blk_cell (blk_below KB2.out s0) 0).trans rfl
  have z1 : w'.cell? ⟨B2, 1, none⟩ = some (.int .i64 a1) := (blk_cell (blk_below KB2.out s0) 1).trans rfl
  have z2 : w'.cell? ⟨B2, 2, none⟩ = some (.int .i64 a2) := (blk_cell (blk_below KB2.out s0) 2).trans rfl
  have z3 : w'.cell? ⟨B2, 3, none⟩ = some (.slice A l.length c) := (blk_cell (blk_below KB2.out s0) 3).trans rfl
  go_simp
  with_reducible rfl
 rotate_left
 ·refine pZ ?_
  rfl
 refine one_ (i := 4) (N := some 11) (bA 8 31) rfl rfl (by kernel_rfl) (by decide) (fun K hK => ?_)
 refine goes_ Try.func44 (by kernel_rfl) rfl #[.agg #[.int .i64 a0, .int .i64 a1, .int .i64 a2, .slice A l.length c], .int .i64 x, .int .i64 y] (by rfl) rfl rfl (by (try simp only [List.map_toArray, List.map_cons, List.map_nil]); first | done | rfl) ?_
 refine (HC.out _ HB.out).mono ?_
 rintro e w3 ⟨A', c', rfl, hr', hl', hb', hall⟩
 refine ⟨_, rfl, ?_⟩
 have HB3 := aM (below_step HB.out hb')
 have HALL := aM hall
 have HLC := aM hl'
 clear HB hr' hall hb' hl'
 have HB := HB3
 clear HB3
 refine hK.out _ _ HB.out (fun hHeld => ?_)
 clear hK K hHeld
 refine norm_ (a' := ?_) ?_ ?_
 rotate_left
 ·show Act.put _ (some 11) _ = _
  refine pZ ?_
  rfl
 refine one_ (i := 5) (N := some 12) (bA 8 63) rfl rfl (by kernel_rfl) (by decide) (fun K hK => ?_)
 refine goes_ Try.func56 (by kernel_rfl) rfl #[.slice AL L.length cL, .slice A' px.length c'] (by rfl) rfl rfl (by (try simp only [List.map_toArray, List.map_cons, List.map_nil]); first | done | rfl) ?_
 refine (impl_nearestColor.calls 200 _ _ L _ _ px r _ (Kd.C_below HRL.out HB.out) HCL.out (HALL.out _ (Kd.C_below HR0.out HB.out)) HLC.out HNC.out).mono ?_
 rintro e w' ⟨rfl, ⟨nd, rfl⟩⟩
 refine ⟨_, rfl, ?_⟩
 have HB4 := aM (pw_below_drewN HB.out nd)
 refine hK.out _ _ HB4.out (fun hHeld => ?_)
 clear hK K hHeld HB
 refine norm_ (a' := ?_) ?_ ?_
 rotate_left
 ·show Act.put _ (some 12) _ = _
  refine pZ ?_
  rfl
 obtain ⟨w4, e4⟩ : ∃ z, w3.drewN nd = z := ⟨_, rfl⟩
 rw [e4] at HB4 ⊢
 have HB := HB4
 clear HB4 e4
 refine one_ (i := 6) (N := some 13) (bA 8 127) rfl rfl (by kernel_rfl) (by decide) (fun K hK => ?_)
 refine Kd.R_lit_step (Kd.int .i64) _ 3 ?hg (N := 13) ?hd (xs := ([r] : List Int)) (inner := [.int .i64 r]) (ok := fun _ => True) (okp := fun _ => True) ?hr ?hp (fun _ hk => hk) trivial (Below.refl _ _) (Nat.le_refl _) (by simp) ?_
 (case hd => rfl)
 (case hg => rfl)
 (case hr => first | (go_simp; done) | (go_simp; rfl))
 (case hp => exact (Reps.one (show Kd.M (Kd.int .i64) _ _ _ r [.int .i64 r] from rfl) (Reps.none _ _)))
 intro vr w5 ho hb hg_ hnew_
 clear hg_ hnew_
 have HB5 := aM (below_step HB.out hb)
 obtain ⟨Ar, cr, er⟩ := Kd.R_slice ho
 subst er
 have HRR := aM (Kd.R_reads' ho)
 clear ho hb HB
 have HB := HB5
 clear HB5
 refine hK.out _ _ HB.out (fun hHeld => ?_)
 clear hK K hHeld
 refine norm_ (a' := ?_) ?_ ?_
 rotate_left
 ·show Act.put _ (some 13) _ = _
  refine pZ ?_
  rfl
 refine pure_ (i := 7) (N := some 6) (v := ?_) (a' := ?_) (bA 8 255) rfl rfl (by kernel_rfl) (fun _ _ _ h => h) (Or.inl ⟨by rfl, ?_⟩) ?_ ?_
 rotate_left
 ·intro w'
  go_simp
  with_reducible rfl
 rotate_left
 ·refine pZ ?_
  rfl
 refine done_ (by kernel_rfl) ?_
 try go_wp2
 go_ret
 exact ⟨_, _, rfl, HRR.out.2.2, HRR.out.2.1, by repeat (first | exact HB.out | apply below_alloc | apply pw_below_drewN)⟩
theorem isPalette_true {l : List (List Int)} {p : Int} (h : impl_isPalette.f l p = some true) : (1 ≤ l.length ∧ l.length ≤ 16) ∧ (1 ≤ p ∧ p ≤ 4) ∧ ∀ z ∈ l, (z.length : Int) = p ∧ ∀ v ∈ z, 0 ≤ v ∧ v ≤ 255 := by
 unfold impl_isPalette.f at h
 have h := Option.some.inj h
 by_cases h1 : (l.length : Int) < 1
 ·rw [if_pos h1] at h; cases h
 rw [if_neg h1] at h
 by_cases h2 : 16 < (l.length : Int)
 ·rw [if_pos h2] at h; cases h
 rw [if_neg h2] at h
 by_cases h3 : p < 1
 ·rw [if_pos h3] at h; cases h
 rw [if_neg h3] at h
 by_cases h4 : 4 < p
 ·rw [if_pos h4] at h; cases h
 rw [if_neg h4, Bool.not_eq_true', List.any_eq_false] at h
 refine ⟨by omega, by omega, fun z hz => ?_⟩
 have h5 := h z hz
 unfold badColor at h5
 simp only [Bool.or_eq_true, not_or, List.any_eq_true, not_exists, not_and, decide_eq_true_eq] at h5
 refine ⟨?_, fun v hv => ?_⟩
 rotate_left
 ·have := h5.2 v hv
  omega
 have := h5.1
 simpa using this
def impl_IndexImage.f (a0_0 : Int) (a0_1 : Int) (a0_2 : Int) (l0_3 : List Int) (l1 : List (List Int)) : Option (Int × Int × Int × List Int × Bool) := (impl_isImage.f a0_0 a0_1 a0_2 l0_3).bind fun t0 => (if t0 = true then ((impl_isPalette.f l1 a0_2).bind fun t1 => (if t1 = true then (some (a0_0, a0_1, 1, imgOf (fun x y => idxPix l1 l0_3 a0_0 a0_2 x y) a0_0.toNat a0_1.toNat, true)) else (some (0, 0, 0, ([] : List Int), false)))) else (some (0, 0, 0, ([] : List Int), false)))
set_option maxHeartbeats 8000000 in
set_option maxRecDepth 100000 in
theorem impl_IndexImage.calls (a0_0 : Int) (a0_1 : Int) (a0_2 : Int) (A0_3 : Option Addr) (c0_3 : Nat) (l0_3 : List Int) (Aq1 : Option Addr) (cq1 : Nat) (l1 : List (List Int)) (r1 : Int) (r2 : Int) (r3 : Int) (r4 : List Int) (r5 : Bool) (w : World) (hr0_3 : Kd.C (Kd.int .i64) w A0_3 l0_3.length l0_3) (hc0_3 : l0_3.length ≤ c0_3) (hr1 : Kd.C (Kd.slice 3 (Kd.int .i64)) w Aq1 l1.length l1) (hc1 : l1.length ≤ cq1) (h : impl_IndexImage.f a0_0 a0_1 a0_2 l0_3 l1 = some (r1, r2, r3, r4, r5)) :
  Calls Try.prog 24 #[.agg #[.int .i64 a0_0, .int .i64 a0_1, .int .i64 a0_2, .slice A0_3 l0_3.length c0_3], .slice Aq1 l1.length cq1] w fun e w' => ∃ v3_ : Value, e = .returned (.tuple #[.agg #[.int .i64 r1, .int .i64 r2, .int .i64 r3, v3_], .bool r5]) ∧ Kd.R (Kd.int .i64) 3 w' w.heap.size (fun _ => True) v3_ r4 ∧ Below w.heap.size w w' := by
 have hu26 := Try.underlying29
 have HR0 := aM hr0_3
 have HC0 := aM hc0_3
 clear hr0_3 hc0_3
 have HR1 := aM hr1
 have HC1 := aM hc1
 clear hr1 hc1
 have HB := aM (Below.refl w.heap.size w)
 unfold impl_IndexImage.f at h
 have H := h
 clear h
 replace H := Option.bind_eq_some_iff.mp H
 obtain ⟨t0, q0, H⟩ := H
 have A0 := aM q0
 clear q0
 cases t0 with
 | false =>
  rw [if_neg (show ¬ (false = true) by decide)] at H
  simp only [Option.some.injEq, Prod.mk.injEq] at H
  obtain ⟨rfl, rfl, rfl, rfl, rfl⟩ := H
  go_enter Try.func24, Try.ntmps24
  go_wp2_with (first | ((with_reducible refine gate_dst (N := 2) rfl ?_); (try (refine gate_guard (by rfl) ?_; dsimp only)); refine bxE (N := 2) (cs := #[.int .i64 a0_0, .int .i64 a0_1, .int .i64 a0_2, .slice A0_3 l0_3.length c0_3]) (t := 29) ?_; intro gm hg w1 hbox hb; have n2 := bS HB hb; have n3 := aM hbox; have n4 := aM ((by rw [hg]; exact (below_size (qW HB.out))) : w.heap.size ≤ gm); clear HB; have HB := n2; have BKgm := n3; have GEgm := n4; clear n2 n3 n4; clear hb hbox hg; have hz5 : w1.cell? ⟨gm, 0, none⟩ = some (.int .i64 a0_0) := (blk_cell BKgm.out 0).trans rfl; have hz6 : w1.cell? ⟨gm, 1, none⟩ = some (.int .i64 a0_1) := (blk_cell BKgm.out 1).trans rfl; have hz7 : w1.cell? ⟨gm, 2, none⟩ = some (.int .i64 a0_2) := (blk_cell BKgm.out 2).trans rfl; have hz8 : w1.cell? ⟨gm, 3, none⟩ = some (.slice A0_3 l0_3.length c0_3) := (blk_cell BKgm.out 3).trans rfl; have hf9 := blk_frozen BKgm.out 0; have hf10 := blk_frozen BKgm.out 1; have hf11 := blk_frozen BKgm.out 2; have hf12 := blk_frozen BKgm.out 3) | ((with_reducible refine gate_dst (N := 3) rfl ?_); (try (refine gate_guard (by rfl) ?_; dsimp only)); refine bxE (N := 3) (cs := #[.slice Aq1 l1.length cq1]) (t := 26) ?_; intro gl hg w13 hbox hb; have n14 := bB BKgm hb; have n15 := bS HB hb; have n16 := aM hbox; have n17 := aM ((by rw [hg]; exact (below_size (qW HB.out))) : w.heap.size ≤ gl); have n18 := aM ((by rw [hg]; exact Nat.ne_of_lt (blk_lt (g := gm) (o := .cells #[.int .i64 a0_0, .int .i64 a0_1, .int .i64 a0_2, .slice A0_3 l0_3.length c0_3] 29 (0, 0)) (qB BKgm.out))) : gm ≠ gl); have n19 := aM ((by rw [hg]; exact Nat.ne_of_gt (blk_lt (g := gm) (o := .cells #[.int .i64 a0_0, .int .i64 a0_1, .int .i64 a0_2, .slice A0_3 l0_3.length c0_3] 29 (0, 0)) (qB BKgm.out))) : gl ≠ gm); clear HB BKgm; have BKgm := n14; have HB := n15; have BKgl := n16; have GEgl := n17; have NBgm_gl := n18; have NBgl_gm := n19; clear n14 n15 n16 n17 n18 n19; clear hb hbox hg; have hz20 : w13.cell? ⟨gm, 0, none⟩ = some (.int .i64 a0_0) := (blk_cell BKgm.out 0).trans rfl; have hz21 : w13.cell? ⟨gm, 1, none⟩ = some (.int .i64 a0_1) := (blk_cell BKgm.out 1).trans rfl; have hz22 : w13.cell? ⟨gm, 2, none⟩ = some (.int .i64 a0_2) := (blk_cell BKgm.out 2).trans rfl; have hz23 : w13.cell? ⟨gm, 3, none⟩ = some (.slice A0_3 l0_3.length c0_3) := (blk_cell BKgm.out 3).trans rfl; have hf24 := blk_frozen BKgm.out 0; have hf25 := blk_frozen BKgm.out 1; have hf26 := blk_frozen BKgm.out 2; have hf27 := blk_frozen BKgm.out 3; have hz28 : w13.cell? ⟨gl, 0, none⟩ = some (.slice Aq1 l1.length cq1) := (blk_cell BKgl.out 0).trans rfl; have hf29 := blk_frozen BKgl.out 0) | ((with_reducible refine gate_dst (N := 4) rfl ?_); (try (refine gate_guard (by rfl) ?_; dsimp only)); refine bxE (N := 4) (cs := #[.int .i64 0, .int .i64 0, .int .i64 0, .slice none 0 0]) (t := 29) ?_; intro gr hg w30 hbox hb; have n31 := bB BKgm hb; have n32 := bB BKgl hb; have n33 := bS HB hb; have n34 := aM hbox; have n35 := aM ((by rw [hg]; exact (below_size (qW HB.out))) : w.heap.size ≤ gr); have n36 := aM ((by rw [hg]; exact Nat.ne_of_lt (blk_lt (g := gm) (o := .cells #[.int .i64 a0_0, .int .i64 a0_1, .int .i64 a0_2, .slice A0_3 l0_3.length c0_3] 29 (0, 0)) (qB BKgm.out))) : gm ≠ gr); have n37 := aM ((by rw [hg]; exact Nat.ne_of_gt (blk_lt (g := gm) (o := .cells #[.int .i64 a0_0, .int .i64 a0_1, .int .i64 a0_2, .slice A0_3 l0_3.length c0_3] 29 (0, 0)) (qB BKgm.out))) : gr ≠ gm); have n38 := aM ((by rw [hg]; exact Nat.ne_of_lt (blk_lt (g := gl) (o := .cells #[.slice Aq1 l1.length cq1] 26 (0, 0)) (qB BKgl.out))) : gl ≠ gr); have n39 := aM ((by rw [hg]; exact Nat.ne_of_gt (blk_lt (g := gl) (o := .cells #[.slice Aq1 l1.length cq1] 26 (0, 0)) (qB BKgl.out))) : gr ≠ gl); clear HB BKgm BKgl; have BKgm := n31; have BKgl := n32; have HB := n33; have BKgr := n34; have GEgr := n35; have NBgm_gr := n36; have NBgr_gm := n37; have NBgl_gr := n38; have NBgr_gl := n39; clear n31 n32 n33 n34 n35 n36 n37 n38 n39; clear hb hbox hg; have hz40 : w30.cell? ⟨gm, 0, none⟩ = some (.int .i64 a0_0) := (blk_cell BKgm.out 0).trans rfl; have hz41 : w30.cell? ⟨gm, 1, none⟩ = some (.int .i64 a0_1) := (blk_cell BKgm.out 1).trans rfl; have hz42 : w30.cell? ⟨gm, 2, none⟩ = some (.int .i64 a0_2) := (blk_cell BKgm.out 2).trans rfl; have hz43 : w30.cell? ⟨gm, 3, none⟩ = some (.slice A0_3 l0_3.length c0_3) := (blk_cell BKgm.out 3).trans rfl; have hf44 := blk_frozen BKgm.out 0; have hf45 := blk_frozen BKgm.out 1; have hf46 := blk_frozen BKgm.out 2; have hf47 := blk_frozen BKgm.out 3; have hz48 : w30.cell? ⟨gl, 0, none⟩ = some (.slice Aq1 l1.length cq1) := (blk_cell BKgl.out 0).trans rfl; have hf49 := blk_frozen BKgl.out 0; have hz50 : w30.cell? ⟨gr, 0, none⟩ = some (.int .i64 0) := (blk_cell BKgr.out 0).trans rfl; have hz51 : w30.cell? ⟨gr, 1, none⟩ = some (.int .i64 0) := (blk_cell BKgr.out 1).trans rfl; have hz52 : w30.cell? ⟨gr, 2, none⟩ = some (.int .i64 0) := (blk_cell BKgr.out 2).trans rfl; have hz53 : w30.cell? ⟨gr, 3, none⟩ = some (.slice none 0 0) := (blk_cell BKgr.out 3).trans rfl; have hf54 := blk_frozen BKgr.out 0; have hf55 := blk_frozen BKgr.out 1; have hf56 := blk_frozen BKgr.out 2; have hf57 := blk_frozen BKgr.out 3) | (go_at_call 43; (with_reducible refine (impl_isImage.calls a0_0 a0_1 a0_2 _ _ l0_3 false _ ?side1 ?side2 A0.out).mono ?_); (case side1 => exact (Kd.C_below HR0.out (qW HB.out))); (case side2 => exact HC0.out); rintro e w58 ⟨rfl, hb⟩; have n59 := bB BKgm hb; have n60 := bB BKgl hb; have n61 := bB BKgr hb; have n62 := bS HB hb; clear HB BKgm BKgl BKgr; have BKgm := n59; have BKgl := n60; have BKgr := n61; have HB := n62; clear n59 n60 n61 n62 hb; have hz63 : w58.cell? ⟨gm, 0, none⟩ = some (.int .i64 a0_0) := (blk_cell BKgm.out 0).trans rfl; have hz64 : w58.cell? ⟨gm, 1, none⟩ = some (.int .i64 a0_1) := (blk_cell BKgm.out 1).trans rfl; have hz65 : w58.cell? ⟨gm, 2, none⟩ = some (.int .i64 a0_2) := (blk_cell BKgm.out 2).trans rfl; have hz66 : w58.cell? ⟨gm, 3, none⟩ = some (.slice A0_3 l0_3.length c0_3) := (blk_cell BKgm.out 3).trans rfl; have hf67 := blk_frozen BKgm.out 0; have hf68 := blk_frozen BKgm.out 1; have hf69 := blk_frozen BKgm.out 2; have hf70 := blk_frozen BKgm.out 3; have hz71 : w58.cell? ⟨gl, 0, none⟩ = some (.slice Aq1 l1.length cq1) := (blk_cell BKgl.out 0).trans rfl; have hf72 := blk_frozen BKgl.out 0; have hz73 : w58.cell? ⟨gr, 0, none⟩ = some (.int .i64 0) := (blk_cell BKgr.out 0).trans rfl; have hz74 : w58.cell? ⟨gr, 1, none⟩ = some (.int .i64 0) := (blk_cell BKgr.out 1).trans rfl; have hz75 : w58.cell? ⟨gr, 2, none⟩ = some (.int .i64 0) := (blk_cell BKgr.out 2).trans rfl; have hz76 : w58.cell? ⟨gr, 3, none⟩ = some (.slice none 0 0) := (blk_cell BKgr.out 3).trans rfl; have hf77 := blk_frozen BKgr.out 0; have hf78 := blk_frozen BKgr.out 1; have hf79 := blk_frozen BKgr.out 2; have hf80 := blk_frozen BKgr.out 3))
  refine bodyPost_ret (results_ct rfl _ _ gr 29 #[.int .i64 0, .int .i64 0, .int .i64 0, .slice none 0 0] (0, 0) _ rfl (by exact bP BKgr.out) Try.underlying29 rfl (by kernel_rfl)) rfl ?_
  exact ⟨_, by first | rfl | (simp; done), Kd.R_nil _ _ _ _ _, by exact qW HB.out⟩
 | true =>
  rw [if_pos rfl] at H
  replace H := Option.bind_eq_some_iff.mp H
  obtain ⟨t1, q1, H⟩ := H
  have A1 := aM q1
  clear q1
  cases t1 with
  | false =>
   rw [if_neg (show ¬ (false = true) by decide)] at H
   simp only [Option.some.injEq, Prod.mk.injEq] at H
   obtain ⟨rfl, rfl, rfl, rfl, rfl⟩ := H
   go_enter Try.func24, Try.ntmps24
   go_wp2_with (first | ((with_reducible refine gate_dst (N := 2) rfl ?_); (try (refine gate_guard (by rfl) ?_; dsimp only)); refine bxE (N := 2) (cs := #[.int .i64 a0_0, .int .i64 a0_1, .int .i64 a0_2, .slice A0_3 l0_3.length c0_3]) (t := 29) ?_; intro gm hg w81 hbox hb; have n82 := bS HB hb; have n83 := aM hbox; have n84 := aM ((by rw [hg]; exact (below_size (qW HB.out))) : w.heap.size ≤ gm); clear HB; have HB := n82; have BKgm := n83; have GEgm := n84; clear n82 n83 n84; clear hb hbox hg; have hz85 : w81.cell? ⟨gm, 0, none⟩ = some (.int .i64 a0_0) := (blk_cell BKgm.out 0).trans rfl; have hz86 : w81.cell? ⟨gm, 1, none⟩ = some (.int .i64 a0_1) := (blk_cell BKgm.out 1).trans rfl; have hz87 : w81.cell? ⟨gm, 2, none⟩ = some (.int .i64 a0_2) := (blk_cell BKgm.out 2).trans rfl; have hz88 : w81.cell? ⟨gm, 3, none⟩ = some (.slice A0_3 l0_3.length c0_3) := (blk_cell BKgm.out 3).trans rfl; have hf89 := blk_frozen BKgm.out 0; have hf90 := blk_frozen BKgm.out 1; have hf91 := blk_frozen BKgm.out 2; have hf92 := blk_frozen BKgm.out 3) | ((with_reducible refine gate_dst (N := 3) rfl ?_); (try (refine gate_guard (by rfl) ?_; dsimp only)); refine bxE (N := 3) (cs := #[.slice Aq1 l1.length cq1]) (t := 26) ?_; intro gl hg w93 hbox hb; have n94 := bB BKgm hb; have n95 := bS HB hb; have n96 := aM hbox; have n97 := aM ((by rw [hg]; exact (below_size (qW HB.out))) : w.heap.size ≤ gl); have n98 := aM ((by rw [hg]; exact Nat.ne_of_lt (blk_lt (g := gm) (o := .cells #[.int .i64 a0_0, .int .i64 a0_1, .int .i64 a0_2, .slice A0_3 l0_3.length c0_3] 29 (0, 0)) (qB BKgm.out))) : gm ≠ gl); have n99 := aM ((by rw [hg]; exact Nat.ne_of_gt (blk_lt (g := gm) (o := .cells #[.int .i64 a0_0, .int .i64 a0_1, .int .i64 a0_2, .slice A0_3 l0_3.length c0_3] 29 (0, 0)) (qB BKgm.out))) : gl ≠ gm); clear HB BKgm; have BKgm := n94; have HB := n95; have BKgl := n96; have GEgl := n97; have NBgm_gl := n98; have NBgl_gm := n99; clear n94 n95 n96 n97 n98 n99; clear hb hbox hg; have hz100 : w93.cell? ⟨gm, 0, none⟩ = some (.int .i64 a0_0) := (blk_cell BKgm.out 0).trans rfl; have hz101 : w93.cell? ⟨gm, 1, none⟩ = some (.int .i64 a0_1) := (blk_cell BKgm.out 1).trans rfl; have hz102 : w93.cell? ⟨gm, 2, none⟩ = some (.int .i64 a0_2) := (blk_cell BKgm.out 2).trans rfl; have hz103 : w93.cell? ⟨gm, 3, none⟩ = some (.slice A0_3 l0_3.length c0_3) := (blk_cell BKgm.out 3).trans rfl; have hf104 := blk_frozen BKgm.out 0; have hf105 := blk_frozen BKgm.out 1; have hf106 := blk_frozen BKgm.out 2; have hf107 := blk_frozen BKgm.out 3; have hz108 : w93.cell? ⟨gl, 0, none⟩ = some (.slice Aq1 l1.length cq1) := (blk_cell BKgl.out 0).trans rfl; have hf109 := blk_frozen BKgl.out 0) | ((with_reducible refine gate_dst (N := 4) rfl ?_); (try (refine gate_guard (by rfl) ?_; dsimp only)); refine bxE (N := 4) (cs := #[.int .i64 0, .int .i64 0, .int .i64 0, .slice none 0 0]) (t := 29) ?_; intro gr hg w110 hbox hb; have n111 := bB BKgm hb; have n112 := bB BKgl hb; have n113 := bS HB hb; have n114 := aM hbox; have n115 := aM ((by rw [hg]; exact (below_size (qW HB.out))) : w.heap.size ≤ gr); have n116 := aM ((by rw [hg]; exact Nat.ne_of_lt (blk_lt (g := gm) (o := .cells #[.int .i64 a0_0, .int .i64 a0_1, .int .i64 a0_2, .slice A0_3 l0_3.length c0_3] 29 (0, 0)) (qB BKgm.out))) : gm ≠ gr); have n117 := aM ((by rw [hg]; exact Nat.ne_of_gt (blk_lt (g := gm) (o := .cells #[.int .i64 a0_0, .int .i64 a0_1, .int .i64 a0_2, .slice A0_3 l0_3.length c0_3] 29 (0, 0)) (qB BKgm.out))) : gr ≠ gm); have n118 := aM ((by rw [hg]; exact Nat.ne_of_lt (blk_lt (g := gl) (o := .cells #[.slice Aq1 l1.length cq1] 26 (0, 0)) (qB BKgl.out))) : gl ≠ gr); have n119 := aM ((by rw [hg]; exact Nat.ne_of_gt (blk_lt (g := gl) (o := .cells #[.slice Aq1 l1.length cq1] 26 (0, 0)) (qB BKgl.out))) : gr ≠ gl); clear HB BKgm BKgl; have BKgm := n111; have BKgl := n112; have HB := n113; have BKgr := n114; have GEgr := n115; have NBgm_gr := n116; have NBgr_gm := n117; have NBgl_gr := n118; have NBgr_gl := n119; clear n111 n112 n113 n114 n115 n116 n117 n118 n119; clear hb hbox hg; have hz120 : w110.cell? ⟨gm, 0, none⟩ = some (.int .i64 a0_0) := (blk_cell BKgm.out 0).trans rfl; have hz121 : w110.cell? ⟨gm, 1, none⟩ = some (.int .i64 a0_1) := (blk_cell BKgm.out 1).trans rfl; have hz122 : w110.cell? ⟨gm, 2, none⟩ = some (.int .i64 a0_2) := (blk_cell BKgm.out 2).trans rfl; have hz123 : w110.cell? ⟨gm, 3, none⟩ = some (.slice A0_3 l0_3.length c0_3) := (blk_cell BKgm.out 3).trans rfl; have hf124 := blk_frozen BKgm.out 0; have hf125 := blk_frozen BKgm.out 1; have hf126 := blk_frozen BKgm.out 2; have hf127 := blk_frozen BKgm.out 3; have hz128 : w110.cell? ⟨gl, 0, none⟩ = some (.slice Aq1 l1.length cq1) := (blk_cell BKgl.out 0).trans rfl; have hf129 := blk_frozen BKgl.out 0; have hz130 : w110.cell? ⟨gr, 0, none⟩ = some (.int .i64 0) := (blk_cell BKgr.out 0).trans rfl; have hz131 : w110.cell? ⟨gr, 1, none⟩ = some (.int .i64 0) := (blk_cell BKgr.out 1).trans rfl; have hz132 : w110.cell? ⟨gr, 2, none⟩ = some (.int .i64 0) := (blk_cell BKgr.out 2).trans rfl; have hz133 : w110.cell? ⟨gr, 3, none⟩ = some (.slice none 0 0) := (blk_cell BKgr.out 3).trans rfl; have hf134 := blk_frozen BKgr.out 0; have hf135 := blk_frozen BKgr.out 1; have hf136 := blk_frozen BKgr.out 2; have hf137 := blk_frozen BKgr.out 3) | (go_at_call 43; (with_reducible refine (impl_isImage.calls a0_0 a0_1 a0_2 _ _ l0_3 true _ ?side1 ?side2 A0.out).mono ?_); (case side1 => exact (Kd.C_below HR0.out (qW HB.out))); (case side2 => exact HC0.out); rintro e w138 ⟨rfl, hb⟩; have n139 := bB BKgm hb; have n140 := bB BKgl hb; have n141 := bB BKgr hb; have n142 := bS HB hb; clear HB BKgm BKgl BKgr; have BKgm := n139; have BKgl := n140; have BKgr := n141; have HB := n142; clear n139 n140 n141 n142 hb; have hz143 : w138.cell? ⟨gm, 0, none⟩ = some (.int .i64 a0_0) := (blk_cell BKgm.out 0).trans rfl; have hz144 : w138.cell? ⟨gm, 1, none⟩ = some (.int .i64 a0_1) := (blk_cell BKgm.out 1).trans rfl; have hz145 : w138.cell? ⟨gm, 2, none⟩ = some (.int .i64 a0_2) := (blk_cell BKgm.out 2).trans rfl; have hz146 : w138.cell? ⟨gm, 3, none⟩ = some (.slice A0_3 l0_3.length c0_3) := (blk_cell BKgm.out 3).trans rfl; have hf147 := blk_frozen BKgm.out 0; have hf148 := blk_frozen BKgm.out 1; have hf149 := blk_frozen BKgm.out 2; have hf150 := blk_frozen BKgm.out 3; have hz151 : w138.cell? ⟨gl, 0, none⟩ = some (.slice Aq1 l1.length cq1) := (blk_cell BKgl.out 0).trans rfl; have hf152 := blk_frozen BKgl.out 0; have hz153 : w138.cell? ⟨gr, 0, none⟩ = some (.int .i64 0) := (blk_cell BKgr.out 0).trans rfl; have hz154 : w138.cell? ⟨gr, 1, none⟩ = some (.int .i64 0) := (blk_cell BKgr.out 1).trans rfl; have hz155 : w138.cell? ⟨gr, 2, none⟩ = some (.int .i64 0) := (blk_cell BKgr.out 2).trans rfl; have hz156 : w138.cell? ⟨gr, 3, none⟩ = some (.slice none 0 0) := (blk_cell BKgr.out 3).trans rfl; have hf157 := blk_frozen BKgr.out 0; have hf158 := blk_frozen BKgr.out 1; have hf159 := blk_frozen BKgr.out 2; have hf160 := blk_frozen BKgr.out 3) | (go_at_call 53; (with_reducible refine (impl_isPalette.calls _ _ l1 a0_2 false _ ?side1 ?side2 A1.out).mono ?_); (case side1 => exact (Kd.C_below HR1.out (qW HB.out))); (case side2 => exact HC1.out); rintro e w161 ⟨rfl, hb⟩; have n162 := bB BKgm hb; have n163 := bB BKgl hb; have n164 := bB BKgr hb; have n165 := bS HB hb; clear HB BKgm BKgl BKgr; have BKgm := n162; have BKgl := n163; have BKgr := n164; have HB := n165; clear n162 n163 n164 n165 hb; have hz166 : w161.cell? ⟨gm, 0, none⟩ = some (.int .i64 a0_0) := (blk_cell BKgm.out 0).trans rfl; have hz167 : w161.cell? ⟨gm, 1, none⟩ = some (.int .i64 a0_1) := (blk_cell BKgm.out 1).trans rfl; have hz168 : w161.cell? ⟨gm, 2, none⟩ = some (.int .i64 a0_2) := (blk_cell BKgm.out 2).trans rfl; have hz169 : w161.cell? ⟨gm, 3, none⟩ = some (.slice A0_3 l0_3.length c0_3) := (blk_cell BKgm.out 3).trans rfl; have hf170 := blk_frozen BKgm.out 0; have hf171 := blk_frozen BKgm.out 1; have hf172 := blk_frozen BKgm.out 2; have hf173 := blk_frozen BKgm.out 3; have hz174 : w161.cell? ⟨gl, 0, none⟩ = some (.slice Aq1 l1.length cq1) := (blk_cell BKgl.out 0).trans rfl; have hf175 := blk_frozen BKgl.out 0; have hz176 : w161.cell? ⟨gr, 0, none⟩ = some (.int .i64 0) := (blk_cell BKgr.out 0).trans rfl; have hz177 : w161.cell? ⟨gr, 1, none⟩ = some (.int .i64 0) := (blk_cell BKgr.out 1).trans rfl; have hz178 : w161.cell? ⟨gr, 2, none⟩ = some (.int .i64 0) := (blk_cell BKgr.out 2).trans rfl; have hz179 : w161.cell? ⟨gr, 3, none⟩ = some (.slice none 0 0) := (blk_cell BKgr.out 3).trans rfl; have hf180 := blk_frozen BKgr.out 0; have hf181 := blk_frozen BKgr.out 1; have hf182 := blk_frozen BKgr.out 2; have hf183 := blk_frozen BKgr.out 3))
   refine bodyPost_ret (results_ct rfl _ _ gr 29 #[.int .i64 0, .int .i64 0, .int .i64 0, .slice none 0 0] (0, 0) _ rfl (by exact bP BKgr.out) Try.underlying29 rfl (by kernel_rfl)) rfl ?_
   exact ⟨_, by first | rfl | (simp; done), Kd.R_nil _ _ _ _ _, by exact qW HB.out⟩
  | true =>
   rw [if_pos rfl] at H
   simp only [Option.some.injEq, Prod.mk.injEq] at H
   obtain ⟨rfl, rfl, rfl, hy, rfl⟩ := H
   have HY := aM hy
   clear hy
   have V := aM (isImage_true A0.out)
   have b0 := V.out.1
   have b1 := V.out.2.1
   have b2 := V.out.2.2.1
   have U := aM (isPalette_true A1.out)
   have HF : Aside0 (∀ x y : Int, ((fun x y => idxPix l1 l0_3 a0_0 a0_2 x y) x y).length ≤ 100) := ⟨fun _ _ => by simp [idxPix]⟩
   generalize hyl : imgOf (fun x y => idxPix l1 l0_3 a0_0 a0_2 x y) a0_0.toNat a0_1.toNat = yl at HY
   have HYL := aM hyl
   clear hyl
   go_enter Try.func24, Try.ntmps24
   go_wp2_with (first | ((with_reducible refine gate_dst (N := 2) rfl ?_); (try (refine gate_guard (by rfl) ?_; dsimp only)); refine bxE (N := 2) (cs := #[.int .i64 a0_0, .int .i64 a0_1, .int .i64 a0_2, .slice A0_3 l0_3.length c0_3]) (t := 29) ?_; intro gm hg w184 hbox hb; have n185 := bS HB hb; have n186 := aM hbox; have n187 := aM ((by rw [hg]; exact (below_size (qW HB.out))) : w.heap.size ≤ gm); clear HB; have HB := n185; have BKgm := n186; have GEgm := n187; clear n185 n186 n187; clear hb hbox hg; have hz188 : w184.cell? ⟨gm, 0, none⟩ = some (.int .i64 a0_0) := (blk_cell BKgm.out 0).trans rfl; have hz189 : w184.cell? ⟨gm, 1, none⟩ = some (.int .i64 a0_1) := (blk_cell BKgm.out 1).trans rfl; have hz190 : w184.cell? ⟨gm, 2, none⟩ = some (.int .i64 a0_2) := (blk_cell BKgm.out 2).trans rfl; have hz191 : w184.cell? ⟨gm, 3, none⟩ = some (.slice A0_3 l0_3.length c0_3) := (blk_cell BKgm.out 3).trans rfl; have hf192 := blk_frozen BKgm.out 0; have hf193 := blk_frozen BKgm.out 1; have hf194 := blk_frozen BKgm.out 2; have hf195 := blk_frozen BKgm.out 3) | ((with_reducible refine gate_dst (N := 3) rfl ?_); (try (refine gate_guard (by rfl) ?_; dsimp only)); refine bxE (N := 3) (cs := #[.slice Aq1 l1.length cq1]) (t := 26) ?_; intro gl hg w196 hbox hb; have n197 := bB BKgm hb; have n198 := bS HB hb; have n199 := aM hbox; have n200 := aM ((by rw [hg]; exact (below_size (qW HB.out))) : w.heap.size ≤ gl); have n201 := aM ((by rw [hg]; exact Nat.ne_of_lt (blk_lt (g := gm) (o := .cells #[.int .i64 a0_0, .int .i64 a0_1, .int .i64 a0_2, .slice A0_3 l0_3.length c0_3] 29 (0, 0)) (qB BKgm.out))) : gm ≠ gl); have n202 := aM ((by rw [hg]; exact Nat.ne_of_gt (blk_lt (g := gm) (o := .cells #[.int .i64 a0_0, .int .i64 a0_1, .int .i64 a0_2, .slice A0_3 l0_3.length c0_3] 29 (0, 0)) (qB BKgm.out))) : gl ≠ gm); clear HB BKgm; have BKgm := n197; have HB := n198; have BKgl := n199; have GEgl := n200; have NBgm_gl := n201; have NBgl_gm := n202; clear n197 n198 n199 n200 n201 n202; clear hb hbox hg; have hz203 : w196.cell? ⟨gm, 0, none⟩ = some (.int .i64 a0_0) := (blk_cell BKgm.out 0).trans rfl; have hz204 : w196.cell? ⟨gm, 1, none⟩ = some (.int .i64 a0_1) := (blk_cell BKgm.out 1).trans rfl; have hz205 : w196.cell? ⟨gm, 2, none⟩ = some (.int .i64 a0_2) := (blk_cell BKgm.out 2).trans rfl; have hz206 : w196.cell? ⟨gm, 3, none⟩ = some (.slice A0_3 l0_3.length c0_3) := (blk_cell BKgm.out 3).trans rfl; have hf207 := blk_frozen BKgm.out 0; have hf208 := blk_frozen BKgm.out 1; have hf209 := blk_frozen BKgm.out 2; have hf210 := blk_frozen BKgm.out 3; have hz211 : w196.cell? ⟨gl, 0, none⟩ = some (.slice Aq1 l1.length cq1) := (blk_cell BKgl.out 0).trans rfl; have hf212 := blk_frozen BKgl.out 0) | ((with_reducible refine gate_dst (N := 4) rfl ?_); (try (refine gate_guard (by rfl) ?_; dsimp only)); refine bxE (N := 4) (cs := #[.int .i64 0, .int .i64 0, .int .i64 0, .slice none 0 0]) (t := 29) ?_; intro gr hg w213 hbox hb; have n214 := bB BKgm hb; have n215 := bB BKgl hb; have n216 := bS HB hb; have n217 := aM hbox; have n218 := aM ((by rw [hg]; exact (below_size (qW HB.out))) : w.heap.size ≤ gr); have n219 := aM ((by rw [hg]; exact Nat.ne_of_lt (blk_lt (g := gm) (o := .cells #[.int .i64 a0_0, .int .i64 a0_1, .int .i64 a0_2, .slice A0_3 l0_3.length c0_3] 29 (0, 0)) (qB BKgm.out))) : gm ≠ gr); have n220 := aM ((by rw [hg]; exact Nat.ne_of_gt (blk_lt (g := gm) (o := .cells #[.int .i64 a0_0, .int .i64 a0_1, .int .i64 a0_2, .slice A0_3 l0_3.length c0_3] 29 (0, 0)) (qB BKgm.out))) : gr ≠ gm); have n221 := aM ((by rw [hg]; exact Nat.ne_of_lt (blk_lt (g := gl) (o := .cells #[.slice Aq1 l1.length cq1] 26 (0, 0)) (qB BKgl.out))) : gl ≠ gr); have n222 := aM ((by rw [hg]; exact Nat.ne_of_gt (blk_lt (g := gl) (o := .cells #[.slice Aq1 l1.length cq1] 26 (0, 0)) (qB BKgl.out))) : gr ≠ gl); clear HB BKgm BKgl; have BKgm := n214; have BKgl := n215; have HB := n216; have BKgr := n217; have GEgr := n218; have NBgm_gr := n219; have NBgr_gm := n220; have NBgl_gr := n221; have NBgr_gl := n222; clear n214 n215 n216 n217 n218 n219 n220 n221 n222; clear hb hbox hg; have hz223 : w213.cell? ⟨gm, 0, none⟩ = some (.int .i64 a0_0) := (blk_cell BKgm.out 0).trans rfl; have hz224 : w213.cell? ⟨gm, 1, none⟩ = some (.int .i64 a0_1) := (blk_cell BKgm.out 1).trans rfl; have hz225 : w213.cell? ⟨gm, 2, none⟩ = some (.int .i64 a0_2) := (blk_cell BKgm.out 2).trans rfl; have hz226 : w213.cell? ⟨gm, 3, none⟩ = some (.slice A0_3 l0_3.length c0_3) := (blk_cell BKgm.out 3).trans rfl; have hf227 := blk_frozen BKgm.out 0; have hf228 := blk_frozen BKgm.out 1; have hf229 := blk_frozen BKgm.out 2; have hf230 := blk_frozen BKgm.out 3; have hz231 : w213.cell? ⟨gl, 0, none⟩ = some (.slice Aq1 l1.length cq1) := (blk_cell BKgl.out 0).trans rfl; have hf232 := blk_frozen BKgl.out 0; have hz233 : w213.cell? ⟨gr, 0, none⟩ = some (.int .i64 0) := (blk_cell BKgr.out 0).trans rfl; have hz234 : w213.cell? ⟨gr, 1, none⟩ = some (.int .i64 0) := (blk_cell BKgr.out 1).trans rfl; have hz235 : w213.cell? ⟨gr, 2, none⟩ = some (.int .i64 0) := (blk_cell BKgr.out 2).trans rfl; have hz236 : w213.cell? ⟨gr, 3, none⟩ = some (.slice none 0 0) := (blk_cell BKgr.out 3).trans rfl; have hf237 := blk_frozen BKgr.out 0; have hf238 := blk_frozen BKgr.out 1; have hf239 := blk_frozen BKgr.out 2; have hf240 := blk_frozen BKgr.out 3) | (go_at_call 43; (with_reducible refine (impl_isImage.calls a0_0 a0_1 a0_2 _ _ l0_3 true _ ?side1 ?side2 A0.out).mono ?_); (case side1 => exact (Kd.C_below HR0.out (qW HB.out))); (case side2 => exact HC0.out); rintro e w241 ⟨rfl, hb⟩; have n242 := bB BKgm hb; have n243 := bB BKgl hb; have n244 := bB BKgr hb; have n245 := bS HB hb; clear HB BKgm BKgl BKgr; have BKgm := n242; have BKgl := n243; have BKgr := n244; have HB := n245; clear n242 n243 n244 n245 hb; have hz246 : w241.cell? ⟨gm, 0, none⟩ = some (.int .i64 a0_0) := (blk_cell BKgm.out 0).trans rfl; have hz247 : w241.cell? ⟨gm, 1, none⟩ = some (.int .i64 a0_1) := (blk_cell BKgm.out 1).trans rfl; have hz248 : w241.cell? ⟨gm, 2, none⟩ = some (.int .i64 a0_2) := (blk_cell BKgm.out 2).trans rfl; have hz249 : w241.cell? ⟨gm, 3, none⟩ = some (.slice A0_3 l0_3.length c0_3) := (blk_cell BKgm.out 3).trans rfl; have hf250 := blk_frozen BKgm.out 0; have hf251 := blk_frozen BKgm.out 1; have hf252 := blk_frozen BKgm.out 2; have hf253 := blk_frozen BKgm.out 3; have hz254 : w241.cell? ⟨gl, 0, none⟩ = some (.slice Aq1 l1.length cq1) := (blk_cell BKgl.out 0).trans rfl; have hf255 := blk_frozen BKgl.out 0; have hz256 : w241.cell? ⟨gr, 0, none⟩ = some (.int .i64 0) := (blk_cell BKgr.out 0).trans rfl; have hz257 : w241.cell? ⟨gr, 1, none⟩ = some (.int .i64 0) := (blk_cell BKgr.out 1).trans rfl; have hz258 : w241.cell? ⟨gr, 2, none⟩ = some (.int .i64 0) := (blk_cell BKgr.out 2).trans rfl; have hz259 : w241.cell? ⟨gr, 3, none⟩ = some (.slice none 0 0) := (blk_cell BKgr.out 3).trans rfl; have hf260 := blk_frozen BKgr.out 0; have hf261 := blk_frozen BKgr.out 1; have hf262 := blk_frozen BKgr.out 2; have hf263 := blk_frozen BKgr.out 3) | (go_at_call 53; (with_reducible refine (impl_isPalette.calls _ _ l1 a0_2 true _ ?side1 ?side2 A1.out).mono ?_); (case side1 => exact (Kd.C_below HR1.out (qW HB.out))); (case side2 => exact HC1.out); rintro e w264 ⟨rfl, hb⟩; have n265 := bB BKgm hb; have n266 := bB BKgl hb; have n267 := bB BKgr hb; have n268 := bS HB hb; clear HB BKgm BKgl BKgr; have BKgm := n265; have BKgl := n266; have BKgr := n267; have HB := n268; clear n265 n266 n267 n268 hb; have hz269 : w264.cell? ⟨gm, 0, none⟩ = some (.int .i64 a0_0) := (blk_cell BKgm.out 0).trans rfl; have hz270 : w264.cell? ⟨gm, 1, none⟩ = some (.int .i64 a0_1) := (blk_cell BKgm.out 1).trans rfl; have hz271 : w264.cell? ⟨gm, 2, none⟩ = some (.int .i64 a0_2) := (blk_cell BKgm.out 2).trans rfl; have hz272 : w264.cell? ⟨gm, 3, none⟩ = some (.slice A0_3 l0_3.length c0_3) := (blk_cell BKgm.out 3).trans rfl; have hf273 := blk_frozen BKgm.out 0; have hf274 := blk_frozen BKgm.out 1; have hf275 := blk_frozen BKgm.out 2; have hf276 := blk_frozen BKgm.out 3; have hz277 : w264.cell? ⟨gl, 0, none⟩ = some (.slice Aq1 l1.length cq1) := (blk_cell BKgl.out 0).trans rfl; have hf278 := blk_frozen BKgl.out 0; have hz279 : w264.cell? ⟨gr, 0, none⟩ = some (.int .i64 0) := (blk_cell BKgr.out 0).trans rfl; have hz280 : w264.cell? ⟨gr, 1, none⟩ = some (.int .i64 0) := (blk_cell BKgr.out 1).trans rfl; have hz281 : w264.cell? ⟨gr, 2, none⟩ = some (.int .i64 0) := (blk_cell BKgr.out 2).trans rfl; have hz282 : w264.cell? ⟨gr, 3, none⟩ = some (.slice none 0 0) := (blk_cell BKgr.out 3).trans rfl; have hf283 := blk_frozen BKgr.out 0; have hf284 := blk_frozen BKgr.out 1; have hf285 := blk_frozen BKgr.out 2; have hf286 := blk_frozen BKgr.out 3) | (go_at_call 54; refine (impl_imageBy.calls 55 #[.pointer (some ⟨gl, 0, none⟩), .pointer (some ⟨gm, 0, none⟩)] (enters_of Try.func55 (by kernel_rfl) rfl) _ a0_0 a0_1 1 _ ?b0 ?b1 ?b2 ?b3 ?bf (indexImagePix _ gl gm a0_0 a0_1 a0_2 _ _ l0_3 _ _ l1 (qB BKgl.out) (qB BKgm.out) (Kd.C_below HR0.out (qW HB.out)) HC0.out (Kd.C_below HR1.out (qW HB.out)) HC1.out V.out U.out.1.2 (fun z hz => (U.out.2.2 z hz).1))).mono ?_; (case b0 => omega); (case b1 => omega); (case b2 => omega); (case b3 => omega); (case bf => exact HF.out); rintro e w287 ⟨v3, rfl, ho, hb⟩; rw [HYL.out] at ho; have HLB := aM (below_size (qW HB.out)); obtain ⟨Ao, co, eo⟩ := Kd.R_slice ho; subst eo; have HO := aM ho; clear ho; have n289 := bB BKgm hb; have n290 := bB BKgl hb; have n291 := bB BKgr hb; have n292 := bS HB hb; clear HB BKgm BKgl BKgr; have BKgm := n289; have BKgl := n290; have BKgr := n291; have HB := n292; clear n289 n290 n291 n292 hb; have hz293 : w287.cell? ⟨gm, 0, none⟩ = some (.int .i64 a0_0) := (blk_cell BKgm.out 0).trans rfl; have hz294 : w287.cell? ⟨gm, 1, none⟩ = some (.int .i64 a0_1) := (blk_cell BKgm.out 1).trans rfl; have hz295 : w287.cell? ⟨gm, 2, none⟩ = some (.int .i64 a0_2) := (blk_cell BKgm.out 2).trans rfl; have hz296 : w287.cell? ⟨gm, 3, none⟩ = some (.slice A0_3 l0_3.length c0_3) := (blk_cell BKgm.out 3).trans rfl; have hf297 := blk_frozen BKgm.out 0; have hf298 := blk_frozen BKgm.out 1; have hf299 := blk_frozen BKgm.out 2; have hf300 := blk_frozen BKgm.out 3; have hz301 : w287.cell? ⟨gl, 0, none⟩ = some (.slice Aq1 l1.length cq1) := (blk_cell BKgl.out 0).trans rfl; have hf302 := blk_frozen BKgl.out 0; have hz303 : w287.cell? ⟨gr, 0, none⟩ = some (.int .i64 0) := (blk_cell BKgr.out 0).trans rfl; have hz304 : w287.cell? ⟨gr, 1, none⟩ = some (.int .i64 0) := (blk_cell BKgr.out 1).trans rfl; have hz305 : w287.cell? ⟨gr, 2, none⟩ = some (.int .i64 0) := (blk_cell BKgr.out 2).trans rfl; have hz306 : w287.cell? ⟨gr, 3, none⟩ = some (.slice none 0 0) := (blk_cell BKgr.out 3).trans rfl; have hf307 := blk_frozen BKgr.out 0; have hf308 := blk_frozen BKgr.out 1; have hf309 := blk_frozen BKgr.out 2; have hf310 := blk_frozen BKgr.out 3))
   refine bodyPost_ret (results_ct rfl _ _ gr 29 #[.int .i64 a0_0, .int .i64 a0_1, .int .i64 1, .slice Ao yl.length co] (0, 0) _ rfl (by exact bP BKgr.out) Try.underlying29 rfl (by kernel_rfl)) rfl ?_
   exact ⟨_, by first | rfl | (simp; done), by rw [← HY.out]; refine qR ?_; exact Kd.R_mono (Kd.R_far (p := ⟨gr, 3, none⟩) (Kd.R_far (p := ⟨gr, 2, none⟩) (Kd.R_far (p := ⟨gr, 1, none⟩) (Kd.R_far (p := ⟨gr, 0, none⟩) (Kd.R_types (Kd.R_lower HO.out HLB.out) BKgr.out (by decide)) (fun _ hk => hk.2) _) (fun _ hk => hk.2) _) (fun _ hk => hk.2) _) (fun _ hk => hk.2) _) (fun _ hk => trivial), by exact qW HB.out⟩
def slices_Max_int_int.l0 : Nat → List Int → Int → Int → Option (Int)
 | 0, _, _, _ => none
 | k + 1, x0, x3, x4 => if x4 < (x0.length : Int) then (if 0 ≤ x4 then (slices_Max_int_int.l0 k x0 (mx x3 (rd x0 x4)) (wrap64 (x4 + 1))) else (none)) else (some x3)
def slices_Max_int_int.f (k : Nat) (l0 : List Int) : Option (Int) := if (l0.length : Int) < 1 then (none) else (if 0 < (l0.length : Int) then (slices_Max_int_int.l0 k l0 (rd l0 0) 1) else (none))
theorem slices_Max_int_int.mono_l : ∀ k, (∀ y0 y1 y2, LeO (slices_Max_int_int.l0 k y0 y1 y2) (slices_Max_int_int.l0 (k + 1) y0 y1 y2))
 | 0 => fun _ _ _ r h => by simp [slices_Max_int_int.l0] at h
 | k + 1 => by
  have ih0 := slices_Max_int_int.mono_l k
  ·intro y0 y1 y2
   unfold slices_Max_int_int.l0
   repeat' first | (with_reducible first | exact ih0 _ _ _ | exact lR | exact lN | refine lI ?_ ?_ | refine lB ?_ fun _ => ?_) | exact ih0 _ _ _ | exact lN | refine lI ?_ ?_ | refine lB ?_ fun _ => ?_
theorem slices_Max_int_int.mono : ∀ a0 k, LeO (slices_Max_int_int.f k a0) (slices_Max_int_int.f (k + 1) a0) := by
 intro a0 k
 have ih0 := slices_Max_int_int.mono_l k
 unfold slices_Max_int_int.f
 repeat' first | (with_reducible first | exact ih0 _ _ _ | exact lR | exact lN | refine lI ?_ ?_ | refine lB ?_ fun _ => ?_) | exact ih0 _ _ _ | exact lN | refine lI ?_ ?_ | refine lB ?_ fun _ => ?_
set_option maxHeartbeats 8000000 in
set_option maxRecDepth 100000 in
theorem slices_Max_int_int.calls (k : Nat) (A0 : Option Addr) (c0 : Nat) (l0 : List Int) (r : Int) (w : World) (hr0 : Kd.C (Kd.int .i64) w A0 l0.length l0) (hc0 : l0.length ≤ c0) (h : slices_Max_int_int.f k l0 = some r) :
  Calls Try.prog 57 #[.slice A0 l0.length c0] w fun e w' => e = .returned (.int .i64 r) ∧ Below w.heap.size w w' := by
 have HR0 := aM hr0
 have HC0 := aM hc0
 clear hr0 hc0
 have HB := aM (Below.refl w.heap.size w)
 unfold slices_Max_int_int.f at h
 have H := h
 clear h
 by_cases c2 : (l0.length : Int) < 1
 ·rw [if_pos c2] at H
  exact absurd H (by simp)
 rw [if_neg c2] at H
 have c2b0 : decide ((l0.length : Int) < 1) = false := decide_eq_false c2
 have c2b1 : decide (l0.length < 1) = false := decide_eq_false (by omega)
 clear c2
 replace H := iS H
 obtain ⟨c3, H⟩ := H
 have c3b0 : decide (0 < (l0.length : Int)) = true := decide_eq_true c3
 have c3b1 : decide (0 < l0.length) = true := decide_eq_true (by omega)
 clear c3
 have H' := aM H
 clear H
 have p333 : 0 ≤ (0 : Int) := (by omega)
 have q333 : 0 < (l0.length : Int) := oD
 obtain ⟨ad333, e333, hx333_0⟩ := Kd.at_int HR0.out 0 p333 q333
 cases e333
 have qi333 : (0 < l0.length) = True := eq_true (by omega)
 (try rw [show ((0 : Int)).toNat = 0 from rfl] at hx333_0)
 (try rw [Addr.add_zero'] at hx333_0)
 replace p333 := eq_true p333
 replace q333 := eq_true q333
 go_enter Try.func57, Try.ntmps57
 go_wp2
 go_loopg [3, 4] k (fun kq v3 v4 w' => ∃ (x3_1 : Int) (x4_1 : Int), v3 = .int .i64 x3_1 ∧ v4 = .int .i64 x4_1 ∧ Aside0 (slices_Max_int_int.l0 kq l0 x3_1 x4_1 = some r) ∧ Aside0 (kq ≤ k) ∧ Aside0 (Below w.heap.size w w'))
 case atStart => exact ⟨(rd l0 0), (1), qE, qE, H', ⟨Nat.le_refl _⟩, ⟨by exact qW HB.out⟩⟩
 case round =>
  clear H'
  try clear c2
  try clear c2b0
  try clear c2b1
  try clear c3
  try clear c3b0
  try clear c3b1
  try clear hx333_0
  try clear p333
  try clear q333
  obtain ⟨x3_1, x4_1, rfl, rfl, HA, HK1, HB⟩ := hrel
  cases gk with
  | zero => exact absurd HA.out (by simp [slices_Max_int_int.l0])
  | succ k1 =>
   have H := HA.out
   clear HA
   simp only [slices_Max_int_int.l0] at H
   by_cases c4 : x4_1 < (l0.length : Int)
   rotate_left
   ·rw [if_neg c4] at H
    have c4b0 : decide (x4_1 < (l0.length : Int)) = false := decide_eq_false c4
    clear c4
    obtain rfl := Option.some.inj H
    go_wp2
    go_ret
    exact ⟨qX, by exact qW HB.out⟩
   rw [if_pos c4] at H
   have c4b0 : decide (x4_1 < (l0.length : Int)) = true := decide_eq_true c4
   clear c4
   replace H := iD H
   obtain ⟨c5b0, H⟩ := H
   obtain ⟨ji6, hji6⟩ : ∃ j_ : Int, (mx x3_1 (rd l0 x4_1)) = j_ := ⟨_, rfl⟩
   replace H : (slices_Max_int_int.l0 k1 l0 ji6 (wrap64 (x4_1 + 1))) = some r := by first | (rw [hji6] at H; exact H) | (simp only [hji6] at H ⊢; exact H)
   have hji6_ : (if x3_1 < (rd l0 x4_1) then (rd l0 x4_1) else x3_1) = ji6 := hji6
   have H' := aM H
   clear H
   obtain ⟨ad334, e334, hx334_0⟩ := Kd.at_int HR0.out x4_1 oD oD
   obtain rfl : ad333 = ad334 := (by injection e334)
   replace hx334_0 := bD HB hx334_0
   have p334 := eq_true (oD : 0 ≤ (x4_1 : Int))
   have q334 := eq_true (oD : x4_1 < (l0.length : Int))
   go_wp2
   go_roundg k1
   case measure => have := HK1.out; omega
   case rel => exact ⟨(ji6), (wrap64 (x4_1 + 1)), (by first | rfl | (simp; done) | (simp only [← hji6] <;> (first | rfl | simp)) | (simp [*]; done)), qE, H', ⟨by have := HK1.out; omega⟩, ⟨by exact qW HB.out⟩⟩
def colPix (L : List (List Int)) (l : List Int) (a0 a2 x y : Int) : List Int := rd_L1 L (rd (pixOf l a0 a2 x y) 0)
theorem colPix_len (L : List (List Int)) (l : List Int) (a0 a2 x y : Int) (h : ∀ z ∈ L, z.length ≤ 100) : (colPix L l a0 a2 x y).length ≤ 100 := by
 unfold colPix rd_L1
 rw [List.getD_eq_getElem?_getD]
 cases e : L[(rd (pixOf l a0 a2 x y) 0).toNat]? with
 | none => simp
 | some z => exact h z (List.mem_of_getElem? e)
set_option maxHeartbeats 8000000 in
set_option maxRecDepth 100000 in
theorem colorImagePix (w : World) (B1 B2 : Nat) (a0 a1 a2 : Int) (A : Option Addr) (c : Nat) (l : List Int) (AL : Option Addr) (cL : Nat) (L : List (List Int))
  (hB1 : w.heap[B1]? = some (.cells #[.slice AL L.length cL] 26 (0, 0))) (hB2 : w.heap[B2]? = some (.cells #[.int .i64 a0, .int .i64 a1, .int .i64 a2, .slice A l.length c] 29 (0, 0)))
  (hr : Kd.C (Kd.int .i64) w A l.length l) (hc : l.length ≤ c) (hrL : Kd.C (Kd.slice 3 (Kd.int .i64)) w AL L.length L) (hcL : L.length ≤ cL) (V : ImgOk a0 a1 a2 l) (h1 : a2 = 1) (hmax : ∀ v ∈ l, v < (L.length : Int)) :
  PixAt 58 #[.pointer (some ⟨B1, 0, none⟩), .pointer (some ⟨B2, 0, none⟩)] (fun x y => colPix L l a0 a2 x y) a0 a1 w := fun W x y hb hx hx' hy hy' => by
 obtain ⟨⟨v0, v0'⟩, ⟨v1, v1'⟩, ⟨v2, v2'⟩, hlen, hby⟩ := V
 have hfit := pix_fits (a0 := a0) (a1 := a1) (a2 := a2) (x := x) (y := y) (by omega) (by omega) (by omega) (by omega) (by omega)
 rw [← hlen] at hfit
 have m1 : 0 ≤ y * a0 := Int.mul_nonneg hy (by omega)
 have m2 : 0 ≤ (y * a0 + x) * a2 := Int.mul_nonneg (by omega) (by omega)
 have hpl := pixOf_length (l := l) (n := a0) (p := a2) (x := x) (y := y) m2 (by omega) hfit
 have hpm : ∀ v ∈ pixOf l a0 a2 x y, (0 ≤ v ∧ v ≤ 255) ∧ v < (L.length : Int) := fun v hv => ⟨hby v (pixOf_mem hv), hmax v (pixOf_mem hv)⟩
 have HR0 := aM (Kd.C_below hr hb)
 have HRL := aM (Kd.C_below hrL hb)
 have HCL := aM hcL
 have KB1 := aM (blk_below hB1 hb)
 have KB2 := aM (blk_below hB2 hb)
 have HC := aM (fun (W' : World) (hb' : Below W.heap.size W W') => impl_at.calls2 a0 a1 a2 A c l x y W' (Kd.C_below HR0.out hb') hc (by omega) v0' (by omega) (by omega) (by omega) (by omega) (by omega) (by omega) hfit)
 clear hfit hlen hr hc hB1 hB2 m1 m2 hby hmax hcL
 dsimp only
 unfold colPix
 generalize pixOf l a0 a2 x y = px at HC hpl hpm ⊢
 rw [h1] at hpl
 clear h1
 have r0 : (0 ≤ rd px 0 ∧ rd px 0 ≤ 255) ∧ rd px 0 < (L.length : Int) := hpm _ (by
  unfold rd
  rw [List.getD_eq_getElem?_getD, List.getElem?_eq_getElem (by omega)]
  exact List.getElem_mem _)
 have HL := aM hpl
 clear hpm hpl
 obtain ⟨n0, hn0⟩ : ∃ z : Int, rd px 0 = z := ⟨_, rfl⟩
 rw [hn0] at r0 ⊢
 have HN0 := aM hn0
 clear hn0
 obtain ⟨n, hn⟩ : ∃ z : Nat, n0 = z := ⟨n0.toNat, by omega⟩
 subst hn
 obtain ⟨⟨r1, r2⟩, r3⟩ := r0
 obtain ⟨adL, A1, c1, e1, hcell, hl1, hi1⟩ := at_L1 hrL (n : Int) r1 r3
 subst e1
 simp only [Int.toNat_natCast] at hcell
 generalize rd_L1 L (n : Int) = row at hcell hl1 hi1 ⊢
 have HCL2 := aM (fun (W' : World) (h : Below W.heap.size W W') => pw_cell_below (hb.trans (h.mono hb.size)) hcell)
 have HI1 := aM (fun (W' : World) (h : Below W.heap.size W W') => Kd.C_below hi1 (hb.trans (h.mono hb.size)))
 have HL1 := aM hl1
 clear hcell hl1 hi1 hb hrL HRL
 have r4 : n < L.length := by omega
 show Calls Try.prog 58 _ W fun e w' => ∃ (A : Option Addr) (c : Nat), e = .returned (.slice A row.length c) ∧ Kd.C (Kd.int .i64) w' A row.length row ∧ row.length ≤ c ∧ Below W.heap.size W w'
 go_enter Try.func58, Try.ntmps58
 go_wp2
 refine start_ (n := 10) (S := fun w' => Below W.heap.size W w') (ds := []) (bA 10 0) (by kernel_rfl) rfl rfl (below_drew (Below.refl _ _)) (fun hHeld => ?_)
 have HB := aM hHeld
 clear hHeld
 generalize W.drew = w2 at HB ⊢
 refine pure_ (i := 2) (N := some 9) (v := ?_) (a' := ?_) (bA 10 4) rfl rfl (by kernel_rfl) (fun _ _ _ h => h) (Or.inl ⟨by rfl, ?_⟩) ?_ ?_
 rotate_left
 ·intro w'
  go_simp
  with_reducible rfl
 rotate_left
 ·refine pZ ?_
  rfl
 refine pure_ (i := 3) (N := some 10) (v := ?_) (a' := ?_) (bA 10 12) rfl rfl (by kernel_rfl) (fun _ _ _ h => h) (Or.inl ⟨by rfl, ?_⟩) ?_ ?_
 rotate_left
 ·intro w'
  go_simp
  with_reducible rfl
 rotate_left
 ·refine pZ ?_
  rfl
 refine take_ (i := 0) (N := some 7) (v := ?_) (a' := ?_) (bA 10 13) rfl rfl (by kernel_rfl) (fun _ _ _ h => h) (Or.inl ⟨by rfl, ?_⟩) HB.out ?_ ?_
 rotate_left
 ·intro w' s0
  have z : w'.cell? ⟨B1, 0, none⟩ = some (.slice (some adL) L.length cL) := (blk_cell (blk_below KB1.out s0) 0).trans rfl
  go_simp
  with_reducible rfl
 rotate_left
 ·refine pZ ?_
  rfl
 refine take_ (i := 1) (N := some 8) (v := ?_) (a' := ?_) (bA 10 15) rfl rfl (by kernel_rfl) (fun _ _ _ h => h) (Or.inl ⟨by rfl, ?_⟩) HB.out ?_ ?_
 rotate_left
 ·intro w' s0
  have z0 : w'.cell? ⟨B2, 0, none⟩ = some (.int .i64 a0) := (blk_cell (blk_below KB2.out s0) 0).trans rfl
  have z1 : w'.cell? ⟨B2, 1, none⟩ = some (.int .i64 a1) := (blk_cell (blk_below KB2.out s0) 1).trans rfl
  have z2 : w'.cell? ⟨B2, 2, none⟩ = some (.int .i64 a2) := (blk_cell (blk_below KB2.out s0) 2).trans rfl
  have z3 : w'.cell? ⟨B2, 3, none⟩ = some (.slice A l.length c) := (blk_cell (blk_below KB2.out s0) 3).trans rfl
  go_simp
  with_reducible rfl
 rotate_left
 ·refine pZ ?_
  rfl
 refine one_ (i := 4) (N := some 11) (bA 10 31) rfl rfl (by kernel_rfl) (by decide) (fun K hK => ?_)
 refine goes_ Try.func44 (by kernel_rfl) rfl #[.agg #[.int .i64 a0, .int .i64 a1, .int .i64 a2, .slice A l.length c], .int .i64 x, .int .i64 y] (by rfl) rfl rfl (by (try simp only [List.map_toArray, List.map_cons, List.map_nil]); first | done | rfl) ?_
 refine (HC.out _ HB.out).mono ?_
 rintro e w3 ⟨A', c', rfl, hr', hl', hb', hall⟩
 refine ⟨_, rfl, ?_⟩
 have HB3 := aM (below_step HB.out hb')
 have HALL := aM hall
 have HLC := aM hl'
 clear HB hr' hall hb' hl'
 have HB := HB3
 clear HB3
 refine hK.out _ _ HB.out (fun hHeld => ?_)
 clear hK K hHeld
 refine norm_ (a' := ?_) ?_ ?_
 rotate_left
 ·show Act.put _ (some 11) _ = _
  refine pZ ?_
  rfl
 have l0 : (0 : Int) < (px.length : Int) := by have := HL.out; omega
 have l1 : 0 < px.length := by omega
 obtain ⟨ad, ea, _⟩ := Kd.at_int (HALL.out w3 (Kd.C_below HR0.out HB.out)) 0 (by omega) l0
 cases ea
 refine pure_ (i := 5) (N := some 12) (v := ?_) (a' := ?_) (bA 10 63) rfl rfl (by kernel_rfl) (fun _ _ _ h => h) (Or.inl ⟨by rfl, ?_⟩) ?_ ?_
 rotate_left
 ·intro w'
  go_simp
  with_reducible rfl
 rotate_left
 ·refine pZ ?_
  rfl
 refine take_ (i := 6) (N := some 13) (v := ?_) (a' := ?_) (bA 10 127) rfl rfl (by kernel_rfl) (fun _ _ _ h => h) (Or.inl ⟨by rfl, ?_⟩) HB.out ?_ ?_
 rotate_left
 ·intro w' s0
  obtain ⟨ad', ea', z⟩ := Kd.at_int (HALL.out w' (Kd.C_below HR0.out s0)) 0 (by omega) l0
  cases ea'
  rw [show (0 : Int).toNat = 0 from rfl, Addr.add_zero', HN0.out] at z
  go_simp
  with_reducible rfl
 rotate_left
 ·refine pZ ?_
  rfl
 refine pure_ (i := 7) (N := some 14) (v := ?_) (a' := ?_) (bA 10 255) rfl rfl (by kernel_rfl) (fun _ _ _ h => h) (Or.inl ⟨by rfl, ?_⟩) ?_ ?_
 rotate_left
 ·intro w'
  go_simp
  with_reducible rfl
 rotate_left
 ·refine pZ ?_
  rfl
 refine take_ (i := 8) (N := some 15) (v := ?_) (a' := ?_) (bA 10 511) rfl rfl (by kernel_rfl) (fun _ _ _ h => h) (Or.inl ⟨by rfl, ?_⟩) HB.out ?_ ?_
 rotate_left
 ·intro w' s0
  have z := HCL2.out w' s0
  go_simp
  with_reducible rfl
 rotate_left
 ·refine pZ ?_
  rfl
 refine pure_ (i := 9) (N := some 6) (v := ?_) (a' := ?_) (bA 10 1023) rfl rfl (by kernel_rfl) (fun _ _ _ h => h) (Or.inl ⟨by rfl, ?_⟩) ?_ ?_
 rotate_left
 ·intro w'
  go_simp
  with_reducible rfl
 rotate_left
 ·refine pZ ?_
  rfl
 refine done_ (by kernel_rfl) ?_
 try go_wp2
 go_ret
 exact ⟨_, _, rfl, HI1.out _ HB.out, HL1.out, HB.out⟩
end Go.Proofs.Ytohbpilokmppbaa.P
