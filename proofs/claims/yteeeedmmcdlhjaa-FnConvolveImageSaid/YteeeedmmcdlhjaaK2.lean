/- Contracts and row, written by a program of this place out of the translation: the call answers true and its argument reads as before, for every input; no condition. -/
import Derived.Test.YteeeedmmcdlhjaaK0
import Derived.Test.YteeeedmmcdlhjaaK1
namespace Go.Proofs.Yteeeedmmcdlhjaa.P
open Go.RowKit Go.Proofs.YteeeedmmcdlhjaaW.PrintWords Go.Proofs.YteeeedmmcdlhjaaW.PrintLast Go.Proofs.YteeeedmmcdlhjaaW.PrintMore
attribute [local go_sem] max2_int min2_int max_two min_two max_three min_three max_four min_four   -- for this text's walks alone
set_option linter.unusedVariables false
set_option linter.unusedSimpArgs false
theorem isKernelTest (w : World) : PredI 101 #[] (fun n => decide (n < -99) || decide (99 < n)) w := fun W x _ => by
 by_cases h1 : x < -99
 ·have e : ((fun n : Int => decide (n < -99) || decide (99 < n)) x) = true := by show (decide (x < -99) || decide (99 < x)) = _; rw [decide_eq_true h1]; rfl
  rw [e]
  go_enter Try.func101, Try.ntmps101
  go_wp2
  go_ret
  exact ⟨rfl, Drawn0.refl _⟩
 ·have e : ((fun n : Int => decide (n < -99) || decide (99 < n)) x) = decide (99 < x) := by show (decide (x < -99) || decide (99 < x)) = _; rw [decide_eq_false h1]; rfl
  rw [e]
  go_enter Try.func101, Try.ntmps101
  go_wp2
  go_ret
  exact ⟨rfl, Drawn0.refl _⟩
def kerOk (a : Int) (l : List Int) (d : Int) : Bool := decide (0 ≤ a ∧ a ≤ 2) && decide ((l.length : Int) = (2 * a + 1) * (2 * a + 1)) && decide (1 ≤ d ∧ d ≤ 999) && !(l.any fun n => decide (n < -99) || decide (99 < n))
theorem kerOk_false {a : Int} {l : List Int} {d : Int} (h : ¬ ((0 ≤ a ∧ a ≤ 2) ∧ (l.length : Int) = (2 * a + 1) * (2 * a + 1) ∧ (1 ≤ d ∧ d ≤ 999))) : kerOk a l d = false := by
 unfold kerOk
 by_cases h1 : 0 ≤ a ∧ a ≤ 2
 rotate_left
 ·rw [decide_eq_false h1, Bool.false_and, Bool.false_and, Bool.false_and]
 by_cases h2 : (l.length : Int) = (2 * a + 1) * (2 * a + 1)
 rotate_left
 ·rw [decide_eq_false h2, Bool.and_false, Bool.false_and, Bool.false_and]
 rw [decide_eq_false (fun h3 => h ⟨h1, h2, h3⟩), Bool.and_false, Bool.false_and]
theorem kerOk_any {a : Int} {l : List Int} {d : Int} (h1 : 0 ≤ a ∧ a ≤ 2) (h2 : (l.length : Int) = (2 * a + 1) * (2 * a + 1)) (h3 : 1 ≤ d ∧ d ≤ 999) : kerOk a l d = !(l.any fun n => decide (n < -99) || decide (99 < n)) := by
 unfold kerOk
 rw [decide_eq_true h1, decide_eq_true h2, decide_eq_true h3, Bool.true_and, Bool.true_and, Bool.true_and]
def impl_isKernel.f (a0_0 : Int) (l0_1 : List Int) (a0_2 : Int) : Option Bool := some (kerOk a0_0 l0_1 a0_2)
set_option maxHeartbeats 8000000 in
set_option maxRecDepth 100000 in
theorem impl_isKernel.calls (a0_0 : Int) (A0_1 : Option Addr) (c0_1 : Nat) (l0_1 : List Int) (a0_2 : Int) (r : Bool) (w : World) (hr0_1 : Kd.C (Kd.int .i64) w A0_1 l0_1.length l0_1) (hc0_1 : l0_1.length ≤ c0_1) (h : impl_isKernel.f a0_0 l0_1 a0_2 = some r) :
  Calls Try.prog 80 #[.agg #[.int .i64 a0_0, .slice A0_1 l0_1.length c0_1, .int .i64 a0_2]] w fun e w' => e = .returned (.bool r) ∧ Below w.heap.size w w' := by
 obtain rfl := Option.some.inj h
 clear h
 have HR := aM hr0_1
 have HC := aM hc0_1
 clear hr0_1 hc0_1
 have HB := aM (Below.refl w.heap.size w)
 by_cases h1 : 0 ≤ a0_0
 case neg =>
  rw [kerOk_false (by omega)]
  go_enter Try.func80, Try.ntmps80
  go_wp2_with (first | ((with_reducible refine gate_dst (N := 1) rfl ?_); (try (refine gate_guard (by rfl) ?_; dsimp only)); refine bxE (N := 1) (cs := #[.int .i64 a0_0, .slice A0_1 l0_1.length c0_1, .int .i64 a0_2]) (t := 49) ?_; intro gk hg w1 hbox hb; have n2 := bS HB hb; have n3 := aM hbox; have n4 := aM ((by rw [hg]; exact (below_size (qW HB.out))) : w.heap.size ≤ gk); clear HB; have HB := n2; have BKgk := n3; have GEgk := n4; clear n2 n3 n4; clear hb hbox hg; have hz5 : w1.cell? ⟨gk, 0, none⟩ = some (.int .i64 a0_0) := (blk_cell BKgk.out 0).trans rfl; have hz6 : w1.cell? ⟨gk, 1, none⟩ = some (.slice A0_1 l0_1.length c0_1) := (blk_cell BKgk.out 1).trans rfl; have hz7 : w1.cell? ⟨gk, 2, none⟩ = some (.int .i64 a0_2) := (blk_cell BKgk.out 2).trans rfl; have hf8 := blk_frozen BKgk.out 0; have hf9 := blk_frozen BKgk.out 1; have hf10 := blk_frozen BKgk.out 2))
  go_ret
  exact ⟨rfl, by exact qW HB.out⟩
 by_cases h2 : a0_0 ≤ 2
 case neg =>
  rw [kerOk_false (by omega)]
  go_enter Try.func80, Try.ntmps80
  go_wp2_with (first | ((with_reducible refine gate_dst (N := 1) rfl ?_); (try (refine gate_guard (by rfl) ?_; dsimp only)); refine bxE (N := 1) (cs := #[.int .i64 a0_0, .slice A0_1 l0_1.length c0_1, .int .i64 a0_2]) (t := 49) ?_; intro gk hg w11 hbox hb; have n12 := bS HB hb; have n13 := aM hbox; have n14 := aM ((by rw [hg]; exact (below_size (qW HB.out))) : w.heap.size ≤ gk); clear HB; have HB := n12; have BKgk := n13; have GEgk := n14; clear n12 n13 n14; clear hb hbox hg; have hz15 : w11.cell? ⟨gk, 0, none⟩ = some (.int .i64 a0_0) := (blk_cell BKgk.out 0).trans rfl; have hz16 : w11.cell? ⟨gk, 1, none⟩ = some (.slice A0_1 l0_1.length c0_1) := (blk_cell BKgk.out 1).trans rfl; have hz17 : w11.cell? ⟨gk, 2, none⟩ = some (.int .i64 a0_2) := (blk_cell BKgk.out 2).trans rfl; have hf18 := blk_frozen BKgk.out 0; have hf19 := blk_frozen BKgk.out 1; have hf20 := blk_frozen BKgk.out 2))
  go_ret
  exact ⟨rfl, by exact qW HB.out⟩
 rcases (show a0_0 = 0 ∨ a0_0 = 1 ∨ a0_0 = 2 by omega) with rfl | rfl | rfl
 ·by_cases h3 : l0_1.length = 1
  case neg =>
   have h4 : ((l0_1.length : Int) == 1) = false := beq_eq_false_iff_ne.mpr (by omega)
   have h5 : ((l0_1.length : Int) != 1) = true := bne_iff_ne.mpr (by omega)
   rw [kerOk_false (fun h => h3 (by have := h.2.1; omega))]
   go_enter Try.func80, Try.ntmps80
   go_wp2_with (first | ((with_reducible refine gate_dst (N := 1) rfl ?_); (try (refine gate_guard (by rfl) ?_; dsimp only)); refine bxE (N := 1) (cs := #[.int .i64 a0_0, .slice A0_1 l0_1.length c0_1, .int .i64 a0_2]) (t := 49) ?_; intro gk hg w21 hbox hb; have n22 := bS HB hb; have n23 := aM hbox; have n24 := aM ((by rw [hg]; exact (below_size (qW HB.out))) : w.heap.size ≤ gk); clear HB; have HB := n22; have BKgk := n23; have GEgk := n24; clear n22 n23 n24; clear hb hbox hg; have hz25 : w21.cell? ⟨gk, 0, none⟩ = some (.int .i64 a0_0) := (blk_cell BKgk.out 0).trans rfl; have hz26 : w21.cell? ⟨gk, 1, none⟩ = some (.slice A0_1 l0_1.length c0_1) := (blk_cell BKgk.out 1).trans rfl; have hz27 : w21.cell? ⟨gk, 2, none⟩ = some (.int .i64 a0_2) := (blk_cell BKgk.out 2).trans rfl; have hf28 := blk_frozen BKgk.out 0; have hf29 := blk_frozen BKgk.out 1; have hf30 := blk_frozen BKgk.out 2))
   go_ret
   exact ⟨rfl, by exact qW HB.out⟩
  have h4 : ((l0_1.length : Int) == 1) = true := beq_iff_eq.mpr (by omega)
  have h5 : ((l0_1.length : Int) != 1) = false := bne_eq_false_iff_eq.mpr (by omega)
  have H3 := aM h3
  clear h3
  by_cases h6 : 1 ≤ a0_2
  case neg =>
   rw [kerOk_false (by omega)]
   go_enter Try.func80, Try.ntmps80
   go_wp2_with (first | ((with_reducible refine gate_dst (N := 1) rfl ?_); (try (refine gate_guard (by rfl) ?_; dsimp only)); refine bxE (N := 1) (cs := #[.int .i64 a0_0, .slice A0_1 l0_1.length c0_1, .int .i64 a0_2]) (t := 49) ?_; intro gk hg w31 hbox hb; have n32 := bS HB hb; have n33 := aM hbox; have n34 := aM ((by rw [hg]; exact (below_size (qW HB.out))) : w.heap.size ≤ gk); clear HB; have HB := n32; have BKgk := n33; have GEgk := n34; clear n32 n33 n34; clear hb hbox hg; have hz35 : w31.cell? ⟨gk, 0, none⟩ = some (.int .i64 a0_0) := (blk_cell BKgk.out 0).trans rfl; have hz36 : w31.cell? ⟨gk, 1, none⟩ = some (.slice A0_1 l0_1.length c0_1) := (blk_cell BKgk.out 1).trans rfl; have hz37 : w31.cell? ⟨gk, 2, none⟩ = some (.int .i64 a0_2) := (blk_cell BKgk.out 2).trans rfl; have hf38 := blk_frozen BKgk.out 0; have hf39 := blk_frozen BKgk.out 1; have hf40 := blk_frozen BKgk.out 2))
   go_ret
   exact ⟨rfl, by exact qW HB.out⟩
  by_cases h7 : a0_2 ≤ 999
  case neg =>
   rw [kerOk_false (by omega)]
   go_enter Try.func80, Try.ntmps80
   go_wp2_with (first | ((with_reducible refine gate_dst (N := 1) rfl ?_); (try (refine gate_guard (by rfl) ?_; dsimp only)); refine bxE (N := 1) (cs := #[.int .i64 a0_0, .slice A0_1 l0_1.length c0_1, .int .i64 a0_2]) (t := 49) ?_; intro gk hg w41 hbox hb; have n42 := bS HB hb; have n43 := aM hbox; have n44 := aM ((by rw [hg]; exact (below_size (qW HB.out))) : w.heap.size ≤ gk); clear HB; have HB := n42; have BKgk := n43; have GEgk := n44; clear n42 n43 n44; clear hb hbox hg; have hz45 : w41.cell? ⟨gk, 0, none⟩ = some (.int .i64 a0_0) := (blk_cell BKgk.out 0).trans rfl; have hz46 : w41.cell? ⟨gk, 1, none⟩ = some (.slice A0_1 l0_1.length c0_1) := (blk_cell BKgk.out 1).trans rfl; have hz47 : w41.cell? ⟨gk, 2, none⟩ = some (.int .i64 a0_2) := (blk_cell BKgk.out 2).trans rfl; have hf48 := blk_frozen BKgk.out 0; have hf49 := blk_frozen BKgk.out 1; have hf50 := blk_frozen BKgk.out 2))
   go_ret
   exact ⟨rfl, by exact qW HB.out⟩
  rw [kerOk_any (by omega) (by have := H3.out; omega) ⟨h6, h7⟩]
  go_enter Try.func80, Try.ntmps80
  go_wp2_with (first | ((with_reducible refine gate_dst (N := 1) rfl ?_); (try (refine gate_guard (by rfl) ?_; dsimp only)); refine bxE (N := 1) (cs := #[.int .i64 a0_0, .slice A0_1 l0_1.length c0_1, .int .i64 a0_2]) (t := 49) ?_; intro gk hg w51 hbox hb; have n52 := bS HB hb; have n53 := aM hbox; have n54 := aM ((by rw [hg]; exact (below_size (qW HB.out))) : w.heap.size ≤ gk); clear HB; have HB := n52; have BKgk := n53; have GEgk := n54; clear n52 n53 n54; clear hb hbox hg; have hz55 : w51.cell? ⟨gk, 0, none⟩ = some (.int .i64 a0_0) := (blk_cell BKgk.out 0).trans rfl; have hz56 : w51.cell? ⟨gk, 1, none⟩ = some (.slice A0_1 l0_1.length c0_1) := (blk_cell BKgk.out 1).trans rfl; have hz57 : w51.cell? ⟨gk, 2, none⟩ = some (.int .i64 a0_2) := (blk_cell BKgk.out 2).trans rfl; have hf58 := blk_frozen BKgk.out 0; have hf59 := blk_frozen BKgk.out 1; have hf60 := blk_frozen BKgk.out 2) | (go_at_call 99; refine (containsFuncInt.calls 101 #[] (enters_of Try.func101 (by kernel_rfl) rfl) (fun n => decide (n < -99) || decide (99 < n)) A0_1 c0_1 l0_1 _ (isKernelTest _) (Kd.C_below HR.out (qW HB.out)) HC.out).mono ?_; rintro e w' ⟨rfl, ⟨q, rfl⟩⟩))
  generalize (l0_1.any fun n => decide (n < -99) || decide (99 < n)) = z
  go_ret
  exact ⟨rfl, by exact qW HB.out⟩
 ·by_cases h3 : l0_1.length = 9
  case neg =>
   have h4 : ((l0_1.length : Int) == 9) = false := beq_eq_false_iff_ne.mpr (by omega)
   have h5 : ((l0_1.length : Int) != 9) = true := bne_iff_ne.mpr (by omega)
   rw [kerOk_false (fun h => h3 (by have := h.2.1; omega))]
   go_enter Try.func80, Try.ntmps80
   go_wp2_with (first | ((with_reducible refine gate_dst (N := 1) rfl ?_); (try (refine gate_guard (by rfl) ?_; dsimp only)); refine bxE (N := 1) (cs := #[.int .i64 a0_0, .slice A0_1 l0_1.length c0_1, .int .i64 a0_2]) (t := 49) ?_; intro gk hg w61 hbox hb; have n62 := bS HB hb; have n63 := aM hbox; have n64 := aM ((by rw [hg]; exact (below_size (qW HB.out))) : w.heap.size ≤ gk); clear HB; have HB := n62; have BKgk := n63; have GEgk := n64; clear n62 n63 n64; clear hb hbox hg; have hz65 : w61.cell? ⟨gk, 0, none⟩ = some (.int .i64 a0_0) := (blk_cell BKgk.out 0).trans rfl; have hz66 : w61.cell? ⟨gk, 1, none⟩ = some (.slice A0_1 l0_1.length c0_1) := (blk_cell BKgk.out 1).trans rfl; have hz67 : w61.cell? ⟨gk, 2, none⟩ = some (.int .i64 a0_2) := (blk_cell BKgk.out 2).trans rfl; have hf68 := blk_frozen BKgk.out 0; have hf69 := blk_frozen BKgk.out 1; have hf70 := blk_frozen BKgk.out 2))
   go_ret
   exact ⟨rfl, by exact qW HB.out⟩
  have h4 : ((l0_1.length : Int) == 9) = true := beq_iff_eq.mpr (by omega)
  have h5 : ((l0_1.length : Int) != 9) = false := bne_eq_false_iff_eq.mpr (by omega)
  have H3 := aM h3
  clear h3
  by_cases h6 : 1 ≤ a0_2
  case neg =>
   rw [kerOk_false (by omega)]
   go_enter Try.func80, Try.ntmps80
   go_wp2_with (first | ((with_reducible refine gate_dst (N := 1) rfl ?_); (try (refine gate_guard (by rfl) ?_; dsimp only)); refine bxE (N := 1) (cs := #[.int .i64 a0_0, .slice A0_1 l0_1.length c0_1, .int .i64 a0_2]) (t := 49) ?_; intro gk hg w71 hbox hb; have n72 := bS HB hb; have n73 := aM hbox; have n74 := aM ((by rw [hg]; exact (below_size (qW HB.out))) : w.heap.size ≤ gk); clear HB; have HB := n72; have BKgk := n73; have GEgk := n74; clear n72 n73 n74; clear hb hbox hg; have hz75 : w71.cell? ⟨gk, 0, none⟩ = some (.int .i64 a0_0) := (blk_cell BKgk.out 0).trans rfl; have hz76 : w71.cell? ⟨gk, 1, none⟩ = some (.slice A0_1 l0_1.length c0_1) := (blk_cell BKgk.out 1).trans rfl; have hz77 : w71.cell? ⟨gk, 2, none⟩ = some (.int .i64 a0_2) := (blk_cell BKgk.out 2).trans rfl; have hf78 := blk_frozen BKgk.out 0; have hf79 := blk_frozen BKgk.out 1; have hf80 := blk_frozen BKgk.out 2))
   go_ret
   exact ⟨rfl, by exact qW HB.out⟩
  by_cases h7 : a0_2 ≤ 999
  case neg =>
   rw [kerOk_false (by omega)]
   go_enter Try.func80, Try.ntmps80
   go_wp2_with (first | ((with_reducible refine gate_dst (N := 1) rfl ?_); (try (refine gate_guard (by rfl) ?_; dsimp only)); refine bxE (N := 1) (cs := #[.int .i64 a0_0, .slice A0_1 l0_1.length c0_1, .int .i64 a0_2]) (t := 49) ?_; intro gk hg w81 hbox hb; have n82 := bS HB hb; have n83 := aM hbox; have n84 := aM ((by rw [hg]; exact (below_size (qW HB.out))) : w.heap.size ≤ gk); clear HB; have HB := n82; have BKgk := n83; have GEgk := n84; clear n82 n83 n84; clear hb hbox hg; have hz85 : w81.cell? ⟨gk, 0, none⟩ = some (.int .i64 a0_0) := (blk_cell BKgk.out 0).trans rfl; have hz86 : w81.cell? ⟨gk, 1, none⟩ = some (.slice A0_1 l0_1.length c0_1) := (blk_cell BKgk.out 1).trans rfl; have hz87 : w81.cell? ⟨gk, 2, none⟩ = some (.int .i64 a0_2) := (blk_cell BKgk.out 2).trans rfl; have hf88 := blk_frozen BKgk.out 0; have hf89 := blk_frozen BKgk.out 1; have hf90 := blk_frozen BKgk.out 2))
   go_ret
   exact ⟨rfl, by exact qW HB.out⟩
  rw [kerOk_any (by omega) (by have := H3.out; omega) ⟨h6, h7⟩]
  go_enter Try.func80, Try.ntmps80
  go_wp2_with (first | ((with_reducible refine gate_dst (N := 1) rfl ?_); (try (refine gate_guard (by rfl) ?_; dsimp only)); refine bxE (N := 1) (cs := #[.int .i64 a0_0, .slice A0_1 l0_1.length c0_1, .int .i64 a0_2]) (t := 49) ?_; intro gk hg w91 hbox hb; have n92 := bS HB hb; have n93 := aM hbox; have n94 := aM ((by rw [hg]; exact (below_size (qW HB.out))) : w.heap.size ≤ gk); clear HB; have HB := n92; have BKgk := n93; have GEgk := n94; clear n92 n93 n94; clear hb hbox hg; have hz95 : w91.cell? ⟨gk, 0, none⟩ = some (.int .i64 a0_0) := (blk_cell BKgk.out 0).trans rfl; have hz96 : w91.cell? ⟨gk, 1, none⟩ = some (.slice A0_1 l0_1.length c0_1) := (blk_cell BKgk.out 1).trans rfl; have hz97 : w91.cell? ⟨gk, 2, none⟩ = some (.int .i64 a0_2) := (blk_cell BKgk.out 2).trans rfl; have hf98 := blk_frozen BKgk.out 0; have hf99 := blk_frozen BKgk.out 1; have hf100 := blk_frozen BKgk.out 2) | (go_at_call 99; refine (containsFuncInt.calls 101 #[] (enters_of Try.func101 (by kernel_rfl) rfl) (fun n => decide (n < -99) || decide (99 < n)) A0_1 c0_1 l0_1 _ (isKernelTest _) (Kd.C_below HR.out (qW HB.out)) HC.out).mono ?_; rintro e w' ⟨rfl, ⟨q, rfl⟩⟩))
  generalize (l0_1.any fun n => decide (n < -99) || decide (99 < n)) = z
  go_ret
  exact ⟨rfl, by exact qW HB.out⟩
 by_cases h3 : l0_1.length = 25
 case neg =>
  have h4 : ((l0_1.length : Int) == 25) = false := beq_eq_false_iff_ne.mpr (by omega)
  have h5 : ((l0_1.length : Int) != 25) = true := bne_iff_ne.mpr (by omega)
  rw [kerOk_false (fun h => h3 (by have := h.2.1; omega))]
  go_enter Try.func80, Try.ntmps80
  go_wp2_with (first | ((with_reducible refine gate_dst (N := 1) rfl ?_); (try (refine gate_guard (by rfl) ?_; dsimp only)); refine bxE (N := 1) (cs := #[.int .i64 a0_0, .slice A0_1 l0_1.length c0_1, .int .i64 a0_2]) (t := 49) ?_; intro gk hg w101 hbox hb; have n102 := bS HB hb; have n103 := aM hbox; have n104 := aM ((by rw [hg]; exact (below_size (qW HB.out))) : w.heap.size ≤ gk); clear HB; have HB := n102; have BKgk := n103; have GEgk := n104; clear n102 n103 n104; clear hb hbox hg; have hz105 : w101.cell? ⟨gk, 0, none⟩ = some (.int .i64 a0_0) := (blk_cell BKgk.out 0).trans rfl; have hz106 : w101.cell? ⟨gk, 1, none⟩ = some (.slice A0_1 l0_1.length c0_1) := (blk_cell BKgk.out 1).trans rfl; have hz107 : w101.cell? ⟨gk, 2, none⟩ = some (.int .i64 a0_2) := (blk_cell BKgk.out 2).trans rfl; have hf108 := blk_frozen BKgk.out 0; have hf109 := blk_frozen BKgk.out 1; have hf110 := blk_frozen BKgk.out 2))
  go_ret
  exact ⟨rfl, by exact qW HB.out⟩
 have h4 : ((l0_1.length : Int) == 25) = true := beq_iff_eq.mpr (by omega)
 have h5 : ((l0_1.length : Int) != 25) = false := bne_eq_false_iff_eq.mpr (by omega)
 have H3 := aM h3
 clear h3
 by_cases h6 : 1 ≤ a0_2
 case neg =>
  rw [kerOk_false (by omega)]
  go_enter Try.func80, Try.ntmps80
  go_wp2_with (first | ((with_reducible refine gate_dst (N := 1) rfl ?_); (try (refine gate_guard (by rfl) ?_; dsimp only)); refine bxE (N := 1) (cs := #[.int .i64 a0_0, .slice A0_1 l0_1.length c0_1, .int .i64 a0_2]) (t := 49) ?_; intro gk hg w111 hbox hb; have n112 := bS HB hb; have n113 := aM hbox; have n114 := aM ((by rw [hg]; exact (below_size (qW HB.out))) : w.heap.size ≤ gk); clear HB; have HB := n112; have BKgk := n113; have GEgk := n114; clear n112 n113 n114; clear hb hbox hg; have hz115 : w111.cell? ⟨gk, 0, none⟩ = some (.int .i64 a0_0) := (blk_cell BKgk.out 0).trans rfl; have hz116 : w111.cell? ⟨gk, 1, none⟩ = some (.slice A0_1 l0_1.length c0_1) := (blk_cell BKgk.out 1).trans rfl; have hz117 : w111.cell? ⟨gk, 2, none⟩ = some (.int .i64 a0_2) := (blk_cell BKgk.out 2).trans rfl; have hf118 := blk_frozen BKgk.out 0; have hf119 := blk_frozen BKgk.out 1; have hf120 := blk_frozen BKgk.out 2))
  go_ret
  exact ⟨rfl, by exact qW HB.out⟩
 by_cases h7 : a0_2 ≤ 999
 case neg =>
  rw [kerOk_false (by omega)]
  go_enter Try.func80, Try.ntmps80
  go_wp2_with (first | ((with_reducible refine gate_dst (N := 1) rfl ?_); (try (refine gate_guard (by rfl) ?_; dsimp only)); refine bxE (N := 1) (cs := #[.int .i64 a0_0, .slice A0_1 l0_1.length c0_1, .int .i64 a0_2]) (t := 49) ?_; intro gk hg w121 hbox hb; have n122 := bS HB hb; have n123 := aM hbox; have n124 := aM ((by rw [hg]; exact (below_size (qW HB.out))) : w.heap.size ≤ gk); clear HB; have HB := n122; have BKgk := n123; have GEgk := n124; clear n122 n123 n124; clear hb hbox hg; have hz125 : w121.cell? ⟨gk, 0, none⟩ = some (.int .i64 a0_0) := (blk_cell BKgk.out 0).trans rfl; have hz126 : w121.cell? ⟨gk, 1, none⟩ = some (.slice A0_1 l0_1.length c0_1) := (blk_cell BKgk.out 1).trans rfl; have hz127 : w121.cell? ⟨gk, 2, none⟩ = some (.int .i64 a0_2) := (blk_cell BKgk.out 2).trans rfl; have hf128 := blk_frozen BKgk.out 0; have hf129 := blk_frozen BKgk.out 1; have hf130 := blk_frozen BKgk.out 2))
  go_ret
  exact ⟨rfl, by exact qW HB.out⟩
 rw [kerOk_any (by omega) (by have := H3.out; omega) ⟨h6, h7⟩]
 go_enter Try.func80, Try.ntmps80
 go_wp2_with (first | ((with_reducible refine gate_dst (N := 1) rfl ?_); (try (refine gate_guard (by rfl) ?_; dsimp only)); refine bxE (N := 1) (cs := #[.int .i64 a0_0, .slice A0_1 l0_1.length c0_1, .int .i64 a0_2]) (t := 49) ?_; intro gk hg w131 hbox hb; have n132 := bS HB hb; have n133 := aM hbox; have n134 := aM ((by rw [hg]; exact (below_size (qW HB.out))) : w.heap.size ≤ gk); clear HB; have HB := n132; have BKgk := n133; have GEgk := n134; clear n132 n133 n134; clear hb hbox hg; have hz135 : w131.cell? ⟨gk, 0, none⟩ = some (.int .i64 a0_0) := (blk_cell BKgk.out 0).trans rfl; have hz136 : w131.cell? ⟨gk, 1, none⟩ = some (.slice A0_1 l0_1.length c0_1) := (blk_cell BKgk.out 1).trans rfl; have hz137 : w131.cell? ⟨gk, 2, none⟩ = some (.int .i64 a0_2) := (blk_cell BKgk.out 2).trans rfl; have hf138 := blk_frozen BKgk.out 0; have hf139 := blk_frozen BKgk.out 1; have hf140 := blk_frozen BKgk.out 2) | (go_at_call 99; refine (containsFuncInt.calls 101 #[] (enters_of Try.func101 (by kernel_rfl) rfl) (fun n => decide (n < -99) || decide (99 < n)) A0_1 c0_1 l0_1 _ (isKernelTest _) (Kd.C_below HR.out (qW HB.out)) HC.out).mono ?_; rintro e w' ⟨rfl, ⟨q, rfl⟩⟩))
 generalize (l0_1.any fun n => decide (n < -99) || decide (99 < n)) = z
 go_ret
 exact ⟨rfl, by exact qW HB.out⟩
def impl_rounded.f (a0 : Int) (a1 : Int) : Option (Int) := (impl_floorDiv.f (wrap64 ((wrap64 (2 * a0)) + a1)) (wrap64 (2 * a1))).bind fun t645 => (some t645)
set_option maxHeartbeats 8000000 in
set_option maxRecDepth 100000 in
theorem impl_rounded.calls (a0 : Int) (a1 : Int) (r : Int) (w : World) (h : impl_rounded.f a0 a1 = some r) :
  Calls Try.prog 82 #[.int .i64 a0, .int .i64 a1] w fun e w' => e = .returned (.int .i64 r) ∧ Drawn0 w w' := by
 unfold impl_rounded.f at h
 have H := h
 clear h
 replace H := Option.bind_eq_some_iff.mp H
 obtain ⟨t645, A30, H⟩ := H
 replace H : (some t645) = some r := H
 have A3 := aM A30
 clear A30
 obtain rfl := Option.some.inj H
 go_enter Try.func82, Try.ntmps82
 go_wp2_with (first | ((with_reducible refine gate_callee (f := 74) rfl ?_); refine gL (some 11) Try.func74 #[.int .i64 (wrap64 ((wrap64 (2 * a0)) + a1)), .int .i64 (wrap64 (2 * a1))] ?_; (with_reducible refine (impl_floorDiv.calls (wrap64 ((wrap64 (2 * a0)) + a1)) (wrap64 (2 * a1)) t645 _ A3.out).mono ?_); rintro e w' ⟨rfl, ⟨nd, rfl⟩⟩; refine ⟨_, rfl, ?_⟩))
 go_ret
 exact ⟨qE, qD⟩
theorem rndd2_some (a b : Int) (hb : 1 ≤ b) (hb' : b ≤ 1000000) : ∃ r, impl_rounded.f a b = some r := by
 unfold impl_rounded.f impl_floorDiv.f
 have : ¬ wrap64 (2 * b) = 0 := by rw [wrap_small (by omega) (by omega)]; omega
 rw [if_neg this]
 split <;> exact ⟨_, rfl⟩
def rndc (s d : Int) : Int := (impl_rounded.f s d).getD 0
theorem rndc_some (a b : Int) (hb : 1 ≤ b) (hb' : b ≤ 1000000) : impl_rounded.f a b = some (rndc a b) := by
 obtain ⟨r, hr⟩ := rndd2_some a b hb hb'
 rw [rndc, hr]
 rfl
def near1 (z n : Int) : Int := mn (mx z 0) (n - 1)
theorem near1_on {z n : Int} (h : 1 ≤ n) : 0 ≤ near1 z n ∧ near1 z n < n := by
 unfold near1 mn mx
 split <;> split <;> omega
def addW (s px : List Int) (a : Int) : Nat → List Int
 | 0 => s
 | k + 1 => (addW s px a k).set k (wrap64 (rd (addW s px a k) (k : Int) + wrap64 (a * rd px (k : Int))))
def convAll (l : List Int) (a0 a1 a2 kr : Int) (ks : List Int) (sd x y : Int) : Nat → List Int
 | 0 => List.replicate a2.toNat 0
 | i + 1 => addW (convAll l a0 a1 a2 kr ks sd x y i) (pixOf l a0 a2 (near1 (x + (i : Int) % sd - kr) a0) (near1 (y + (i : Int) / sd - kr) a1)) (rd ks (i : Int)) a2.toNat
def clampK (s : List Int) (d : Int) : Nat → List Int
 | 0 => s
 | k + 1 => (clampK s d k).set k (mn (mx (rndc (rd (clampK s d k) (k : Int)) d) 0) 255)
def convPix (l : List Int) (a0 a1 a2 kr : Int) (ks : List Int) (kd sd : Int) (x y : Int) : List Int := clampK (convAll l a0 a1 a2 kr ks sd x y ks.length) kd a2.toNat
theorem addW_len (s px : List Int) (a : Int) : ∀ k, (addW s px a k).length = s.length
 | 0 => rfl
 | k + 1 => by rw [addW, List.length_set, addW_len s px a k]
theorem convAll_len (l : List Int) (a0 a1 a2 kr : Int) (ks : List Int) (sd x y : Int) : ∀ j, (convAll l a0 a1 a2 kr ks sd x y j).length = a2.toNat
 | 0 => List.length_replicate ..
 | j + 1 => by rw [convAll, addW_len, convAll_len l a0 a1 a2 kr ks sd x y j]
theorem clampK_len (s : List Int) (d : Int) : ∀ k, (clampK s d k).length = s.length
 | 0 => rfl
 | k + 1 => by rw [clampK, List.length_set, clampK_len s d k]
theorem convPix_len (l : List Int) (a0 a1 a2 kr : Int) (ks : List Int) (kd sd x y : Int) (h2 : 0 ≤ a2) (h2' : a2 ≤ 4) : (convPix l a0 a1 a2 kr ks kd sd x y).length ≤ 100 := by
 rw [convPix, clampK_len, convAll_len]
 omega
set_option maxHeartbeats 8000000 in
set_option maxRecDepth 100000 in
theorem convolveImagePix (w : World) (B1 B2 B3 : Nat) (a0 a1 a2 : Int) (A : Option Addr) (c : Nat) (l : List Int) (kr : Int) (AK : Option Addr) (cK : Nat) (ks : List Int) (kd sd : Int)
  (hB1 : w.heap[B1]? = some (.cells #[.int .i64 a0, .int .i64 a1, .int .i64 a2, .slice A l.length c] 27 (0, 0))) (hB2 : w.heap[B2]? = some (.cells #[.int .i64 kr, .slice AK ks.length cK, .int .i64 kd] 49 (0, 0))) (hB3 : w.heap[B3]? = some (.cells #[.int .i64 sd] 3 (0, 0)))
  (hr : Kd.C (Kd.int .i64) w A l.length l) (hc : l.length ≤ c) (hrK : Kd.C (Kd.int .i64) w AK ks.length ks) (V : ImgOk a0 a1 a2 l) (r0 : 0 ≤ kr) (r0' : kr ≤ 2) (d0 : 1 ≤ kd) (d0' : kd ≤ 999) (s0 : 1 ≤ sd) (s0' : sd ≤ 5) (hkl : ks.length ≤ 25) :
  PixAt 81 #[.pointer (some ⟨B1, 0, none⟩), .pointer (some ⟨B2, 0, none⟩), .pointer (some ⟨B3, 0, none⟩)] (convPix l a0 a1 a2 kr ks kd sd) a0 a1 w := fun W x y hb hx hx' hy hy' => by
 obtain ⟨⟨v0, v0'⟩, ⟨v1, v1'⟩, ⟨v2, v2'⟩, hlen, _⟩ := V
 obtain ⟨a, rfl⟩ := Int.eq_ofNat_of_zero_le (show 0 ≤ a0 by omega)
 obtain ⟨b, rfl⟩ := Int.eq_ofNat_of_zero_le (show 0 ≤ a1 by omega)
 obtain ⟨p, rfl⟩ := Int.eq_ofNat_of_zero_le (show 0 ≤ a2 by omega)
 have HL := aM hlen
 have HR0 := aM (Kd.C_below hr hb)
 have HRK := aM (Kd.C_below hrK hb)
 have HC0 := aM hc
 have KB1 := aM (blk_below hB1 hb)
 have KB2 := aM (blk_below hB2 hb)
 have KB3 := aM (blk_below hB3 hb)
 clear hlen hr hc hrK hB1 hB2 hB3 hb
 have HB := aM (Below.refl W.heap.size W)
 have hz1_0_W : W.cell? ⟨B1, 0, none⟩ = some (.int .i64 a) := (blk_cell (blk_below KB1.out HB.out) 0).trans rfl; have hz1_1_W : W.cell? ⟨B1, 1, none⟩ = some (.int .i64 b) := (blk_cell (blk_below KB1.out HB.out) 1).trans rfl; have hz1_2_W : W.cell? ⟨B1, 2, none⟩ = some (.int .i64 p) := (blk_cell (blk_below KB1.out HB.out) 2).trans rfl; have hz1_3_W : W.cell? ⟨B1, 3, none⟩ = some (.slice A l.length c) := (blk_cell (blk_below KB1.out HB.out) 3).trans rfl; have hz2_0_W : W.cell? ⟨B2, 0, none⟩ = some (.int .i64 kr) := (blk_cell (blk_below KB2.out HB.out) 0).trans rfl; have hz2_1_W : W.cell? ⟨B2, 1, none⟩ = some (.slice AK ks.length cK) := (blk_cell (blk_below KB2.out HB.out) 1).trans rfl; have hz2_2_W : W.cell? ⟨B2, 2, none⟩ = some (.int .i64 kd) := (blk_cell (blk_below KB2.out HB.out) 2).trans rfl; have hz3_W : W.cell? ⟨B3, 0, none⟩ = some (.int .i64 sd) := (blk_cell (blk_below KB3.out HB.out) 0).trans rfl
 unfold convPix
 simp only [Int.toNat_natCast]
 go_enter Try.func81, Try.ntmps81
 go_wp2_with (first | ((with_reducible refine gate_dst (N := 19) rfl ?_); refine Kd.R_make (Kd.int .i64) _ 3 rfl (N := 19) rfl 25 _ _ rfl (p : Int) rfl rfl Try.underlying25 (.int .i64 0) 8 info3 rfl (by decide) (by omega) 0 (ok := fun _ => True) (okp := fun _ => True) rfl (fun _ hk => hk) trivial (by omega) (Nat.le_trans (Nat.mul_le_mul_right _ (show (p : Int).toNat ≤ 35184372088832 by omega)) (by omega)) (Below.refl _ _) (Nat.le_refl _) ?_; intro us w4 ho5 hb hg_ hnew_; clear hg_ hnew_; have HO := oR ho5 HB; replace HB := bS HB hb; clear hb ho5; obtain ⟨go, co, eo, gb, gl, cl, HG⟩ := Kd.R_form HO.out (by simp; omega); simp only [List.length_replicate, Int.toNat_natCast] at eo; subst eo; have GB := aM gb; have GG := aM HG; clear gb gl HG; have hz1_0_w4 : w4.cell? ⟨B1, 0, none⟩ = some (.int .i64 a) := (blk_cell (blk_below KB1.out HB.out) 0).trans rfl; have hz1_1_w4 : w4.cell? ⟨B1, 1, none⟩ = some (.int .i64 b) := (blk_cell (blk_below KB1.out HB.out) 1).trans rfl; have hz1_2_w4 : w4.cell? ⟨B1, 2, none⟩ = some (.int .i64 p) := (blk_cell (blk_below KB1.out HB.out) 2).trans rfl; have hz1_3_w4 : w4.cell? ⟨B1, 3, none⟩ = some (.slice A l.length c) := (blk_cell (blk_below KB1.out HB.out) 3).trans rfl; have hz2_0_w4 : w4.cell? ⟨B2, 0, none⟩ = some (.int .i64 kr) := (blk_cell (blk_below KB2.out HB.out) 0).trans rfl; have hz2_1_w4 : w4.cell? ⟨B2, 1, none⟩ = some (.slice AK ks.length cK) := (blk_cell (blk_below KB2.out HB.out) 1).trans rfl; have hz2_2_w4 : w4.cell? ⟨B2, 2, none⟩ = some (.int .i64 kd) := (blk_cell (blk_below KB2.out HB.out) 2).trans rfl; have hz3_w4 : w4.cell? ⟨B3, 0, none⟩ = some (.int .i64 sd) := (blk_cell (blk_below KB3.out HB.out) 0).trans rfl))
 go_loopg [23] ks.length (fun gg s23 w' => ∃ i : Nat, i ≤ ks.length ∧ ks.length - i ≤ gg ∧ s23 = .int .i64 i ∧ Aside0 (Kd.R (Kd.int .i64) 3 w' W.heap.size (fun _ => True) (.slice (some ⟨go, 0, none⟩) p co) (convAll l a b p kr ks sd x y i)) ∧ Aside0 (Below W.heap.size W w'))
 case atStart => exact ⟨0, Nat.zero_le _, by omega, rfl, ⟨by refine qR ?_; exact HO.out⟩, ⟨by exact qW HB.out⟩⟩
 case round =>
  clear HO HB
  obtain ⟨i, hi, hg, rfl, HO, HB⟩ := hrel
  obtain ⟨wo, ewo⟩ : ∃ wo : World, wo = wr := ⟨_, rfl⟩
  subst ewo
  have hz1_0_wo : wo.cell? ⟨B1, 0, none⟩ = some (.int .i64 a) := (blk_cell (blk_below KB1.out HB.out) 0).trans rfl; have hz1_1_wo : wo.cell? ⟨B1, 1, none⟩ = some (.int .i64 b) := (blk_cell (blk_below KB1.out HB.out) 1).trans rfl; have hz1_2_wo : wo.cell? ⟨B1, 2, none⟩ = some (.int .i64 p) := (blk_cell (blk_below KB1.out HB.out) 2).trans rfl; have hz1_3_wo : wo.cell? ⟨B1, 3, none⟩ = some (.slice A l.length c) := (blk_cell (blk_below KB1.out HB.out) 3).trans rfl; have hz2_0_wo : wo.cell? ⟨B2, 0, none⟩ = some (.int .i64 kr) := (blk_cell (blk_below KB2.out HB.out) 0).trans rfl; have hz2_1_wo : wo.cell? ⟨B2, 1, none⟩ = some (.slice AK ks.length cK) := (blk_cell (blk_below KB2.out HB.out) 1).trans rfl; have hz2_2_wo : wo.cell? ⟨B2, 2, none⟩ = some (.int .i64 kd) := (blk_cell (blk_below KB2.out HB.out) 2).trans rfl; have hz3_wo : wo.cell? ⟨B3, 0, none⟩ = some (.int .i64 sd) := (blk_cell (blk_below KB3.out HB.out) 0).trans rfl
  by_cases hlt : i < ks.length
  ·have hltz : (i : Int) < (ks.length : Int) := by omega
   have hi0 : 0 ≤ (i : Int) := by omega
   obtain ⟨adk, eak, hxk⟩ := Kd.at_int (Kd.C_below HRK.out HB.out) (i : Int) hi0 hltz
   cases eak
   rw [Int.toNat_natCast] at hxk
   have hsdne : ¬ sd = 0 := by omega
   have hsd0 : (sd == 0) = false := beq_eq_false_iff_ne.mpr hsdne
   have m0 := Int.emod_nonneg (i : Int) hsdne
   have m1 := Int.emod_lt_of_pos (i : Int) (show 0 < sd by omega)
   have q0 : 0 ≤ (i : Int) / sd := Int.ediv_nonneg hi0 (by omega)
   have q1 : (i : Int) / sd ≤ i := Int.ediv_le_self _ hi0
   obtain ⟨im, him⟩ : ∃ z : Int, (i : Int) % sd = z := ⟨_, rfl⟩
   obtain ⟨iq, hiq⟩ : ∃ z : Int, (i : Int) / sd = z := ⟨_, rfl⟩
   have tm : Int.tmod (i : Int) sd = im := (Int.tmod_eq_emod_of_nonneg hi0).trans him
   have tq : Int.tdiv (i : Int) sd = iq := (Int.tdiv_eq_ediv_of_nonneg hi0).trans hiq
   rw [him] at m0 m1
   rw [hiq] at q0 q1
   have HIM := aM him
   have HIQ := aM hiq
   clear him hiq
   obtain ⟨u1, hu1⟩ : ∃ z : Int, (if x + im - kr < 0 then 0 else x + im - kr) = z := ⟨_, rfl⟩
   obtain ⟨u2, hu2⟩ : ∃ z : Int, (if (a : Int) - 1 < u1 then (a : Int) - 1 else u1) = z := ⟨_, rfl⟩
   obtain ⟨t1, ht1⟩ : ∃ z : Int, (if y + iq - kr < 0 then 0 else y + iq - kr) = z := ⟨_, rfl⟩
   obtain ⟨t2, ht2⟩ : ∃ z : Int, (if (b : Int) - 1 < t1 then (b : Int) - 1 else t1) = z := ⟨_, rfl⟩
   have HU : Aside0 (near1 (x + (i : Int) % sd - kr) a = u2) := ⟨by rw [HIM.out]; unfold near1 mn mx; rw [hu1, hu2]⟩
   have HT : Aside0 (near1 (y + (i : Int) / sd - kr) b = t2) := ⟨by rw [HIQ.out]; unfold near1 mn mx; rw [ht1, ht2]⟩
   have ou := near1_on (z := x + (i : Int) % sd - kr) (n := a) v0
   have ot := near1_on (z := y + (i : Int) / sd - kr) (n := b) v1
   rw [HU.out] at ou
   rw [HT.out] at ot
   obtain ⟨ou0, ou1⟩ := ou
   obtain ⟨ot0, ot1⟩ := ot
   have e1 : IntKind.i64.wrap im = im := (i64_w _).trans (wrap_small (by omega) (by omega))
   have e2 : IntKind.i64.wrap (x + im) = x + im := (i64_w _).trans (wrap_small (by omega) (by omega))
   have e3 : IntKind.i64.wrap (x + im - kr) = x + im - kr := (i64_w _).trans (wrap_small (by omega) (by omega))
   have e4 : IntKind.i64.wrap ((a : Int) - 1) = (a : Int) - 1 := (i64_w _).trans (wrap_small (by omega) (by omega))
   have e5 : IntKind.i64.wrap iq = iq := (i64_w _).trans (wrap_small (by omega) (by omega))
   have e6 : IntKind.i64.wrap (y + iq) = y + iq := (i64_w _).trans (wrap_small (by omega) (by omega))
   have e7 : IntKind.i64.wrap (y + iq - kr) = y + iq - kr := (i64_w _).trans (wrap_small (by omega) (by omega))
   have e8 : IntKind.i64.wrap ((b : Int) - 1) = (b : Int) - 1 := (i64_w _).trans (wrap_small (by omega) (by omega))
   go_wp2
   go_quiet (fail)
   try go_wp2
   go_quiet (fail)
   clear tm tq e1 e2 e3 e4 e5 e6 e7 e8 hu1 hu2 ht1 ht2 m0 m1 q0 q1
   have hfit := pix_fits (a0 := a) (a1 := b) (a2 := p) (x := u2) (y := t2) (by omega) (by omega) (by omega) (by omega) (by omega)
   rw [← HL.out] at hfit
   have mm1 : 0 ≤ t2 * a := Int.mul_nonneg (by omega) (by omega)
   have hpl := pixOf_length (l := l) (n := a) (p := p) (x := u2) (y := t2) (Int.mul_nonneg (by omega) (by omega)) (by omega) hfit
   have HPL := aM hpl
   have HCA := aM (fun (W' : World) (hW : Below W.heap.size W W') => impl_at.calls2 a b p A c l u2 t2 W' (Kd.C_below HR0.out hW) HC0.out (by omega) v0' (by omega) (by omega) (by omega) (by omega) (by omega) (by omega) hfit)
   clear hpl hfit mm1
   obtain ⟨px, hpx⟩ : ∃ px : List Int, pixOf l a p u2 t2 = px := ⟨_, rfl⟩
   rw [hpx] at HPL HCA
   have EPX := aM hpx
   clear hpx
   obtain ⟨ar, hear⟩ : ∃ ar : Int, rd ks (i : Int) = ar := ⟨_, rfl⟩
   rw [hear]
   have EAR := aM hear
   clear hear hxk
   go_wp2_with (first | (go_at_call 50; refine (HCA.out _ (by exact qW HB.out)).mono ?_; rintro e w1 ⟨A', c', rfl, hr', hl', hb', hall⟩; have n0_ := aM (Kd.R_below (qR HO.out) hb'); have n1_ := aM (below_step (by exact qW HB.out) hb'); have HALL := aM hall; clear HO HB hr' hall hb'; have HO := n0_; have HB := n1_; clear n0_ n1_))
   go_loopg [59] px.length (fun gg3 s59 w' => ∃ k : Nat, k ≤ px.length ∧ px.length - k ≤ gg3 ∧ s59 = .int .i64 k ∧ Aside0 (Kd.R (Kd.int .i64) 3 w' W.heap.size (fun _ => True) (.slice (some ⟨go, 0, none⟩) p co) (addW (convAll l a b p kr ks sd x y i) px ar k)) ∧ Aside0 (Below W.heap.size W w'))
   case atStart => exact ⟨0, Nat.zero_le _, by omega, rfl, ⟨by refine qR ?_; exact HO.out⟩, ⟨by exact qW HB.out⟩⟩
   case round =>
    clear HO HB
    obtain ⟨k, hk, hg3, rfl, HO, HB⟩ := hrel
    by_cases hklt : k < px.length
    ·have hkz : (k : Int) < (px.length : Int) := by omega
     have hk0 : 0 ≤ (k : Int) := by omega
     have hkp : k < p := by have := HPL.out; omega
     have hkpz : (k : Int) < (p : Int) := by omega
     have HPR := HALL.out wr (Kd.C_below HR0.out HB.out)
     obtain ⟨ad, ea, hx1⟩ := Kd.at_int HPR (k : Int) hk0 hkz
     clear HPR
     cases ea
     have hsl : (addW (convAll l a b p kr ks sd x y i) px ar k).length = p := by rw [addW_len, convAll_len, Int.toNat_natCast]
     obtain ⟨S, hS⟩ : ∃ S : List Int, S = addW (convAll l a b p kr ks sd x y i) px ar k := ⟨_, rfl⟩
     rw [← hS] at HO hsl
     obtain ⟨hx9, hf9⟩ := Kd.R_celln 0 HO.out (k : Int) hk0 (by omega)
     have HP := Kd.R_putg HO.out (k : Int) (wrap64 (rd S (k : Int) + wrap64 (ar * rd px (k : Int))))
     rw [Int.toNat_natCast] at hx1 hx9 hf9 HP
     have HSL := aM hsl
     have HSE := aM hS
     clear hsl hS
     go_wp2_with (first | ((with_reducible refine gate_store (t := 3) (p := 72) rfl ?_); refine store_event (t := 3) (p := 72) (v := ?vo) (w1 := (wr.setCell ⟨go, k, none⟩ (.int .i64 (wrap64 (rd S (k : Int) + wrap64 (ar * rd px (k : Int))))))) ?hg ?ho ?hn ?hr ?_; (case ho => rfl); (case hg => rfl); (case hn => rfl); (case hr => first | (go_simp; done) | (go_simp; rfl)); intro w11 hw; have hp_ := HP.1; rw [← hw] at hp_; replace HO := aM hp_; replace HB := aM ((by rw [hw]; exact below_set (HB.out) GB.out : Below W.heap.size W w11)); clear HP hp_ hw))
     go_roundg (px.length - (k + 1))
     case measure => omega
     case rel =>
      refine ⟨k + 1, by omega, by omega, by go_num, ⟨?_⟩, ⟨by exact qW HB.out⟩⟩
      have h_ := HO.out
      rw [addW, ← HSE.out]
      exact h_
    ·have hkz : ¬ (k : Int) < (px.length : Int) := by omega
     have ek : k = px.length := by omega
     subst ek
     go_wp2
     go_roundg (ks.length - (i + 1))
     case measure => omega
     case rel =>
      refine ⟨i + 1, by omega, by omega, by go_num, ⟨?_⟩, ⟨by exact qW HB.out⟩⟩
      rw [convAll, HU.out, HT.out, EPX.out, EAR.out, show (p : Int).toNat = px.length by have := HPL.out; omega]
      (with_reducible repeat (first | apply Kd.R_alloc | apply Kd.R_drewN | apply Kd.R_drew))
      exact HO.out
  ·have hltz : ¬ (i : Int) < (ks.length : Int) := by omega
   have ek : i = ks.length := by omega
   subst ek
   go_wp2
   go_loopg [77] p (fun gg3 s77 w' => ∃ k : Nat, k ≤ p ∧ p - k ≤ gg3 ∧ s77 = .int .i64 k ∧ Aside0 (Kd.R (Kd.int .i64) 3 w' W.heap.size (fun _ => True) (.slice (some ⟨go, 0, none⟩) p co) (clampK (convAll l a b p kr ks sd x y ks.length) kd k)) ∧ Aside0 (Below W.heap.size W w'))
   case atStart => exact ⟨0, Nat.zero_le _, by omega, rfl, ⟨by refine qR ?_; exact HO.out⟩, ⟨by exact qW HB.out⟩⟩
   case round =>
    clear HO HB
    obtain ⟨k, hk, hg3, rfl, HO, HB⟩ := hrel
    by_cases hklt : k < p
    ·have hkz : (k : Int) < (p : Int) := by omega
     have hk0 : 0 ≤ (k : Int) := by omega
     have hsl : (clampK (convAll l a b p kr ks sd x y ks.length) kd k).length = p := by rw [clampK_len, convAll_len, Int.toNat_natCast]
     obtain ⟨S, hS⟩ : ∃ S : List Int, S = clampK (convAll l a b p kr ks sd x y ks.length) kd k := ⟨_, rfl⟩
     rw [← hS] at HO hsl
     obtain ⟨hx9, hf9⟩ := Kd.R_celln 0 HO.out (k : Int) hk0 (by omega)
     rw [Int.toNat_natCast] at hx9 hf9
     have HSL := aM hsl
     have HSE := aM hS
     clear hsl hS
     obtain ⟨rr, hrr⟩ : ∃ z : Int, rndc (rd S (k : Int)) kd = z := ⟨_, rfl⟩
     have HGG := aM ((rndc_some (rd S (k : Int)) kd d0 (by omega)).trans (congrArg some hrr))
     have HRR := aM hrr
     obtain ⟨m1, hm1⟩ : ∃ z : Int, (if rr < 0 then 0 else rr) = z := ⟨_, rfl⟩
     obtain ⟨m2, hm2⟩ : ∃ z : Int, (if 255 < m1 then 255 else m1) = z := ⟨_, rfl⟩
     have HM : Aside0 (mn (mx (rndc (rd S (k : Int)) kd) 0) 255 = m2) := ⟨by rw [HRR.out]; unfold mn mx; rw [hm1, hm2]⟩
     clear hrr
     have hz1_0_wr : wr.cell? ⟨B1, 0, none⟩ = some (.int .i64 a) := (blk_cell (blk_below KB1.out HB.out) 0).trans rfl; have hz1_1_wr : wr.cell? ⟨B1, 1, none⟩ = some (.int .i64 b) := (blk_cell (blk_below KB1.out HB.out) 1).trans rfl; have hz1_2_wr : wr.cell? ⟨B1, 2, none⟩ = some (.int .i64 p) := (blk_cell (blk_below KB1.out HB.out) 2).trans rfl; have hz1_3_wr : wr.cell? ⟨B1, 3, none⟩ = some (.slice A l.length c) := (blk_cell (blk_below KB1.out HB.out) 3).trans rfl; have hz2_0_wr : wr.cell? ⟨B2, 0, none⟩ = some (.int .i64 kr) := (blk_cell (blk_below KB2.out HB.out) 0).trans rfl; have hz2_1_wr : wr.cell? ⟨B2, 1, none⟩ = some (.slice AK ks.length cK) := (blk_cell (blk_below KB2.out HB.out) 1).trans rfl; have hz2_2_wr : wr.cell? ⟨B2, 2, none⟩ = some (.int .i64 kd) := (blk_cell (blk_below KB2.out HB.out) 2).trans rfl; have hz3_wr : wr.cell? ⟨B3, 0, none⟩ = some (.int .i64 sd) := (blk_cell (blk_below KB3.out HB.out) 0).trans rfl
     go_wp2_with (first | (go_at_call 82; refine (impl_rounded.calls _ _ _ _ HGG.out).mono ?_; rintro e w' ⟨rfl, ⟨nd, rfl⟩⟩))
     have hp_ := (Kd.R_putg (Kd.R_drewN HO.out nd) (k : Int) m2).1
     rw [Int.toNat_natCast] at hp_
     have HP := aM hp_
     clear hp_
     go_roundg (p - (k + 1))
     case measure => omega
     case rel =>
      refine ⟨k + 1, by omega, by omega, by go_num, ⟨?_⟩, ⟨below_set (pw_below_drewN HB.out _) GB.out⟩⟩
      rw [clampK, ← HSE.out, HM.out]
      exact HP.out
    ·have hkz : ¬ (k : Int) < (p : Int) := by omega
     obtain rfl : p = k := by omega
     go_wp2
     go_ret
     have hR := Kd.R_reads' HO.out
     have hsl : (clampK (convAll l a b p kr ks sd x y ks.length) kd p).length = p := by rw [clampK_len, convAll_len, Int.toNat_natCast]
     rw [hsl] at hR ⊢
     exact ⟨_, _, rfl, hR.2.2, hR.2.1, by exact qW HB.out⟩
theorem kerOk_true {a : Int} {l : List Int} {d : Int} (h : kerOk a l d = true) : (0 ≤ a ∧ a ≤ 2) ∧ (l.length : Int) = (2 * a + 1) * (2 * a + 1) ∧ (1 ≤ d ∧ d ≤ 999) ∧ l.length ≤ 25 := by
 have h3 : (0 ≤ a ∧ a ≤ 2) ∧ (l.length : Int) = (2 * a + 1) * (2 * a + 1) ∧ (1 ≤ d ∧ d ≤ 999) := Decidable.byContradiction fun h2 => by
  rw [kerOk_false h2] at h
  cases h
 obtain ⟨h0, h1, h2⟩ := h3
 refine ⟨h0, h1, h2, ?_⟩
 rcases (show a = 0 ∨ a = 1 ∨ a = 2 by omega) with rfl | rfl | rfl <;> omega
def impl_ConvolveImage.f (a0_0 : Int) (a0_1 : Int) (a0_2 : Int) (l0_3 : List Int) (a1_0 : Int) (l1_1 : List Int) (a1_2 : Int) : Option (Int × Int × Int × List Int) := (impl_isImage.f a0_0 a0_1 a0_2 l0_3).bind fun t0 => (if t0 = true then ((impl_isKernel.f a1_0 l1_1 a1_2).bind fun t1 => (if t1 = true then (some (a0_0, a0_1, a0_2, imgOf (convPix l0_3 a0_0 a0_1 a0_2 a1_0 l1_1 a1_2 (2 * a1_0 + 1)) a0_0.toNat a0_1.toNat)) else (some (0, 0, 0, ([] : List Int))))) else (some (0, 0, 0, ([] : List Int))))
set_option maxHeartbeats 8000000 in
set_option maxRecDepth 100000 in
theorem impl_ConvolveImage.calls (a0_0 : Int) (a0_1 : Int) (a0_2 : Int) (A0_3 : Option Addr) (c0_3 : Nat) (l0_3 : List Int) (a1_0 : Int) (A1_1 : Option Addr) (c1_1 : Nat) (l1_1 : List Int) (a1_2 : Int) (r1 : Int) (r2 : Int) (r3 : Int) (r4 : List Int) (w : World) (hr0_3 : Kd.C (Kd.int .i64) w A0_3 l0_3.length l0_3) (hc0_3 : l0_3.length ≤ c0_3) (hr1_1 : Kd.C (Kd.int .i64) w A1_1 l1_1.length l1_1) (hc1_1 : l1_1.length ≤ c1_1) (h : impl_ConvolveImage.f a0_0 a0_1 a0_2 l0_3 a1_0 l1_1 a1_2 = some (r1, r2, r3, r4)) :
  Calls Try.prog 35 #[.agg #[.int .i64 a0_0, .int .i64 a0_1, .int .i64 a0_2, .slice A0_3 l0_3.length c0_3], .agg #[.int .i64 a1_0, .slice A1_1 l1_1.length c1_1, .int .i64 a1_2]] w fun e w' => ∃ v3_ : Value, e = .returned (.agg #[.int .i64 r1, .int .i64 r2, .int .i64 r3, v3_]) ∧ Kd.R (Kd.int .i64) 3 w' w.heap.size (fun _ => True) v3_ r4 ∧ Below w.heap.size w w' := by
 have hu26 := Try.underlying27
 have HR0 := aM hr0_3
 have HC0 := aM hc0_3
 clear hr0_3 hc0_3
 have HR1 := aM hr1_1
 have HC1 := aM hc1_1
 clear hr1_1 hc1_1
 have HB := aM (Below.refl w.heap.size w)
 unfold impl_ConvolveImage.f at h
 have H := h
 clear h
 replace H := Option.bind_eq_some_iff.mp H
 obtain ⟨t0, q0, H⟩ := H
 have A0 := aM q0
 clear q0
 cases t0 with
 | false =>
  rw [if_neg (show ¬ (false = true) by decide)] at H
  simp only [Option.some.injEq, Prod.mk.injEq] at H
  obtain ⟨rfl, rfl, rfl, rfl⟩ := H
  go_enter Try.func35, Try.ntmps35
  go_wp2_with (first | ((with_reducible refine gate_dst (N := 2) rfl ?_); (try (refine gate_guard (by rfl) ?_; dsimp only)); refine bxE (N := 2) (cs := #[.int .i64 a0_0, .int .i64 a0_1, .int .i64 a0_2, .slice A0_3 l0_3.length c0_3]) (t := 27) ?_; intro gm hg w141 hbox hb; have n142 := bS HB hb; have n143 := aM hbox; have n144 := aM ((by rw [hg]; exact (below_size (qW HB.out))) : w.heap.size ≤ gm); clear HB; have HB := n142; have BKgm := n143; have GEgm := n144; clear n142 n143 n144; clear hb hbox hg; have hz145 : w141.cell? ⟨gm, 0, none⟩ = some (.int .i64 a0_0) := (blk_cell BKgm.out 0).trans rfl; have hz146 : w141.cell? ⟨gm, 1, none⟩ = some (.int .i64 a0_1) := (blk_cell BKgm.out 1).trans rfl; have hz147 : w141.cell? ⟨gm, 2, none⟩ = some (.int .i64 a0_2) := (blk_cell BKgm.out 2).trans rfl; have hz148 : w141.cell? ⟨gm, 3, none⟩ = some (.slice A0_3 l0_3.length c0_3) := (blk_cell BKgm.out 3).trans rfl; have hf149 := blk_frozen BKgm.out 0; have hf150 := blk_frozen BKgm.out 1; have hf151 := blk_frozen BKgm.out 2; have hf152 := blk_frozen BKgm.out 3) | ((with_reducible refine gate_dst (N := 3) rfl ?_); (try (refine gate_guard (by rfl) ?_; dsimp only)); refine bxE (N := 3) (cs := #[.int .i64 a1_0, .slice A1_1 l1_1.length c1_1, .int .i64 a1_2]) (t := 49) ?_; intro gk hg w153 hbox hb; have n154 := bB BKgm hb; have n155 := bS HB hb; have n156 := aM hbox; have n157 := aM ((by rw [hg]; exact (below_size (qW HB.out))) : w.heap.size ≤ gk); have n158 := aM ((by rw [hg]; exact Nat.ne_of_lt (blk_lt (g := gm) (o := .cells #[.int .i64 a0_0, .int .i64 a0_1, .int .i64 a0_2, .slice A0_3 l0_3.length c0_3] 27 (0, 0)) (qB BKgm.out))) : gm ≠ gk); have n159 := aM ((by rw [hg]; exact Nat.ne_of_gt (blk_lt (g := gm) (o := .cells #[.int .i64 a0_0, .int .i64 a0_1, .int .i64 a0_2, .slice A0_3 l0_3.length c0_3] 27 (0, 0)) (qB BKgm.out))) : gk ≠ gm); clear HB BKgm; have BKgm := n154; have HB := n155; have BKgk := n156; have GEgk := n157; have NBgm_gk := n158; have NBgk_gm := n159; clear n154 n155 n156 n157 n158 n159; clear hb hbox hg; have hz160 : w153.cell? ⟨gm, 0, none⟩ = some (.int .i64 a0_0) := (blk_cell BKgm.out 0).trans rfl; have hz161 : w153.cell? ⟨gm, 1, none⟩ = some (.int .i64 a0_1) := (blk_cell BKgm.out 1).trans rfl; have hz162 : w153.cell? ⟨gm, 2, none⟩ = some (.int .i64 a0_2) := (blk_cell BKgm.out 2).trans rfl; have hz163 : w153.cell? ⟨gm, 3, none⟩ = some (.slice A0_3 l0_3.length c0_3) := (blk_cell BKgm.out 3).trans rfl; have hf164 := blk_frozen BKgm.out 0; have hf165 := blk_frozen BKgm.out 1; have hf166 := blk_frozen BKgm.out 2; have hf167 := blk_frozen BKgm.out 3; have hz168 : w153.cell? ⟨gk, 0, none⟩ = some (.int .i64 a1_0) := (blk_cell BKgk.out 0).trans rfl; have hz169 : w153.cell? ⟨gk, 1, none⟩ = some (.slice A1_1 l1_1.length c1_1) := (blk_cell BKgk.out 1).trans rfl; have hz170 : w153.cell? ⟨gk, 2, none⟩ = some (.int .i64 a1_2) := (blk_cell BKgk.out 2).trans rfl; have hf171 := blk_frozen BKgk.out 0; have hf172 := blk_frozen BKgk.out 1; have hf173 := blk_frozen BKgk.out 2) | ((with_reducible refine gate_dst (N := 4) rfl ?_); (try (refine gate_guard (by rfl) ?_; dsimp only)); refine bxE (N := 4) (cs := #[.int .i64 0, .int .i64 0, .int .i64 0, .slice none 0 0]) (t := 27) ?_; intro gr hg w174 hbox hb; have n175 := bB BKgm hb; have n176 := bB BKgk hb; have n177 := bS HB hb; have n178 := aM hbox; have n179 := aM ((by rw [hg]; exact (below_size (qW HB.out))) : w.heap.size ≤ gr); have n180 := aM ((by rw [hg]; exact Nat.ne_of_lt (blk_lt (g := gm) (o := .cells #[.int .i64 a0_0, .int .i64 a0_1, .int .i64 a0_2, .slice A0_3 l0_3.length c0_3] 27 (0, 0)) (qB BKgm.out))) : gm ≠ gr); have n181 := aM ((by rw [hg]; exact Nat.ne_of_gt (blk_lt (g := gm) (o := .cells #[.int .i64 a0_0, .int .i64 a0_1, .int .i64 a0_2, .slice A0_3 l0_3.length c0_3] 27 (0, 0)) (qB BKgm.out))) : gr ≠ gm); have n182 := aM ((by rw [hg]; exact Nat.ne_of_lt (blk_lt (g := gk) (o := .cells #[.int .i64 a1_0, .slice A1_1 l1_1.length c1_1, .int .i64 a1_2] 49 (0, 0)) (qB BKgk.out))) : gk ≠ gr); have n183 := aM ((by rw [hg]; exact Nat.ne_of_gt (blk_lt (g := gk) (o := .cells #[.int .i64 a1_0, .slice A1_1 l1_1.length c1_1, .int .i64 a1_2] 49 (0, 0)) (qB BKgk.out))) : gr ≠ gk); clear HB BKgm BKgk; have BKgm := n175; have BKgk := n176; have HB := n177; have BKgr := n178; have GEgr := n179; have NBgm_gr := n180; have NBgr_gm := n181; have NBgk_gr := n182; have NBgr_gk := n183; clear n175 n176 n177 n178 n179 n180 n181 n182 n183; clear hb hbox hg; have hz184 : w174.cell? ⟨gm, 0, none⟩ = some (.int .i64 a0_0) := (blk_cell BKgm.out 0).trans rfl; have hz185 : w174.cell? ⟨gm, 1, none⟩ = some (.int .i64 a0_1) := (blk_cell BKgm.out 1).trans rfl; have hz186 : w174.cell? ⟨gm, 2, none⟩ = some (.int .i64 a0_2) := (blk_cell BKgm.out 2).trans rfl; have hz187 : w174.cell? ⟨gm, 3, none⟩ = some (.slice A0_3 l0_3.length c0_3) := (blk_cell BKgm.out 3).trans rfl; have hf188 := blk_frozen BKgm.out 0; have hf189 := blk_frozen BKgm.out 1; have hf190 := blk_frozen BKgm.out 2; have hf191 := blk_frozen BKgm.out 3; have hz192 : w174.cell? ⟨gk, 0, none⟩ = some (.int .i64 a1_0) := (blk_cell BKgk.out 0).trans rfl; have hz193 : w174.cell? ⟨gk, 1, none⟩ = some (.slice A1_1 l1_1.length c1_1) := (blk_cell BKgk.out 1).trans rfl; have hz194 : w174.cell? ⟨gk, 2, none⟩ = some (.int .i64 a1_2) := (blk_cell BKgk.out 2).trans rfl; have hf195 := blk_frozen BKgk.out 0; have hf196 := blk_frozen BKgk.out 1; have hf197 := blk_frozen BKgk.out 2; have hz198 : w174.cell? ⟨gr, 0, none⟩ = some (.int .i64 0) := (blk_cell BKgr.out 0).trans rfl; have hz199 : w174.cell? ⟨gr, 1, none⟩ = some (.int .i64 0) := (blk_cell BKgr.out 1).trans rfl; have hz200 : w174.cell? ⟨gr, 2, none⟩ = some (.int .i64 0) := (blk_cell BKgr.out 2).trans rfl; have hz201 : w174.cell? ⟨gr, 3, none⟩ = some (.slice none 0 0) := (blk_cell BKgr.out 3).trans rfl; have hf202 := blk_frozen BKgr.out 0; have hf203 := blk_frozen BKgr.out 1; have hf204 := blk_frozen BKgr.out 2; have hf205 := blk_frozen BKgr.out 3) | (go_at_call 47; (with_reducible refine (impl_isImage.calls a0_0 a0_1 a0_2 _ _ l0_3 false _ ?side1 ?side2 A0.out).mono ?_); (case side1 => exact (Kd.C_below HR0.out (qW HB.out))); (case side2 => exact HC0.out); rintro e w206 ⟨rfl, hb⟩; have n207 := bB BKgm hb; have n208 := bB BKgk hb; have n209 := bB BKgr hb; have n210 := bS HB hb; clear HB BKgm BKgk BKgr; have BKgm := n207; have BKgk := n208; have BKgr := n209; have HB := n210; clear n207 n208 n209 n210 hb; have hz211 : w206.cell? ⟨gm, 0, none⟩ = some (.int .i64 a0_0) := (blk_cell BKgm.out 0).trans rfl; have hz212 : w206.cell? ⟨gm, 1, none⟩ = some (.int .i64 a0_1) := (blk_cell BKgm.out 1).trans rfl; have hz213 : w206.cell? ⟨gm, 2, none⟩ = some (.int .i64 a0_2) := (blk_cell BKgm.out 2).trans rfl; have hz214 : w206.cell? ⟨gm, 3, none⟩ = some (.slice A0_3 l0_3.length c0_3) := (blk_cell BKgm.out 3).trans rfl; have hf215 := blk_frozen BKgm.out 0; have hf216 := blk_frozen BKgm.out 1; have hf217 := blk_frozen BKgm.out 2; have hf218 := blk_frozen BKgm.out 3; have hz219 : w206.cell? ⟨gk, 0, none⟩ = some (.int .i64 a1_0) := (blk_cell BKgk.out 0).trans rfl; have hz220 : w206.cell? ⟨gk, 1, none⟩ = some (.slice A1_1 l1_1.length c1_1) := (blk_cell BKgk.out 1).trans rfl; have hz221 : w206.cell? ⟨gk, 2, none⟩ = some (.int .i64 a1_2) := (blk_cell BKgk.out 2).trans rfl; have hf222 := blk_frozen BKgk.out 0; have hf223 := blk_frozen BKgk.out 1; have hf224 := blk_frozen BKgk.out 2; have hz225 : w206.cell? ⟨gr, 0, none⟩ = some (.int .i64 0) := (blk_cell BKgr.out 0).trans rfl; have hz226 : w206.cell? ⟨gr, 1, none⟩ = some (.int .i64 0) := (blk_cell BKgr.out 1).trans rfl; have hz227 : w206.cell? ⟨gr, 2, none⟩ = some (.int .i64 0) := (blk_cell BKgr.out 2).trans rfl; have hz228 : w206.cell? ⟨gr, 3, none⟩ = some (.slice none 0 0) := (blk_cell BKgr.out 3).trans rfl; have hf229 := blk_frozen BKgr.out 0; have hf230 := blk_frozen BKgr.out 1; have hf231 := blk_frozen BKgr.out 2; have hf232 := blk_frozen BKgr.out 3))
  refine bodyPost_ret (results_cell_row rfl _ _ gr 27 #[.int .i64 0, .int .i64 0, .int .i64 0, .slice none 0 0] (0, 0) _ rfl (by exact bP BKgr.out) Try.underlying27 rfl (by kernel_rfl)) rfl ?_
  exact ⟨_, by first | rfl | (simp; done), Kd.R_nil _ _ _ _ _, by exact qW HB.out⟩
 | true =>
  rw [if_pos rfl] at H
  replace H := Option.bind_eq_some_iff.mp H
  obtain ⟨t1, q1, H⟩ := H
  have A1 := aM q1
  clear q1
  cases t1 with
  | false =>
   rw [if_neg (show ¬ (false = true) by decide)] at H
   simp only [Option.some.injEq, Prod.mk.injEq] at H
   obtain ⟨rfl, rfl, rfl, rfl⟩ := H
   go_enter Try.func35, Try.ntmps35
   go_wp2_with (first | ((with_reducible refine gate_dst (N := 2) rfl ?_); (try (refine gate_guard (by rfl) ?_; dsimp only)); refine bxE (N := 2) (cs := #[.int .i64 a0_0, .int .i64 a0_1, .int .i64 a0_2, .slice A0_3 l0_3.length c0_3]) (t := 27) ?_; intro gm hg w233 hbox hb; have n234 := bS HB hb; have n235 := aM hbox; have n236 := aM ((by rw [hg]; exact (below_size (qW HB.out))) : w.heap.size ≤ gm); clear HB; have HB := n234; have BKgm := n235; have GEgm := n236; clear n234 n235 n236; clear hb hbox hg; have hz237 : w233.cell? ⟨gm, 0, none⟩ = some (.int .i64 a0_0) := (blk_cell BKgm.out 0).trans rfl; have hz238 : w233.cell? ⟨gm, 1, none⟩ = some (.int .i64 a0_1) := (blk_cell BKgm.out 1).trans rfl; have hz239 : w233.cell? ⟨gm, 2, none⟩ = some (.int .i64 a0_2) := (blk_cell BKgm.out 2).trans rfl; have hz240 : w233.cell? ⟨gm, 3, none⟩ = some (.slice A0_3 l0_3.length c0_3) := (blk_cell BKgm.out 3).trans rfl; have hf241 := blk_frozen BKgm.out 0; have hf242 := blk_frozen BKgm.out 1; have hf243 := blk_frozen BKgm.out 2; have hf244 := blk_frozen BKgm.out 3) | ((with_reducible refine gate_dst (N := 3) rfl ?_); (try (refine gate_guard (by rfl) ?_; dsimp only)); refine bxE (N := 3) (cs := #[.int .i64 a1_0, .slice A1_1 l1_1.length c1_1, .int .i64 a1_2]) (t := 49) ?_; intro gk hg w245 hbox hb; have n246 := bB BKgm hb; have n247 := bS HB hb; have n248 := aM hbox; have n249 := aM ((by rw [hg]; exact (below_size (qW HB.out))) : w.heap.size ≤ gk); have n250 := aM ((by rw [hg]; exact Nat.ne_of_lt (blk_lt (g := gm) (o := .cells #[.int .i64 a0_0, .int .i64 a0_1, .int .i64 a0_2, .slice A0_3 l0_3.length c0_3] 27 (0, 0)) (qB BKgm.out))) : gm ≠ gk); have n251 := aM ((by rw [hg]; exact Nat.ne_of_gt (blk_lt (g := gm) (o := .cells #[.int .i64 a0_0, .int .i64 a0_1, .int .i64 a0_2, .slice A0_3 l0_3.length c0_3] 27 (0, 0)) (qB BKgm.out))) : gk ≠ gm); clear HB BKgm; have BKgm := n246; have HB := n247; have BKgk := n248; have GEgk := n249; have NBgm_gk := n250; have NBgk_gm := n251; clear n246 n247 n248 n249 n250 n251; clear hb hbox hg; have hz252 : w245.cell? ⟨gm, 0, none⟩ = some (.int .i64 a0_0) := (blk_cell BKgm.out 0).trans rfl; have hz253 : w245.cell? ⟨gm, 1, none⟩ = some (.int .i64 a0_1) := (blk_cell BKgm.out 1).trans rfl; have hz254 : w245.cell? ⟨gm, 2, none⟩ = some (.int .i64 a0_2) := (blk_cell BKgm.out 2).trans rfl; have hz255 : w245.cell? ⟨gm, 3, none⟩ = some (.slice A0_3 l0_3.length c0_3) := (blk_cell BKgm.out 3).trans rfl; have hf256 := blk_frozen BKgm.out 0; have hf257 := blk_frozen BKgm.out 1; have hf258 := blk_frozen BKgm.out 2; have hf259 := blk_frozen BKgm.out 3; have hz260 : w245.cell? ⟨gk, 0, none⟩ = some (.int .i64 a1_0) := (blk_cell BKgk.out 0).trans rfl; have hz261 : w245.cell? ⟨gk, 1, none⟩ = some (.slice A1_1 l1_1.length c1_1) := (blk_cell BKgk.out 1).trans rfl; have hz262 : w245.cell? ⟨gk, 2, none⟩ = some (.int .i64 a1_2) := (blk_cell BKgk.out 2).trans rfl; have hf263 := blk_frozen BKgk.out 0; have hf264 := blk_frozen BKgk.out 1; have hf265 := blk_frozen BKgk.out 2) | ((with_reducible refine gate_dst (N := 4) rfl ?_); (try (refine gate_guard (by rfl) ?_; dsimp only)); refine bxE (N := 4) (cs := #[.int .i64 0, .int .i64 0, .int .i64 0, .slice none 0 0]) (t := 27) ?_; intro gr hg w266 hbox hb; have n267 := bB BKgm hb; have n268 := bB BKgk hb; have n269 := bS HB hb; have n270 := aM hbox; have n271 := aM ((by rw [hg]; exact (below_size (qW HB.out))) : w.heap.size ≤ gr); have n272 := aM ((by rw [hg]; exact Nat.ne_of_lt (blk_lt (g := gm) (o := .cells #[.int .i64 a0_0, .int .i64 a0_1, .int .i64 a0_2, .slice A0_3 l0_3.length c0_3] 27 (0, 0)) (qB BKgm.out))) : gm ≠ gr); have n273 := aM ((by rw [hg]; exact Nat.ne_of_gt (blk_lt (g := gm) (o := .cells #[.int .i64 a0_0, .int .i64 a0_1, .int .i64 a0_2, .slice A0_3 l0_3.length c0_3] 27 (0, 0)) (qB BKgm.out))) : gr ≠ gm); have n274 := aM ((by rw [hg]; exact Nat.ne_of_lt (blk_lt (g := gk) (o := .cells #[.int .i64 a1_0, .slice A1_1 l1_1.length c1_1, .int .i64 a1_2] 49 (0, 0)) (qB BKgk.out))) : gk ≠ gr); have n275 := aM ((by rw [hg]; exact Nat.ne_of_gt (blk_lt (g := gk) (o := .cells #[.int .i64 a1_0, .slice A1_1 l1_1.length c1_1, .int .i64 a1_2] 49 (0, 0)) (qB BKgk.out))) : gr ≠ gk); clear HB BKgm BKgk; have BKgm := n267; have BKgk := n268; have HB := n269; have BKgr := n270; have GEgr := n271; have NBgm_gr := n272; have NBgr_gm := n273; have NBgk_gr := n274; have NBgr_gk := n275; clear n267 n268 n269 n270 n271 n272 n273 n274 n275; clear hb hbox hg; have hz276 : w266.cell? ⟨gm, 0, none⟩ = some (.int .i64 a0_0) := (blk_cell BKgm.out 0).trans rfl; have hz277 : w266.cell? ⟨gm, 1, none⟩ = some (.int .i64 a0_1) := (blk_cell BKgm.out 1).trans rfl; have hz278 : w266.cell? ⟨gm, 2, none⟩ = some (.int .i64 a0_2) := (blk_cell BKgm.out 2).trans rfl; have hz279 : w266.cell? ⟨gm, 3, none⟩ = some (.slice A0_3 l0_3.length c0_3) := (blk_cell BKgm.out 3).trans rfl; have hf280 := blk_frozen BKgm.out 0; have hf281 := blk_frozen BKgm.out 1; have hf282 := blk_frozen BKgm.out 2; have hf283 := blk_frozen BKgm.out 3; have hz284 : w266.cell? ⟨gk, 0, none⟩ = some (.int .i64 a1_0) := (blk_cell BKgk.out 0).trans rfl; have hz285 : w266.cell? ⟨gk, 1, none⟩ = some (.slice A1_1 l1_1.length c1_1) := (blk_cell BKgk.out 1).trans rfl; have hz286 : w266.cell? ⟨gk, 2, none⟩ = some (.int .i64 a1_2) := (blk_cell BKgk.out 2).trans rfl; have hf287 := blk_frozen BKgk.out 0; have hf288 := blk_frozen BKgk.out 1; have hf289 := blk_frozen BKgk.out 2; have hz290 : w266.cell? ⟨gr, 0, none⟩ = some (.int .i64 0) := (blk_cell BKgr.out 0).trans rfl; have hz291 : w266.cell? ⟨gr, 1, none⟩ = some (.int .i64 0) := (blk_cell BKgr.out 1).trans rfl; have hz292 : w266.cell? ⟨gr, 2, none⟩ = some (.int .i64 0) := (blk_cell BKgr.out 2).trans rfl; have hz293 : w266.cell? ⟨gr, 3, none⟩ = some (.slice none 0 0) := (blk_cell BKgr.out 3).trans rfl; have hf294 := blk_frozen BKgr.out 0; have hf295 := blk_frozen BKgr.out 1; have hf296 := blk_frozen BKgr.out 2; have hf297 := blk_frozen BKgr.out 3) | (go_at_call 47; (with_reducible refine (impl_isImage.calls a0_0 a0_1 a0_2 _ _ l0_3 true _ ?side1 ?side2 A0.out).mono ?_); (case side1 => exact (Kd.C_below HR0.out (qW HB.out))); (case side2 => exact HC0.out); rintro e w298 ⟨rfl, hb⟩; have n299 := bB BKgm hb; have n300 := bB BKgk hb; have n301 := bB BKgr hb; have n302 := bS HB hb; clear HB BKgm BKgk BKgr; have BKgm := n299; have BKgk := n300; have BKgr := n301; have HB := n302; clear n299 n300 n301 n302 hb; have hz303 : w298.cell? ⟨gm, 0, none⟩ = some (.int .i64 a0_0) := (blk_cell BKgm.out 0).trans rfl; have hz304 : w298.cell? ⟨gm, 1, none⟩ = some (.int .i64 a0_1) := (blk_cell BKgm.out 1).trans rfl; have hz305 : w298.cell? ⟨gm, 2, none⟩ = some (.int .i64 a0_2) := (blk_cell BKgm.out 2).trans rfl; have hz306 : w298.cell? ⟨gm, 3, none⟩ = some (.slice A0_3 l0_3.length c0_3) := (blk_cell BKgm.out 3).trans rfl; have hf307 := blk_frozen BKgm.out 0; have hf308 := blk_frozen BKgm.out 1; have hf309 := blk_frozen BKgm.out 2; have hf310 := blk_frozen BKgm.out 3; have hz311 : w298.cell? ⟨gk, 0, none⟩ = some (.int .i64 a1_0) := (blk_cell BKgk.out 0).trans rfl; have hz312 : w298.cell? ⟨gk, 1, none⟩ = some (.slice A1_1 l1_1.length c1_1) := (blk_cell BKgk.out 1).trans rfl; have hz313 : w298.cell? ⟨gk, 2, none⟩ = some (.int .i64 a1_2) := (blk_cell BKgk.out 2).trans rfl; have hf314 := blk_frozen BKgk.out 0; have hf315 := blk_frozen BKgk.out 1; have hf316 := blk_frozen BKgk.out 2; have hz317 : w298.cell? ⟨gr, 0, none⟩ = some (.int .i64 0) := (blk_cell BKgr.out 0).trans rfl; have hz318 : w298.cell? ⟨gr, 1, none⟩ = some (.int .i64 0) := (blk_cell BKgr.out 1).trans rfl; have hz319 : w298.cell? ⟨gr, 2, none⟩ = some (.int .i64 0) := (blk_cell BKgr.out 2).trans rfl; have hz320 : w298.cell? ⟨gr, 3, none⟩ = some (.slice none 0 0) := (blk_cell BKgr.out 3).trans rfl; have hf321 := blk_frozen BKgr.out 0; have hf322 := blk_frozen BKgr.out 1; have hf323 := blk_frozen BKgr.out 2; have hf324 := blk_frozen BKgr.out 3) | (go_at_call 80; (with_reducible refine (impl_isKernel.calls a1_0 _ _ l1_1 a1_2 false _ ?side1 ?side2 A1.out).mono ?_); (case side1 => exact (Kd.C_below HR1.out (qW HB.out))); (case side2 => exact HC1.out); rintro e w325 ⟨rfl, hb⟩; have n326 := bB BKgm hb; have n327 := bB BKgk hb; have n328 := bB BKgr hb; have n329 := bS HB hb; clear HB BKgm BKgk BKgr; have BKgm := n326; have BKgk := n327; have BKgr := n328; have HB := n329; clear n326 n327 n328 n329 hb; have hz330 : w325.cell? ⟨gm, 0, none⟩ = some (.int .i64 a0_0) := (blk_cell BKgm.out 0).trans rfl; have hz331 : w325.cell? ⟨gm, 1, none⟩ = some (.int .i64 a0_1) := (blk_cell BKgm.out 1).trans rfl; have hz332 : w325.cell? ⟨gm, 2, none⟩ = some (.int .i64 a0_2) := (blk_cell BKgm.out 2).trans rfl; have hz333 : w325.cell? ⟨gm, 3, none⟩ = some (.slice A0_3 l0_3.length c0_3) := (blk_cell BKgm.out 3).trans rfl; have hf334 := blk_frozen BKgm.out 0; have hf335 := blk_frozen BKgm.out 1; have hf336 := blk_frozen BKgm.out 2; have hf337 := blk_frozen BKgm.out 3; have hz338 : w325.cell? ⟨gk, 0, none⟩ = some (.int .i64 a1_0) := (blk_cell BKgk.out 0).trans rfl; have hz339 : w325.cell? ⟨gk, 1, none⟩ = some (.slice A1_1 l1_1.length c1_1) := (blk_cell BKgk.out 1).trans rfl; have hz340 : w325.cell? ⟨gk, 2, none⟩ = some (.int .i64 a1_2) := (blk_cell BKgk.out 2).trans rfl; have hf341 := blk_frozen BKgk.out 0; have hf342 := blk_frozen BKgk.out 1; have hf343 := blk_frozen BKgk.out 2; have hz344 : w325.cell? ⟨gr, 0, none⟩ = some (.int .i64 0) := (blk_cell BKgr.out 0).trans rfl; have hz345 : w325.cell? ⟨gr, 1, none⟩ = some (.int .i64 0) := (blk_cell BKgr.out 1).trans rfl; have hz346 : w325.cell? ⟨gr, 2, none⟩ = some (.int .i64 0) := (blk_cell BKgr.out 2).trans rfl; have hz347 : w325.cell? ⟨gr, 3, none⟩ = some (.slice none 0 0) := (blk_cell BKgr.out 3).trans rfl; have hf348 := blk_frozen BKgr.out 0; have hf349 := blk_frozen BKgr.out 1; have hf350 := blk_frozen BKgr.out 2; have hf351 := blk_frozen BKgr.out 3))
   refine bodyPost_ret (results_cell_row rfl _ _ gr 27 #[.int .i64 0, .int .i64 0, .int .i64 0, .slice none 0 0] (0, 0) _ rfl (by exact bP BKgr.out) Try.underlying27 rfl (by kernel_rfl)) rfl ?_
   exact ⟨_, by first | rfl | (simp; done), Kd.R_nil _ _ _ _ _, by exact qW HB.out⟩
  | true =>
   rw [if_pos rfl] at H
   simp only [Option.some.injEq, Prod.mk.injEq] at H
   obtain ⟨rfl, rfl, rfl, hy⟩ := H
   have HY := aM hy
   clear hy
   have V := aM (isImage_true A0.out)
   have b0 := V.out.1
   have b1 := V.out.2.1
   have b2 := V.out.2.2.1
   have U := aM (kerOk_true (Option.some.inj A1.out))
   have u0 := U.out.1
   have u1 := U.out.2.2.1
   have u2 := U.out.2.2.2
   have HF : Aside0 (∀ x y : Int, ((convPix l0_3 a0_0 a0_1 a0_2 a1_0 l1_1 a1_2 (2 * a1_0 + 1)) x y).length ≤ 100) := ⟨fun _ _ => convPix_len _ _ _ _ _ _ _ _ _ _ (by omega) (by omega)⟩
   obtain ⟨u0a, u0b⟩ := u0
   have UL := aM u2
   clear u2
   generalize hyl : imgOf (convPix l0_3 a0_0 a0_1 a0_2 a1_0 l1_1 a1_2 (2 * a1_0 + 1)) a0_0.toNat a0_1.toNat = yl at HY
   have HYL := aM hyl
   clear hyl
   go_enter Try.func35, Try.ntmps35
   go_wp2_with (first | ((with_reducible refine gate_dst (N := 2) rfl ?_); (try (refine gate_guard (by rfl) ?_; dsimp only)); refine bxE (N := 2) (cs := #[.int .i64 a0_0, .int .i64 a0_1, .int .i64 a0_2, .slice A0_3 l0_3.length c0_3]) (t := 27) ?_; intro gm hg w352 hbox hb; have n353 := bS HB hb; have n354 := aM hbox; have n355 := aM ((by rw [hg]; exact (below_size (qW HB.out))) : w.heap.size ≤ gm); clear HB; have HB := n353; have BKgm := n354; have GEgm := n355; clear n353 n354 n355; clear hb hbox hg; have hz356 : w352.cell? ⟨gm, 0, none⟩ = some (.int .i64 a0_0) := (blk_cell BKgm.out 0).trans rfl; have hz357 : w352.cell? ⟨gm, 1, none⟩ = some (.int .i64 a0_1) := (blk_cell BKgm.out 1).trans rfl; have hz358 : w352.cell? ⟨gm, 2, none⟩ = some (.int .i64 a0_2) := (blk_cell BKgm.out 2).trans rfl; have hz359 : w352.cell? ⟨gm, 3, none⟩ = some (.slice A0_3 l0_3.length c0_3) := (blk_cell BKgm.out 3).trans rfl; have hf360 := blk_frozen BKgm.out 0; have hf361 := blk_frozen BKgm.out 1; have hf362 := blk_frozen BKgm.out 2; have hf363 := blk_frozen BKgm.out 3) | ((with_reducible refine gate_dst (N := 3) rfl ?_); (try (refine gate_guard (by rfl) ?_; dsimp only)); refine bxE (N := 3) (cs := #[.int .i64 a1_0, .slice A1_1 l1_1.length c1_1, .int .i64 a1_2]) (t := 49) ?_; intro gk hg w364 hbox hb; have n365 := bB BKgm hb; have n366 := bS HB hb; have n367 := aM hbox; have n368 := aM ((by rw [hg]; exact (below_size (qW HB.out))) : w.heap.size ≤ gk); have n369 := aM ((by rw [hg]; exact Nat.ne_of_lt (blk_lt (g := gm) (o := .cells #[.int .i64 a0_0, .int .i64 a0_1, .int .i64 a0_2, .slice A0_3 l0_3.length c0_3] 27 (0, 0)) (qB BKgm.out))) : gm ≠ gk); have n370 := aM ((by rw [hg]; exact Nat.ne_of_gt (blk_lt (g := gm) (o := .cells #[.int .i64 a0_0, .int .i64 a0_1, .int .i64 a0_2, .slice A0_3 l0_3.length c0_3] 27 (0, 0)) (qB BKgm.out))) : gk ≠ gm); clear HB BKgm; have BKgm := n365; have HB := n366; have BKgk := n367; have GEgk := n368; have NBgm_gk := n369; have NBgk_gm := n370; clear n365 n366 n367 n368 n369 n370; clear hb hbox hg; have hz371 : w364.cell? ⟨gm, 0, none⟩ = some (.int .i64 a0_0) := (blk_cell BKgm.out 0).trans rfl; have hz372 : w364.cell? ⟨gm, 1, none⟩ = some (.int .i64 a0_1) := (blk_cell BKgm.out 1).trans rfl; have hz373 : w364.cell? ⟨gm, 2, none⟩ = some (.int .i64 a0_2) := (blk_cell BKgm.out 2).trans rfl; have hz374 : w364.cell? ⟨gm, 3, none⟩ = some (.slice A0_3 l0_3.length c0_3) := (blk_cell BKgm.out 3).trans rfl; have hf375 := blk_frozen BKgm.out 0; have hf376 := blk_frozen BKgm.out 1; have hf377 := blk_frozen BKgm.out 2; have hf378 := blk_frozen BKgm.out 3; have hz379 : w364.cell? ⟨gk, 0, none⟩ = some (.int .i64 a1_0) := (blk_cell BKgk.out 0).trans rfl; have hz380 : w364.cell? ⟨gk, 1, none⟩ = some (.slice A1_1 l1_1.length c1_1) := (blk_cell BKgk.out 1).trans rfl; have hz381 : w364.cell? ⟨gk, 2, none⟩ = some (.int .i64 a1_2) := (blk_cell BKgk.out 2).trans rfl; have hf382 := blk_frozen BKgk.out 0; have hf383 := blk_frozen BKgk.out 1; have hf384 := blk_frozen BKgk.out 2) | ((with_reducible refine gate_dst (N := 4) rfl ?_); (try (refine gate_guard (by rfl) ?_; dsimp only)); refine bxE (N := 4) (cs := #[.int .i64 0, .int .i64 0, .int .i64 0, .slice none 0 0]) (t := 27) ?_; intro gr hg w385 hbox hb; have n386 := bB BKgm hb; have n387 := bB BKgk hb; have n388 := bS HB hb; have n389 := aM hbox; have n390 := aM ((by rw [hg]; exact (below_size (qW HB.out))) : w.heap.size ≤ gr); have n391 := aM ((by rw [hg]; exact Nat.ne_of_lt (blk_lt (g := gm) (o := .cells #[.int .i64 a0_0, .int .i64 a0_1, .int .i64 a0_2, .slice A0_3 l0_3.length c0_3] 27 (0, 0)) (qB BKgm.out))) : gm ≠ gr); have n392 := aM ((by rw [hg]; exact Nat.ne_of_gt (blk_lt (g := gm) (o := .cells #[.int .i64 a0_0, .int .i64 a0_1, .int .i64 a0_2, .slice A0_3 l0_3.length c0_3] 27 (0, 0)) (qB BKgm.out))) : gr ≠ gm); have n393 := aM ((by rw [hg]; exact Nat.ne_of_lt (blk_lt (g := gk) (o := .cells #[.int .i64 a1_0, .slice A1_1 l1_1.length c1_1, .int .i64 a1_2] 49 (0, 0)) (qB BKgk.out))) : gk ≠ gr); have n394 := aM ((by rw [hg]; exact Nat.ne_of_gt (blk_lt (g := gk) (o := .cells #[.int .i64 a1_0, .slice A1_1 l1_1.length c1_1, .int .i64 a1_2] 49 (0, 0)) (qB BKgk.out))) : gr ≠ gk); clear HB BKgm BKgk; have BKgm := n386; have BKgk := n387; have HB := n388; have BKgr := n389; have GEgr := n390; have NBgm_gr := n391; have NBgr_gm := n392; have NBgk_gr := n393; have NBgr_gk := n394; clear n386 n387 n388 n389 n390 n391 n392 n393 n394; clear hb hbox hg; have hz395 : w385.cell? ⟨gm, 0, none⟩ = some (.int .i64 a0_0) := (blk_cell BKgm.out 0).trans rfl; have hz396 : w385.cell? ⟨gm, 1, none⟩ = some (.int .i64 a0_1) := (blk_cell BKgm.out 1).trans rfl; have hz397 : w385.cell? ⟨gm, 2, none⟩ = some (.int .i64 a0_2) := (blk_cell BKgm.out 2).trans rfl; have hz398 : w385.cell? ⟨gm, 3, none⟩ = some (.slice A0_3 l0_3.length c0_3) := (blk_cell BKgm.out 3).trans rfl; have hf399 := blk_frozen BKgm.out 0; have hf400 := blk_frozen BKgm.out 1; have hf401 := blk_frozen BKgm.out 2; have hf402 := blk_frozen BKgm.out 3; have hz403 : w385.cell? ⟨gk, 0, none⟩ = some (.int .i64 a1_0) := (blk_cell BKgk.out 0).trans rfl; have hz404 : w385.cell? ⟨gk, 1, none⟩ = some (.slice A1_1 l1_1.length c1_1) := (blk_cell BKgk.out 1).trans rfl; have hz405 : w385.cell? ⟨gk, 2, none⟩ = some (.int .i64 a1_2) := (blk_cell BKgk.out 2).trans rfl; have hf406 := blk_frozen BKgk.out 0; have hf407 := blk_frozen BKgk.out 1; have hf408 := blk_frozen BKgk.out 2; have hz409 : w385.cell? ⟨gr, 0, none⟩ = some (.int .i64 0) := (blk_cell BKgr.out 0).trans rfl; have hz410 : w385.cell? ⟨gr, 1, none⟩ = some (.int .i64 0) := (blk_cell BKgr.out 1).trans rfl; have hz411 : w385.cell? ⟨gr, 2, none⟩ = some (.int .i64 0) := (blk_cell BKgr.out 2).trans rfl; have hz412 : w385.cell? ⟨gr, 3, none⟩ = some (.slice none 0 0) := (blk_cell BKgr.out 3).trans rfl; have hf413 := blk_frozen BKgr.out 0; have hf414 := blk_frozen BKgr.out 1; have hf415 := blk_frozen BKgr.out 2; have hf416 := blk_frozen BKgr.out 3) | (go_at_call 47; (with_reducible refine (impl_isImage.calls a0_0 a0_1 a0_2 _ _ l0_3 true _ ?side1 ?side2 A0.out).mono ?_); (case side1 => exact (Kd.C_below HR0.out (qW HB.out))); (case side2 => exact HC0.out); rintro e w417 ⟨rfl, hb⟩; have n418 := bB BKgm hb; have n419 := bB BKgk hb; have n420 := bB BKgr hb; have n421 := bS HB hb; clear HB BKgm BKgk BKgr; have BKgm := n418; have BKgk := n419; have BKgr := n420; have HB := n421; clear n418 n419 n420 n421 hb; have hz422 : w417.cell? ⟨gm, 0, none⟩ = some (.int .i64 a0_0) := (blk_cell BKgm.out 0).trans rfl; have hz423 : w417.cell? ⟨gm, 1, none⟩ = some (.int .i64 a0_1) := (blk_cell BKgm.out 1).trans rfl; have hz424 : w417.cell? ⟨gm, 2, none⟩ = some (.int .i64 a0_2) := (blk_cell BKgm.out 2).trans rfl; have hz425 : w417.cell? ⟨gm, 3, none⟩ = some (.slice A0_3 l0_3.length c0_3) := (blk_cell BKgm.out 3).trans rfl; have hf426 := blk_frozen BKgm.out 0; have hf427 := blk_frozen BKgm.out 1; have hf428 := blk_frozen BKgm.out 2; have hf429 := blk_frozen BKgm.out 3; have hz430 : w417.cell? ⟨gk, 0, none⟩ = some (.int .i64 a1_0) := (blk_cell BKgk.out 0).trans rfl; have hz431 : w417.cell? ⟨gk, 1, none⟩ = some (.slice A1_1 l1_1.length c1_1) := (blk_cell BKgk.out 1).trans rfl; have hz432 : w417.cell? ⟨gk, 2, none⟩ = some (.int .i64 a1_2) := (blk_cell BKgk.out 2).trans rfl; have hf433 := blk_frozen BKgk.out 0; have hf434 := blk_frozen BKgk.out 1; have hf435 := blk_frozen BKgk.out 2; have hz436 : w417.cell? ⟨gr, 0, none⟩ = some (.int .i64 0) := (blk_cell BKgr.out 0).trans rfl; have hz437 : w417.cell? ⟨gr, 1, none⟩ = some (.int .i64 0) := (blk_cell BKgr.out 1).trans rfl; have hz438 : w417.cell? ⟨gr, 2, none⟩ = some (.int .i64 0) := (blk_cell BKgr.out 2).trans rfl; have hz439 : w417.cell? ⟨gr, 3, none⟩ = some (.slice none 0 0) := (blk_cell BKgr.out 3).trans rfl; have hf440 := blk_frozen BKgr.out 0; have hf441 := blk_frozen BKgr.out 1; have hf442 := blk_frozen BKgr.out 2; have hf443 := blk_frozen BKgr.out 3) | (go_at_call 80; (with_reducible refine (impl_isKernel.calls a1_0 _ _ l1_1 a1_2 true _ ?side1 ?side2 A1.out).mono ?_); (case side1 => exact (Kd.C_below HR1.out (qW HB.out))); (case side2 => exact HC1.out); rintro e w444 ⟨rfl, hb⟩; have n445 := bB BKgm hb; have n446 := bB BKgk hb; have n447 := bB BKgr hb; have n448 := bS HB hb; clear HB BKgm BKgk BKgr; have BKgm := n445; have BKgk := n446; have BKgr := n447; have HB := n448; clear n445 n446 n447 n448 hb; have hz449 : w444.cell? ⟨gm, 0, none⟩ = some (.int .i64 a0_0) := (blk_cell BKgm.out 0).trans rfl; have hz450 : w444.cell? ⟨gm, 1, none⟩ = some (.int .i64 a0_1) := (blk_cell BKgm.out 1).trans rfl; have hz451 : w444.cell? ⟨gm, 2, none⟩ = some (.int .i64 a0_2) := (blk_cell BKgm.out 2).trans rfl; have hz452 : w444.cell? ⟨gm, 3, none⟩ = some (.slice A0_3 l0_3.length c0_3) := (blk_cell BKgm.out 3).trans rfl; have hf453 := blk_frozen BKgm.out 0; have hf454 := blk_frozen BKgm.out 1; have hf455 := blk_frozen BKgm.out 2; have hf456 := blk_frozen BKgm.out 3; have hz457 : w444.cell? ⟨gk, 0, none⟩ = some (.int .i64 a1_0) := (blk_cell BKgk.out 0).trans rfl; have hz458 : w444.cell? ⟨gk, 1, none⟩ = some (.slice A1_1 l1_1.length c1_1) := (blk_cell BKgk.out 1).trans rfl; have hz459 : w444.cell? ⟨gk, 2, none⟩ = some (.int .i64 a1_2) := (blk_cell BKgk.out 2).trans rfl; have hf460 := blk_frozen BKgk.out 0; have hf461 := blk_frozen BKgk.out 1; have hf462 := blk_frozen BKgk.out 2; have hz463 : w444.cell? ⟨gr, 0, none⟩ = some (.int .i64 0) := (blk_cell BKgr.out 0).trans rfl; have hz464 : w444.cell? ⟨gr, 1, none⟩ = some (.int .i64 0) := (blk_cell BKgr.out 1).trans rfl; have hz465 : w444.cell? ⟨gr, 2, none⟩ = some (.int .i64 0) := (blk_cell BKgr.out 2).trans rfl; have hz466 : w444.cell? ⟨gr, 3, none⟩ = some (.slice none 0 0) := (blk_cell BKgr.out 3).trans rfl; have hf467 := blk_frozen BKgr.out 0; have hf468 := blk_frozen BKgr.out 1; have hf469 := blk_frozen BKgr.out 2; have hf470 := blk_frozen BKgr.out 3) | ((with_reducible refine gate_dst (N := 5) rfl ?_); (try (refine gate_guard (by rfl) ?_; dsimp only)); refine bxE (N := 5) (cs := #[.int .i64 0]) (t := 3) ?_; intro gs hg w471 hbox hb; have n472 := bB BKgm hb; have n473 := bB BKgk hb; have n474 := bB BKgr hb; have n475 := bS HB hb; have n476 := aM hbox; have n477 := aM ((by rw [hg]; exact (below_size (qW HB.out))) : w.heap.size ≤ gs); have n478 := aM ((by rw [hg]; exact Nat.ne_of_lt (blk_lt (g := gm) (o := .cells #[.int .i64 a0_0, .int .i64 a0_1, .int .i64 a0_2, .slice A0_3 l0_3.length c0_3] 27 (0, 0)) (qB BKgm.out))) : gm ≠ gs); have n479 := aM ((by rw [hg]; exact Nat.ne_of_gt (blk_lt (g := gm) (o := .cells #[.int .i64 a0_0, .int .i64 a0_1, .int .i64 a0_2, .slice A0_3 l0_3.length c0_3] 27 (0, 0)) (qB BKgm.out))) : gs ≠ gm); have n480 := aM ((by rw [hg]; exact Nat.ne_of_lt (blk_lt (g := gk) (o := .cells #[.int .i64 a1_0, .slice A1_1 l1_1.length c1_1, .int .i64 a1_2] 49 (0, 0)) (qB BKgk.out))) : gk ≠ gs); have n481 := aM ((by rw [hg]; exact Nat.ne_of_gt (blk_lt (g := gk) (o := .cells #[.int .i64 a1_0, .slice A1_1 l1_1.length c1_1, .int .i64 a1_2] 49 (0, 0)) (qB BKgk.out))) : gs ≠ gk); have n482 := aM ((by rw [hg]; exact Nat.ne_of_lt (blk_lt (g := gr) (o := .cells #[.int .i64 0, .int .i64 0, .int .i64 0, .slice none 0 0] 27 (0, 0)) (qB BKgr.out))) : gr ≠ gs); have n483 := aM ((by rw [hg]; exact Nat.ne_of_gt (blk_lt (g := gr) (o := .cells #[.int .i64 0, .int .i64 0, .int .i64 0, .slice none 0 0] 27 (0, 0)) (qB BKgr.out))) : gs ≠ gr); clear HB BKgm BKgk BKgr; have BKgm := n472; have BKgk := n473; have BKgr := n474; have HB := n475; have BKgs := n476; have GEgs := n477; have NBgm_gs := n478; have NBgs_gm := n479; have NBgk_gs := n480; have NBgs_gk := n481; have NBgr_gs := n482; have NBgs_gr := n483; clear n472 n473 n474 n475 n476 n477 n478 n479 n480 n481 n482 n483; clear hb hbox hg; have hz484 : w471.cell? ⟨gm, 0, none⟩ = some (.int .i64 a0_0) := (blk_cell BKgm.out 0).trans rfl; have hz485 : w471.cell? ⟨gm, 1, none⟩ = some (.int .i64 a0_1) := (blk_cell BKgm.out 1).trans rfl; have hz486 : w471.cell? ⟨gm, 2, none⟩ = some (.int .i64 a0_2) := (blk_cell BKgm.out 2).trans rfl; have hz487 : w471.cell? ⟨gm, 3, none⟩ = some (.slice A0_3 l0_3.length c0_3) := (blk_cell BKgm.out 3).trans rfl; have hf488 := blk_frozen BKgm.out 0; have hf489 := blk_frozen BKgm.out 1; have hf490 := blk_frozen BKgm.out 2; have hf491 := blk_frozen BKgm.out 3; have hz492 : w471.cell? ⟨gk, 0, none⟩ = some (.int .i64 a1_0) := (blk_cell BKgk.out 0).trans rfl; have hz493 : w471.cell? ⟨gk, 1, none⟩ = some (.slice A1_1 l1_1.length c1_1) := (blk_cell BKgk.out 1).trans rfl; have hz494 : w471.cell? ⟨gk, 2, none⟩ = some (.int .i64 a1_2) := (blk_cell BKgk.out 2).trans rfl; have hf495 := blk_frozen BKgk.out 0; have hf496 := blk_frozen BKgk.out 1; have hf497 := blk_frozen BKgk.out 2; have hz498 : w471.cell? ⟨gr, 0, none⟩ = some (.int .i64 0) := (blk_cell BKgr.out 0).trans rfl; have hz499 : w471.cell? ⟨gr, 1, none⟩ = some (.int .i64 0) := (blk_cell BKgr.out 1).trans rfl; have hz500 : w471.cell? ⟨gr, 2, none⟩ = some (.int .i64 0) := (blk_cell BKgr.out 2).trans rfl; have hz501 : w471.cell? ⟨gr, 3, none⟩ = some (.slice none 0 0) := (blk_cell BKgr.out 3).trans rfl; have hf502 := blk_frozen BKgr.out 0; have hf503 := blk_frozen BKgr.out 1; have hf504 := blk_frozen BKgr.out 2; have hf505 := blk_frozen BKgr.out 3) | ((with_reducible refine gate_store (t := 3) (p := 5) rfl ?_); have hzs0_ : w471.cell? ⟨gs, 0, none⟩ = some (.int .i64 0) := (blk_cell BKgs.out 0).trans rfl; have hfs0_ := blk_frozen BKgs.out 0; refine store_event (t := 3) (p := 5) (v := ?vo_w508) (w1 := (w471.setCell ⟨gs, 0, none⟩ (.int .i64 (2 * a1_0 + 1)))) ?hg ?ho ?hn ?hr ?_; (case ho => rfl); (case hg => rfl); (case hn => rfl); (case hr => first | (go_simp; done) | (go_simp; rfl)); intro w508 hw; have n509 := aM (show w508.heap[gm]? = some (.cells #[.int .i64 a0_0, .int .i64 a0_1, .int .i64 a0_2, .slice A0_3 l0_3.length c0_3] 27 (0, 0)) by rw [hw]; exact blk_far (BKgm.out) NBgm_gs.out _); have n510 := aM (show w508.heap[gk]? = some (.cells #[.int .i64 a1_0, .slice A1_1 l1_1.length c1_1, .int .i64 a1_2] 49 (0, 0)) by rw [hw]; exact blk_far (BKgk.out) NBgk_gs.out _); have n511 := aM (show w508.heap[gr]? = some (.cells #[.int .i64 0, .int .i64 0, .int .i64 0, .slice none 0 0] 27 (0, 0)) by rw [hw]; exact blk_far (BKgr.out) NBgr_gs.out _); have n512 := aM (show w508.heap[gs]? = some (.cells #[.int .i64 (2 * a1_0 + 1)] 3 (0, 0)) by rw [hw]; refine blk_put (cs := #[.int .i64 0]) ?_ 0 _ rfl; exact BKgs.out); have n513 := aM (show Below w.heap.size w w508 by rw [hw]; exact below_set (HB.out) GEgs.out); clear hzs0_ hfs0_; clear HB BKgm BKgk BKgr BKgs hw; have BKgm := n509; have BKgk := n510; have BKgr := n511; have BKgs := n512; have HB := n513; clear n509 n510 n511 n512 n513; have hz514 : w508.cell? ⟨gm, 0, none⟩ = some (.int .i64 a0_0) := (blk_cell BKgm.out 0).trans rfl; have hz515 : w508.cell? ⟨gm, 1, none⟩ = some (.int .i64 a0_1) := (blk_cell BKgm.out 1).trans rfl; have hz516 : w508.cell? ⟨gm, 2, none⟩ = some (.int .i64 a0_2) := (blk_cell BKgm.out 2).trans rfl; have hz517 : w508.cell? ⟨gm, 3, none⟩ = some (.slice A0_3 l0_3.length c0_3) := (blk_cell BKgm.out 3).trans rfl; have hf518 := blk_frozen BKgm.out 0; have hf519 := blk_frozen BKgm.out 1; have hf520 := blk_frozen BKgm.out 2; have hf521 := blk_frozen BKgm.out 3; have hz522 : w508.cell? ⟨gk, 0, none⟩ = some (.int .i64 a1_0) := (blk_cell BKgk.out 0).trans rfl; have hz523 : w508.cell? ⟨gk, 1, none⟩ = some (.slice A1_1 l1_1.length c1_1) := (blk_cell BKgk.out 1).trans rfl; have hz524 : w508.cell? ⟨gk, 2, none⟩ = some (.int .i64 a1_2) := (blk_cell BKgk.out 2).trans rfl; have hf525 := blk_frozen BKgk.out 0; have hf526 := blk_frozen BKgk.out 1; have hf527 := blk_frozen BKgk.out 2; have hz528 : w508.cell? ⟨gr, 0, none⟩ = some (.int .i64 0) := (blk_cell BKgr.out 0).trans rfl; have hz529 : w508.cell? ⟨gr, 1, none⟩ = some (.int .i64 0) := (blk_cell BKgr.out 1).trans rfl; have hz530 : w508.cell? ⟨gr, 2, none⟩ = some (.int .i64 0) := (blk_cell BKgr.out 2).trans rfl; have hz531 : w508.cell? ⟨gr, 3, none⟩ = some (.slice none 0 0) := (blk_cell BKgr.out 3).trans rfl; have hf532 := blk_frozen BKgr.out 0; have hf533 := blk_frozen BKgr.out 1; have hf534 := blk_frozen BKgr.out 2; have hf535 := blk_frozen BKgr.out 3; have hz536 : w508.cell? ⟨gs, 0, none⟩ = some (.int .i64 (2 * a1_0 + 1)) := (blk_cell BKgs.out 0).trans rfl; have hf537 := blk_frozen BKgs.out 0) | (go_at_call 48; refine (impl_imageBy.calls 81 #[.pointer (some ⟨gm, 0, none⟩), .pointer (some ⟨gk, 0, none⟩), .pointer (some ⟨gs, 0, none⟩)] (enters_of Try.func81 (by kernel_rfl) rfl) _ a0_0 a0_1 a0_2 _ ?b0 ?b1 ?b2 ?b3 ?bf (convolveImagePix _ gm gk gs a0_0 a0_1 a0_2 _ _ l0_3 a1_0 _ _ l1_1 a1_2 (2 * a1_0 + 1) (qB BKgm.out) (qB BKgk.out) (qB BKgs.out) (Kd.C_below HR0.out (qW HB.out)) HC0.out (Kd.C_below HR1.out (qW HB.out)) V.out u0a u0b u1.1 u1.2 (by omega) (by omega) UL.out)).mono ?_; (case b0 => omega); (case b1 => omega); (case b2 => omega); (case b3 => omega); (case bf => exact HF.out); rintro e w538 ⟨v3, rfl, ho, hb⟩; rw [HYL.out] at ho; have HLB := aM (below_size (qW HB.out)); obtain ⟨Ao, co, eo⟩ := Kd.R_slice ho; subst eo; have HO := aM ho; clear ho; have n540 := bB BKgm hb; have n541 := bB BKgk hb; have n542 := bB BKgr hb; have n543 := bB BKgs hb; have n544 := bS HB hb; clear HB BKgm BKgk BKgr BKgs; have BKgm := n540; have BKgk := n541; have BKgr := n542; have BKgs := n543; have HB := n544; clear n540 n541 n542 n543 n544 hb; have hz545 : w538.cell? ⟨gm, 0, none⟩ = some (.int .i64 a0_0) := (blk_cell BKgm.out 0).trans rfl; have hz546 : w538.cell? ⟨gm, 1, none⟩ = some (.int .i64 a0_1) := (blk_cell BKgm.out 1).trans rfl; have hz547 : w538.cell? ⟨gm, 2, none⟩ = some (.int .i64 a0_2) := (blk_cell BKgm.out 2).trans rfl; have hz548 : w538.cell? ⟨gm, 3, none⟩ = some (.slice A0_3 l0_3.length c0_3) := (blk_cell BKgm.out 3).trans rfl; have hf549 := blk_frozen BKgm.out 0; have hf550 := blk_frozen BKgm.out 1; have hf551 := blk_frozen BKgm.out 2; have hf552 := blk_frozen BKgm.out 3; have hz553 : w538.cell? ⟨gk, 0, none⟩ = some (.int .i64 a1_0) := (blk_cell BKgk.out 0).trans rfl; have hz554 : w538.cell? ⟨gk, 1, none⟩ = some (.slice A1_1 l1_1.length c1_1) := (blk_cell BKgk.out 1).trans rfl; have hz555 : w538.cell? ⟨gk, 2, none⟩ = some (.int .i64 a1_2) := (blk_cell BKgk.out 2).trans rfl; have hf556 := blk_frozen BKgk.out 0; have hf557 := blk_frozen BKgk.out 1; have hf558 := blk_frozen BKgk.out 2; have hz559 : w538.cell? ⟨gr, 0, none⟩ = some (.int .i64 0) := (blk_cell BKgr.out 0).trans rfl; have hz560 : w538.cell? ⟨gr, 1, none⟩ = some (.int .i64 0) := (blk_cell BKgr.out 1).trans rfl; have hz561 : w538.cell? ⟨gr, 2, none⟩ = some (.int .i64 0) := (blk_cell BKgr.out 2).trans rfl; have hz562 : w538.cell? ⟨gr, 3, none⟩ = some (.slice none 0 0) := (blk_cell BKgr.out 3).trans rfl; have hf563 := blk_frozen BKgr.out 0; have hf564 := blk_frozen BKgr.out 1; have hf565 := blk_frozen BKgr.out 2; have hf566 := blk_frozen BKgr.out 3; have hz567 : w538.cell? ⟨gs, 0, none⟩ = some (.int .i64 (2 * a1_0 + 1)) := (blk_cell BKgs.out 0).trans rfl; have hf568 := blk_frozen BKgs.out 0))
   refine bodyPost_ret (results_cell_row rfl _ _ gr 27 #[.int .i64 a0_0, .int .i64 a0_1, .int .i64 a0_2, .slice Ao yl.length co] (0, 0) _ rfl (by exact bP BKgr.out) Try.underlying27 rfl (by kernel_rfl)) rfl ?_
   exact ⟨_, by first | rfl | (simp; done), by rw [← HY.out]; refine qR ?_; exact Kd.R_mono (Kd.R_far (p := ⟨gr, 3, none⟩) (Kd.R_far (p := ⟨gr, 2, none⟩) (Kd.R_far (p := ⟨gr, 1, none⟩) (Kd.R_far (p := ⟨gr, 0, none⟩) (Kd.R_types (Kd.R_lower HO.out HLB.out) BKgr.out (by decide)) (fun _ hk => hk.2) _) (fun _ hk => hk.2) _) (fun _ hk => hk.2) _) (fun _ hk => hk.2) _) (fun _ hk => trivial), by exact qW HB.out⟩
def spec_copyInts.f (l0 : List Int) : Option (List Int) := (some (([] : List Int) : List Int)).bind fun y307 => (if y307.length + l0.length < 17592186044416 then (some (y307 ++ l0)) else (none))
set_option maxHeartbeats 8000000 in
set_option maxRecDepth 100000 in
theorem spec_copyInts.calls (A0 : Option Addr) (c0 : Nat) (l0 : List Int) (r : List Int) (w : World) (hr0 : Kd.C (Kd.int .i64) w A0 l0.length l0) (hc0 : l0.length ≤ c0) (h : spec_copyInts.f l0 = some r) :
  Calls Try.prog 94 #[.slice A0 l0.length c0] w fun e w' => ∃ v0_ : Value, e = .returned (v0_) ∧ Kd.R (Kd.int .i64) 3 w' w.heap.size (fun _ => True) v0_ r ∧ Below w.heap.size w w' := by
 have HR0 := aM hr0
 have HC0 := aM hc0
 clear hr0 hc0
 have HB := aM (Below.refl w.heap.size w)
 unfold spec_copyInts.f at h
 have H := h
 clear h
 obtain ⟨y307, hy307⟩ : ∃ y_ : List Int, y_ = (([] : List Int)) := ⟨_, rfl⟩
 replace H : (if y307.length + l0.length < 17592186044416 then (some (y307 ++ l0)) else (none)) = some r := rY hy307 H
 have Ny307 := aM hy307
 clear hy307
 replace H := iS H
 obtain ⟨c2, H⟩ := H
 have LMc2 := aM c2
 clear c2
 obtain ⟨y310, hy310⟩ : ∃ y_ : List Int, y_ = (y307 ++ l0) := ⟨_, rfl⟩
 replace H : (some y310) = some r := rY hy310 H
 have Ny310 := aM hy310
 clear hy310
 obtain rfl := Option.some.inj H
 go_enter Try.func94, Try.ntmps94
 go_wp2_with (first | ((with_reducible refine gate_dst (N := 3) rfl ?_); refine iL ([] : List Int) [] ?_; intro v308 w3 ho4 hb hg_ hnew_; clear hg_ hnew_; (first | rw [← Ny307.out] at ho4 | (simp only [Int.reduceToNat] at ho4; rw [← Ny307.out] at ho4)); have HO309 := oR ho4 HB; replace HB := bS HB hb; clear hb ho4) | ((with_reducible refine gate_builtin (b := .append) (xs := #[.tmp 3, .tmp 4]) rfl ?_); at_builtin; refine Kd.R_append_rows (Kd.int .i64) (w0 := w) w.heap.size rfl (.tmp 3) (.tmp 4) 25 3 (.int .i64 0) 8 rfl Try.underlying25 info3 rfl (by decide) (by omega) v308 y307 l0 _ _ _ (fun _ => True) (fun _ => False) rfl rfl ?aO ?aR (fun _ _ h => h) (fun _ h => h.elim) ?aF ?aB ?aS ?aL ?_; (case aR => exact qC (Kd.C_below HR0.out HB.out)); (case aB => exact (qW HB.out)); (case aF => exact (fun _ _ => trivial)); (case aO => exact (qR HO309.out)); (case aS => exact (below_size (qW HB.out))); (case aL => have := LMc2.out; omega); intro v311 w5 ho hb hg hat; rw [← Ny310.out] at ho; replace HB := aM (hb); have HO312 := aM (ho); clear HO309; clear ho hb hg hat))
 go_ret
 exact ⟨_, qX, by refine qR ?_; exact HO312.out, by exact qW HB.out⟩
def spec_floorDiv.f (a0 : Int) (a1 : Int) : Option (Int) := if a1 = 0 then (none) else (if (Int.tmod a0 a1) < 0 then (some (wrap64 ((wrap64 (Int.tdiv a0 a1)) - 1))) else (some (wrap64 (Int.tdiv a0 a1))))
set_option maxHeartbeats 8000000 in
set_option maxRecDepth 100000 in
theorem spec_floorDiv.calls (a0 : Int) (a1 : Int) (r : Int) (w : World) (h : spec_floorDiv.f a0 a1 = some r) :
  Calls Try.prog 70 #[.int .i64 a0, .int .i64 a1] w fun e w' => e = .returned (.int .i64 r) ∧ Drawn0 w w' := by
 unfold spec_floorDiv.f at h
 have H := h
 clear h
 by_cases c3 : a1 = 0
 ·rw [if_pos c3] at H
  exact absurd H (by simp)
 rw [if_neg c3] at H
 have c3b0 : (a1 == 0) = false := beq_eq_false_iff_ne.mpr c3
 have c3b1 : (a1 != 0) = true := bne_iff_ne.mpr c3
 by_cases c4 : (Int.tmod a0 a1) < 0
 ·rw [if_pos c4] at H
  have c4b0 : decide ((Int.tmod a0 a1) < 0) = true := decide_eq_true c4
  clear c4
  obtain rfl := Option.some.inj H
  go_enter Try.func70, Try.ntmps70
  go_wp2
  go_ret
  exact ⟨qE, qD⟩
 rw [if_neg c4] at H
 have c4b0 : decide ((Int.tmod a0 a1) < 0) = false := decide_eq_false c4
 clear c4
 obtain rfl := Option.some.inj H
 go_enter Try.func70, Try.ntmps70
 go_wp2
 go_ret
 exact ⟨qE, qD⟩
def spec_copyImage.f (a0_0 : Int) (a0_1 : Int) (a0_2 : Int) (l0_3 : List Int) : Option (Int × Int × Int × List Int) := (spec_copyInts.f l0_3).bind fun t315 => (some (a0_0, a0_1, a0_2, t315))
def spec_copyImage.T1 : Bool × List (List Nat × List Nat) := (true, [([], []), ([0], [0]), ([], []), ([2], [2]), ([], []), ([4], [4]), ([], []), ([6], [6]), ([7], [7]), ([1, 3, 5, 8], [1, 3, 5, 8]), ([9, 8, 0, 1, 2, 3, 4, 5, 6, 7, 8, 9], [9])])
def spec_copyImage.B1 : List Nat := [0, 1, 0, 4, 0, 16, 0, 64, 192, 511, 1023]
theorem spec_copyImage.tab1 : rtab .any (opsOf Try.f58 1) = spec_copyImage.T1 := by kernel_rfl
theorem spec_copyImage.bits1 : waitsOk spec_copyImage.T1.2 spec_copyImage.B1 = true := by kernel_rfl
set_option maxHeartbeats 8000000 in
set_option maxRecDepth 100000 in
theorem spec_copyImage.calls (a0_0 : Int) (a0_1 : Int) (a0_2 : Int) (A0_3 : Option Addr) (c0_3 : Nat) (l0_3 : List Int) (r1 : Int) (r2 : Int) (r3 : Int) (r4 : List Int) (w : World) (hr0_3 : Kd.C (Kd.int .i64) w A0_3 l0_3.length l0_3) (hc0_3 : l0_3.length ≤ c0_3) (h : spec_copyImage.f a0_0 a0_1 a0_2 l0_3 = some (r1, r2, r3, r4)) :
  Calls Try.prog 58 #[.agg #[.int .i64 a0_0, .int .i64 a0_1, .int .i64 a0_2, .slice A0_3 l0_3.length c0_3]] w fun e w' => ∃ v3_ : Value, e = .returned (.agg #[.int .i64 r1, .int .i64 r2, .int .i64 r3, v3_]) ∧ Kd.R (Kd.int .i64) 3 w' w.heap.size (fun _ => True) v3_ r4 ∧ Below w.heap.size w w' := by
 have hu27 := Try.underlying27
 have HR0_3 := aM hr0_3
 have HC0_3 := aM hc0_3
 clear hr0_3 hc0_3
 have HB := aM (Below.refl w.heap.size w)
 unfold spec_copyImage.f at h
 have H := h
 clear h
 replace H := Option.bind_eq_some_iff.mp H
 obtain ⟨t315, A20, H⟩ := H
 replace H : (some (a0_0, a0_1, a0_2, t315)) = some (r1, r2, r3, r4) := H
 have A2 := aM A20
 clear A20
 simp only [Option.some.injEq, Prod.mk.injEq] at H
 obtain ⟨rfl, rfl, rfl, rfl⟩ := H
 go_enter Try.func58, Try.ntmps58
 try go_wp2_with (first | ((with_reducible refine gate_dst (N := 1) rfl ?_); refine bxE (N := 1) (cs := #[.int .i64 a0_0, .int .i64 a0_1, .int .i64 a0_2, .slice A0_3 l0_3.length c0_3]) (t := 27) ?_; intro gb313 hg w3 hbox hb; have BK313 := aM (hbox); have GW313 := gW hg HB; have GE313 := gW hg HB; replace HB := bS HB hb; clear hb hbox hg) | ((with_reducible refine gate_dst (N := 2) rfl ?_); refine bxE (N := 2) (cs := #[.int .i64 0, .int .i64 0, .int .i64 0, .slice none 0 0]) (t := 27) ?_; intro gb314 hg w4 hbox hb; have BK314 := aM (hbox); have GW314 := gW hg HB; have GE314 := gW hg HB; replace HB := bS HB hb; have NB313_314 := nL hg BK313; have NB314_313 := nG hg BK313; replace BK313 := bB BK313 hb; clear hb hbox hg))
 replace BK313 := aM (blk_drew BK313.out)
 replace BK314 := aM (blk_drew BK314.out)
 replace HB := aM (below_drew1 HB.out)
 refine start_ (n := 11) (S := fun w' => w'.cell? ⟨gb313, 0, none⟩ = some (.int .i64 a0_0) ∧ w'.cell? ⟨gb313, 1, none⟩ = some (.int .i64 a0_1) ∧ w'.cell? ⟨gb313, 2, none⟩ = some (.int .i64 a0_2) ∧ w'.cell? ⟨gb313, 3, none⟩ = some (.slice A0_3 l0_3.length c0_3)) (ds := []) (bA 11 0) (by kernel_rfl) rfl rfl ⟨(blk_cell BK313.out 0).trans rfl, (blk_cell BK313.out 1).trans rfl, (blk_cell BK313.out 2).trans rfl, (blk_cell BK313.out 3).trans rfl⟩ (fun hHeld => ?_); refine with_tabW spec_copyImage.tab1 spec_copyImage.bits1 (fun HT_ HW_ => ?_)
 generalize w4.drew = w5 at BK313 BK314 HB hHeld ⊢
 refine pQ 0 3 HT_ (bA 11 1) ?_
 refine pQ 2 5 HT_ (bA 11 5) ?_
 refine pQ 4 7 HT_ (bA 11 21) ?_
 refine pQ 6 9 HT_ (bA 11 85) ?_
 refine take_ (i := 1) (N := some 4) (v := ?_) (a' := ?_) (bA 11 87) rfl rfl (take_ofW HT_.out HW_.out (by kernel_rfl)) (fun _ _ _ h => h) (Or.inl ⟨by rfl, ?_⟩) hHeld ?_ ?_
 rotate_left
 ·rintro w' ⟨s0, s1, s2, s3⟩
  go_simp
  with_reducible rfl
 rotate_left
 ·refine pZ ?_
  rfl
 refine take_ (i := 3) (N := some 6) (v := ?_) (a' := ?_) (bA 11 95) rfl rfl (take_ofW HT_.out HW_.out (by kernel_rfl)) (fun _ _ _ h => h) (Or.inl ⟨by rfl, ?_⟩) hHeld ?_ ?_
 rotate_left
 ·rintro w' ⟨s0, s1, s2, s3⟩
  go_simp
  with_reducible rfl
 rotate_left
 ·refine pZ ?_
  rfl
 refine take_ (i := 5) (N := some 8) (v := ?_) (a' := ?_) (bA 11 127) rfl rfl (take_ofW HT_.out HW_.out (by kernel_rfl)) (fun _ _ _ h => h) (Or.inl ⟨by rfl, ?_⟩) hHeld ?_ ?_
 rotate_left
 ·rintro w' ⟨s0, s1, s2, s3⟩
  go_simp
  with_reducible rfl
 rotate_left
 ·refine pZ ?_
  rfl
 refine take_ (i := 7) (N := some 10) (v := ?_) (a' := ?_) (bA 11 255) rfl rfl (take_ofW HT_.out HW_.out (by kernel_rfl)) (fun _ _ _ h => h) (Or.inl ⟨by rfl, ?_⟩) hHeld ?_ ?_
 rotate_left
 ·rintro w' ⟨s0, s1, s2, s3⟩
  go_simp
  with_reducible rfl
 rotate_left
 ·refine pZ ?_
  rfl
 refine one_ (i := 8) (N := some 11) (bA 11 511) rfl rfl (one_of HT_.out (by kernel_rfl)) (by decide) (fun K hK => ?_)
 refine goes_ Try.func94 (by kernel_rfl) rfl #[.slice A0_3 l0_3.length c0_3] (by rfl) rfl rfl qM ?_
 with_reducible refine (spec_copyInts.calls _ _ l0_3 t315 _ ?side1 ?side2 A2.out).mono ?_
 (case side1 => exact qC (Kd.C_below HR0_3.out HB.out))
 (case side2 => exact HC0_3.out)
 rintro e w6 ⟨v316, rfl, ho0, hb⟩
 refine ⟨_, rfl, ?_⟩
 have HO317 := oR ho0 HB
 replace BK313 := bB BK313 hb
 replace BK314 := bB BK314 hb
 replace HB := bS HB hb
 (try clear hb)
 (try clear hb2)
 (try clear hk)
 (try clear hi)
 (try clear ho0)
 obtain ⟨Ao7, co7, eo7⟩ := Kd.R_slice HO317.out
 (first | subst eo7 | (injection eo7 with f1_ f2_ f3_; have f4_ := f1_.symm; have f5_ := f3_.symm; clear f1_ f2_ f3_; subst f4_; subst f5_))
 refine hK.out _ _ ⟨(blk_cell BK313.out 0).trans rfl, (blk_cell BK313.out 1).trans rfl, (blk_cell BK313.out 2).trans rfl, (blk_cell BK313.out 3).trans rfl⟩ (fun hHeld => ?_)
 clear hK K
 refine norm_ (a' := ?_) ?_ ?_
 rotate_left
 ·show Act.put _ (some 11) _ = _
  refine pZ ?_
  rfl
 refine pQ 9 12 HT_ (bA 11 1023) ?_
 refine one_ (i := 10) (N := none) (bA 11 2047) rfl rfl (one_of HT_.out (by kernel_rfl)) (by decide) (fun K hK => ?_)
 have hs8 : w6.cell? ⟨gb314, 0, none⟩ = some (.int .i64 0) := (blk_cell BK314.out 0).trans rfl
 have hfs8 := blk_frozen BK314.out 0
 have hns8_0 := NB313_314.out
 have hms8_0 := NB314_313.out
 have hs9 : w6.cell? ⟨gb314, 1, none⟩ = some (.int .i64 0) := (blk_cell BK314.out 1).trans rfl
 have hfs9 := blk_frozen BK314.out 1
 have hns9_0 := NB313_314.out
 have hms9_0 := NB314_313.out
 have hs10 : w6.cell? ⟨gb314, 2, none⟩ = some (.int .i64 0) := (blk_cell BK314.out 2).trans rfl
 have hfs10 := blk_frozen BK314.out 2
 have hns10_0 := NB313_314.out
 have hms10_0 := NB314_313.out
 have hs11 : w6.cell? ⟨gb314, 3, none⟩ = some (.slice none 0 0) := (blk_cell BK314.out 3).trans rfl
 have hfs11 := blk_frozen BK314.out 3
 have hns11_0 := NB313_314.out
 have hms11_0 := NB314_313.out
 refine skip_ (w1 := ?_) (by rfl) rfl ?_ ?_
 rotate_left
 ·go_simp
  rfl
 refine hK.out _ _ ⟨((cell_far (p := ⟨gb314, _, none⟩) NB313_314.out _).trans (((cell_far (p := ⟨gb314, _, none⟩) NB313_314.out _).trans (((cell_far (p := ⟨gb314, _, none⟩) NB313_314.out _).trans (((cell_far (p := ⟨gb314, _, none⟩) NB313_314.out _).trans (hHeld.1)))))))), ((cell_far (p := ⟨gb314, _, none⟩) NB313_314.out _).trans (((cell_far (p := ⟨gb314, _, none⟩) NB313_314.out _).trans (((cell_far (p := ⟨gb314, _, none⟩) NB313_314.out _).trans (((cell_far (p := ⟨gb314, _, none⟩) NB313_314.out _).trans (hHeld.2.1)))))))), ((cell_far (p := ⟨gb314, _, none⟩) NB313_314.out _).trans (((cell_far (p := ⟨gb314, _, none⟩) NB313_314.out _).trans (((cell_far (p := ⟨gb314, _, none⟩) NB313_314.out _).trans (((cell_far (p := ⟨gb314, _, none⟩) NB313_314.out _).trans (hHeld.2.2.1)))))))), ((cell_far (p := ⟨gb314, _, none⟩) NB313_314.out _).trans (((cell_far (p := ⟨gb314, _, none⟩) NB313_314.out _).trans (((cell_far (p := ⟨gb314, _, none⟩) NB313_314.out _).trans (((cell_far (p := ⟨gb314, _, none⟩) NB313_314.out _).trans (hHeld.2.2.2))))))))⟩ (fun hHeld => ?_)
 clear hK K
 refine done_ (done_of HT_.out (by kernel_rfl)) ?_
 try go_wp2
 refine bodyPost_ret (results_cell_row rfl _ _ gb314 27 #[.int .i64 a0_0, .int .i64 a0_1, .int .i64 a0_2, .slice Ao7 t315.length co7] (0, 0) _ rfl (by exact bP BK314.out) Try.underlying27 rfl (by kernel_rfl)) rfl ?_
 exact ⟨_, qX, by refine qR ?_; exact Kd.R_mono (rT HO317 BK314) (fun _ hk => trivial), by exact qW HB.out⟩
def spec_validKernel.f (k : Nat) (a0_0 : Int) (l0_1 : List Int) (a0_2 : Int) : Option (Bool) := (spec_inRange.f a0_0 0 2).bind fun t617 => (if t617 = true then (if (l0_1.length : Int) = (wrap64 ((wrap64 ((wrap64 (2 * a0_0)) + 1)) * (wrap64 ((wrap64 (2 * a0_0)) + 1)))) then ((spec_allIn.f k l0_1 (-99) 99).bind fun t618 => (if t618 = true then ((spec_inRange.f a0_2 1 999).bind fun t619 => (some t619)) else (some false))) else (some false)) else (some false))
theorem spec_validKernel.mono : ∀ a0 a1 a2 k, LeO (spec_validKernel.f k a0 a1 a2) (spec_validKernel.f (k + 1) a0 a1 a2) := by
 intro a0 a1 a2 k
 unfold spec_validKernel.f
 repeat' first | (with_reducible first | exact spec_allIn.mono _ _ _ _ | exact lR | exact lN | refine lI ?_ ?_ | refine lB ?_ fun _ => ?_) | exact spec_allIn.mono _ _ _ _ | exact lN | refine lI ?_ ?_ | refine lB ?_ fun _ => ?_
set_option maxHeartbeats 8000000 in
set_option maxRecDepth 100000 in
theorem spec_validKernel.calls (k : Nat) (a0_0 : Int) (A0_1 : Option Addr) (c0_1 : Nat) (l0_1 : List Int) (a0_2 : Int) (r : Bool) (w : World) (hr0_1 : Kd.C (Kd.int .i64) w A0_1 l0_1.length l0_1) (hc0_1 : l0_1.length ≤ c0_1) (h : spec_validKernel.f k a0_0 l0_1 a0_2 = some r) :
  Calls Try.prog 78 #[.agg #[.int .i64 a0_0, .slice A0_1 l0_1.length c0_1, .int .i64 a0_2]] w fun e w' => e = .returned (.bool r) ∧ Below w.heap.size w w' := by
 have hu49 := Try.underlying49
 have HR0_1 := aM hr0_1
 have HC0_1 := aM hc0_1
 clear hr0_1 hc0_1
 have HB := aM (Below.refl w.heap.size w)
 unfold spec_validKernel.f at h
 have H := h
 clear h
 replace H := Option.bind_eq_some_iff.mp H
 obtain ⟨t617, A20, H⟩ := H
 replace H : (if t617 = true then (if (l0_1.length : Int) = (wrap64 ((wrap64 ((wrap64 (2 * a0_0)) + 1)) * (wrap64 ((wrap64 (2 * a0_0)) + 1)))) then ((spec_allIn.f k l0_1 (-99) 99).bind fun t618 => (if t618 = true then ((spec_inRange.f a0_2 1 999).bind fun t619 => (some t619)) else (some false))) else (some false)) else (some false)) = some r := H
 have A2 := aM A20
 clear A20
 by_cases c3 : t617 = true
 rotate_left
 ·replace c3 := Bool.eq_false_iff.mpr c3
  subst c3
  have H1 : (some false) = some r := by rw [if_neg (show ¬ (false = true) by decide)] at H; exact H
  clear H
  have H := H1
  clear H1
  obtain rfl := Option.some.inj H
  go_enter Try.func78, Try.ntmps78
  go_wp2_with (first | ((with_reducible refine gate_dst (N := 1) rfl ?_); (try (refine gate_guard (by rfl) ?_; dsimp only)); refine bxE (N := 1) (cs := #[.int .i64 a0_0, .slice A0_1 l0_1.length c0_1, .int .i64 a0_2]) (t := 49) ?_; intro gb616 hg w14 hbox hb; have BK616 := aM (hbox); have GW616 := gW hg HB; have GE616 := gW hg HB; replace HB := bS HB hb; clear hb hbox hg; obtain ⟨⟨hcz15_0, hcz15_1, hcz15_2⟩, hfz15_0, hfz15_1, hfz15_2⟩ := cf3 BK616) | ((with_reducible refine gate_callee (f := 51) rfl ?_); refine gL (some 5) Try.func51 #[.int .i64 a0_0, .int .i64 0, .int .i64 2] ?_; (with_reducible refine (spec_inRange.calls a0_0 0 2 false _ A2.out).mono ?_); rintro e w' ⟨rfl, ⟨nd, rfl⟩⟩; refine ⟨_, rfl, ?_⟩))
  go_ret
  exact ⟨qX, by exact qW HB.out⟩
 subst c3
 have H1 : (if (l0_1.length : Int) = (wrap64 ((wrap64 ((wrap64 (2 * a0_0)) + 1)) * (wrap64 ((wrap64 (2 * a0_0)) + 1)))) then ((spec_allIn.f k l0_1 (-99) 99).bind fun t618 => (if t618 = true then ((spec_inRange.f a0_2 1 999).bind fun t619 => (some t619)) else (some false))) else (some false)) = some r := by rw [if_pos rfl] at H; exact H
 clear H
 have H := H1
 clear H1
 by_cases c4 : (l0_1.length : Int) = (wrap64 ((wrap64 ((wrap64 (2 * a0_0)) + 1)) * (wrap64 ((wrap64 (2 * a0_0)) + 1))))
 rotate_left
 ·rw [if_neg c4] at H
  have c4b0 : ((l0_1.length : Int) == (wrap64 ((wrap64 ((wrap64 (2 * a0_0)) + 1)) * (wrap64 ((wrap64 (2 * a0_0)) + 1))))) = false := beq_eq_false_iff_ne.mpr c4
  have c4b1 : ((l0_1.length : Int) != (wrap64 ((wrap64 ((wrap64 (2 * a0_0)) + 1)) * (wrap64 ((wrap64 (2 * a0_0)) + 1))))) = true := bne_iff_ne.mpr c4
  obtain rfl := Option.some.inj H
  go_enter Try.func78, Try.ntmps78
  go_wp2_with (first | ((with_reducible refine gate_dst (N := 1) rfl ?_); (try (refine gate_guard (by rfl) ?_; dsimp only)); refine bxE (N := 1) (cs := #[.int .i64 a0_0, .slice A0_1 l0_1.length c0_1, .int .i64 a0_2]) (t := 49) ?_; intro gb616 hg w12 hbox hb; have BK616 := aM (hbox); have GW616 := gW hg HB; have GE616 := gW hg HB; replace HB := bS HB hb; clear hb hbox hg; obtain ⟨⟨hcz13_0, hcz13_1, hcz13_2⟩, hfz13_0, hfz13_1, hfz13_2⟩ := cf3 BK616) | ((with_reducible refine gate_callee (f := 51) rfl ?_); refine gL (some 5) Try.func51 #[.int .i64 a0_0, .int .i64 0, .int .i64 2] ?_; (with_reducible refine (spec_inRange.calls a0_0 0 2 true _ A2.out).mono ?_); rintro e w' ⟨rfl, ⟨nd, rfl⟩⟩; refine ⟨_, rfl, ?_⟩))
  go_ret
  exact ⟨qX, by exact qW HB.out⟩
 rw [if_pos c4] at H
 have c4b0 : ((l0_1.length : Int) == (wrap64 ((wrap64 ((wrap64 (2 * a0_0)) + 1)) * (wrap64 ((wrap64 (2 * a0_0)) + 1))))) = true := beq_iff_eq.mpr c4
 have c4b1 : ((l0_1.length : Int) != (wrap64 ((wrap64 ((wrap64 (2 * a0_0)) + 1)) * (wrap64 ((wrap64 (2 * a0_0)) + 1))))) = false := bne_eq_false_iff_eq.mpr c4
 clear c4
 replace H := Option.bind_eq_some_iff.mp H
 obtain ⟨t618, A50, H⟩ := H
 replace H : (if t618 = true then ((spec_inRange.f a0_2 1 999).bind fun t619 => (some t619)) else (some false)) = some r := H
 have A5 := aM A50
 clear A50
 by_cases c6 : t618 = true
 rotate_left
 ·replace c6 := Bool.eq_false_iff.mpr c6
  subst c6
  have H1 : (some false) = some r := by rw [if_neg (show ¬ (false = true) by decide)] at H; exact H
  clear H
  have H := H1
  clear H1
  obtain rfl := Option.some.inj H
  go_enter Try.func78, Try.ntmps78
  go_wp2_with (first | ((with_reducible refine gate_dst (N := 1) rfl ?_); (try (refine gate_guard (by rfl) ?_; dsimp only)); refine bxE (N := 1) (cs := #[.int .i64 a0_0, .slice A0_1 l0_1.length c0_1, .int .i64 a0_2]) (t := 49) ?_; intro gb616 hg w10 hbox hb; have BK616 := aM (hbox); have GW616 := gW hg HB; have GE616 := gW hg HB; replace HB := bS HB hb; clear hb hbox hg; obtain ⟨⟨hcz11_0, hcz11_1, hcz11_2⟩, hfz11_0, hfz11_1, hfz11_2⟩ := cf3 BK616) | ((with_reducible refine gate_callee (f := 51) rfl ?_); refine gL (some 5) Try.func51 #[.int .i64 a0_0, .int .i64 0, .int .i64 2] ?_; (with_reducible refine (spec_inRange.calls a0_0 0 2 true _ A2.out).mono ?_); rintro e w' ⟨rfl, ⟨nd, rfl⟩⟩; refine ⟨_, rfl, ?_⟩) | (go_at_call 93; (with_reducible refine (spec_allIn.calls k _ _ l0_1 (-99) 99 false _ ?side1 ?side2 A5.out).mono ?_); (case side1 => exact qC (Kd.C_below HR0_1.out (qW HB.out))); (case side2 => exact HC0_1.out); rintro e w' ⟨rfl, ⟨nd, rfl⟩⟩))
  go_ret
  exact ⟨qX, by exact qW HB.out⟩
 subst c6
 have H1 : ((spec_inRange.f a0_2 1 999).bind fun t619 => (some t619)) = some r := by rw [if_pos rfl] at H; exact H
 clear H
 have H := H1
 clear H1
 replace H := Option.bind_eq_some_iff.mp H
 obtain ⟨t619, A70, H⟩ := H
 replace H : (some t619) = some r := H
 have A7 := aM A70
 clear A70
 obtain rfl := Option.some.inj H
 go_enter Try.func78, Try.ntmps78
 go_wp2_with (first | ((with_reducible refine gate_dst (N := 1) rfl ?_); (try (refine gate_guard (by rfl) ?_; dsimp only)); refine bxE (N := 1) (cs := #[.int .i64 a0_0, .slice A0_1 l0_1.length c0_1, .int .i64 a0_2]) (t := 49) ?_; intro gb616 hg w8 hbox hb; have BK616 := aM (hbox); have GW616 := gW hg HB; have GE616 := gW hg HB; replace HB := bS HB hb; clear hb hbox hg; obtain ⟨⟨hcz9_0, hcz9_1, hcz9_2⟩, hfz9_0, hfz9_1, hfz9_2⟩ := cf3 BK616) | ((with_reducible refine gate_callee (f := 51) rfl ?_); refine gL (some 5) Try.func51 #[.int .i64 a0_0, .int .i64 0, .int .i64 2] ?_; (with_reducible refine (spec_inRange.calls a0_0 0 2 true _ A2.out).mono ?_); rintro e w' ⟨rfl, ⟨nd, rfl⟩⟩; refine ⟨_, rfl, ?_⟩) | (go_at_call 93; (with_reducible refine (spec_allIn.calls k _ _ l0_1 (-99) 99 true _ ?side1 ?side2 A5.out).mono ?_); (case side1 => exact qC (Kd.C_below HR0_1.out (qW HB.out))); (case side2 => exact HC0_1.out); rintro e w' ⟨rfl, ⟨nd, rfl⟩⟩) | (go_at_call 51; (with_reducible refine (spec_inRange.calls a0_2 1 999 t619 _ A7.out).mono ?_); rintro e w' ⟨rfl, ⟨nd, rfl⟩⟩))
 go_ret
 exact ⟨qX, by exact qW HB.out⟩
end Go.Proofs.Yteeeedmmcdlhjaa.P
