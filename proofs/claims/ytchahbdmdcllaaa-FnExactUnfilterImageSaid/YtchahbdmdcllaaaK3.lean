/- Contracts and row, written by a program of this place out of the translation: the call answers true and its argument reads as before, for every input; no condition. -/
import Derived.Test.YtchahbdmdcllaaaK0
import Derived.Test.YtchahbdmdcllaaaK1
import Derived.Test.YtchahbdmdcllaaaK2
namespace Go.Proofs.Ytchahbdmdcllaaa.P
open Go.RowKit Go.Proofs.YtchahbdmdcllaaaW.PrintWords Go.Proofs.YtchahbdmdcllaaaW.PrintLast Go.Proofs.YtchahbdmdcllaaaW.PrintMore
attribute [local go_sem] max2_int min2_int max_two min_two max_three min_three max_four min_four   -- for this text's walks alone
set_option linter.unusedVariables false
set_option linter.unusedSimpArgs false

/-! ### laws_eqImage: function 15 -/
def laws_eqImage.f (k : Nat) (a0_0 : Int) (a0_1 : Int) (a0_2 : Int) (l0_3 : List Int) (a1_0 : Int) (a1_1 : Int) (a1_2 : Int) (l1_3 : List Int) : Option (Bool) := if a0_0 = a1_0 then (if a0_1 = a1_1 then (if a0_2 = a1_2 then ((laws_eqIntS.f k l0_3 l1_3).bind fun t524 => (if t524 = true then (some true) else (some false))) else (some false)) else (some false)) else (some false)
theorem laws_eqImage.mono : ∀ a0 a1 a2 a3 a4 a5 a6 a7 k, LeO (laws_eqImage.f k a0 a1 a2 a3 a4 a5 a6 a7) (laws_eqImage.f (k + 1) a0 a1 a2 a3 a4 a5 a6 a7) := by
 intro a0 a1 a2 a3 a4 a5 a6 a7 k
 unfold laws_eqImage.f
 repeat' first
   | (with_reducible exact laws_eqIntS.mono _ _ _)
   | (with_reducible exact LeO.refl _)
   | (with_reducible exact LeO.none _)
   | (with_reducible refine LeO.ite ?_ ?_)
   | (with_reducible refine LeO.bind ?_ (fun _ => ?_))
   | exact laws_eqIntS.mono _ _ _
   | exact LeO.none _
   | refine LeO.ite ?_ ?_
   | refine LeO.bind ?_ (fun _ => ?_)
set_option maxHeartbeats 8000000 in
set_option maxRecDepth 100000 in
theorem laws_eqImage.calls (k : Nat) (a0_0 : Int) (a0_1 : Int) (a0_2 : Int) (A0_3 : Option Addr) (c0_3 : Nat) (l0_3 : List Int) (a1_0 : Int) (a1_1 : Int) (a1_2 : Int) (A1_3 : Option Addr) (c1_3 : Nat) (l1_3 : List Int) (r : Bool) (w : World) (hr0_3 : Kd.C (Kd.int .i64) w A0_3 l0_3.length l0_3) (hc0_3 : l0_3.length ≤ c0_3) (hr1_3 : Kd.C (Kd.int .i64) w A1_3 l1_3.length l1_3) (hc1_3 : l1_3.length ≤ c1_3) (h : laws_eqImage.f k a0_0 a0_1 a0_2 l0_3 a1_0 a1_1 a1_2 l1_3 = some r) :
  Calls Try.prog 15 #[.agg #[.int .i64 a0_0, .int .i64 a0_1, .int .i64 a0_2, .slice A0_3 l0_3.length c0_3], .agg #[.int .i64 a1_0, .int .i64 a1_1, .int .i64 a1_2, .slice A1_3 l1_3.length c1_3]] w fun e w' => e = .returned (.bool r) ∧ Below w.heap.size w w' := by
 have hu24 := Try.underlying24
 have HR0_3 := Aside0.mk hr0_3
 have HC0_3 := Aside0.mk hc0_3
 clear hr0_3 hc0_3
 have HR1_3 := Aside0.mk hr1_3
 have HC1_3 := Aside0.mk hc1_3
 clear hr1_3 hc1_3
 have HB := Aside0.mk (Below.refl w.heap.size w)
 have H : (if a0_0 = a1_0 then (if a0_1 = a1_1 then (if a0_2 = a1_2 then ((laws_eqIntS.f k l0_3 l1_3).bind fun t524 => (if t524 = true then (some true) else (some false))) else (some false)) else (some false)) else (some false)) = some r := h
 clear h
 by_cases c3 : a0_0 = a1_0
 ·
  rw [if_pos c3] at H
  have c3b0 : (a0_0 == a1_0) = true := beq_iff_eq.mpr c3
  have c3b1 : (a0_0 != a1_0) = false := bne_eq_false_iff_eq.mpr c3
  clear c3
  by_cases c4 : a0_1 = a1_1
  ·
   rw [if_pos c4] at H
   have c4b0 : (a0_1 == a1_1) = true := beq_iff_eq.mpr c4
   have c4b1 : (a0_1 != a1_1) = false := bne_eq_false_iff_eq.mpr c4
   clear c4
   by_cases c5 : a0_2 = a1_2
   ·
    rw [if_pos c5] at H
    have c5b0 : (a0_2 == a1_2) = true := beq_iff_eq.mpr c5
    have c5b1 : (a0_2 != a1_2) = false := bne_eq_false_iff_eq.mpr c5
    clear c5
    replace H := Option.bind_eq_some_iff.mp H
    obtain ⟨t524, A60, H⟩ := H
    replace H : (if t524 = true then (some true) else (some false)) = some r := H
    have A6 := Aside0.mk A60
    clear A60
    by_cases c7 : t524 = true
    ·
     subst c7
     have H1 : (some true) = some r := by rw [if_pos rfl] at H; exact H
     clear H
     have H := H1
     clear H1
     obtain rfl := Option.some.inj H
     go_enter Try.func15, Try.ntmps15
     go_wp2_with (first | ((with_reducible refine gate_dst (N := 2) rfl ?_); refine box_event ?hg (N := 2) ?hd (cs := #[.int .i64 a0_0, .int .i64 a0_1, .int .i64 a0_2, .slice A0_3 l0_3.length c0_3]) (t := 24) ?hr ?_; (case hd => rfl); (case hg => rfl); (case hr => first | (go_simp; done) | (go_simp; rfl)); intro gb522 hg w8 hbox hb; have n0_ := Aside0.mk (below_step (by repeat (first | (with_reducible first | exact HB.out | apply below_alloc | apply pw_below_drewN | apply below_drew1) | exact HB.out)) hb); have n1_ := Aside0.mk (hbox); have n2_ := Aside0.mk ((by rw [hg]; exact (below_size (by repeat (first | (with_reducible first | exact HB.out | apply below_alloc | apply pw_below_drewN | apply below_drew1) | exact HB.out))) : w.heap.size ≤ gb522)); have n3_ := Aside0.mk ((by rw [hg]; exact (below_size (by repeat (first | (with_reducible first | exact HB.out | apply below_alloc | apply pw_below_drewN | apply below_drew1) | exact HB.out))) : w.heap.size ≤ gb522)); clear HB; have HB := n0_; have BK522 := n1_; have GW522 := n2_; have GE522 := n3_; clear n0_ n1_ n2_ n3_; clear hb hbox hg) | ((with_reducible refine gate_dst (N := 3) rfl ?_); refine box_event ?hg (N := 3) ?hd (cs := #[.int .i64 a1_0, .int .i64 a1_1, .int .i64 a1_2, .slice A1_3 l1_3.length c1_3]) (t := 24) ?hr ?_; (case hd => rfl); (case hg => rfl); (case hr => first | (go_simp; done) | (go_simp; rfl)); intro gb523 hg w9 hbox hb; have n0_ := Aside0.mk (blk_below (g := gb522) (o := .cells #[.int .i64 a0_0, .int .i64 a0_1, .int .i64 a0_2, .slice A0_3 l0_3.length c0_3] 24 (0, 0)) (by (with_reducible repeat (first | refine blk_drewN ?_ _ | refine blk_drew ?_ | refine blk_alloc ?_ _)); exact BK522.out) hb); have n1_ := Aside0.mk (below_step (by repeat (first | (with_reducible first | exact HB.out | apply below_alloc | apply pw_below_drewN | apply below_drew1 | refine below_set ?_ GE522.out) | exact HB.out)) hb); have n2_ := Aside0.mk (hbox); have n3_ := Aside0.mk ((by rw [hg]; exact (below_size (by repeat (first | (with_reducible first | exact HB.out | apply below_alloc | apply pw_below_drewN | apply below_drew1 | refine below_set ?_ GE522.out) | exact HB.out))) : w.heap.size ≤ gb523)); have n4_ := Aside0.mk ((by rw [hg]; exact (below_size (by repeat (first | (with_reducible first | exact HB.out | apply below_alloc | apply pw_below_drewN | apply below_drew1 | refine below_set ?_ GE522.out) | exact HB.out))) : w.heap.size ≤ gb523)); have n5_ := Aside0.mk ((by rw [hg]; exact Nat.ne_of_lt (blk_lt (g := gb522) (o := .cells #[.int .i64 a0_0, .int .i64 a0_1, .int .i64 a0_2, .slice A0_3 l0_3.length c0_3] 24 (0, 0)) (by (with_reducible repeat (first | refine blk_drewN ?_ _ | refine blk_drew ?_ | refine blk_alloc ?_ _)); exact BK522.out)) : gb522 ≠ gb523)); have n6_ := Aside0.mk ((by rw [hg]; exact Nat.ne_of_gt (blk_lt (g := gb522) (o := .cells #[.int .i64 a0_0, .int .i64 a0_1, .int .i64 a0_2, .slice A0_3 l0_3.length c0_3] 24 (0, 0)) (by (with_reducible repeat (first | refine blk_drewN ?_ _ | refine blk_drew ?_ | refine blk_alloc ?_ _)); exact BK522.out)) : gb523 ≠ gb522)); clear BK522; clear HB; have BK522 := n0_; have HB := n1_; have BK523 := n2_; have GW523 := n3_; have GE523 := n4_; have NB522_523 := n5_; have NB523_522 := n6_; clear n0_ n1_ n2_ n3_ n4_ n5_ n6_; clear hb hbox hg; have hnb10 := NB522_523.out; have hnc10 := NB523_522.out; have hcz11_0 : w9.cell? ⟨gb522, 0, none⟩ = some (.int .i64 a0_0) := (blk_cell BK522.out 0).trans rfl; have hcz11_1 : w9.cell? ⟨gb522, 1, none⟩ = some (.int .i64 a0_1) := (blk_cell BK522.out 1).trans rfl; have hcz11_2 : w9.cell? ⟨gb522, 2, none⟩ = some (.int .i64 a0_2) := (blk_cell BK522.out 2).trans rfl; have hcz11_3 : w9.cell? ⟨gb522, 3, none⟩ = some (.slice A0_3 l0_3.length c0_3) := (blk_cell BK522.out 3).trans rfl; have hfz11_0 := blk_frozen BK522.out 0; have hfz11_1 := blk_frozen BK522.out 1; have hfz11_2 := blk_frozen BK522.out 2; have hfz11_3 := blk_frozen BK522.out 3; have hcz12_0 : w9.cell? ⟨gb523, 0, none⟩ = some (.int .i64 a1_0) := (blk_cell BK523.out 0).trans rfl; have hcz12_1 : w9.cell? ⟨gb523, 1, none⟩ = some (.int .i64 a1_1) := (blk_cell BK523.out 1).trans rfl; have hcz12_2 : w9.cell? ⟨gb523, 2, none⟩ = some (.int .i64 a1_2) := (blk_cell BK523.out 2).trans rfl; have hcz12_3 : w9.cell? ⟨gb523, 3, none⟩ = some (.slice A1_3 l1_3.length c1_3) := (blk_cell BK523.out 3).trans rfl; have hfz12_0 := blk_frozen BK523.out 0; have hfz12_1 := blk_frozen BK523.out 1; have hfz12_2 := blk_frozen BK523.out 2; have hfz12_3 := blk_frozen BK523.out 3) | ((with_reducible refine gate_callee (f := 16) rfl ?_); refine goesL_ (some 24) rfl rfl Try.func16 (by kernel_rfl) rfl #[.slice A0_3 l0_3.length c0_3, .slice A1_3 l1_3.length c1_3] rfl (by (try simp only [List.map_toArray, List.map_cons, List.map_nil]); first | done | rfl | (simp only [List.length_drop, List.length_take]; rfl)) ?_; (with_reducible refine (laws_eqIntS.calls k _ _ l0_3 _ _ l1_3 true _ ?side1 ?side2 ?side3 ?side4 A6.out).mono ?_); (case side1 => repeat (first | exact (Kd.C_below HR0_3.out HB.out) | (with_reducible refine Kd.C_alloc ?_ _) | (with_reducible refine Kd.C_drewN ?_ _) | (with_reducible refine Kd.C_drew ?_))); (case side2 => exact HC0_3.out); (case side3 => repeat (first | exact (Kd.C_below HR1_3.out HB.out) | (with_reducible refine Kd.C_alloc ?_ _) | (with_reducible refine Kd.C_drewN ?_ _) | (with_reducible refine Kd.C_drew ?_))); (case side4 => exact HC1_3.out); rintro e w' ⟨rfl, ⟨nd, rfl⟩⟩; refine ⟨_, rfl, ?_⟩))
     go_ret
     exact ⟨by first | rfl | (simp [errW_none, errW_some] <;> rfl) | (simp [*, errW_none, errW_some] <;> rfl), by repeat (first | (with_reducible first | exact HB.out | apply below_alloc | apply pw_below_drewN | apply below_drew1 | refine below_set ?_ GE522.out | refine below_set ?_ GE523.out) | exact HB.out)⟩
    ·
     replace c7 := Bool.eq_false_iff.mpr c7
     subst c7
     have H1 : (some false) = some r := by rw [if_neg (show ¬ (false = true) by decide)] at H; exact H
     clear H
     have H := H1
     clear H1
     obtain rfl := Option.some.inj H
     go_enter Try.func15, Try.ntmps15
     go_wp2_with (first | ((with_reducible refine gate_dst (N := 2) rfl ?_); refine box_event ?hg (N := 2) ?hd (cs := #[.int .i64 a0_0, .int .i64 a0_1, .int .i64 a0_2, .slice A0_3 l0_3.length c0_3]) (t := 24) ?hr ?_; (case hd => rfl); (case hg => rfl); (case hr => first | (go_simp; done) | (go_simp; rfl)); intro gb522 hg w13 hbox hb; have n0_ := Aside0.mk (below_step (by repeat (first | (with_reducible first | exact HB.out | apply below_alloc | apply pw_below_drewN | apply below_drew1) | exact HB.out)) hb); have n1_ := Aside0.mk (hbox); have n2_ := Aside0.mk ((by rw [hg]; exact (below_size (by repeat (first | (with_reducible first | exact HB.out | apply below_alloc | apply pw_below_drewN | apply below_drew1) | exact HB.out))) : w.heap.size ≤ gb522)); have n3_ := Aside0.mk ((by rw [hg]; exact (below_size (by repeat (first | (with_reducible first | exact HB.out | apply below_alloc | apply pw_below_drewN | apply below_drew1) | exact HB.out))) : w.heap.size ≤ gb522)); clear HB; have HB := n0_; have BK522 := n1_; have GW522 := n2_; have GE522 := n3_; clear n0_ n1_ n2_ n3_; clear hb hbox hg) | ((with_reducible refine gate_dst (N := 3) rfl ?_); refine box_event ?hg (N := 3) ?hd (cs := #[.int .i64 a1_0, .int .i64 a1_1, .int .i64 a1_2, .slice A1_3 l1_3.length c1_3]) (t := 24) ?hr ?_; (case hd => rfl); (case hg => rfl); (case hr => first | (go_simp; done) | (go_simp; rfl)); intro gb523 hg w14 hbox hb; have n0_ := Aside0.mk (blk_below (g := gb522) (o := .cells #[.int .i64 a0_0, .int .i64 a0_1, .int .i64 a0_2, .slice A0_3 l0_3.length c0_3] 24 (0, 0)) (by (with_reducible repeat (first | refine blk_drewN ?_ _ | refine blk_drew ?_ | refine blk_alloc ?_ _)); exact BK522.out) hb); have n1_ := Aside0.mk (below_step (by repeat (first | (with_reducible first | exact HB.out | apply below_alloc | apply pw_below_drewN | apply below_drew1 | refine below_set ?_ GE522.out) | exact HB.out)) hb); have n2_ := Aside0.mk (hbox); have n3_ := Aside0.mk ((by rw [hg]; exact (below_size (by repeat (first | (with_reducible first | exact HB.out | apply below_alloc | apply pw_below_drewN | apply below_drew1 | refine below_set ?_ GE522.out) | exact HB.out))) : w.heap.size ≤ gb523)); have n4_ := Aside0.mk ((by rw [hg]; exact (below_size (by repeat (first | (with_reducible first | exact HB.out | apply below_alloc | apply pw_below_drewN | apply below_drew1 | refine below_set ?_ GE522.out) | exact HB.out))) : w.heap.size ≤ gb523)); have n5_ := Aside0.mk ((by rw [hg]; exact Nat.ne_of_lt (blk_lt (g := gb522) (o := .cells #[.int .i64 a0_0, .int .i64 a0_1, .int .i64 a0_2, .slice A0_3 l0_3.length c0_3] 24 (0, 0)) (by (with_reducible repeat (first | refine blk_drewN ?_ _ | refine blk_drew ?_ | refine blk_alloc ?_ _)); exact BK522.out)) : gb522 ≠ gb523)); have n6_ := Aside0.mk ((by rw [hg]; exact Nat.ne_of_gt (blk_lt (g := gb522) (o := .cells #[.int .i64 a0_0, .int .i64 a0_1, .int .i64 a0_2, .slice A0_3 l0_3.length c0_3] 24 (0, 0)) (by (with_reducible repeat (first | refine blk_drewN ?_ _ | refine blk_drew ?_ | refine blk_alloc ?_ _)); exact BK522.out)) : gb523 ≠ gb522)); clear BK522; clear HB; have BK522 := n0_; have HB := n1_; have BK523 := n2_; have GW523 := n3_; have GE523 := n4_; have NB522_523 := n5_; have NB523_522 := n6_; clear n0_ n1_ n2_ n3_ n4_ n5_ n6_; clear hb hbox hg; have hnb15 := NB522_523.out; have hnc15 := NB523_522.out; have hcz16_0 : w14.cell? ⟨gb522, 0, none⟩ = some (.int .i64 a0_0) := (blk_cell BK522.out 0).trans rfl; have hcz16_1 : w14.cell? ⟨gb522, 1, none⟩ = some (.int .i64 a0_1) := (blk_cell BK522.out 1).trans rfl; have hcz16_2 : w14.cell? ⟨gb522, 2, none⟩ = some (.int .i64 a0_2) := (blk_cell BK522.out 2).trans rfl; have hcz16_3 : w14.cell? ⟨gb522, 3, none⟩ = some (.slice A0_3 l0_3.length c0_3) := (blk_cell BK522.out 3).trans rfl; have hfz16_0 := blk_frozen BK522.out 0; have hfz16_1 := blk_frozen BK522.out 1; have hfz16_2 := blk_frozen BK522.out 2; have hfz16_3 := blk_frozen BK522.out 3; have hcz17_0 : w14.cell? ⟨gb523, 0, none⟩ = some (.int .i64 a1_0) := (blk_cell BK523.out 0).trans rfl; have hcz17_1 : w14.cell? ⟨gb523, 1, none⟩ = some (.int .i64 a1_1) := (blk_cell BK523.out 1).trans rfl; have hcz17_2 : w14.cell? ⟨gb523, 2, none⟩ = some (.int .i64 a1_2) := (blk_cell BK523.out 2).trans rfl; have hcz17_3 : w14.cell? ⟨gb523, 3, none⟩ = some (.slice A1_3 l1_3.length c1_3) := (blk_cell BK523.out 3).trans rfl; have hfz17_0 := blk_frozen BK523.out 0; have hfz17_1 := blk_frozen BK523.out 1; have hfz17_2 := blk_frozen BK523.out 2; have hfz17_3 := blk_frozen BK523.out 3) | ((with_reducible refine gate_callee (f := 16) rfl ?_); refine goesL_ (some 24) rfl rfl Try.func16 (by kernel_rfl) rfl #[.slice A0_3 l0_3.length c0_3, .slice A1_3 l1_3.length c1_3] rfl (by (try simp only [List.map_toArray, List.map_cons, List.map_nil]); first | done | rfl | (simp only [List.length_drop, List.length_take]; rfl)) ?_; (with_reducible refine (laws_eqIntS.calls k _ _ l0_3 _ _ l1_3 false _ ?side1 ?side2 ?side3 ?side4 A6.out).mono ?_); (case side1 => repeat (first | exact (Kd.C_below HR0_3.out HB.out) | (with_reducible refine Kd.C_alloc ?_ _) | (with_reducible refine Kd.C_drewN ?_ _) | (with_reducible refine Kd.C_drew ?_))); (case side2 => exact HC0_3.out); (case side3 => repeat (first | exact (Kd.C_below HR1_3.out HB.out) | (with_reducible refine Kd.C_alloc ?_ _) | (with_reducible refine Kd.C_drewN ?_ _) | (with_reducible refine Kd.C_drew ?_))); (case side4 => exact HC1_3.out); rintro e w' ⟨rfl, ⟨nd, rfl⟩⟩; refine ⟨_, rfl, ?_⟩))
     go_ret
     exact ⟨by first | rfl | (simp [errW_none, errW_some] <;> rfl) | (simp [*, errW_none, errW_some] <;> rfl), by repeat (first | (with_reducible first | exact HB.out | apply below_alloc | apply pw_below_drewN | apply below_drew1 | refine below_set ?_ GE522.out | refine below_set ?_ GE523.out) | exact HB.out)⟩
   ·
    rw [if_neg c5] at H
    have c5b0 : (a0_2 == a1_2) = false := beq_eq_false_iff_ne.mpr c5
    have c5b1 : (a0_2 != a1_2) = true := bne_iff_ne.mpr c5
    obtain rfl := Option.some.inj H
    go_enter Try.func15, Try.ntmps15
    go_wp2_with (first | ((with_reducible refine gate_dst (N := 2) rfl ?_); refine box_event ?hg (N := 2) ?hd (cs := #[.int .i64 a0_0, .int .i64 a0_1, .int .i64 a0_2, .slice A0_3 l0_3.length c0_3]) (t := 24) ?hr ?_; (case hd => rfl); (case hg => rfl); (case hr => first | (go_simp; done) | (go_simp; rfl)); intro gb522 hg w18 hbox hb; have n0_ := Aside0.mk (below_step (by repeat (first | (with_reducible first | exact HB.out | apply below_alloc | apply pw_below_drewN | apply below_drew1) | exact HB.out)) hb); have n1_ := Aside0.mk (hbox); have n2_ := Aside0.mk ((by rw [hg]; exact (below_size (by repeat (first | (with_reducible first | exact HB.out | apply below_alloc | apply pw_below_drewN | apply below_drew1) | exact HB.out))) : w.heap.size ≤ gb522)); have n3_ := Aside0.mk ((by rw [hg]; exact (below_size (by repeat (first | (with_reducible first | exact HB.out | apply below_alloc | apply pw_below_drewN | apply below_drew1) | exact HB.out))) : w.heap.size ≤ gb522)); clear HB; have HB := n0_; have BK522 := n1_; have GW522 := n2_; have GE522 := n3_; clear n0_ n1_ n2_ n3_; clear hb hbox hg) | ((with_reducible refine gate_dst (N := 3) rfl ?_); refine box_event ?hg (N := 3) ?hd (cs := #[.int .i64 a1_0, .int .i64 a1_1, .int .i64 a1_2, .slice A1_3 l1_3.length c1_3]) (t := 24) ?hr ?_; (case hd => rfl); (case hg => rfl); (case hr => first | (go_simp; done) | (go_simp; rfl)); intro gb523 hg w19 hbox hb; have n0_ := Aside0.mk (blk_below (g := gb522) (o := .cells #[.int .i64 a0_0, .int .i64 a0_1, .int .i64 a0_2, .slice A0_3 l0_3.length c0_3] 24 (0, 0)) (by (with_reducible repeat (first | refine blk_drewN ?_ _ | refine blk_drew ?_ | refine blk_alloc ?_ _)); exact BK522.out) hb); have n1_ := Aside0.mk (below_step (by repeat (first | (with_reducible first | exact HB.out | apply below_alloc | apply pw_below_drewN | apply below_drew1 | refine below_set ?_ GE522.out) | exact HB.out)) hb); have n2_ := Aside0.mk (hbox); have n3_ := Aside0.mk ((by rw [hg]; exact (below_size (by repeat (first | (with_reducible first | exact HB.out | apply below_alloc | apply pw_below_drewN | apply below_drew1 | refine below_set ?_ GE522.out) | exact HB.out))) : w.heap.size ≤ gb523)); have n4_ := Aside0.mk ((by rw [hg]; exact (below_size (by repeat (first | (with_reducible first | exact HB.out | apply below_alloc | apply pw_below_drewN | apply below_drew1 | refine below_set ?_ GE522.out) | exact HB.out))) : w.heap.size ≤ gb523)); have n5_ := Aside0.mk ((by rw [hg]; exact Nat.ne_of_lt (blk_lt (g := gb522) (o := .cells #[.int .i64 a0_0, .int .i64 a0_1, .int .i64 a0_2, .slice A0_3 l0_3.length c0_3] 24 (0, 0)) (by (with_reducible repeat (first | refine blk_drewN ?_ _ | refine blk_drew ?_ | refine blk_alloc ?_ _)); exact BK522.out)) : gb522 ≠ gb523)); have n6_ := Aside0.mk ((by rw [hg]; exact Nat.ne_of_gt (blk_lt (g := gb522) (o := .cells #[.int .i64 a0_0, .int .i64 a0_1, .int .i64 a0_2, .slice A0_3 l0_3.length c0_3] 24 (0, 0)) (by (with_reducible repeat (first | refine blk_drewN ?_ _ | refine blk_drew ?_ | refine blk_alloc ?_ _)); exact BK522.out)) : gb523 ≠ gb522)); clear BK522; clear HB; have BK522 := n0_; have HB := n1_; have BK523 := n2_; have GW523 := n3_; have GE523 := n4_; have NB522_523 := n5_; have NB523_522 := n6_; clear n0_ n1_ n2_ n3_ n4_ n5_ n6_; clear hb hbox hg; have hnb20 := NB522_523.out; have hnc20 := NB523_522.out; have hcz21_0 : w19.cell? ⟨gb522, 0, none⟩ = some (.int .i64 a0_0) := (blk_cell BK522.out 0).trans rfl; have hcz21_1 : w19.cell? ⟨gb522, 1, none⟩ = some (.int .i64 a0_1) := (blk_cell BK522.out 1).trans rfl; have hcz21_2 : w19.cell? ⟨gb522, 2, none⟩ = some (.int .i64 a0_2) := (blk_cell BK522.out 2).trans rfl; have hcz21_3 : w19.cell? ⟨gb522, 3, none⟩ = some (.slice A0_3 l0_3.length c0_3) := (blk_cell BK522.out 3).trans rfl; have hfz21_0 := blk_frozen BK522.out 0; have hfz21_1 := blk_frozen BK522.out 1; have hfz21_2 := blk_frozen BK522.out 2; have hfz21_3 := blk_frozen BK522.out 3; have hcz22_0 : w19.cell? ⟨gb523, 0, none⟩ = some (.int .i64 a1_0) := (blk_cell BK523.out 0).trans rfl; have hcz22_1 : w19.cell? ⟨gb523, 1, none⟩ = some (.int .i64 a1_1) := (blk_cell BK523.out 1).trans rfl; have hcz22_2 : w19.cell? ⟨gb523, 2, none⟩ = some (.int .i64 a1_2) := (blk_cell BK523.out 2).trans rfl; have hcz22_3 : w19.cell? ⟨gb523, 3, none⟩ = some (.slice A1_3 l1_3.length c1_3) := (blk_cell BK523.out 3).trans rfl; have hfz22_0 := blk_frozen BK523.out 0; have hfz22_1 := blk_frozen BK523.out 1; have hfz22_2 := blk_frozen BK523.out 2; have hfz22_3 := blk_frozen BK523.out 3))
    go_ret
    exact ⟨by first | rfl | (simp [errW_none, errW_some] <;> rfl) | (simp [*, errW_none, errW_some] <;> rfl), by repeat (first | (with_reducible first | exact HB.out | apply below_alloc | apply pw_below_drewN | apply below_drew1 | refine below_set ?_ GE522.out | refine below_set ?_ GE523.out) | exact HB.out)⟩
  ·
   rw [if_neg c4] at H
   have c4b0 : (a0_1 == a1_1) = false := beq_eq_false_iff_ne.mpr c4
   have c4b1 : (a0_1 != a1_1) = true := bne_iff_ne.mpr c4
   obtain rfl := Option.some.inj H
   go_enter Try.func15, Try.ntmps15
   go_wp2_with (first | ((with_reducible refine gate_dst (N := 2) rfl ?_); refine box_event ?hg (N := 2) ?hd (cs := #[.int .i64 a0_0, .int .i64 a0_1, .int .i64 a0_2, .slice A0_3 l0_3.length c0_3]) (t := 24) ?hr ?_; (case hd => rfl); (case hg => rfl); (case hr => first | (go_simp; done) | (go_simp; rfl)); intro gb522 hg w23 hbox hb; have n0_ := Aside0.mk (below_step (by repeat (first | (with_reducible first | exact HB.out | apply below_alloc | apply pw_below_drewN | apply below_drew1) | exact HB.out)) hb); have n1_ := Aside0.mk (hbox); have n2_ := Aside0.mk ((by rw [hg]; exact (below_size (by repeat (first | (with_reducible first | exact HB.out | apply below_alloc | apply pw_below_drewN | apply below_drew1) | exact HB.out))) : w.heap.size ≤ gb522)); have n3_ := Aside0.mk ((by rw [hg]; exact (below_size (by repeat (first | (with_reducible first | exact HB.out | apply below_alloc | apply pw_below_drewN | apply below_drew1) | exact HB.out))) : w.heap.size ≤ gb522)); clear HB; have HB := n0_; have BK522 := n1_; have GW522 := n2_; have GE522 := n3_; clear n0_ n1_ n2_ n3_; clear hb hbox hg) | ((with_reducible refine gate_dst (N := 3) rfl ?_); refine box_event ?hg (N := 3) ?hd (cs := #[.int .i64 a1_0, .int .i64 a1_1, .int .i64 a1_2, .slice A1_3 l1_3.length c1_3]) (t := 24) ?hr ?_; (case hd => rfl); (case hg => rfl); (case hr => first | (go_simp; done) | (go_simp; rfl)); intro gb523 hg w24 hbox hb; have n0_ := Aside0.mk (blk_below (g := gb522) (o := .cells #[.int .i64 a0_0, .int .i64 a0_1, .int .i64 a0_2, .slice A0_3 l0_3.length c0_3] 24 (0, 0)) (by (with_reducible repeat (first | refine blk_drewN ?_ _ | refine blk_drew ?_ | refine blk_alloc ?_ _)); exact BK522.out) hb); have n1_ := Aside0.mk (below_step (by repeat (first | (with_reducible first | exact HB.out | apply below_alloc | apply pw_below_drewN | apply below_drew1 | refine below_set ?_ GE522.out) | exact HB.out)) hb); have n2_ := Aside0.mk (hbox); have n3_ := Aside0.mk ((by rw [hg]; exact (below_size (by repeat (first | (with_reducible first | exact HB.out | apply below_alloc | apply pw_below_drewN | apply below_drew1 | refine below_set ?_ GE522.out) | exact HB.out))) : w.heap.size ≤ gb523)); have n4_ := Aside0.mk ((by rw [hg]; exact (below_size (by repeat (first | (with_reducible first | exact HB.out | apply below_alloc | apply pw_below_drewN | apply below_drew1 | refine below_set ?_ GE522.out) | exact HB.out))) : w.heap.size ≤ gb523)); have n5_ := Aside0.mk ((by rw [hg]; exact Nat.ne_of_lt (blk_lt (g := gb522) (o := .cells #[.int .i64 a0_0, .int .i64 a0_1, .int .i64 a0_2, .slice A0_3 l0_3.length c0_3] 24 (0, 0)) (by (with_reducible repeat (first | refine blk_drewN ?_ _ | refine blk_drew ?_ | refine blk_alloc ?_ _)); exact BK522.out)) : gb522 ≠ gb523)); have n6_ := Aside0.mk ((by rw [hg]; exact Nat.ne_of_gt (blk_lt (g := gb522) (o := .cells #[.int .i64 a0_0, .int .i64 a0_1, .int .i64 a0_2, .slice A0_3 l0_3.length c0_3] 24 (0, 0)) (by (with_reducible repeat (first | refine blk_drewN ?_ _ | refine blk_drew ?_ | refine blk_alloc ?_ _)); exact BK522.out)) : gb523 ≠ gb522)); clear BK522; clear HB; have BK522 := n0_; have HB := n1_; have BK523 := n2_; have GW523 := n3_; have GE523 := n4_; have NB522_523 := n5_; have NB523_522 := n6_; clear n0_ n1_ n2_ n3_ n4_ n5_ n6_; clear hb hbox hg; have hnb25 := NB522_523.out; have hnc25 := NB523_522.out; have hcz26_0 : w24.cell? ⟨gb522, 0, none⟩ = some (.int .i64 a0_0) := (blk_cell BK522.out 0).trans rfl; have hcz26_1 : w24.cell? ⟨gb522, 1, none⟩ = some (.int .i64 a0_1) := (blk_cell BK522.out 1).trans rfl; have hcz26_2 : w24.cell? ⟨gb522, 2, none⟩ = some (.int .i64 a0_2) := (blk_cell BK522.out 2).trans rfl; have hcz26_3 : w24.cell? ⟨gb522, 3, none⟩ = some (.slice A0_3 l0_3.length c0_3) := (blk_cell BK522.out 3).trans rfl; have hfz26_0 := blk_frozen BK522.out 0; have hfz26_1 := blk_frozen BK522.out 1; have hfz26_2 := blk_frozen BK522.out 2; have hfz26_3 := blk_frozen BK522.out 3; have hcz27_0 : w24.cell? ⟨gb523, 0, none⟩ = some (.int .i64 a1_0) := (blk_cell BK523.out 0).trans rfl; have hcz27_1 : w24.cell? ⟨gb523, 1, none⟩ = some (.int .i64 a1_1) := (blk_cell BK523.out 1).trans rfl; have hcz27_2 : w24.cell? ⟨gb523, 2, none⟩ = some (.int .i64 a1_2) := (blk_cell BK523.out 2).trans rfl; have hcz27_3 : w24.cell? ⟨gb523, 3, none⟩ = some (.slice A1_3 l1_3.length c1_3) := (blk_cell BK523.out 3).trans rfl; have hfz27_0 := blk_frozen BK523.out 0; have hfz27_1 := blk_frozen BK523.out 1; have hfz27_2 := blk_frozen BK523.out 2; have hfz27_3 := blk_frozen BK523.out 3))
   go_ret
   exact ⟨by first | rfl | (simp [errW_none, errW_some] <;> rfl) | (simp [*, errW_none, errW_some] <;> rfl), by repeat (first | (with_reducible first | exact HB.out | apply below_alloc | apply pw_below_drewN | apply below_drew1 | refine below_set ?_ GE522.out | refine below_set ?_ GE523.out) | exact HB.out)⟩
 ·
  rw [if_neg c3] at H
  have c3b0 : (a0_0 == a1_0) = false := beq_eq_false_iff_ne.mpr c3
  have c3b1 : (a0_0 != a1_0) = true := bne_iff_ne.mpr c3
  obtain rfl := Option.some.inj H
  go_enter Try.func15, Try.ntmps15
  go_wp2_with (first | ((with_reducible refine gate_dst (N := 2) rfl ?_); refine box_event ?hg (N := 2) ?hd (cs := #[.int .i64 a0_0, .int .i64 a0_1, .int .i64 a0_2, .slice A0_3 l0_3.length c0_3]) (t := 24) ?hr ?_; (case hd => rfl); (case hg => rfl); (case hr => first | (go_simp; done) | (go_simp; rfl)); intro gb522 hg w28 hbox hb; have n0_ := Aside0.mk (below_step (by repeat (first | (with_reducible first | exact HB.out | apply below_alloc | apply pw_below_drewN | apply below_drew1) | exact HB.out)) hb); have n1_ := Aside0.mk (hbox); have n2_ := Aside0.mk ((by rw [hg]; exact (below_size (by repeat (first | (with_reducible first | exact HB.out | apply below_alloc | apply pw_below_drewN | apply below_drew1) | exact HB.out))) : w.heap.size ≤ gb522)); have n3_ := Aside0.mk ((by rw [hg]; exact (below_size (by repeat (first | (with_reducible first | exact HB.out | apply below_alloc | apply pw_below_drewN | apply below_drew1) | exact HB.out))) : w.heap.size ≤ gb522)); clear HB; have HB := n0_; have BK522 := n1_; have GW522 := n2_; have GE522 := n3_; clear n0_ n1_ n2_ n3_; clear hb hbox hg) | ((with_reducible refine gate_dst (N := 3) rfl ?_); refine box_event ?hg (N := 3) ?hd (cs := #[.int .i64 a1_0, .int .i64 a1_1, .int .i64 a1_2, .slice A1_3 l1_3.length c1_3]) (t := 24) ?hr ?_; (case hd => rfl); (case hg => rfl); (case hr => first | (go_simp; done) | (go_simp; rfl)); intro gb523 hg w29 hbox hb; have n0_ := Aside0.mk (blk_below (g := gb522) (o := .cells #[.int .i64 a0_0, .int .i64 a0_1, .int .i64 a0_2, .slice A0_3 l0_3.length c0_3] 24 (0, 0)) (by (with_reducible repeat (first | refine blk_drewN ?_ _ | refine blk_drew ?_ | refine blk_alloc ?_ _)); exact BK522.out) hb); have n1_ := Aside0.mk (below_step (by repeat (first | (with_reducible first | exact HB.out | apply below_alloc | apply pw_below_drewN | apply below_drew1 | refine below_set ?_ GE522.out) | exact HB.out)) hb); have n2_ := Aside0.mk (hbox); have n3_ := Aside0.mk ((by rw [hg]; exact (below_size (by repeat (first | (with_reducible first | exact HB.out | apply below_alloc | apply pw_below_drewN | apply below_drew1 | refine below_set ?_ GE522.out) | exact HB.out))) : w.heap.size ≤ gb523)); have n4_ := Aside0.mk ((by rw [hg]; exact (below_size (by repeat (first | (with_reducible first | exact HB.out | apply below_alloc | apply pw_below_drewN | apply below_drew1 | refine below_set ?_ GE522.out) | exact HB.out))) : w.heap.size ≤ gb523)); have n5_ := Aside0.mk ((by rw [hg]; exact Nat.ne_of_lt (blk_lt (g := gb522) (o := .cells #[.int .i64 a0_0, .int .i64 a0_1, .int .i64 a0_2, .slice A0_3 l0_3.length c0_3] 24 (0, 0)) (by (with_reducible repeat (first | refine blk_drewN ?_ _ | refine blk_drew ?_ | refine blk_alloc ?_ _)); exact BK522.out)) : gb522 ≠ gb523)); have n6_ := Aside0.mk ((by rw [hg]; exact Nat.ne_of_gt (blk_lt (g := gb522) (o := .cells #[.int .i64 a0_0, .int .i64 a0_1, .int .i64 a0_2, .slice A0_3 l0_3.length c0_3] 24 (0, 0)) (by (with_reducible repeat (first | refine blk_drewN ?_ _ | refine blk_drew ?_ | refine blk_alloc ?_ _)); exact BK522.out)) : gb523 ≠ gb522)); clear BK522; clear HB; have BK522 := n0_; have HB := n1_; have BK523 := n2_; have GW523 := n3_; have GE523 := n4_; have NB522_523 := n5_; have NB523_522 := n6_; clear n0_ n1_ n2_ n3_ n4_ n5_ n6_; clear hb hbox hg; have hnb30 := NB522_523.out; have hnc30 := NB523_522.out; have hcz31_0 : w29.cell? ⟨gb522, 0, none⟩ = some (.int .i64 a0_0) := (blk_cell BK522.out 0).trans rfl; have hcz31_1 : w29.cell? ⟨gb522, 1, none⟩ = some (.int .i64 a0_1) := (blk_cell BK522.out 1).trans rfl; have hcz31_2 : w29.cell? ⟨gb522, 2, none⟩ = some (.int .i64 a0_2) := (blk_cell BK522.out 2).trans rfl; have hcz31_3 : w29.cell? ⟨gb522, 3, none⟩ = some (.slice A0_3 l0_3.length c0_3) := (blk_cell BK522.out 3).trans rfl; have hfz31_0 := blk_frozen BK522.out 0; have hfz31_1 := blk_frozen BK522.out 1; have hfz31_2 := blk_frozen BK522.out 2; have hfz31_3 := blk_frozen BK522.out 3; have hcz32_0 : w29.cell? ⟨gb523, 0, none⟩ = some (.int .i64 a1_0) := (blk_cell BK523.out 0).trans rfl; have hcz32_1 : w29.cell? ⟨gb523, 1, none⟩ = some (.int .i64 a1_1) := (blk_cell BK523.out 1).trans rfl; have hcz32_2 : w29.cell? ⟨gb523, 2, none⟩ = some (.int .i64 a1_2) := (blk_cell BK523.out 2).trans rfl; have hcz32_3 : w29.cell? ⟨gb523, 3, none⟩ = some (.slice A1_3 l1_3.length c1_3) := (blk_cell BK523.out 3).trans rfl; have hfz32_0 := blk_frozen BK523.out 0; have hfz32_1 := blk_frozen BK523.out 1; have hfz32_2 := blk_frozen BK523.out 2; have hfz32_3 := blk_frozen BK523.out 3))
  go_ret
  exact ⟨by first | rfl | (simp [errW_none, errW_some] <;> rfl) | (simp [*, errW_none, errW_some] <;> rfl), by repeat (first | (with_reducible first | exact HB.out | apply below_alloc | apply pw_below_drewN | apply below_drew1 | refine below_set ?_ GE522.out | refine below_set ?_ GE523.out) | exact HB.out)⟩

/-! ### laws_markImage: function 18 -/
def laws_markImage.f (k : Nat) (a0_0 : Int) (a0_1 : Int) (a0_2 : Int) (l0_3 : List Int) (a1 : Int) : Option (Int × List Int) := (laws_markIntS.f k l0_3 a1).bind fun bt527 => (some (bt527.1, bt527.2))
theorem laws_markImage.mono : ∀ a0 a1 a2 a3 a4 k, LeO (laws_markImage.f k a0 a1 a2 a3 a4) (laws_markImage.f (k + 1) a0 a1 a2 a3 a4) := by
 intro a0 a1 a2 a3 a4 k
 unfold laws_markImage.f
 repeat' first
   | (with_reducible exact laws_markIntS.mono _ _ _)
   | (with_reducible exact LeO.refl _)
   | (with_reducible exact LeO.none _)
   | (with_reducible refine LeO.ite ?_ ?_)
   | (with_reducible refine LeO.bind ?_ (fun _ => ?_))
   | exact laws_markIntS.mono _ _ _
   | exact LeO.none _
   | refine LeO.ite ?_ ?_
   | refine LeO.bind ?_ (fun _ => ?_)
set_option maxHeartbeats 8000000 in
set_option maxRecDepth 100000 in
theorem laws_markImage.calls (k : Nat) (a0_0 : Int) (a0_1 : Int) (a0_2 : Int) (P0_3_ : Nat → Prop) (u9000_ : Value) (l0_3 : List Int) (a1 : Int) (r1 : Int) (r2 : List Int) (w0 w : World) (hB : Below w0.heap.size w0 w) (ho0_3 : Kd.R (Kd.int .i64) 3 w w0.heap.size P0_3_ u9000_ l0_3) (h : laws_markImage.f k a0_0 a0_1 a0_2 l0_3 a1 = some (r1, r2)) :
  Calls Try.prog 18 #[.agg #[.int .i64 a0_0, .int .i64 a0_1, .int .i64 a0_2, u9000_], .int .i64 a1] w fun e w' => e = .returned (.int .i64 r1) ∧ Kd.R (Kd.int .i64) 3 w' w0.heap.size (fun k_ => (P0_3_ k_ ∨ w.heap.size ≤ k_)) u9000_ r2 ∧ Below w0.heap.size w0 w' ∧ Kept w w' (fun k_ => P0_3_ k_) := by
 have hu24 := Try.underlying24
 have HO0_3 := Aside0.mk (show Kd.R (Kd.int .i64) 3 w w0.heap.size (fun k_ => (P0_3_ k_ ∨ w.heap.size ≤ k_)) u9000_ l0_3 from Kd.R_mono ho0_3 (fun k_ hk => (.inl hk)))
 have HK := Aside0.mk (Kept.refl w (fun k_ => P0_3_ k_))
 have HW0 := Aside0.mk hB.size
 have HB := Aside0.mk hB
 clear hB
 have H : ((laws_markIntS.f k l0_3 a1).bind fun bt527 => (some (bt527.1, bt527.2))) = some (r1, r2) := h
 clear h
 replace H := Option.bind_eq_some_iff.mp H
 obtain ⟨⟨t527, t528⟩, A30, H⟩ := H
 replace H : (some (t527, t528)) = some (r1, r2) := H
 have A3 := Aside0.mk A30
 clear A30
 simp only [Option.some.injEq, Prod.mk.injEq] at H
 obtain ⟨rfl, rfl⟩ := H
 obtain ⟨Ao4, co4, eo4⟩ := Kd.R_slice HO0_3.out
 subst eo4
 go_enter Try.func18, Try.ntmps18
 go_wp2_with (first | ((with_reducible refine gate_dst (N := 2) rfl ?_); refine box_event ?hg (N := 2) ?hd (cs := #[.int .i64 a0_0, .int .i64 a0_1, .int .i64 a0_2, .slice Ao4 l0_3.length co4]) (t := 24) ?hr ?_; (case hd => rfl); (case hg => rfl); (case hr => first | (go_simp; done) | (go_simp; rfl)); intro gb526 hg w5 hbox hb; have n0_ := Aside0.mk (Kd.R_below (by (with_reducible repeat (first | apply Kd.R_alloc | apply Kd.R_drewN | apply Kd.R_drew)); exact HO0_3.out) hb); have n1_ := Aside0.mk (Kept.below (S := (fun k_ => P0_3_ k_)) (by repeat (first | (with_reducible first | exact HK.out | apply Kept.alloc | apply Kept.drewN | apply Kept.drew) | exact HK.out)) hb); have n2_ := Aside0.mk (below_step (by repeat (first | (with_reducible first | exact HB.out | apply below_alloc | apply pw_below_drewN | apply below_drew1) | exact HB.out)) hb); have n3_ := Aside0.mk (hbox); have n4_ := Aside0.mk ((by rw [hg]; exact (by first | exact HK.out.1 | exact (show Kept w _ (fun k_ => P0_3_ k_) from by repeat (first | (with_reducible first | exact HK.out | apply Kept.alloc | apply Kept.drewN | apply Kept.drew) | exact HK.out)).1) : w.heap.size ≤ gb526)); have n5_ := Aside0.mk ((by rw [hg]; exact (below_size (by repeat (first | (with_reducible first | exact HB.out | apply below_alloc | apply pw_below_drewN | apply below_drew1) | exact HB.out))) : w0.heap.size ≤ gb526)); clear HO0_3; clear HK; clear HB; have HO0_3 := n0_; have HK := n1_; have HB := n2_; have BK526 := n3_; have GW526 := n4_; have GE526 := n5_; clear n0_ n1_ n2_ n3_ n4_ n5_; clear hb hbox hg; have hcz6_0 : w5.cell? ⟨gb526, 0, none⟩ = some (.int .i64 a0_0) := (blk_cell BK526.out 0).trans rfl; have hcz6_1 : w5.cell? ⟨gb526, 1, none⟩ = some (.int .i64 a0_1) := (blk_cell BK526.out 1).trans rfl; have hcz6_2 : w5.cell? ⟨gb526, 2, none⟩ = some (.int .i64 a0_2) := (blk_cell BK526.out 2).trans rfl; have hcz6_3 : w5.cell? ⟨gb526, 3, none⟩ = some (.slice Ao4 l0_3.length co4) := (blk_cell BK526.out 3).trans rfl; have hfz6_0 := blk_frozen BK526.out 0; have hfz6_1 := blk_frozen BK526.out 1; have hfz6_2 := blk_frozen BK526.out 2; have hfz6_3 := blk_frozen BK526.out 3) | ((with_reducible refine gate_callee (f := 17) rfl ?_); refine goesL_ (some 8) rfl rfl Try.func17 (by kernel_rfl) rfl #[.slice Ao4 l0_3.length co4, .int .i64 a1] rfl (by (try simp only [List.map_toArray, List.map_cons, List.map_nil]); first | done | rfl | (simp only [List.length_drop, List.length_take]; rfl)) ?_; (with_reducible refine (laws_markIntS.calls k (fun k_ => some k_ = (.slice Ao4 l0_3.length co4 : Value).ownBlock) (.slice Ao4 l0_3.length co4) l0_3 a1 t527 t528 w0 _ ?side1 ?side2 A3.out).mono ?_); (case side1 => repeat (first | (with_reducible first | exact HB.out | apply below_alloc | apply pw_below_drewN | apply below_drew1 | refine below_set ?_ GE526.out) | exact HB.out)); (case side2 => exact Kd.R_tight rfl HO0_3.out); rintro e w7 ⟨rfl, hy0, hb, hkp⟩; refine ⟨_, rfl, ?_⟩; have n0_ := Aside0.mk (Kd.R_reok rfl hy0 (fun k_ e_ => HO0_3.out.1 k_ e_)); have n1_ := Aside0.mk (blk_kept (by (with_reducible repeat (first | refine blk_drewN ?_ _ | refine blk_drew ?_ | refine blk_alloc ?_ _)); exact BK526.out) hkp (fun hs_ => (fun e_ => (Kd.R_ne HO0_3.out BK526.out (by decide)) e_) hs_)); have n2_ := Aside0.mk (Kept.then_ (S := (fun k_ => P0_3_ k_)) (by repeat (first | (with_reducible first | exact HK.out | apply Kept.alloc | apply Kept.drewN | apply Kept.drew | refine Kept.setCell ?_ (.inr GW526.out) _) | exact HK.out)) hkp (fun k_ hs_ => (fun e_ => (HO0_3.out.1 k_ e_.symm)) hs_)); have n3_ := Aside0.mk (hb); clear HO0_3; clear BK526; clear HK; clear HB; have HO0_3 := n0_; have BK526 := n1_; have HK := n2_; have HB := n3_; clear n0_ n1_ n2_ n3_; (try clear hb); (try clear hkp); (try clear hy0)))
 go_ret
 exact ⟨by first | rfl | (simp [errW_none, errW_some] <;> rfl) | (simp [*, errW_none, errW_some] <;> rfl), by (with_reducible repeat (first | apply Kd.R_alloc | apply Kd.R_drewN | apply Kd.R_drew)); exact HO0_3.out, by repeat (first | (with_reducible first | exact HB.out | apply below_alloc | apply pw_below_drewN | apply below_drew1 | refine below_set ?_ GE526.out) | exact HB.out), by repeat (first | (with_reducible first | exact HK.out | apply Kept.alloc | apply Kept.drewN | apply Kept.drew | refine Kept.setCell ?_ (.inr GW526.out) _) | exact HK.out)⟩

/-! ### laws_heldImage: function 19 -/
def laws_heldImage.f (k : Nat) (a0_0 : Int) (a0_1 : Int) (a0_2 : Int) (l0_3 : List Int) (a1 : Int) : Option (Int) := (laws_heldIntS.f k l0_3 a1).bind fun t531 => (if t531 < 0 then (some (-1)) else (some t531))
theorem laws_heldImage.mono : ∀ a0 a1 a2 a3 a4 k, LeO (laws_heldImage.f k a0 a1 a2 a3 a4) (laws_heldImage.f (k + 1) a0 a1 a2 a3 a4) := by
 intro a0 a1 a2 a3 a4 k
 unfold laws_heldImage.f
 repeat' first
   | (with_reducible exact laws_heldIntS.mono _ _ _)
   | (with_reducible exact LeO.refl _)
   | (with_reducible exact LeO.none _)
   | (with_reducible refine LeO.ite ?_ ?_)
   | (with_reducible refine LeO.bind ?_ (fun _ => ?_))
   | exact laws_heldIntS.mono _ _ _
   | exact LeO.none _
   | refine LeO.ite ?_ ?_
   | refine LeO.bind ?_ (fun _ => ?_)
set_option maxHeartbeats 8000000 in
set_option maxRecDepth 100000 in
theorem laws_heldImage.calls (k : Nat) (a0_0 : Int) (a0_1 : Int) (a0_2 : Int) (A0_3 : Option Addr) (c0_3 : Nat) (l0_3 : List Int) (a1 : Int) (r : Int) (w : World) (hr0_3 : Kd.C (Kd.int .i64) w A0_3 l0_3.length l0_3) (hc0_3 : l0_3.length ≤ c0_3) (h : laws_heldImage.f k a0_0 a0_1 a0_2 l0_3 a1 = some r) :
  Calls Try.prog 19 #[.agg #[.int .i64 a0_0, .int .i64 a0_1, .int .i64 a0_2, .slice A0_3 l0_3.length c0_3], .int .i64 a1] w fun e w' => e = .returned (.int .i64 r) ∧ Below w.heap.size w w' := by
 have hu24 := Try.underlying24
 have HR0_3 := Aside0.mk hr0_3
 have HC0_3 := Aside0.mk hc0_3
 clear hr0_3 hc0_3
 have HB := Aside0.mk (Below.refl w.heap.size w)
 have H : ((laws_heldIntS.f k l0_3 a1).bind fun t531 => (if t531 < 0 then (some (-1)) else (some t531))) = some r := h
 clear h
 replace H := Option.bind_eq_some_iff.mp H
 obtain ⟨t531, A30, H⟩ := H
 replace H : (if t531 < 0 then (some (-1)) else (some t531)) = some r := H
 have A3 := Aside0.mk A30
 clear A30
 by_cases c4 : t531 < 0
 ·
  rw [if_pos c4] at H
  have c4b0 : decide (t531 < 0) = true := decide_eq_true c4
  clear c4
  obtain rfl := Option.some.inj H
  go_enter Try.func19, Try.ntmps19
  go_wp2_with (first | ((with_reducible refine gate_dst (N := 2) rfl ?_); refine box_event ?hg (N := 2) ?hd (cs := #[.int .i64 a0_0, .int .i64 a0_1, .int .i64 a0_2, .slice A0_3 l0_3.length c0_3]) (t := 24) ?hr ?_; (case hd => rfl); (case hg => rfl); (case hr => first | (go_simp; done) | (go_simp; rfl)); intro gb530 hg w5 hbox hb; have n0_ := Aside0.mk (below_step (by repeat (first | (with_reducible first | exact HB.out | apply below_alloc | apply pw_below_drewN | apply below_drew1) | exact HB.out)) hb); have n1_ := Aside0.mk (hbox); have n2_ := Aside0.mk ((by rw [hg]; exact (below_size (by repeat (first | (with_reducible first | exact HB.out | apply below_alloc | apply pw_below_drewN | apply below_drew1) | exact HB.out))) : w.heap.size ≤ gb530)); have n3_ := Aside0.mk ((by rw [hg]; exact (below_size (by repeat (first | (with_reducible first | exact HB.out | apply below_alloc | apply pw_below_drewN | apply below_drew1) | exact HB.out))) : w.heap.size ≤ gb530)); clear HB; have HB := n0_; have BK530 := n1_; have GW530 := n2_; have GE530 := n3_; clear n0_ n1_ n2_ n3_; clear hb hbox hg; have hcz6_0 : w5.cell? ⟨gb530, 0, none⟩ = some (.int .i64 a0_0) := (blk_cell BK530.out 0).trans rfl; have hcz6_1 : w5.cell? ⟨gb530, 1, none⟩ = some (.int .i64 a0_1) := (blk_cell BK530.out 1).trans rfl; have hcz6_2 : w5.cell? ⟨gb530, 2, none⟩ = some (.int .i64 a0_2) := (blk_cell BK530.out 2).trans rfl; have hcz6_3 : w5.cell? ⟨gb530, 3, none⟩ = some (.slice A0_3 l0_3.length c0_3) := (blk_cell BK530.out 3).trans rfl; have hfz6_0 := blk_frozen BK530.out 0; have hfz6_1 := blk_frozen BK530.out 1; have hfz6_2 := blk_frozen BK530.out 2; have hfz6_3 := blk_frozen BK530.out 3) | ((with_reducible refine gate_callee (f := 28) rfl ?_); refine goesL_ (some 8) rfl rfl Try.func28 (by kernel_rfl) rfl #[.slice A0_3 l0_3.length c0_3, .int .i64 a1] rfl (by (try simp only [List.map_toArray, List.map_cons, List.map_nil]); first | done | rfl | (simp only [List.length_drop, List.length_take]; rfl)) ?_; (with_reducible refine (laws_heldIntS.calls k _ _ l0_3 a1 t531 _ ?side1 ?side2 A3.out).mono ?_); (case side1 => repeat (first | exact (Kd.C_below HR0_3.out HB.out) | (with_reducible refine Kd.C_alloc ?_ _) | (with_reducible refine Kd.C_drewN ?_ _) | (with_reducible refine Kd.C_drew ?_))); (case side2 => exact HC0_3.out); rintro e w' ⟨rfl, ⟨nd, rfl⟩⟩; refine ⟨_, rfl, ?_⟩))
  go_ret
  exact ⟨by first | rfl | (simp [errW_none, errW_some] <;> rfl) | (simp [*, errW_none, errW_some] <;> rfl), by repeat (first | (with_reducible first | exact HB.out | apply below_alloc | apply pw_below_drewN | apply below_drew1 | refine below_set ?_ GE530.out) | exact HB.out)⟩
 ·
  rw [if_neg c4] at H
  have c4b0 : decide (t531 < 0) = false := decide_eq_false c4
  clear c4
  obtain rfl := Option.some.inj H
  go_enter Try.func19, Try.ntmps19
  go_wp2_with (first | ((with_reducible refine gate_dst (N := 2) rfl ?_); refine box_event ?hg (N := 2) ?hd (cs := #[.int .i64 a0_0, .int .i64 a0_1, .int .i64 a0_2, .slice A0_3 l0_3.length c0_3]) (t := 24) ?hr ?_; (case hd => rfl); (case hg => rfl); (case hr => first | (go_simp; done) | (go_simp; rfl)); intro gb530 hg w7 hbox hb; have n0_ := Aside0.mk (below_step (by repeat (first | (with_reducible first | exact HB.out | apply below_alloc | apply pw_below_drewN | apply below_drew1) | exact HB.out)) hb); have n1_ := Aside0.mk (hbox); have n2_ := Aside0.mk ((by rw [hg]; exact (below_size (by repeat (first | (with_reducible first | exact HB.out | apply below_alloc | apply pw_below_drewN | apply below_drew1) | exact HB.out))) : w.heap.size ≤ gb530)); have n3_ := Aside0.mk ((by rw [hg]; exact (below_size (by repeat (first | (with_reducible first | exact HB.out | apply below_alloc | apply pw_below_drewN | apply below_drew1) | exact HB.out))) : w.heap.size ≤ gb530)); clear HB; have HB := n0_; have BK530 := n1_; have GW530 := n2_; have GE530 := n3_; clear n0_ n1_ n2_ n3_; clear hb hbox hg; have hcz8_0 : w7.cell? ⟨gb530, 0, none⟩ = some (.int .i64 a0_0) := (blk_cell BK530.out 0).trans rfl; have hcz8_1 : w7.cell? ⟨gb530, 1, none⟩ = some (.int .i64 a0_1) := (blk_cell BK530.out 1).trans rfl; have hcz8_2 : w7.cell? ⟨gb530, 2, none⟩ = some (.int .i64 a0_2) := (blk_cell BK530.out 2).trans rfl; have hcz8_3 : w7.cell? ⟨gb530, 3, none⟩ = some (.slice A0_3 l0_3.length c0_3) := (blk_cell BK530.out 3).trans rfl; have hfz8_0 := blk_frozen BK530.out 0; have hfz8_1 := blk_frozen BK530.out 1; have hfz8_2 := blk_frozen BK530.out 2; have hfz8_3 := blk_frozen BK530.out 3) | ((with_reducible refine gate_callee (f := 28) rfl ?_); refine goesL_ (some 8) rfl rfl Try.func28 (by kernel_rfl) rfl #[.slice A0_3 l0_3.length c0_3, .int .i64 a1] rfl (by (try simp only [List.map_toArray, List.map_cons, List.map_nil]); first | done | rfl | (simp only [List.length_drop, List.length_take]; rfl)) ?_; (with_reducible refine (laws_heldIntS.calls k _ _ l0_3 a1 t531 _ ?side1 ?side2 A3.out).mono ?_); (case side1 => repeat (first | exact (Kd.C_below HR0_3.out HB.out) | (with_reducible refine Kd.C_alloc ?_ _) | (with_reducible refine Kd.C_drewN ?_ _) | (with_reducible refine Kd.C_drew ?_))); (case side2 => exact HC0_3.out); rintro e w' ⟨rfl, ⟨nd, rfl⟩⟩; refine ⟨_, rfl, ?_⟩))
  go_ret
  exact ⟨by first | rfl | (simp [errW_none, errW_some] <;> rfl) | (simp [*, errW_none, errW_some] <;> rfl), by repeat (first | (with_reducible first | exact HB.out | apply below_alloc | apply pw_below_drewN | apply below_drew1 | refine below_set ?_ GE530.out) | exact HB.out)⟩

/-! ### laws_szIntS: function 53 -/
def laws_szIntS.f (l0 : List Int) (a1 : Int) : Option (Int) := if (wrap64 (a1 - (l0.length : Int))) < 0 then (some (-1)) else (some (wrap64 (a1 - (l0.length : Int))))
set_option maxHeartbeats 8000000 in
set_option maxRecDepth 100000 in
theorem laws_szIntS.calls (A0 : Option Addr) (c0 : Nat) (l0 : List Int) (a1 : Int) (r : Int) (w : World) (hr0 : Kd.C (Kd.int .i64) w A0 l0.length l0) (hc0 : l0.length ≤ c0) (h : laws_szIntS.f l0 a1 = some r) :
  Calls Try.prog 53 #[.slice A0 l0.length c0, .int .i64 a1] w fun e w' => e = .returned (.int .i64 r) ∧ Drawn0 w w' := by
 have HR0 := Aside0.mk hr0
 have HC0 := Aside0.mk hc0
 clear hr0 hc0
 have H : (if (wrap64 (a1 - (l0.length : Int))) < 0 then (some (-1)) else (some (wrap64 (a1 - (l0.length : Int))))) = some r := h
 clear h
 by_cases c3 : (wrap64 (a1 - (l0.length : Int))) < 0
 ·
  rw [if_pos c3] at H
  have c3b0 : decide ((wrap64 (a1 - (l0.length : Int))) < 0) = true := decide_eq_true c3
  clear c3
  obtain rfl := Option.some.inj H
  go_enter Try.func53, Try.ntmps53
  go_wp2
  go_ret
  exact ⟨by first | rfl | (simp; done) | (simp [*]; done), by repeat (first | exact Drawn0.refl _ | apply Drawn0.step)⟩
 ·
  rw [if_neg c3] at H
  have c3b0 : decide ((wrap64 (a1 - (l0.length : Int))) < 0) = false := decide_eq_false c3
  clear c3
  obtain rfl := Option.some.inj H
  go_enter Try.func53, Try.ntmps53
  go_wp2
  go_ret
  exact ⟨by first | rfl | (simp; done) | (simp [*]; done), by repeat (first | exact Drawn0.refl _ | apply Drawn0.step)⟩

/-! ### laws_szImage: function 24 -/
def laws_szImage.f (a0_0 : Int) (a0_1 : Int) (a0_2 : Int) (l0_3 : List Int) (a1 : Int) : Option (Int) := (laws_szIntS.f l0_3 a1).bind fun t829 => (if t829 < 0 then (some (-1)) else (some t829))
set_option maxHeartbeats 8000000 in
set_option maxRecDepth 100000 in
theorem laws_szImage.calls (a0_0 : Int) (a0_1 : Int) (a0_2 : Int) (A0_3 : Option Addr) (c0_3 : Nat) (l0_3 : List Int) (a1 : Int) (r : Int) (w : World) (hr0_3 : Kd.C (Kd.int .i64) w A0_3 l0_3.length l0_3) (hc0_3 : l0_3.length ≤ c0_3) (h : laws_szImage.f a0_0 a0_1 a0_2 l0_3 a1 = some r) :
  Calls Try.prog 24 #[.agg #[.int .i64 a0_0, .int .i64 a0_1, .int .i64 a0_2, .slice A0_3 l0_3.length c0_3], .int .i64 a1] w fun e w' => e = .returned (.int .i64 r) ∧ Below w.heap.size w w' := by
 have hu38 := Try.underlying38
 have HR0_3 := Aside0.mk hr0_3
 have HC0_3 := Aside0.mk hc0_3
 clear hr0_3 hc0_3
 have HB := Aside0.mk (Below.refl w.heap.size w)
 have H : ((laws_szIntS.f l0_3 a1).bind fun t829 => (if t829 < 0 then (some (-1)) else (some t829))) = some r := h
 clear h
 replace H := Option.bind_eq_some_iff.mp H
 obtain ⟨t829, A30, H⟩ := H
 replace H : (if t829 < 0 then (some (-1)) else (some t829)) = some r := H
 have A3 := Aside0.mk A30
 clear A30
 by_cases c4 : t829 < 0
 ·
  rw [if_pos c4] at H
  have c4b0 : decide (t829 < 0) = true := decide_eq_true c4
  clear c4
  obtain rfl := Option.some.inj H
  go_enter Try.func24, Try.ntmps24
  go_wp2_with (first | ((with_reducible refine gate_dst (N := 2) rfl ?_); refine box_event ?hg (N := 2) ?hd (cs := #[.int .i64 a0_0, .int .i64 a0_1, .int .i64 a0_2, .slice A0_3 l0_3.length c0_3]) (t := 38) ?hr ?_; (case hd => rfl); (case hg => rfl); (case hr => first | (go_simp; done) | (go_simp; rfl)); intro gb828 hg w5 hbox hb; have n0_ := Aside0.mk (below_step (by repeat (first | (with_reducible first | exact HB.out | apply below_alloc | apply pw_below_drewN | apply below_drew1) | exact HB.out)) hb); have n1_ := Aside0.mk (hbox); have n2_ := Aside0.mk ((by rw [hg]; exact (below_size (by repeat (first | (with_reducible first | exact HB.out | apply below_alloc | apply pw_below_drewN | apply below_drew1) | exact HB.out))) : w.heap.size ≤ gb828)); have n3_ := Aside0.mk ((by rw [hg]; exact (below_size (by repeat (first | (with_reducible first | exact HB.out | apply below_alloc | apply pw_below_drewN | apply below_drew1) | exact HB.out))) : w.heap.size ≤ gb828)); clear HB; have HB := n0_; have BK828 := n1_; have GW828 := n2_; have GE828 := n3_; clear n0_ n1_ n2_ n3_; clear hb hbox hg; have hcz6_0 : w5.cell? ⟨gb828, 0, none⟩ = some (.int .i64 a0_0) := (blk_cell BK828.out 0).trans rfl; have hcz6_1 : w5.cell? ⟨gb828, 1, none⟩ = some (.int .i64 a0_1) := (blk_cell BK828.out 1).trans rfl; have hcz6_2 : w5.cell? ⟨gb828, 2, none⟩ = some (.int .i64 a0_2) := (blk_cell BK828.out 2).trans rfl; have hcz6_3 : w5.cell? ⟨gb828, 3, none⟩ = some (.slice A0_3 l0_3.length c0_3) := (blk_cell BK828.out 3).trans rfl; have hfz6_0 := blk_frozen BK828.out 0; have hfz6_1 := blk_frozen BK828.out 1; have hfz6_2 := blk_frozen BK828.out 2; have hfz6_3 := blk_frozen BK828.out 3) | ((with_reducible refine gate_callee (f := 53) rfl ?_); refine goesL_ (some 8) rfl rfl Try.func53 (by kernel_rfl) rfl #[.slice A0_3 l0_3.length c0_3, .int .i64 a1] rfl (by (try simp only [List.map_toArray, List.map_cons, List.map_nil]); first | done | rfl | (simp only [List.length_drop, List.length_take]; rfl)) ?_; (with_reducible refine (laws_szIntS.calls _ _ l0_3 a1 t829 _ ?side1 ?side2 A3.out).mono ?_); (case side1 => repeat (first | exact (Kd.C_below HR0_3.out HB.out) | (with_reducible refine Kd.C_alloc ?_ _) | (with_reducible refine Kd.C_drewN ?_ _) | (with_reducible refine Kd.C_drew ?_))); (case side2 => exact HC0_3.out); rintro e w' ⟨rfl, ⟨nd, rfl⟩⟩; refine ⟨_, rfl, ?_⟩))
  go_ret
  exact ⟨by first | rfl | (simp [errW_none, errW_some] <;> rfl) | (simp [*, errW_none, errW_some] <;> rfl), by repeat (first | (with_reducible first | exact HB.out | apply below_alloc | apply pw_below_drewN | apply below_drew1 | refine below_set ?_ GE828.out) | exact HB.out)⟩
 ·
  rw [if_neg c4] at H
  have c4b0 : decide (t829 < 0) = false := decide_eq_false c4
  clear c4
  obtain rfl := Option.some.inj H
  go_enter Try.func24, Try.ntmps24
  go_wp2_with (first | ((with_reducible refine gate_dst (N := 2) rfl ?_); refine box_event ?hg (N := 2) ?hd (cs := #[.int .i64 a0_0, .int .i64 a0_1, .int .i64 a0_2, .slice A0_3 l0_3.length c0_3]) (t := 38) ?hr ?_; (case hd => rfl); (case hg => rfl); (case hr => first | (go_simp; done) | (go_simp; rfl)); intro gb828 hg w7 hbox hb; have n0_ := Aside0.mk (below_step (by repeat (first | (with_reducible first | exact HB.out | apply below_alloc | apply pw_below_drewN | apply below_drew1) | exact HB.out)) hb); have n1_ := Aside0.mk (hbox); have n2_ := Aside0.mk ((by rw [hg]; exact (below_size (by repeat (first | (with_reducible first | exact HB.out | apply below_alloc | apply pw_below_drewN | apply below_drew1) | exact HB.out))) : w.heap.size ≤ gb828)); have n3_ := Aside0.mk ((by rw [hg]; exact (below_size (by repeat (first | (with_reducible first | exact HB.out | apply below_alloc | apply pw_below_drewN | apply below_drew1) | exact HB.out))) : w.heap.size ≤ gb828)); clear HB; have HB := n0_; have BK828 := n1_; have GW828 := n2_; have GE828 := n3_; clear n0_ n1_ n2_ n3_; clear hb hbox hg; have hcz8_0 : w7.cell? ⟨gb828, 0, none⟩ = some (.int .i64 a0_0) := (blk_cell BK828.out 0).trans rfl; have hcz8_1 : w7.cell? ⟨gb828, 1, none⟩ = some (.int .i64 a0_1) := (blk_cell BK828.out 1).trans rfl; have hcz8_2 : w7.cell? ⟨gb828, 2, none⟩ = some (.int .i64 a0_2) := (blk_cell BK828.out 2).trans rfl; have hcz8_3 : w7.cell? ⟨gb828, 3, none⟩ = some (.slice A0_3 l0_3.length c0_3) := (blk_cell BK828.out 3).trans rfl; have hfz8_0 := blk_frozen BK828.out 0; have hfz8_1 := blk_frozen BK828.out 1; have hfz8_2 := blk_frozen BK828.out 2; have hfz8_3 := blk_frozen BK828.out 3) | ((with_reducible refine gate_callee (f := 53) rfl ?_); refine goesL_ (some 8) rfl rfl Try.func53 (by kernel_rfl) rfl #[.slice A0_3 l0_3.length c0_3, .int .i64 a1] rfl (by (try simp only [List.map_toArray, List.map_cons, List.map_nil]); first | done | rfl | (simp only [List.length_drop, List.length_take]; rfl)) ?_; (with_reducible refine (laws_szIntS.calls _ _ l0_3 a1 t829 _ ?side1 ?side2 A3.out).mono ?_); (case side1 => repeat (first | exact (Kd.C_below HR0_3.out HB.out) | (with_reducible refine Kd.C_alloc ?_ _) | (with_reducible refine Kd.C_drewN ?_ _) | (with_reducible refine Kd.C_drew ?_))); (case side2 => exact HC0_3.out); rintro e w' ⟨rfl, ⟨nd, rfl⟩⟩; refine ⟨_, rfl, ?_⟩))
  go_ret
  exact ⟨by first | rfl | (simp [errW_none, errW_some] <;> rfl) | (simp [*, errW_none, errW_some] <;> rfl), by repeat (first | (with_reducible first | exact HB.out | apply below_alloc | apply pw_below_drewN | apply below_drew1 | refine below_set ?_ GE828.out) | exact HB.out)⟩

/-! ### laws_toImage: function 26 -/
def laws_toImage.f (k : Nat) (a0_0 : Int) (a0_1 : Int) (a0_2 : Int) (l0_3 : List Int) : Option (Int × Int × Int × List Int) := (laws_toIntS.f k l0_3).bind fun t838 => (some (a0_0, a0_1, a0_2, t838))
theorem laws_toImage.mono : ∀ a0 a1 a2 a3 k, LeO (laws_toImage.f k a0 a1 a2 a3) (laws_toImage.f (k + 1) a0 a1 a2 a3) := by
 intro a0 a1 a2 a3 k
 unfold laws_toImage.f
 repeat' first
   | (with_reducible exact laws_toIntS.mono _ _)
   | (with_reducible exact LeO.refl _)
   | (with_reducible exact LeO.none _)
   | (with_reducible refine LeO.ite ?_ ?_)
   | (with_reducible refine LeO.bind ?_ (fun _ => ?_))
   | exact laws_toIntS.mono _ _
   | exact LeO.none _
   | refine LeO.ite ?_ ?_
   | refine LeO.bind ?_ (fun _ => ?_)
set_option maxHeartbeats 8000000 in
set_option maxRecDepth 100000 in
theorem laws_toImage.calls (k : Nat) (a0_0 : Int) (a0_1 : Int) (a0_2 : Int) (A0_3 : Option Addr) (c0_3 : Nat) (l0_3 : List Int) (r1 : Int) (r2 : Int) (r3 : Int) (r4 : List Int) (w : World) (hr0_3 : Kd.C (Kd.int .i64) w A0_3 l0_3.length l0_3) (hc0_3 : l0_3.length ≤ c0_3) (h : laws_toImage.f k a0_0 a0_1 a0_2 l0_3 = some (r1, r2, r3, r4)) :
  Calls Try.prog 26 #[.agg #[.int .i64 a0_0, .int .i64 a0_1, .int .i64 a0_2, .slice A0_3 l0_3.length c0_3]] w fun e w' => ∃ v3_ : Value, e = .returned (.agg #[.int .i64 r1, .int .i64 r2, .int .i64 r3, v3_]) ∧ Kd.R (Kd.int .i64) 3 w' w.heap.size (fun _ => True) v3_ r4 ∧ Below w.heap.size w w' := by
 have hu38 := Try.underlying38
 have hu24 := Try.underlying24
 have HR0_3 := Aside0.mk hr0_3
 have HC0_3 := Aside0.mk hc0_3
 clear hr0_3 hc0_3
 have HB := Aside0.mk (Below.refl w.heap.size w)
 have H : ((laws_toIntS.f k l0_3).bind fun t838 => (some (a0_0, a0_1, a0_2, t838))) = some (r1, r2, r3, r4) := h
 clear h
 replace H := Option.bind_eq_some_iff.mp H
 obtain ⟨t838, A20, H⟩ := H
 replace H : (some (a0_0, a0_1, a0_2, t838)) = some (r1, r2, r3, r4) := H
 have A2 := Aside0.mk A20
 clear A20
 simp only [Option.some.injEq, Prod.mk.injEq] at H
 obtain ⟨rfl, rfl, rfl, rfl⟩ := H
 go_enter Try.func26, Try.ntmps26
 go_wp2_with (first | ((with_reducible refine gate_dst (N := 1) rfl ?_); refine box_event ?hg (N := 1) ?hd (cs := #[.int .i64 a0_0, .int .i64 a0_1, .int .i64 a0_2, .slice A0_3 l0_3.length c0_3]) (t := 38) ?hr ?_; (case hd => rfl); (case hg => rfl); (case hr => first | (go_simp; done) | (go_simp; rfl)); intro gb835 hg w3 hbox hb; have n0_ := Aside0.mk (below_step (by repeat (first | (with_reducible first | exact HB.out | apply below_alloc | apply pw_below_drewN | apply below_drew1) | exact HB.out)) hb); have n1_ := Aside0.mk (hbox); have n2_ := Aside0.mk ((by rw [hg]; exact (below_size (by repeat (first | (with_reducible first | exact HB.out | apply below_alloc | apply pw_below_drewN | apply below_drew1) | exact HB.out))) : w.heap.size ≤ gb835)); have n3_ := Aside0.mk ((by rw [hg]; exact (below_size (by repeat (first | (with_reducible first | exact HB.out | apply below_alloc | apply pw_below_drewN | apply below_drew1) | exact HB.out))) : w.heap.size ≤ gb835)); clear HB; have HB := n0_; have BK835 := n1_; have GW835 := n2_; have GE835 := n3_; clear n0_ n1_ n2_ n3_; clear hb hbox hg) | ((with_reducible refine gate_dst (N := 2) rfl ?_); refine box_event ?hg (N := 2) ?hd (cs := #[.int .i64 0, .int .i64 0, .int .i64 0, .slice none 0 0]) (t := 24) ?hr ?_; (case hd => rfl); (case hg => rfl); (case hr => first | (go_simp; done) | (go_simp; rfl)); intro gb836 hg w4 hbox hb; have n0_ := Aside0.mk (blk_below (g := gb835) (o := .cells #[.int .i64 a0_0, .int .i64 a0_1, .int .i64 a0_2, .slice A0_3 l0_3.length c0_3] 38 (0, 0)) (by (with_reducible repeat (first | refine blk_drewN ?_ _ | refine blk_drew ?_ | refine blk_alloc ?_ _)); exact BK835.out) hb); have n1_ := Aside0.mk (below_step (by repeat (first | (with_reducible first | exact HB.out | apply below_alloc | apply pw_below_drewN | apply below_drew1 | refine below_set ?_ GE835.out) | exact HB.out)) hb); have n2_ := Aside0.mk (hbox); have n3_ := Aside0.mk ((by rw [hg]; exact (below_size (by repeat (first | (with_reducible first | exact HB.out | apply below_alloc | apply pw_below_drewN | apply below_drew1 | refine below_set ?_ GE835.out) | exact HB.out))) : w.heap.size ≤ gb836)); have n4_ := Aside0.mk ((by rw [hg]; exact (below_size (by repeat (first | (with_reducible first | exact HB.out | apply below_alloc | apply pw_below_drewN | apply below_drew1 | refine below_set ?_ GE835.out) | exact HB.out))) : w.heap.size ≤ gb836)); have n5_ := Aside0.mk ((by rw [hg]; exact Nat.ne_of_lt (blk_lt (g := gb835) (o := .cells #[.int .i64 a0_0, .int .i64 a0_1, .int .i64 a0_2, .slice A0_3 l0_3.length c0_3] 38 (0, 0)) (by (with_reducible repeat (first | refine blk_drewN ?_ _ | refine blk_drew ?_ | refine blk_alloc ?_ _)); exact BK835.out)) : gb835 ≠ gb836)); have n6_ := Aside0.mk ((by rw [hg]; exact Nat.ne_of_gt (blk_lt (g := gb835) (o := .cells #[.int .i64 a0_0, .int .i64 a0_1, .int .i64 a0_2, .slice A0_3 l0_3.length c0_3] 38 (0, 0)) (by (with_reducible repeat (first | refine blk_drewN ?_ _ | refine blk_drew ?_ | refine blk_alloc ?_ _)); exact BK835.out)) : gb836 ≠ gb835)); clear BK835; clear HB; have BK835 := n0_; have HB := n1_; have BK836 := n2_; have GW836 := n3_; have GE836 := n4_; have NB835_836 := n5_; have NB836_835 := n6_; clear n0_ n1_ n2_ n3_ n4_ n5_ n6_; clear hb hbox hg) | ((with_reducible refine gate_dst (N := 3) rfl ?_); refine box_event ?hg (N := 3) ?hd (cs := #[.int .i64 0, .int .i64 0, .int .i64 0, .slice none 0 0]) (t := 24) ?hr ?_; (case hd => rfl); (case hg => rfl); (case hr => first | (go_simp; done) | (go_simp; rfl)); intro gb837 hg w5 hbox hb; have n0_ := Aside0.mk (blk_below (g := gb835) (o := .cells #[.int .i64 a0_0, .int .i64 a0_1, .int .i64 a0_2, .slice A0_3 l0_3.length c0_3] 38 (0, 0)) (by (with_reducible repeat (first | refine blk_drewN ?_ _ | refine blk_drew ?_ | refine blk_alloc ?_ _)); exact BK835.out) hb); have n1_ := Aside0.mk (blk_below (g := gb836) (o := .cells #[.int .i64 0, .int .i64 0, .int .i64 0, .slice none 0 0] 24 (0, 0)) (by (with_reducible repeat (first | refine blk_drewN ?_ _ | refine blk_drew ?_ | refine blk_alloc ?_ _)); exact BK836.out) hb); have n2_ := Aside0.mk (below_step (by repeat (first | (with_reducible first | exact HB.out | apply below_alloc | apply pw_below_drewN | apply below_drew1 | refine below_set ?_ GE835.out | refine below_set ?_ GE836.out) | exact HB.out)) hb); have n3_ := Aside0.mk (hbox); have n4_ := Aside0.mk ((by rw [hg]; exact (below_size (by repeat (first | (with_reducible first | exact HB.out | apply below_alloc | apply pw_below_drewN | apply below_drew1 | refine below_set ?_ GE835.out | refine below_set ?_ GE836.out) | exact HB.out))) : w.heap.size ≤ gb837)); have n5_ := Aside0.mk ((by rw [hg]; exact (below_size (by repeat (first | (with_reducible first | exact HB.out | apply below_alloc | apply pw_below_drewN | apply below_drew1 | refine below_set ?_ GE835.out | refine below_set ?_ GE836.out) | exact HB.out))) : w.heap.size ≤ gb837)); have n6_ := Aside0.mk ((by rw [hg]; exact Nat.ne_of_lt (blk_lt (g := gb835) (o := .cells #[.int .i64 a0_0, .int .i64 a0_1, .int .i64 a0_2, .slice A0_3 l0_3.length c0_3] 38 (0, 0)) (by (with_reducible repeat (first | refine blk_drewN ?_ _ | refine blk_drew ?_ | refine blk_alloc ?_ _)); exact BK835.out)) : gb835 ≠ gb837)); have n7_ := Aside0.mk ((by rw [hg]; exact Nat.ne_of_gt (blk_lt (g := gb835) (o := .cells #[.int .i64 a0_0, .int .i64 a0_1, .int .i64 a0_2, .slice A0_3 l0_3.length c0_3] 38 (0, 0)) (by (with_reducible repeat (first | refine blk_drewN ?_ _ | refine blk_drew ?_ | refine blk_alloc ?_ _)); exact BK835.out)) : gb837 ≠ gb835)); have n8_ := Aside0.mk ((by rw [hg]; exact Nat.ne_of_lt (blk_lt (g := gb836) (o := .cells #[.int .i64 0, .int .i64 0, .int .i64 0, .slice none 0 0] 24 (0, 0)) (by (with_reducible repeat (first | refine blk_drewN ?_ _ | refine blk_drew ?_ | refine blk_alloc ?_ _)); exact BK836.out)) : gb836 ≠ gb837)); have n9_ := Aside0.mk ((by rw [hg]; exact Nat.ne_of_gt (blk_lt (g := gb836) (o := .cells #[.int .i64 0, .int .i64 0, .int .i64 0, .slice none 0 0] 24 (0, 0)) (by (with_reducible repeat (first | refine blk_drewN ?_ _ | refine blk_drew ?_ | refine blk_alloc ?_ _)); exact BK836.out)) : gb837 ≠ gb836)); clear BK835; clear BK836; clear HB; have BK835 := n0_; have BK836 := n1_; have HB := n2_; have BK837 := n3_; have GW837 := n4_; have GE837 := n5_; have NB835_837 := n6_; have NB837_835 := n7_; have NB836_837 := n8_; have NB837_836 := n9_; clear n0_ n1_ n2_ n3_ n4_ n5_ n6_ n7_ n8_ n9_; clear hb hbox hg; have hnb6 := NB835_836.out; have hnc6 := NB836_835.out; have hnb7 := NB835_837.out; have hnc7 := NB837_835.out; have hcz8_0 : w5.cell? ⟨gb835, 0, none⟩ = some (.int .i64 a0_0) := (blk_cell BK835.out 0).trans rfl; have hcz8_1 : w5.cell? ⟨gb835, 1, none⟩ = some (.int .i64 a0_1) := (blk_cell BK835.out 1).trans rfl; have hcz8_2 : w5.cell? ⟨gb835, 2, none⟩ = some (.int .i64 a0_2) := (blk_cell BK835.out 2).trans rfl; have hcz8_3 : w5.cell? ⟨gb835, 3, none⟩ = some (.slice A0_3 l0_3.length c0_3) := (blk_cell BK835.out 3).trans rfl; have hfz8_0 := blk_frozen BK835.out 0; have hfz8_1 := blk_frozen BK835.out 1; have hfz8_2 := blk_frozen BK835.out 2; have hfz8_3 := blk_frozen BK835.out 3; have hnb9 := NB837_836.out; have hnc9 := NB836_837.out; have hcz10_0 : w5.cell? ⟨gb837, 0, none⟩ = some (.int .i64 0) := (blk_cell BK837.out 0).trans rfl; have hcz10_1 : w5.cell? ⟨gb837, 1, none⟩ = some (.int .i64 0) := (blk_cell BK837.out 1).trans rfl; have hcz10_2 : w5.cell? ⟨gb837, 2, none⟩ = some (.int .i64 0) := (blk_cell BK837.out 2).trans rfl; have hcz10_3 : w5.cell? ⟨gb837, 3, none⟩ = some (.slice none 0 0) := (blk_cell BK837.out 3).trans rfl; have hfz10_0 := blk_frozen BK837.out 0; have hfz10_1 := blk_frozen BK837.out 1; have hfz10_2 := blk_frozen BK837.out 2; have hfz10_3 := blk_frozen BK837.out 3) | ((with_reducible refine gate_callee (f := 13) rfl ?_); refine goesL_ (some 15) rfl rfl Try.func13 (by kernel_rfl) rfl #[.slice A0_3 l0_3.length c0_3] rfl (by (try simp only [List.map_toArray, List.map_cons, List.map_nil]); first | done | rfl | (simp only [List.length_drop, List.length_take]; rfl)) ?_; (with_reducible refine (laws_toIntS.calls k _ _ l0_3 t838 _ ?side1 ?side2 A2.out).mono ?_); (case side1 => exact Kd.C_below HR0_3.out (by repeat (first | (with_reducible first | exact HB.out | apply below_alloc | apply pw_below_drewN | apply below_drew1 | refine below_set ?_ GE835.out | refine below_set ?_ GE836.out | refine below_set ?_ GE837.out) | exact HB.out))); (case side2 => exact HC0_3.out); rintro e w11 ⟨v839, rfl, ho0, hb⟩; refine ⟨_, rfl, ?_⟩; have n0_ := Aside0.mk (Kd.R_lower ho0 (below_size (by repeat (first | (with_reducible first | exact HB.out | apply below_alloc | apply pw_below_drewN | apply below_drew1 | refine below_set ?_ GE835.out | refine below_set ?_ GE836.out | refine below_set ?_ GE837.out) | exact HB.out)))); have n1_ := Aside0.mk (blk_below (g := gb835) (o := .cells #[.int .i64 a0_0, .int .i64 a0_1, .int .i64 a0_2, .slice A0_3 l0_3.length c0_3] 38 (0, 0)) (by (with_reducible repeat (first | refine blk_drewN ?_ _ | refine blk_drew ?_ | refine blk_alloc ?_ _)); refine blk_far ?_ NB835_837.out _; (with_reducible repeat (first | refine blk_drewN ?_ _ | refine blk_drew ?_ | refine blk_alloc ?_ _)); refine blk_far ?_ NB835_837.out _; (with_reducible repeat (first | refine blk_drewN ?_ _ | refine blk_drew ?_ | refine blk_alloc ?_ _)); refine blk_far ?_ NB835_837.out _; (with_reducible repeat (first | refine blk_drewN ?_ _ | refine blk_drew ?_ | refine blk_alloc ?_ _)); exact BK835.out) hb); have n2_ := Aside0.mk (blk_below (g := gb836) (o := .cells #[.int .i64 0, .int .i64 0, .int .i64 0, .slice none 0 0] 24 (0, 0)) (by (with_reducible repeat (first | refine blk_drewN ?_ _ | refine blk_drew ?_ | refine blk_alloc ?_ _)); refine blk_far ?_ NB836_837.out _; (with_reducible repeat (first | refine blk_drewN ?_ _ | refine blk_drew ?_ | refine blk_alloc ?_ _)); refine blk_far ?_ NB836_837.out _; (with_reducible repeat (first | refine blk_drewN ?_ _ | refine blk_drew ?_ | refine blk_alloc ?_ _)); refine blk_far ?_ NB836_837.out _; (with_reducible repeat (first | refine blk_drewN ?_ _ | refine blk_drew ?_ | refine blk_alloc ?_ _)); exact BK836.out) hb); have n3_ := Aside0.mk (blk_below (g := gb837) (o := .cells #[.int .i64 a0_0, .int .i64 a0_1, .int .i64 a0_2, .slice none 0 0] 24 (0, 0)) (by (with_reducible repeat (first | refine blk_drewN ?_ _ | refine blk_drew ?_ | refine blk_alloc ?_ _)); refine blk_put (cs := #[.int .i64 a0_0, .int .i64 a0_1, .int .i64 0, .slice none 0 0]) ?_ 2 _ rfl; (with_reducible repeat (first | refine blk_drewN ?_ _ | refine blk_drew ?_ | refine blk_alloc ?_ _)); refine blk_put (cs := #[.int .i64 a0_0, .int .i64 0, .int .i64 0, .slice none 0 0]) ?_ 1 _ rfl; (with_reducible repeat (first | refine blk_drewN ?_ _ | refine blk_drew ?_ | refine blk_alloc ?_ _)); refine blk_put (cs := #[.int .i64 0, .int .i64 0, .int .i64 0, .slice none 0 0]) ?_ 0 _ rfl; (with_reducible repeat (first | refine blk_drewN ?_ _ | refine blk_drew ?_ | refine blk_alloc ?_ _)); exact BK837.out) hb); have n4_ := Aside0.mk (below_step (by repeat (first | (with_reducible first | exact HB.out | apply below_alloc | apply pw_below_drewN | apply below_drew1 | refine below_set ?_ GE835.out | refine below_set ?_ GE836.out | refine below_set ?_ GE837.out) | exact HB.out)) hb); clear BK835; clear BK836; clear BK837; clear HB; have HO840 := n0_; have BK835 := n1_; have BK836 := n2_; have BK837 := n3_; have HB := n4_; clear n0_ n1_ n2_ n3_ n4_; (try clear hb); (try clear hb2); (try clear hk); (try clear hi); (try clear ho0); obtain ⟨Ao12, co12, eo12⟩ := Kd.R_slice HO840.out; subst eo12; have hcz13_0 : w11.cell? ⟨gb837, 0, none⟩ = some (.int .i64 a0_0) := (blk_cell BK837.out 0).trans rfl; have hcz13_1 : w11.cell? ⟨gb837, 1, none⟩ = some (.int .i64 a0_1) := (blk_cell BK837.out 1).trans rfl; have hcz13_2 : w11.cell? ⟨gb837, 2, none⟩ = some (.int .i64 a0_2) := (blk_cell BK837.out 2).trans rfl; have hcz13_3 : w11.cell? ⟨gb837, 3, none⟩ = some (.slice none 0 0) := (blk_cell BK837.out 3).trans rfl; have hfz13_0 := blk_frozen BK837.out 0; have hfz13_1 := blk_frozen BK837.out 1; have hfz13_2 := blk_frozen BK837.out 2; have hfz13_3 := blk_frozen BK837.out 3; have hcz14_0 : w11.cell? ⟨gb836, 0, none⟩ = some (.int .i64 0) := (blk_cell BK836.out 0).trans rfl; have hcz14_1 : w11.cell? ⟨gb836, 1, none⟩ = some (.int .i64 0) := (blk_cell BK836.out 1).trans rfl; have hcz14_2 : w11.cell? ⟨gb836, 2, none⟩ = some (.int .i64 0) := (blk_cell BK836.out 2).trans rfl; have hcz14_3 : w11.cell? ⟨gb836, 3, none⟩ = some (.slice none 0 0) := (blk_cell BK836.out 3).trans rfl; have hfz14_0 := blk_frozen BK836.out 0; have hfz14_1 := blk_frozen BK836.out 1; have hfz14_2 := blk_frozen BK836.out 2; have hfz14_3 := blk_frozen BK836.out 3))
 refine bodyPost_ret (results_cell_row rfl _ _ gb836 24 #[.int .i64 a0_0, .int .i64 a0_1, .int .i64 a0_2, .slice Ao12 t838.length co12] (0, 0) _ rfl (by (with_reducible repeat (first | refine blk_drewN ?_ _ | refine blk_drew ?_ | refine blk_alloc ?_ _)); refine blk_put (cs := #[.int .i64 a0_0, .int .i64 a0_1, .int .i64 a0_2, .slice none 0 0]) ?_ 3 _ rfl; (with_reducible repeat (first | refine blk_drewN ?_ _ | refine blk_drew ?_ | refine blk_alloc ?_ _)); refine blk_put (cs := #[.int .i64 a0_0, .int .i64 a0_1, .int .i64 0, .slice none 0 0]) ?_ 2 _ rfl; (with_reducible repeat (first | refine blk_drewN ?_ _ | refine blk_drew ?_ | refine blk_alloc ?_ _)); refine blk_put (cs := #[.int .i64 a0_0, .int .i64 0, .int .i64 0, .slice none 0 0]) ?_ 1 _ rfl; (with_reducible repeat (first | refine blk_drewN ?_ _ | refine blk_drew ?_ | refine blk_alloc ?_ _)); refine blk_put (cs := #[.int .i64 0, .int .i64 0, .int .i64 0, .slice none 0 0]) ?_ 0 _ rfl; (with_reducible repeat (first | refine blk_drewN ?_ _ | refine blk_drew ?_ | refine blk_alloc ?_ _)); refine blk_far ?_ NB836_837.out _; (with_reducible repeat (first | refine blk_drewN ?_ _ | refine blk_drew ?_ | refine blk_alloc ?_ _)); exact BK836.out) Try.underlying24 rfl (by kernel_rfl)) rfl ?_
 exact ⟨_, by first | rfl | (simp [errW_none, errW_some] <;> rfl) | (simp [*, errW_none, errW_some] <;> rfl), by (with_reducible repeat (first | apply Kd.R_alloc | apply Kd.R_drewN | apply Kd.R_drew)); exact Kd.R_mono (Kd.R_far (p := ⟨gb836, 3, none⟩) (Kd.R_far (p := ⟨gb836, 2, none⟩) (Kd.R_far (p := ⟨gb836, 1, none⟩) (Kd.R_far (p := ⟨gb836, 0, none⟩) (Kd.R_far (p := ⟨gb837, 3, none⟩) (Kd.R_types (Kd.R_types HO840.out BK837.out (by decide)) BK836.out (by decide)) (fun _ hk => hk.1.2) (.slice Ao12 t838.length co12)) (fun _ hk => hk.2) (.int .i64 a0_0)) (fun _ hk => hk.2) (.int .i64 a0_1)) (fun _ hk => hk.2) (.int .i64 a0_2)) (fun _ hk => hk.2) (.slice Ao12 t838.length co12)) (fun _ hk => trivial), by repeat (first | (with_reducible first | exact HB.out | apply below_alloc | apply pw_below_drewN | apply below_drew1 | refine below_set ?_ GE835.out | refine below_set ?_ GE836.out | refine below_set ?_ GE837.out) | exact HB.out)⟩

/-! ### laws_FnExactUnfilterImage: function 8 -/
mutual
def laws_FnExactUnfilterImage.j0 : Nat → Int → Int → Int → List Int → Bool → List Int → Bool → Bool → Int → Int → Int → List Int → Int → Int → Int → List Int → Option (Bool)
 | 0, _, _, _, _, _, _, _, _, _, _, _, _, _, _, _, _ => none
 | k + 1, x0, x1, x2, x3, x10, x11, x13, x49, x959000, x959001, x959002, x959003, x970000, x970001, x970002, x970003 => if x49 = true then (some false) else ((laws_toIntS.f k x3).bind fun t971 => ((laws_eqIntS.f k x11 t971).bind fun t974 => (if t974 = true then ((laws_markIntS.f k x11 1).bind fun bt975 => (if bt975.1 < 0 then (laws_FnExactUnfilterImage.j1 k x0 x1 x2 x3 x10 true x959000 x959001 x959002 x959003 x970000 x970001 x970002 x970003) else ((laws_eqImage.f k x970000 x970001 x970002 x970003 x959000 x959001 x959002 x959003).bind fun t977 => (if t977 = true then (laws_FnExactUnfilterImage.j1 k x0 x1 x2 x3 x10 (x13 != x10) x959000 x959001 x959002 x959003 x970000 x970001 x970002 x970003) else (laws_FnExactUnfilterImage.j1 k x0 x1 x2 x3 x10 true x959000 x959001 x959002 x959003 x970000 x970001 x970002 x970003))))) else (some false))))
def laws_FnExactUnfilterImage.j1 : Nat → Int → Int → Int → List Int → Bool → Bool → Int → Int → Int → List Int → Int → Int → Int → List Int → Option (Bool)
 | 0, _, _, _, _, _, _, _, _, _, _, _, _, _, _ => none
 | k + 1, x0, x1, x2, x3, x10, x70, x959000, x959001, x959002, x959003, x970000, x970001, x970002, x970003 => if x70 = true then (some false) else ((laws_markImage.f k x970000 x970001 x970002 x970003 1).bind fun bt978 => ((laws_heldImage.f k x970000 x970001 x970002 bt978.2 1).bind fun t980 => (if t980 < 0 then (some false) else (if t980 = bt978.1 then ((laws_toIntS.f k x3).bind fun t981 => ((impl_UnfilterImage.f k x0 x1 x2 t981).bind fun bt984 => ((laws_eqImage.f k bt984.1 bt984.2.1 bt984.2.2.1 bt984.2.2.2.1 x959000 x959001 x959002 x959003).bind fun t992 => (if t992 = true then (laws_FnExactUnfilterImage.j2 k bt978.1 (bt984.2.2.2.2 != x10) x970000 x970001 x970002 bt978.2) else (laws_FnExactUnfilterImage.j2 k bt978.1 true x970000 x970001 x970002 bt978.2))))) else (some false)))))
def laws_FnExactUnfilterImage.j2 : Nat → Int → Bool → Int → Int → Int → List Int → Option (Bool)
 | 0, _, _, _, _, _, _ => none
 | k + 1, x15, x99, x970000, x970001, x970002, x970003 => if x99 = true then (some false) else ((laws_heldImage.f k x970000 x970001 x970002 x970003 1).bind fun t993 => (if t993 < 0 then (some false) else (if t993 = x15 then (some true) else (some false))))
end
def laws_FnExactUnfilterImage.f (k : Nat) (a0 : Int) (a1 : Int) (a2 : Int) (l3 : List Int) : Option (Bool) := if (l3.length : Int) > 1048576 then (some true) else ((laws_toIntS.f k l3).bind fun t948 => ((spec_UnfilterImage.f k a0 a1 a2 t948).bind fun bt951 => ((laws_toIntS.f k l3).bind fun t959 => ((impl_UnfilterImage.f k a0 a1 a2 t959).bind fun bt962 => ((laws_eqImage.f k bt962.1 bt962.2.1 bt962.2.2.1 bt962.2.2.2.1 bt951.1 bt951.2.1 bt951.2.2.1 bt951.2.2.2.1).bind fun t970 => (if t970 = true then (laws_FnExactUnfilterImage.j0 k a0 a1 a2 l3 bt951.2.2.2.2 t959 bt962.2.2.2.2 (bt962.2.2.2.2 != bt951.2.2.2.2) bt951.1 bt951.2.1 bt951.2.2.1 bt951.2.2.2.1 bt962.1 bt962.2.1 bt962.2.2.1 bt962.2.2.2.1) else (laws_FnExactUnfilterImage.j0 k a0 a1 a2 l3 bt951.2.2.2.2 t959 bt962.2.2.2.2 true bt951.1 bt951.2.1 bt951.2.2.1 bt951.2.2.2.1 bt962.1 bt962.2.1 bt962.2.2.1 bt962.2.2.2.1)))))))
theorem laws_FnExactUnfilterImage.mono_l : ∀ k, (∀ y0 y1 y2 y3 y4 y5 y6 y7 y8 y9 y10 y11 y12 y13 y14 y15, LeO (laws_FnExactUnfilterImage.j0 k y0 y1 y2 y3 y4 y5 y6 y7 y8 y9 y10 y11 y12 y13 y14 y15) (laws_FnExactUnfilterImage.j0 (k + 1) y0 y1 y2 y3 y4 y5 y6 y7 y8 y9 y10 y11 y12 y13 y14 y15)) ∧ (∀ y0 y1 y2 y3 y4 y5 y6 y7 y8 y9 y10 y11 y12 y13, LeO (laws_FnExactUnfilterImage.j1 k y0 y1 y2 y3 y4 y5 y6 y7 y8 y9 y10 y11 y12 y13) (laws_FnExactUnfilterImage.j1 (k + 1) y0 y1 y2 y3 y4 y5 y6 y7 y8 y9 y10 y11 y12 y13)) ∧ (∀ y0 y1 y2 y3 y4 y5, LeO (laws_FnExactUnfilterImage.j2 k y0 y1 y2 y3 y4 y5) (laws_FnExactUnfilterImage.j2 (k + 1) y0 y1 y2 y3 y4 y5))
 | 0 => ⟨fun _ _ _ _ _ _ _ _ _ _ _ _ _ _ _ _ r h => by simp [laws_FnExactUnfilterImage.j0] at h, fun _ _ _ _ _ _ _ _ _ _ _ _ _ _ r h => by simp [laws_FnExactUnfilterImage.j1] at h, fun _ _ _ _ _ _ r h => by simp [laws_FnExactUnfilterImage.j2] at h⟩
 | k + 1 => by
  obtain ⟨ih0, ih1, ih2⟩ := laws_FnExactUnfilterImage.mono_l k
  refine ⟨?_, ?_, ?_⟩
  ·
   intro y0 y1 y2 y3 y4 y5 y6 y7 y8 y9 y10 y11 y12 y13 y14 y15
   unfold laws_FnExactUnfilterImage.j0
   repeat' first
   | (with_reducible exact ih0 _ _ _ _ _ _ _ _ _ _ _ _ _ _ _ _)
   | (with_reducible exact ih1 _ _ _ _ _ _ _ _ _ _ _ _ _ _)
   | (with_reducible exact ih2 _ _ _ _ _ _)
   | (with_reducible exact impl_UnfilterImage.mono _ _ _ _ _)
   | (with_reducible exact laws_eqImage.mono _ _ _ _ _ _ _ _ _)
   | (with_reducible exact laws_eqIntS.mono _ _ _)
   | (with_reducible exact laws_heldImage.mono _ _ _ _ _ _)
   | (with_reducible exact laws_markImage.mono _ _ _ _ _ _)
   | (with_reducible exact laws_markIntS.mono _ _ _)
   | (with_reducible exact laws_toIntS.mono _ _)
   | (with_reducible exact spec_UnfilterImage.mono _ _ _ _ _)
   | (with_reducible exact LeO.refl _)
   | (with_reducible exact LeO.none _)
   | (with_reducible refine LeO.ite ?_ ?_)
   | (with_reducible refine LeO.bind ?_ (fun _ => ?_))
   | exact ih0 _ _ _ _ _ _ _ _ _ _ _ _ _ _ _ _
   | exact ih1 _ _ _ _ _ _ _ _ _ _ _ _ _ _
   | exact ih2 _ _ _ _ _ _
   | exact impl_UnfilterImage.mono _ _ _ _ _
   | exact laws_eqImage.mono _ _ _ _ _ _ _ _ _
   | exact laws_eqIntS.mono _ _ _
   | exact laws_heldImage.mono _ _ _ _ _ _
   | exact laws_markImage.mono _ _ _ _ _ _
   | exact laws_markIntS.mono _ _ _
   | exact laws_toIntS.mono _ _
   | exact spec_UnfilterImage.mono _ _ _ _ _
   | exact LeO.none _
   | refine LeO.ite ?_ ?_
   | refine LeO.bind ?_ (fun _ => ?_)
  ·
   intro y0 y1 y2 y3 y4 y5 y6 y7 y8 y9 y10 y11 y12 y13
   unfold laws_FnExactUnfilterImage.j1
   repeat' first
   | (with_reducible exact ih0 _ _ _ _ _ _ _ _ _ _ _ _ _ _ _ _)
   | (with_reducible exact ih1 _ _ _ _ _ _ _ _ _ _ _ _ _ _)
   | (with_reducible exact ih2 _ _ _ _ _ _)
   | (with_reducible exact impl_UnfilterImage.mono _ _ _ _ _)
   | (with_reducible exact laws_eqImage.mono _ _ _ _ _ _ _ _ _)
   | (with_reducible exact laws_eqIntS.mono _ _ _)
   | (with_reducible exact laws_heldImage.mono _ _ _ _ _ _)
   | (with_reducible exact laws_markImage.mono _ _ _ _ _ _)
   | (with_reducible exact laws_markIntS.mono _ _ _)
   | (with_reducible exact laws_toIntS.mono _ _)
   | (with_reducible exact spec_UnfilterImage.mono _ _ _ _ _)
   | (with_reducible exact LeO.refl _)
   | (with_reducible exact LeO.none _)
   | (with_reducible refine LeO.ite ?_ ?_)
   | (with_reducible refine LeO.bind ?_ (fun _ => ?_))
   | exact ih0 _ _ _ _ _ _ _ _ _ _ _ _ _ _ _ _
   | exact ih1 _ _ _ _ _ _ _ _ _ _ _ _ _ _
   | exact ih2 _ _ _ _ _ _
   | exact impl_UnfilterImage.mono _ _ _ _ _
   | exact laws_eqImage.mono _ _ _ _ _ _ _ _ _
   | exact laws_eqIntS.mono _ _ _
   | exact laws_heldImage.mono _ _ _ _ _ _
   | exact laws_markImage.mono _ _ _ _ _ _
   | exact laws_markIntS.mono _ _ _
   | exact laws_toIntS.mono _ _
   | exact spec_UnfilterImage.mono _ _ _ _ _
   | exact LeO.none _
   | refine LeO.ite ?_ ?_
   | refine LeO.bind ?_ (fun _ => ?_)
  ·
   intro y0 y1 y2 y3 y4 y5
   unfold laws_FnExactUnfilterImage.j2
   repeat' first
   | (with_reducible exact ih0 _ _ _ _ _ _ _ _ _ _ _ _ _ _ _ _)
   | (with_reducible exact ih1 _ _ _ _ _ _ _ _ _ _ _ _ _ _)
   | (with_reducible exact ih2 _ _ _ _ _ _)
   | (with_reducible exact impl_UnfilterImage.mono _ _ _ _ _)
   | (with_reducible exact laws_eqImage.mono _ _ _ _ _ _ _ _ _)
   | (with_reducible exact laws_eqIntS.mono _ _ _)
   | (with_reducible exact laws_heldImage.mono _ _ _ _ _ _)
   | (with_reducible exact laws_markImage.mono _ _ _ _ _ _)
   | (with_reducible exact laws_markIntS.mono _ _ _)
   | (with_reducible exact laws_toIntS.mono _ _)
   | (with_reducible exact spec_UnfilterImage.mono _ _ _ _ _)
   | (with_reducible exact LeO.refl _)
   | (with_reducible exact LeO.none _)
   | (with_reducible refine LeO.ite ?_ ?_)
   | (with_reducible refine LeO.bind ?_ (fun _ => ?_))
   | exact ih0 _ _ _ _ _ _ _ _ _ _ _ _ _ _ _ _
   | exact ih1 _ _ _ _ _ _ _ _ _ _ _ _ _ _
   | exact ih2 _ _ _ _ _ _
   | exact impl_UnfilterImage.mono _ _ _ _ _
   | exact laws_eqImage.mono _ _ _ _ _ _ _ _ _
   | exact laws_eqIntS.mono _ _ _
   | exact laws_heldImage.mono _ _ _ _ _ _
   | exact laws_markImage.mono _ _ _ _ _ _
   | exact laws_markIntS.mono _ _ _
   | exact laws_toIntS.mono _ _
   | exact spec_UnfilterImage.mono _ _ _ _ _
   | exact LeO.none _
   | refine LeO.ite ?_ ?_
   | refine LeO.bind ?_ (fun _ => ?_)
theorem laws_FnExactUnfilterImage.mono : ∀ a0 a1 a2 a3 k, LeO (laws_FnExactUnfilterImage.f k a0 a1 a2 a3) (laws_FnExactUnfilterImage.f (k + 1) a0 a1 a2 a3) := by
 intro a0 a1 a2 a3 k
 obtain ⟨ih0, ih1, ih2⟩ := laws_FnExactUnfilterImage.mono_l k
 unfold laws_FnExactUnfilterImage.f
 repeat' first
   | (with_reducible exact ih0 _ _ _ _ _ _ _ _ _ _ _ _ _ _ _ _)
   | (with_reducible exact ih1 _ _ _ _ _ _ _ _ _ _ _ _ _ _)
   | (with_reducible exact ih2 _ _ _ _ _ _)
   | (with_reducible exact impl_UnfilterImage.mono _ _ _ _ _)
   | (with_reducible exact laws_eqImage.mono _ _ _ _ _ _ _ _ _)
   | (with_reducible exact laws_eqIntS.mono _ _ _)
   | (with_reducible exact laws_heldImage.mono _ _ _ _ _ _)
   | (with_reducible exact laws_markImage.mono _ _ _ _ _ _)
   | (with_reducible exact laws_markIntS.mono _ _ _)
   | (with_reducible exact laws_toIntS.mono _ _)
   | (with_reducible exact spec_UnfilterImage.mono _ _ _ _ _)
   | (with_reducible exact LeO.refl _)
   | (with_reducible exact LeO.none _)
   | (with_reducible refine LeO.ite ?_ ?_)
   | (with_reducible refine LeO.bind ?_ (fun _ => ?_))
   | exact ih0 _ _ _ _ _ _ _ _ _ _ _ _ _ _ _ _
   | exact ih1 _ _ _ _ _ _ _ _ _ _ _ _ _ _
   | exact ih2 _ _ _ _ _ _
   | exact impl_UnfilterImage.mono _ _ _ _ _
   | exact laws_eqImage.mono _ _ _ _ _ _ _ _ _
   | exact laws_eqIntS.mono _ _ _
   | exact laws_heldImage.mono _ _ _ _ _ _
   | exact laws_markImage.mono _ _ _ _ _ _
   | exact laws_markIntS.mono _ _ _
   | exact laws_toIntS.mono _ _
   | exact spec_UnfilterImage.mono _ _ _ _ _
   | exact LeO.none _
   | refine LeO.ite ?_ ?_
   | refine LeO.bind ?_ (fun _ => ?_)
set_option maxHeartbeats 8000000 in
set_option maxRecDepth 100000 in
theorem laws_FnExactUnfilterImage.calls (k : Nat) (a0 : Int) (a1 : Int) (a2 : Int) (A3 : Option Addr) (c3 : Nat) (l3 : List Int) (r : Bool) (w : World) (hr3 : Kd.C (Kd.int .i64) w A3 l3.length l3) (hc3 : l3.length ≤ c3) (h : laws_FnExactUnfilterImage.f k a0 a1 a2 l3 = some r) (hrt : r = true) :
  Calls Try.prog 8 #[.int .i64 a0, .int .i64 a1, .int .i64 a2, .slice A3 l3.length c3] w fun e w' => e = .returned (.bool r) ∧ Below w.heap.size w w' := by
 have hu24 := Try.underlying24
 have HR3 := Aside0.mk hr3
 have HC3 := Aside0.mk hc3
 clear hr3 hc3
 have HB := Aside0.mk (Below.refl w.heap.size w)
 have H : (if (l3.length : Int) > 1048576 then (some true) else ((laws_toIntS.f k l3).bind fun t948 => ((spec_UnfilterImage.f k a0 a1 a2 t948).bind fun bt951 => ((laws_toIntS.f k l3).bind fun t959 => ((impl_UnfilterImage.f k a0 a1 a2 t959).bind fun bt962 => ((laws_eqImage.f k bt962.1 bt962.2.1 bt962.2.2.1 bt962.2.2.2.1 bt951.1 bt951.2.1 bt951.2.2.1 bt951.2.2.2.1).bind fun t970 => (if t970 = true then (laws_FnExactUnfilterImage.j0 k a0 a1 a2 l3 bt951.2.2.2.2 t959 bt962.2.2.2.2 (bt962.2.2.2.2 != bt951.2.2.2.2) bt951.1 bt951.2.1 bt951.2.2.1 bt951.2.2.2.1 bt962.1 bt962.2.1 bt962.2.2.1 bt962.2.2.2.1) else (laws_FnExactUnfilterImage.j0 k a0 a1 a2 l3 bt951.2.2.2.2 t959 bt962.2.2.2.2 true bt951.1 bt951.2.1 bt951.2.2.1 bt951.2.2.2.1 bt962.1 bt962.2.1 bt962.2.2.1 bt962.2.2.2.1)))))))) = some r := h
 clear h
 by_cases c5 : (l3.length : Int) > 1048576
 ·
  rw [if_pos c5] at H
  have c5b0 : decide (1048576 < (l3.length : Int)) = true := decide_eq_true c5
  have c5b1 : decide (1048576 < l3.length) = true := decide_eq_true (by omega)
  clear c5
  obtain rfl := Option.some.inj H
  go_enter Try.func8, Try.ntmps8
  go_wp2
  go_ret
  exact ⟨by first | rfl | (simp [errW_none, errW_some] <;> rfl) | (simp [*, errW_none, errW_some] <;> rfl), by repeat (first | (with_reducible first | exact HB.out | apply below_alloc | apply pw_below_drewN | apply below_drew1) | exact HB.out)⟩
 ·
  rw [if_neg c5] at H
  have c5b0 : decide (1048576 < (l3.length : Int)) = false := decide_eq_false c5
  have c5b1 : decide (1048576 < l3.length) = false := decide_eq_false (by omega)
  clear c5
  replace H := Option.bind_eq_some_iff.mp H
  obtain ⟨t948, A60, H⟩ := H
  replace H : ((spec_UnfilterImage.f k a0 a1 a2 t948).bind fun bt951 => ((laws_toIntS.f k l3).bind fun t959 => ((impl_UnfilterImage.f k a0 a1 a2 t959).bind fun bt962 => ((laws_eqImage.f k bt962.1 bt962.2.1 bt962.2.2.1 bt962.2.2.2.1 bt951.1 bt951.2.1 bt951.2.2.1 bt951.2.2.2.1).bind fun t970 => (if t970 = true then (laws_FnExactUnfilterImage.j0 k a0 a1 a2 l3 bt951.2.2.2.2 t959 bt962.2.2.2.2 (bt962.2.2.2.2 != bt951.2.2.2.2) bt951.1 bt951.2.1 bt951.2.2.1 bt951.2.2.2.1 bt962.1 bt962.2.1 bt962.2.2.1 bt962.2.2.2.1) else (laws_FnExactUnfilterImage.j0 k a0 a1 a2 l3 bt951.2.2.2.2 t959 bt962.2.2.2.2 true bt951.1 bt951.2.1 bt951.2.2.1 bt951.2.2.2.1 bt962.1 bt962.2.1 bt962.2.2.1 bt962.2.2.2.1)))))) = some r := H
  have A6 := Aside0.mk A60
  clear A60
  replace H := Option.bind_eq_some_iff.mp H
  obtain ⟨⟨t951, t952, t953, t954, t957⟩, A70, H⟩ := H
  replace H : ((laws_toIntS.f k l3).bind fun t959 => ((impl_UnfilterImage.f k a0 a1 a2 t959).bind fun bt962 => ((laws_eqImage.f k bt962.1 bt962.2.1 bt962.2.2.1 bt962.2.2.2.1 t951 t952 t953 t954).bind fun t970 => (if t970 = true then (laws_FnExactUnfilterImage.j0 k a0 a1 a2 l3 t957 t959 bt962.2.2.2.2 (bt962.2.2.2.2 != t957) t951 t952 t953 t954 bt962.1 bt962.2.1 bt962.2.2.1 bt962.2.2.2.1) else (laws_FnExactUnfilterImage.j0 k a0 a1 a2 l3 t957 t959 bt962.2.2.2.2 true t951 t952 t953 t954 bt962.1 bt962.2.1 bt962.2.2.1 bt962.2.2.2.1))))) = some r := H
  have A7 := Aside0.mk A70
  clear A70
  replace H := Option.bind_eq_some_iff.mp H
  obtain ⟨t959, A80, H⟩ := H
  replace H : ((impl_UnfilterImage.f k a0 a1 a2 t959).bind fun bt962 => ((laws_eqImage.f k bt962.1 bt962.2.1 bt962.2.2.1 bt962.2.2.2.1 t951 t952 t953 t954).bind fun t970 => (if t970 = true then (laws_FnExactUnfilterImage.j0 k a0 a1 a2 l3 t957 t959 bt962.2.2.2.2 (bt962.2.2.2.2 != t957) t951 t952 t953 t954 bt962.1 bt962.2.1 bt962.2.2.1 bt962.2.2.2.1) else (laws_FnExactUnfilterImage.j0 k a0 a1 a2 l3 t957 t959 bt962.2.2.2.2 true t951 t952 t953 t954 bt962.1 bt962.2.1 bt962.2.2.1 bt962.2.2.2.1)))) = some r := H
  have A8 := Aside0.mk A80
  clear A80
  replace H := Option.bind_eq_some_iff.mp H
  obtain ⟨⟨t962, t963, t964, t965, t968⟩, A90, H⟩ := H
  replace H : ((laws_eqImage.f k t962 t963 t964 t965 t951 t952 t953 t954).bind fun t970 => (if t970 = true then (laws_FnExactUnfilterImage.j0 k a0 a1 a2 l3 t957 t959 t968 (t968 != t957) t951 t952 t953 t954 t962 t963 t964 t965) else (laws_FnExactUnfilterImage.j0 k a0 a1 a2 l3 t957 t959 t968 true t951 t952 t953 t954 t962 t963 t964 t965))) = some r := H
  have A9 := Aside0.mk A90
  clear A90
  have HC10 := Aside0.mk H
  clear H
  go_enter Try.func8, Try.ntmps8
  go_upto_region 6 with (first | ((with_reducible refine gate_callee (f := 13) rfl ?_); refine goesL_ (some 27) rfl rfl Try.func13 (by kernel_rfl) rfl #[.slice A3 l3.length c3] rfl (by (try simp only [List.map_toArray, List.map_cons, List.map_nil]); first | done | rfl | (simp only [List.length_drop, List.length_take]; rfl)) ?_; (with_reducible refine (laws_toIntS.calls k _ _ l3 t948 _ ?side1 ?side2 A6.out).mono ?_); (case side1 => repeat (first | exact HR3.out | (with_reducible refine Kd.C_alloc ?_ _) | (with_reducible refine Kd.C_drewN ?_ _) | (with_reducible refine Kd.C_drew ?_))); (case side2 => exact HC3.out); rintro e w11 ⟨v949, rfl, ho0, hb⟩; refine ⟨_, rfl, ?_⟩; have n0_ := Aside0.mk (Kd.R_lower ho0 (below_size (by repeat (first | (with_reducible first | exact HB.out | apply below_alloc | apply pw_below_drewN | apply below_drew1) | exact HB.out)))); have n1_ := Aside0.mk (below_step (by repeat (first | (with_reducible first | exact HB.out | apply below_alloc | apply pw_below_drewN | apply below_drew1) | exact HB.out)) hb); clear HB; have HO950 := n0_; have HB := n1_; clear n0_ n1_; (try clear hb); (try clear hb2); (try clear hk); (try clear hi); (try clear ho0); obtain ⟨Ao12, co12, eo12⟩ := Kd.R_slice HO950.out; subst eo12) | ((with_reducible refine gate_callee (f := 31) rfl ?_); refine goesL_ (some 28) rfl rfl Try.func31 (by kernel_rfl) rfl #[.int .i64 a0, .int .i64 a1, .int .i64 a2, .slice Ao12 t948.length co12] rfl (by (try simp only [List.map_toArray, List.map_cons, List.map_nil]); first | done | rfl | (simp only [List.length_drop, List.length_take]; rfl)) ?_; (with_reducible refine (spec_UnfilterImage.calls k a0 a1 a2 _ _ t948 t951 t952 t953 t954 t957 _ ?side1 ?side2 A7.out).mono ?_); (case side1 => repeat (first | exact (Kd.R_reads' HO950.out).2.2 | (with_reducible refine Kd.C_alloc ?_ _) | (with_reducible refine Kd.C_drewN ?_ _) | (with_reducible refine Kd.C_drew ?_))); (case side2 => exact (Kd.R_reads' HO950.out).2.1); rintro e w13 ⟨v955, rfl, ho0, hb⟩; refine ⟨_, rfl, ?_⟩; have n0_ := Aside0.mk (Kd.R_elder' (by (with_reducible repeat (first | apply Kd.R_alloc | apply Kd.R_drewN | apply Kd.R_drew)); exact HO950.out) (Kd.R_base ho0) hb); have n1_ := Aside0.mk (Kd.R_lower (Kd.R_new' ho0 (Kd.R_lt (by (with_reducible repeat (first | apply Kd.R_alloc | apply Kd.R_drewN | apply Kd.R_drew)); exact HO950.out))) (below_size (by repeat (first | (with_reducible first | exact HB.out | apply below_alloc | apply pw_below_drewN | apply below_drew1) | exact HB.out)))); have n2_ := Aside0.mk (below_step (by repeat (first | (with_reducible first | exact HB.out | apply below_alloc | apply pw_below_drewN | apply below_drew1) | exact HB.out)) hb); clear HO950; clear HB; have HO950 := n0_; have HO956 := n1_; have HB := n2_; clear n0_ n1_ n2_; (try clear hb); (try clear hb2); (try clear hk); (try clear hi); (try clear ho0)) | ((with_reducible refine gate_dst (N := 9) rfl ?_); refine box_event ?hg (N := 9) ?hd (cs := #[.int .i64 0, .int .i64 0, .int .i64 0, .slice none 0 0]) (t := 24) ?hr ?_; (case hd => rfl); (case hg => rfl); (case hr => first | (go_simp; done) | (go_simp; rfl)); intro gb958 hg w14 hbox hb; have n0_ := Aside0.mk (Kd.R_below (by (with_reducible repeat (first | apply Kd.R_alloc | apply Kd.R_drewN | apply Kd.R_drew)); exact HO950.out) hb); have n1_ := Aside0.mk (Kd.R_below (by (with_reducible repeat (first | apply Kd.R_alloc | apply Kd.R_drewN | apply Kd.R_drew)); exact HO956.out) hb); have n2_ := Aside0.mk (below_step (by repeat (first | (with_reducible first | exact HB.out | apply below_alloc | apply pw_below_drewN | apply below_drew1) | exact HB.out)) hb); have n3_ := Aside0.mk (hbox); have n4_ := Aside0.mk ((by rw [hg]; exact (below_size (by repeat (first | (with_reducible first | exact HB.out | apply below_alloc | apply pw_below_drewN | apply below_drew1) | exact HB.out))) : w.heap.size ≤ gb958)); have n5_ := Aside0.mk ((by rw [hg]; exact (below_size (by repeat (first | (with_reducible first | exact HB.out | apply below_alloc | apply pw_below_drewN | apply below_drew1) | exact HB.out))) : w.heap.size ≤ gb958)); clear HO950; clear HO956; clear HB; have HO950 := n0_; have HO956 := n1_; have HB := n2_; have BK958 := n3_; have GW958 := n4_; have GE958 := n5_; clear n0_ n1_ n2_ n3_ n4_ n5_; clear hb hbox hg; have hcz15_0 : w14.cell? ⟨gb958, 0, none⟩ = some (.int .i64 0) := (blk_cell BK958.out 0).trans rfl; have hcz15_1 : w14.cell? ⟨gb958, 1, none⟩ = some (.int .i64 0) := (blk_cell BK958.out 1).trans rfl; have hcz15_2 : w14.cell? ⟨gb958, 2, none⟩ = some (.int .i64 0) := (blk_cell BK958.out 2).trans rfl; have hcz15_3 : w14.cell? ⟨gb958, 3, none⟩ = some (.slice none 0 0) := (blk_cell BK958.out 3).trans rfl; have hfz15_0 := blk_frozen BK958.out 0; have hfz15_1 := blk_frozen BK958.out 1; have hfz15_2 := blk_frozen BK958.out 2; have hfz15_3 := blk_frozen BK958.out 3; obtain ⟨Ao16, co16, eo16⟩ := Kd.R_slice HO956.out; subst eo16) | ((with_reducible refine gate_callee (f := 13) rfl ?_); refine goesL_ (some 32) rfl rfl Try.func13 (by kernel_rfl) rfl #[.slice A3 l3.length c3] rfl (by (try simp only [List.map_toArray, List.map_cons, List.map_nil]); first | done | rfl | (simp only [List.length_drop, List.length_take]; rfl)) ?_; (with_reducible refine (laws_toIntS.calls k _ _ l3 t959 _ ?side1 ?side2 A8.out).mono ?_); (case side1 => exact Kd.C_below HR3.out (by repeat (first | (with_reducible first | exact HB.out | apply below_alloc | apply pw_below_drewN | apply below_drew1 | refine below_set ?_ GE958.out) | exact HB.out))); (case side2 => exact HC3.out); rintro e w17 ⟨v960, rfl, ho0, hb⟩; refine ⟨_, rfl, ?_⟩; have n0_ := Aside0.mk (Kd.R_elder' (by (with_reducible repeat (first | apply Kd.R_alloc | apply Kd.R_drewN | apply Kd.R_drew)); exact (Kd.R_mono (Kd.R_far (p := ⟨gb958, 3, none⟩) (Kd.R_far (p := ⟨gb958, 2, none⟩) (Kd.R_far (p := ⟨gb958, 1, none⟩) (Kd.R_far (p := ⟨gb958, 0, none⟩) (Kd.R_types HO950.out BK958.out (by decide)) (fun _ hk => hk.2) (.int .i64 t951)) (fun _ hk => hk.2) (.int .i64 t952)) (fun _ hk => hk.2) (.int .i64 t953)) (fun _ hk => hk.2) (.slice Ao16 t954.length co16)) (fun _ h_ => h_.1))) (Kd.R_base ho0) hb); have n1_ := Aside0.mk (Kd.R_elder' (by (with_reducible repeat (first | apply Kd.R_alloc | apply Kd.R_drewN | apply Kd.R_drew)); exact (Kd.R_mono (Kd.R_far (p := ⟨gb958, 3, none⟩) (Kd.R_far (p := ⟨gb958, 2, none⟩) (Kd.R_far (p := ⟨gb958, 1, none⟩) (Kd.R_far (p := ⟨gb958, 0, none⟩) (Kd.R_types HO956.out BK958.out (by decide)) (fun _ hk => hk.2) (.int .i64 t951)) (fun _ hk => hk.2) (.int .i64 t952)) (fun _ hk => hk.2) (.int .i64 t953)) (fun _ hk => hk.2) (.slice Ao16 t954.length co16)) (fun _ h_ => h_.1))) (Kd.R_base ho0) hb); have n2_ := Aside0.mk (Kd.R_lower (Kd.R_new' (Kd.R_new' ho0 (Kd.R_lt (by (with_reducible repeat (first | apply Kd.R_alloc | apply Kd.R_drewN | apply Kd.R_drew)); exact (Kd.R_mono (Kd.R_far (p := ⟨gb958, 3, none⟩) (Kd.R_far (p := ⟨gb958, 2, none⟩) (Kd.R_far (p := ⟨gb958, 1, none⟩) (Kd.R_far (p := ⟨gb958, 0, none⟩) (Kd.R_types HO950.out BK958.out (by decide)) (fun _ hk => hk.2) (.int .i64 t951)) (fun _ hk => hk.2) (.int .i64 t952)) (fun _ hk => hk.2) (.int .i64 t953)) (fun _ hk => hk.2) (.slice Ao16 t954.length co16)) (fun _ h_ => h_.1))))) (Kd.R_lt (by (with_reducible repeat (first | apply Kd.R_alloc | apply Kd.R_drewN | apply Kd.R_drew)); exact (Kd.R_mono (Kd.R_far (p := ⟨gb958, 3, none⟩) (Kd.R_far (p := ⟨gb958, 2, none⟩) (Kd.R_far (p := ⟨gb958, 1, none⟩) (Kd.R_far (p := ⟨gb958, 0, none⟩) (Kd.R_types HO956.out BK958.out (by decide)) (fun _ hk => hk.2) (.int .i64 t951)) (fun _ hk => hk.2) (.int .i64 t952)) (fun _ hk => hk.2) (.int .i64 t953)) (fun _ hk => hk.2) (.slice Ao16 t954.length co16)) (fun _ h_ => h_.1))))) (below_size (by repeat (first | (with_reducible first | exact HB.out | apply below_alloc | apply pw_below_drewN | apply below_drew1 | refine below_set ?_ GE958.out) | exact HB.out)))); have n3_ := Aside0.mk (blk_below (g := gb958) (o := .cells #[.int .i64 t951, .int .i64 t952, .int .i64 t953, .slice Ao16 t954.length co16] 24 (0, 0)) (by (with_reducible repeat (first | refine blk_drewN ?_ _ | refine blk_drew ?_ | refine blk_alloc ?_ _)); refine blk_put (cs := #[.int .i64 t951, .int .i64 t952, .int .i64 t953, .slice none 0 0]) ?_ 3 _ rfl; (with_reducible repeat (first | refine blk_drewN ?_ _ | refine blk_drew ?_ | refine blk_alloc ?_ _)); refine blk_put (cs := #[.int .i64 t951, .int .i64 t952, .int .i64 0, .slice none 0 0]) ?_ 2 _ rfl; (with_reducible repeat (first | refine blk_drewN ?_ _ | refine blk_drew ?_ | refine blk_alloc ?_ _)); refine blk_put (cs := #[.int .i64 t951, .int .i64 0, .int .i64 0, .slice none 0 0]) ?_ 1 _ rfl; (with_reducible repeat (first | refine blk_drewN ?_ _ | refine blk_drew ?_ | refine blk_alloc ?_ _)); refine blk_put (cs := #[.int .i64 0, .int .i64 0, .int .i64 0, .slice none 0 0]) ?_ 0 _ rfl; (with_reducible repeat (first | refine blk_drewN ?_ _ | refine blk_drew ?_ | refine blk_alloc ?_ _)); exact BK958.out) hb); have n4_ := Aside0.mk (below_step (by repeat (first | (with_reducible first | exact HB.out | apply below_alloc | apply pw_below_drewN | apply below_drew1 | refine below_set ?_ GE958.out) | exact HB.out)) hb); clear HO950; clear HO956; clear BK958; clear HB; have HO950 := n0_; have HO956 := n1_; have HO961 := n2_; have BK958 := n3_; have HB := n4_; clear n0_ n1_ n2_ n3_ n4_; (try clear hb); (try clear hb2); (try clear hk); (try clear hi); (try clear ho0); obtain ⟨Ao18, co18, eo18⟩ := Kd.R_slice HO961.out; subst eo18) | ((with_reducible refine gate_callee (f := 30) rfl ?_); refine goesL_ (some 38) rfl rfl Try.func30 (by kernel_rfl) rfl #[.int .i64 a0, .int .i64 a1, .int .i64 a2, .slice Ao18 t959.length co18] rfl (by (try simp only [List.map_toArray, List.map_cons, List.map_nil]); first | done | rfl | (simp only [List.length_drop, List.length_take]; rfl)) ?_; (with_reducible refine (impl_UnfilterImage.calls k a0 a1 a2 _ _ t959 t962 t963 t964 t965 t968 _ ?side1 ?side2 A9.out).mono ?_); (case side1 => repeat (first | exact (Kd.R_reads' HO961.out).2.2 | (with_reducible refine Kd.C_alloc ?_ _) | (with_reducible refine Kd.C_drewN ?_ _) | (with_reducible refine Kd.C_drew ?_))); (case side2 => exact (Kd.R_reads' HO961.out).2.1); rintro e w19 ⟨v966, rfl, ho0, hb⟩; refine ⟨_, rfl, ?_⟩; have n0_ := Aside0.mk (Kd.R_elder' (by (with_reducible repeat (first | apply Kd.R_alloc | apply Kd.R_drewN | apply Kd.R_drew)); exact HO950.out) (Kd.R_base ho0) hb); have n1_ := Aside0.mk (Kd.R_elder' (by (with_reducible repeat (first | apply Kd.R_alloc | apply Kd.R_drewN | apply Kd.R_drew)); exact HO956.out) (Kd.R_base ho0) hb); have n2_ := Aside0.mk (Kd.R_elder' (by (with_reducible repeat (first | apply Kd.R_alloc | apply Kd.R_drewN | apply Kd.R_drew)); exact HO961.out) (Kd.R_base ho0) hb); have n3_ := Aside0.mk (Kd.R_lower (Kd.R_new' (Kd.R_new' (Kd.R_new' ho0 (Kd.R_lt (by (with_reducible repeat (first | apply Kd.R_alloc | apply Kd.R_drewN | apply Kd.R_drew)); exact HO950.out))) (Kd.R_lt (by (with_reducible repeat (first | apply Kd.R_alloc | apply Kd.R_drewN | apply Kd.R_drew)); exact HO956.out))) (Kd.R_lt (by (with_reducible repeat (first | apply Kd.R_alloc | apply Kd.R_drewN | apply Kd.R_drew)); exact HO961.out))) (below_size (by repeat (first | (with_reducible first | exact HB.out | apply below_alloc | apply pw_below_drewN | apply below_drew1 | refine below_set ?_ GE958.out) | exact HB.out)))); have n4_ := Aside0.mk (blk_below (g := gb958) (o := .cells #[.int .i64 t951, .int .i64 t952, .int .i64 t953, .slice Ao16 t954.length co16] 24 (0, 0)) (by (with_reducible repeat (first | refine blk_drewN ?_ _ | refine blk_drew ?_ | refine blk_alloc ?_ _)); exact BK958.out) hb); have n5_ := Aside0.mk (below_step (by repeat (first | (with_reducible first | exact HB.out | apply below_alloc | apply pw_below_drewN | apply below_drew1 | refine below_set ?_ GE958.out) | exact HB.out)) hb); clear HO950; clear HO956; clear HO961; clear BK958; clear HB; have HO950 := n0_; have HO956 := n1_; have HO961 := n2_; have HO967 := n3_; have BK958 := n4_; have HB := n5_; clear n0_ n1_ n2_ n3_ n4_ n5_; (try clear hb); (try clear hb2); (try clear hk); (try clear hi); (try clear ho0)) | ((with_reducible refine gate_dst (N := 12) rfl ?_); refine box_event ?hg (N := 12) ?hd (cs := #[.int .i64 0, .int .i64 0, .int .i64 0, .slice none 0 0]) (t := 24) ?hr ?_; (case hd => rfl); (case hg => rfl); (case hr => first | (go_simp; done) | (go_simp; rfl)); intro gb969 hg w20 hbox hb; have n0_ := Aside0.mk (Kd.R_below (by (with_reducible repeat (first | apply Kd.R_alloc | apply Kd.R_drewN | apply Kd.R_drew)); exact HO950.out) hb); have n1_ := Aside0.mk (Kd.R_below (by (with_reducible repeat (first | apply Kd.R_alloc | apply Kd.R_drewN | apply Kd.R_drew)); exact HO956.out) hb); have n2_ := Aside0.mk (Kd.R_below (by (with_reducible repeat (first | apply Kd.R_alloc | apply Kd.R_drewN | apply Kd.R_drew)); exact HO961.out) hb); have n3_ := Aside0.mk (Kd.R_below (by (with_reducible repeat (first | apply Kd.R_alloc | apply Kd.R_drewN | apply Kd.R_drew)); exact HO967.out) hb); have n4_ := Aside0.mk (blk_below (g := gb958) (o := .cells #[.int .i64 t951, .int .i64 t952, .int .i64 t953, .slice Ao16 t954.length co16] 24 (0, 0)) (by (with_reducible repeat (first | refine blk_drewN ?_ _ | refine blk_drew ?_ | refine blk_alloc ?_ _)); exact BK958.out) hb); have n5_ := Aside0.mk (below_step (by repeat (first | (with_reducible first | exact HB.out | apply below_alloc | apply pw_below_drewN | apply below_drew1 | refine below_set ?_ GE958.out) | exact HB.out)) hb); have n6_ := Aside0.mk (hbox); have n7_ := Aside0.mk ((by rw [hg]; exact (below_size (by repeat (first | (with_reducible first | exact HB.out | apply below_alloc | apply pw_below_drewN | apply below_drew1 | refine below_set ?_ GE958.out) | exact HB.out))) : w.heap.size ≤ gb969)); have n8_ := Aside0.mk ((by rw [hg]; exact (below_size (by repeat (first | (with_reducible first | exact HB.out | apply below_alloc | apply pw_below_drewN | apply below_drew1 | refine below_set ?_ GE958.out) | exact HB.out))) : w.heap.size ≤ gb969)); have n9_ := Aside0.mk ((by rw [hg]; exact Nat.ne_of_lt (blk_lt (g := gb958) (o := .cells #[.int .i64 t951, .int .i64 t952, .int .i64 t953, .slice Ao16 t954.length co16] 24 (0, 0)) (by (with_reducible repeat (first | refine blk_drewN ?_ _ | refine blk_drew ?_ | refine blk_alloc ?_ _)); exact BK958.out)) : gb958 ≠ gb969)); have n10_ := Aside0.mk ((by rw [hg]; exact Nat.ne_of_gt (blk_lt (g := gb958) (o := .cells #[.int .i64 t951, .int .i64 t952, .int .i64 t953, .slice Ao16 t954.length co16] 24 (0, 0)) (by (with_reducible repeat (first | refine blk_drewN ?_ _ | refine blk_drew ?_ | refine blk_alloc ?_ _)); exact BK958.out)) : gb969 ≠ gb958)); clear HO950; clear HO956; clear HO961; clear HO967; clear BK958; clear HB; have HO950 := n0_; have HO956 := n1_; have HO961 := n2_; have HO967 := n3_; have BK958 := n4_; have HB := n5_; have BK969 := n6_; have GW969 := n7_; have GE969 := n8_; have NB958_969 := n9_; have NB969_958 := n10_; clear n0_ n1_ n2_ n3_ n4_ n5_ n6_ n7_ n8_ n9_ n10_; clear hb hbox hg; have hnb21 := NB969_958.out; have hnc21 := NB958_969.out; have hcz22_0 : w20.cell? ⟨gb969, 0, none⟩ = some (.int .i64 0) := (blk_cell BK969.out 0).trans rfl; have hcz22_1 : w20.cell? ⟨gb969, 1, none⟩ = some (.int .i64 0) := (blk_cell BK969.out 1).trans rfl; have hcz22_2 : w20.cell? ⟨gb969, 2, none⟩ = some (.int .i64 0) := (blk_cell BK969.out 2).trans rfl; have hcz22_3 : w20.cell? ⟨gb969, 3, none⟩ = some (.slice none 0 0) := (blk_cell BK969.out 3).trans rfl; have hfz22_0 := blk_frozen BK969.out 0; have hfz22_1 := blk_frozen BK969.out 1; have hfz22_2 := blk_frozen BK969.out 2; have hfz22_3 := blk_frozen BK969.out 3; obtain ⟨Ao23, co23, eo23⟩ := Kd.R_slice HO967.out; subst eo23))
  (try simp only [Act.put, List.setIfInBounds_toArray, List.set_cons_zero, List.set_cons_succ])
  go_cut [49] (fun v49 wc => ∃ (kq : Nat) (x49_9 : Bool), v49 = .bool x49_9 ∧ Aside0 (laws_FnExactUnfilterImage.j0 kq a0 a1 a2 l3 t957 t959 t968 x49_9 t951 t952 t953 t954 t962 t963 t964 t965 = some r) ∧ Aside0 (kq ≤ k) ∧ Aside0 (Kd.R (Kd.int .i64) 3 wc w.heap.size (fun k_ => some k_ ≠ ((.slice Ao16 t954.length co16) : Value).ownBlock ∧ some k_ ≠ ((.slice Ao23 t965.length co23) : Value).ownBlock) (.slice Ao18 t959.length co18) t959) ∧ Aside0 (Kd.R (Kd.int .i64) 3 wc w.heap.size (fun k_ => some k_ ≠ ((.slice Ao18 t959.length co18) : Value).ownBlock ∧ some k_ ≠ ((.slice Ao23 t965.length co23) : Value).ownBlock) (.slice Ao16 t954.length co16) t954) ∧ Aside0 (Kd.R (Kd.int .i64) 3 wc w.heap.size (fun k_ => some k_ ≠ ((.slice Ao18 t959.length co18) : Value).ownBlock ∧ some k_ ≠ ((.slice Ao16 t954.length co16) : Value).ownBlock) (.slice Ao23 t965.length co23) t965) ∧ Aside0 (wc.heap[gb958]? = some (.cells #[.int .i64 t951, .int .i64 t952, .int .i64 t953, (.slice Ao16 t954.length co16)] 24 (0, 0))) ∧ Aside0 (wc.heap[gb969]? = some (.cells #[.int .i64 t962, .int .i64 t963, .int .i64 t964, (.slice Ao23 t965.length co23)] 24 (0, 0))) ∧ Aside0 (Below w.heap.size w wc))
  case first =>
   have H := HC10.out
   clear HC10
   replace H := Option.bind_eq_some_iff.mp H
   obtain ⟨t970, A240, H⟩ := H
   replace H : (if t970 = true then (laws_FnExactUnfilterImage.j0 k a0 a1 a2 l3 t957 t959 t968 (t968 != t957) t951 t952 t953 t954 t962 t963 t964 t965) else (laws_FnExactUnfilterImage.j0 k a0 a1 a2 l3 t957 t959 t968 true t951 t952 t953 t954 t962 t963 t964 t965)) = some r := H
   have A24 := Aside0.mk A240
   clear A240
   by_cases c25 : t970 = true
   ·
    subst c25
    have H1 : (laws_FnExactUnfilterImage.j0 k a0 a1 a2 l3 t957 t959 t968 (t968 != t957) t951 t952 t953 t954 t962 t963 t964 t965) = some r := by rw [if_pos rfl] at H; exact H
    clear H
    have H := H1
    clear H1
    have H' := Aside0.mk H
    clear H
    have hnb26 := NB969_958.out
    have hnc26 := NB958_969.out
    have hcz27_0 : w20.cell? ⟨gb969, 0, none⟩ = some (.int .i64 0) := (blk_cell BK969.out 0).trans rfl
    have hcz27_1 : w20.cell? ⟨gb969, 1, none⟩ = some (.int .i64 0) := (blk_cell BK969.out 1).trans rfl
    have hcz27_2 : w20.cell? ⟨gb969, 2, none⟩ = some (.int .i64 0) := (blk_cell BK969.out 2).trans rfl
    have hcz27_3 : w20.cell? ⟨gb969, 3, none⟩ = some (.slice none 0 0) := (blk_cell BK969.out 3).trans rfl
    have hfz27_0 := blk_frozen BK969.out 0
    have hfz27_1 := blk_frozen BK969.out 1
    have hfz27_2 := blk_frozen BK969.out 2
    have hfz27_3 := blk_frozen BK969.out 3
    have hcz28_0 : w20.cell? ⟨gb958, 0, none⟩ = some (.int .i64 t951) := (blk_cell BK958.out 0).trans rfl
    have hcz28_1 : w20.cell? ⟨gb958, 1, none⟩ = some (.int .i64 t952) := (blk_cell BK958.out 1).trans rfl
    have hcz28_2 : w20.cell? ⟨gb958, 2, none⟩ = some (.int .i64 t953) := (blk_cell BK958.out 2).trans rfl
    have hcz28_3 : w20.cell? ⟨gb958, 3, none⟩ = some (.slice Ao16 t954.length co16) := (blk_cell BK958.out 3).trans rfl
    have hfz28_0 := blk_frozen BK958.out 0
    have hfz28_1 := blk_frozen BK958.out 1
    have hfz28_2 := blk_frozen BK958.out 2
    have hfz28_3 := blk_frozen BK958.out 3
    go_wp2_with (first | ((with_reducible refine gate_callee (f := 15) rfl ?_); refine goesL_ (some 43) rfl rfl Try.func15 (by kernel_rfl) rfl #[.agg #[.int .i64 t962, .int .i64 t963, .int .i64 t964, .slice Ao23 t965.length co23], .agg #[.int .i64 t951, .int .i64 t952, .int .i64 t953, .slice Ao16 t954.length co16]] rfl (by (try simp only [List.map_toArray, List.map_cons, List.map_nil]); first | done | rfl | (simp only [List.length_drop, List.length_take]; rfl)) ?_; (with_reducible refine (laws_eqImage.calls k t962 t963 t964 _ _ t965 t951 t952 t953 _ _ t954 true _ ?side1 ?side2 ?side3 ?side4 A24.out).mono ?_); (case side1 => refine (Kd.R_reads' (e := 3) (base := w.heap.size) (ok := fun k_ => (((True ∧ some k_ ≠ (.slice Ao12 t948.length co12 : Value).ownBlock) ∧ some k_ ≠ (.slice Ao16 t954.length co16 : Value).ownBlock) ∧ some k_ ≠ (.slice Ao18 t959.length co18 : Value).ownBlock)) (n := t965.length) (c := co23) ?_).2.2; exact (by (with_reducible repeat (first | apply Kd.R_alloc | apply Kd.R_drewN | apply Kd.R_drew)); exact (Kd.R_mono (Kd.R_far (p := ⟨gb969, 3, none⟩) (Kd.R_far (p := ⟨gb969, 2, none⟩) (Kd.R_far (p := ⟨gb969, 1, none⟩) (Kd.R_far (p := ⟨gb969, 0, none⟩) (Kd.R_types HO967.out BK969.out (by decide)) (fun _ hk => hk.2) (.int .i64 t962)) (fun _ hk => hk.2) (.int .i64 t963)) (fun _ hk => hk.2) (.int .i64 t964)) (fun _ hk => hk.2) (.slice Ao23 t965.length co23)) (fun _ h_ => h_.1)))); (case side2 => exact (Kd.R_reads' HO967.out).2.1); (case side3 => refine (Kd.R_reads' (e := 3) (base := w.heap.size) (ok := fun k_ => (((True ∧ some k_ ≠ (.slice Ao12 t948.length co12 : Value).ownBlock) ∧ some k_ ≠ (.slice Ao18 t959.length co18 : Value).ownBlock) ∧ some k_ ≠ (.slice Ao23 t965.length co23 : Value).ownBlock)) (n := t954.length) (c := co16) ?_).2.2; exact (by (with_reducible repeat (first | apply Kd.R_alloc | apply Kd.R_drewN | apply Kd.R_drew)); exact (Kd.R_mono (Kd.R_far (p := ⟨gb969, 3, none⟩) (Kd.R_far (p := ⟨gb969, 2, none⟩) (Kd.R_far (p := ⟨gb969, 1, none⟩) (Kd.R_far (p := ⟨gb969, 0, none⟩) (Kd.R_types HO956.out BK969.out (by decide)) (fun _ hk => hk.2) (.int .i64 t962)) (fun _ hk => hk.2) (.int .i64 t963)) (fun _ hk => hk.2) (.int .i64 t964)) (fun _ hk => hk.2) (.slice Ao23 t965.length co23)) (fun _ h_ => h_.1)))); (case side4 => exact (Kd.R_reads' HO956.out).2.1); rintro e w29 ⟨rfl, hb⟩; refine ⟨_, rfl, ?_⟩; have n0_ := Aside0.mk (Kd.R_below (by (with_reducible repeat (first | apply Kd.R_alloc | apply Kd.R_drewN | apply Kd.R_drew)); exact (Kd.R_mono (Kd.R_far (p := ⟨gb969, 3, none⟩) (Kd.R_far (p := ⟨gb969, 2, none⟩) (Kd.R_far (p := ⟨gb969, 1, none⟩) (Kd.R_far (p := ⟨gb969, 0, none⟩) (Kd.R_types HO950.out BK969.out (by decide)) (fun _ hk => hk.2) (.int .i64 t962)) (fun _ hk => hk.2) (.int .i64 t963)) (fun _ hk => hk.2) (.int .i64 t964)) (fun _ hk => hk.2) (.slice Ao23 t965.length co23)) (fun _ h_ => h_.1))) hb); have n1_ := Aside0.mk (Kd.R_below (by (with_reducible repeat (first | apply Kd.R_alloc | apply Kd.R_drewN | apply Kd.R_drew)); exact (Kd.R_mono (Kd.R_far (p := ⟨gb969, 3, none⟩) (Kd.R_far (p := ⟨gb969, 2, none⟩) (Kd.R_far (p := ⟨gb969, 1, none⟩) (Kd.R_far (p := ⟨gb969, 0, none⟩) (Kd.R_types HO956.out BK969.out (by decide)) (fun _ hk => hk.2) (.int .i64 t962)) (fun _ hk => hk.2) (.int .i64 t963)) (fun _ hk => hk.2) (.int .i64 t964)) (fun _ hk => hk.2) (.slice Ao23 t965.length co23)) (fun _ h_ => h_.1))) hb); have n2_ := Aside0.mk (Kd.R_below (by (with_reducible repeat (first | apply Kd.R_alloc | apply Kd.R_drewN | apply Kd.R_drew)); exact (Kd.R_mono (Kd.R_far (p := ⟨gb969, 3, none⟩) (Kd.R_far (p := ⟨gb969, 2, none⟩) (Kd.R_far (p := ⟨gb969, 1, none⟩) (Kd.R_far (p := ⟨gb969, 0, none⟩) (Kd.R_types HO961.out BK969.out (by decide)) (fun _ hk => hk.2) (.int .i64 t962)) (fun _ hk => hk.2) (.int .i64 t963)) (fun _ hk => hk.2) (.int .i64 t964)) (fun _ hk => hk.2) (.slice Ao23 t965.length co23)) (fun _ h_ => h_.1))) hb); have n3_ := Aside0.mk (Kd.R_below (by (with_reducible repeat (first | apply Kd.R_alloc | apply Kd.R_drewN | apply Kd.R_drew)); exact (Kd.R_mono (Kd.R_far (p := ⟨gb969, 3, none⟩) (Kd.R_far (p := ⟨gb969, 2, none⟩) (Kd.R_far (p := ⟨gb969, 1, none⟩) (Kd.R_far (p := ⟨gb969, 0, none⟩) (Kd.R_types HO967.out BK969.out (by decide)) (fun _ hk => hk.2) (.int .i64 t962)) (fun _ hk => hk.2) (.int .i64 t963)) (fun _ hk => hk.2) (.int .i64 t964)) (fun _ hk => hk.2) (.slice Ao23 t965.length co23)) (fun _ h_ => h_.1))) hb); have n4_ := Aside0.mk (blk_below (g := gb958) (o := .cells #[.int .i64 t951, .int .i64 t952, .int .i64 t953, .slice Ao16 t954.length co16] 24 (0, 0)) (by (with_reducible repeat (first | refine blk_drewN ?_ _ | refine blk_drew ?_ | refine blk_alloc ?_ _)); refine blk_far ?_ NB958_969.out _; (with_reducible repeat (first | refine blk_drewN ?_ _ | refine blk_drew ?_ | refine blk_alloc ?_ _)); refine blk_far ?_ NB958_969.out _; (with_reducible repeat (first | refine blk_drewN ?_ _ | refine blk_drew ?_ | refine blk_alloc ?_ _)); refine blk_far ?_ NB958_969.out _; (with_reducible repeat (first | refine blk_drewN ?_ _ | refine blk_drew ?_ | refine blk_alloc ?_ _)); refine blk_far ?_ NB958_969.out _; (with_reducible repeat (first | refine blk_drewN ?_ _ | refine blk_drew ?_ | refine blk_alloc ?_ _)); exact BK958.out) hb); have n5_ := Aside0.mk (blk_below (g := gb969) (o := .cells #[.int .i64 t962, .int .i64 t963, .int .i64 t964, .slice Ao23 t965.length co23] 24 (0, 0)) (by (with_reducible repeat (first | refine blk_drewN ?_ _ | refine blk_drew ?_ | refine blk_alloc ?_ _)); refine blk_put (cs := #[.int .i64 t962, .int .i64 t963, .int .i64 t964, .slice none 0 0]) ?_ 3 _ rfl; (with_reducible repeat (first | refine blk_drewN ?_ _ | refine blk_drew ?_ | refine blk_alloc ?_ _)); refine blk_put (cs := #[.int .i64 t962, .int .i64 t963, .int .i64 0, .slice none 0 0]) ?_ 2 _ rfl; (with_reducible repeat (first | refine blk_drewN ?_ _ | refine blk_drew ?_ | refine blk_alloc ?_ _)); refine blk_put (cs := #[.int .i64 t962, .int .i64 0, .int .i64 0, .slice none 0 0]) ?_ 1 _ rfl; (with_reducible repeat (first | refine blk_drewN ?_ _ | refine blk_drew ?_ | refine blk_alloc ?_ _)); refine blk_put (cs := #[.int .i64 0, .int .i64 0, .int .i64 0, .slice none 0 0]) ?_ 0 _ rfl; (with_reducible repeat (first | refine blk_drewN ?_ _ | refine blk_drew ?_ | refine blk_alloc ?_ _)); exact BK969.out) hb); have n6_ := Aside0.mk (below_step (by repeat (first | (with_reducible first | exact HB.out | apply below_alloc | apply pw_below_drewN | apply below_drew1 | refine below_set ?_ GE958.out | refine below_set ?_ GE969.out) | exact HB.out)) hb); clear HO950; clear HO956; clear HO961; clear HO967; clear BK958; clear BK969; clear HB; have HO950 := n0_; have HO956 := n1_; have HO961 := n2_; have HO967 := n3_; have BK958 := n4_; have BK969 := n5_; have HB := n6_; clear n0_ n1_ n2_ n3_ n4_ n5_ n6_; (try clear hb); (try clear hb2); (try clear hk); (try clear hi)))
    go_meet
    case rel => exact ⟨_, ((t968 != t957)), (by first | rfl | (simp; done) | (simp [*]; done)), H', ⟨by first | omega | exact Nat.le_refl _⟩, ⟨by (with_reducible repeat (first | apply Kd.R_alloc | apply Kd.R_drewN | apply Kd.R_drew)); exact Kd.R_mono HO961.out (fun _ hk => ⟨hk.1.2, hk.2⟩)⟩, ⟨by (with_reducible repeat (first | apply Kd.R_alloc | apply Kd.R_drewN | apply Kd.R_drew)); exact Kd.R_mono HO956.out (fun _ hk => ⟨hk.1.2, hk.2⟩)⟩, ⟨by (with_reducible repeat (first | apply Kd.R_alloc | apply Kd.R_drewN | apply Kd.R_drew)); exact Kd.R_mono HO967.out (fun _ hk => ⟨hk.2, hk.1.2⟩)⟩, ⟨by (with_reducible repeat (first | refine blk_drewN ?_ _ | refine blk_drew ?_ | refine blk_alloc ?_ _)); exact BK958.out⟩, ⟨by (with_reducible repeat (first | refine blk_drewN ?_ _ | refine blk_drew ?_ | refine blk_alloc ?_ _)); exact BK969.out⟩, ⟨by repeat (first | (with_reducible first | exact HB.out | apply below_alloc | apply pw_below_drewN | apply below_drew1 | refine below_set ?_ GE958.out | refine below_set ?_ GE969.out) | exact HB.out)⟩⟩
   ·
    replace c25 := Bool.eq_false_iff.mpr c25
    subst c25
    have H1 : (laws_FnExactUnfilterImage.j0 k a0 a1 a2 l3 t957 t959 t968 true t951 t952 t953 t954 t962 t963 t964 t965) = some r := by rw [if_neg (show ¬ (false = true) by decide)] at H; exact H
    clear H
    have H := H1
    clear H1
    have H' := Aside0.mk H
    clear H
    have hnb30 := NB969_958.out
    have hnc30 := NB958_969.out
    have hcz31_0 : w20.cell? ⟨gb969, 0, none⟩ = some (.int .i64 0) := (blk_cell BK969.out 0).trans rfl
    have hcz31_1 : w20.cell? ⟨gb969, 1, none⟩ = some (.int .i64 0) := (blk_cell BK969.out 1).trans rfl
    have hcz31_2 : w20.cell? ⟨gb969, 2, none⟩ = some (.int .i64 0) := (blk_cell BK969.out 2).trans rfl
    have hcz31_3 : w20.cell? ⟨gb969, 3, none⟩ = some (.slice none 0 0) := (blk_cell BK969.out 3).trans rfl
    have hfz31_0 := blk_frozen BK969.out 0
    have hfz31_1 := blk_frozen BK969.out 1
    have hfz31_2 := blk_frozen BK969.out 2
    have hfz31_3 := blk_frozen BK969.out 3
    have hcz32_0 : w20.cell? ⟨gb958, 0, none⟩ = some (.int .i64 t951) := (blk_cell BK958.out 0).trans rfl
    have hcz32_1 : w20.cell? ⟨gb958, 1, none⟩ = some (.int .i64 t952) := (blk_cell BK958.out 1).trans rfl
    have hcz32_2 : w20.cell? ⟨gb958, 2, none⟩ = some (.int .i64 t953) := (blk_cell BK958.out 2).trans rfl
    have hcz32_3 : w20.cell? ⟨gb958, 3, none⟩ = some (.slice Ao16 t954.length co16) := (blk_cell BK958.out 3).trans rfl
    have hfz32_0 := blk_frozen BK958.out 0
    have hfz32_1 := blk_frozen BK958.out 1
    have hfz32_2 := blk_frozen BK958.out 2
    have hfz32_3 := blk_frozen BK958.out 3
    go_wp2_with (first | ((with_reducible refine gate_callee (f := 15) rfl ?_); refine goesL_ (some 43) rfl rfl Try.func15 (by kernel_rfl) rfl #[.agg #[.int .i64 t962, .int .i64 t963, .int .i64 t964, .slice Ao23 t965.length co23], .agg #[.int .i64 t951, .int .i64 t952, .int .i64 t953, .slice Ao16 t954.length co16]] rfl (by (try simp only [List.map_toArray, List.map_cons, List.map_nil]); first | done | rfl | (simp only [List.length_drop, List.length_take]; rfl)) ?_; (with_reducible refine (laws_eqImage.calls k t962 t963 t964 _ _ t965 t951 t952 t953 _ _ t954 false _ ?side1 ?side2 ?side3 ?side4 A24.out).mono ?_); (case side1 => refine (Kd.R_reads' (e := 3) (base := w.heap.size) (ok := fun k_ => (((True ∧ some k_ ≠ (.slice Ao12 t948.length co12 : Value).ownBlock) ∧ some k_ ≠ (.slice Ao16 t954.length co16 : Value).ownBlock) ∧ some k_ ≠ (.slice Ao18 t959.length co18 : Value).ownBlock)) (n := t965.length) (c := co23) ?_).2.2; exact (by (with_reducible repeat (first | apply Kd.R_alloc | apply Kd.R_drewN | apply Kd.R_drew)); exact (Kd.R_mono (Kd.R_far (p := ⟨gb969, 3, none⟩) (Kd.R_far (p := ⟨gb969, 2, none⟩) (Kd.R_far (p := ⟨gb969, 1, none⟩) (Kd.R_far (p := ⟨gb969, 0, none⟩) (Kd.R_types HO967.out BK969.out (by decide)) (fun _ hk => hk.2) (.int .i64 t962)) (fun _ hk => hk.2) (.int .i64 t963)) (fun _ hk => hk.2) (.int .i64 t964)) (fun _ hk => hk.2) (.slice Ao23 t965.length co23)) (fun _ h_ => h_.1)))); (case side2 => exact (Kd.R_reads' HO967.out).2.1); (case side3 => refine (Kd.R_reads' (e := 3) (base := w.heap.size) (ok := fun k_ => (((True ∧ some k_ ≠ (.slice Ao12 t948.length co12 : Value).ownBlock) ∧ some k_ ≠ (.slice Ao18 t959.length co18 : Value).ownBlock) ∧ some k_ ≠ (.slice Ao23 t965.length co23 : Value).ownBlock)) (n := t954.length) (c := co16) ?_).2.2; exact (by (with_reducible repeat (first | apply Kd.R_alloc | apply Kd.R_drewN | apply Kd.R_drew)); exact (Kd.R_mono (Kd.R_far (p := ⟨gb969, 3, none⟩) (Kd.R_far (p := ⟨gb969, 2, none⟩) (Kd.R_far (p := ⟨gb969, 1, none⟩) (Kd.R_far (p := ⟨gb969, 0, none⟩) (Kd.R_types HO956.out BK969.out (by decide)) (fun _ hk => hk.2) (.int .i64 t962)) (fun _ hk => hk.2) (.int .i64 t963)) (fun _ hk => hk.2) (.int .i64 t964)) (fun _ hk => hk.2) (.slice Ao23 t965.length co23)) (fun _ h_ => h_.1)))); (case side4 => exact (Kd.R_reads' HO956.out).2.1); rintro e w33 ⟨rfl, hb⟩; refine ⟨_, rfl, ?_⟩; have n0_ := Aside0.mk (Kd.R_below (by (with_reducible repeat (first | apply Kd.R_alloc | apply Kd.R_drewN | apply Kd.R_drew)); exact (Kd.R_mono (Kd.R_far (p := ⟨gb969, 3, none⟩) (Kd.R_far (p := ⟨gb969, 2, none⟩) (Kd.R_far (p := ⟨gb969, 1, none⟩) (Kd.R_far (p := ⟨gb969, 0, none⟩) (Kd.R_types HO950.out BK969.out (by decide)) (fun _ hk => hk.2) (.int .i64 t962)) (fun _ hk => hk.2) (.int .i64 t963)) (fun _ hk => hk.2) (.int .i64 t964)) (fun _ hk => hk.2) (.slice Ao23 t965.length co23)) (fun _ h_ => h_.1))) hb); have n1_ := Aside0.mk (Kd.R_below (by (with_reducible repeat (first | apply Kd.R_alloc | apply Kd.R_drewN | apply Kd.R_drew)); exact (Kd.R_mono (Kd.R_far (p := ⟨gb969, 3, none⟩) (Kd.R_far (p := ⟨gb969, 2, none⟩) (Kd.R_far (p := ⟨gb969, 1, none⟩) (Kd.R_far (p := ⟨gb969, 0, none⟩) (Kd.R_types HO956.out BK969.out (by decide)) (fun _ hk => hk.2) (.int .i64 t962)) (fun _ hk => hk.2) (.int .i64 t963)) (fun _ hk => hk.2) (.int .i64 t964)) (fun _ hk => hk.2) (.slice Ao23 t965.length co23)) (fun _ h_ => h_.1))) hb); have n2_ := Aside0.mk (Kd.R_below (by (with_reducible repeat (first | apply Kd.R_alloc | apply Kd.R_drewN | apply Kd.R_drew)); exact (Kd.R_mono (Kd.R_far (p := ⟨gb969, 3, none⟩) (Kd.R_far (p := ⟨gb969, 2, none⟩) (Kd.R_far (p := ⟨gb969, 1, none⟩) (Kd.R_far (p := ⟨gb969, 0, none⟩) (Kd.R_types HO961.out BK969.out (by decide)) (fun _ hk => hk.2) (.int .i64 t962)) (fun _ hk => hk.2) (.int .i64 t963)) (fun _ hk => hk.2) (.int .i64 t964)) (fun _ hk => hk.2) (.slice Ao23 t965.length co23)) (fun _ h_ => h_.1))) hb); have n3_ := Aside0.mk (Kd.R_below (by (with_reducible repeat (first | apply Kd.R_alloc | apply Kd.R_drewN | apply Kd.R_drew)); exact (Kd.R_mono (Kd.R_far (p := ⟨gb969, 3, none⟩) (Kd.R_far (p := ⟨gb969, 2, none⟩) (Kd.R_far (p := ⟨gb969, 1, none⟩) (Kd.R_far (p := ⟨gb969, 0, none⟩) (Kd.R_types HO967.out BK969.out (by decide)) (fun _ hk => hk.2) (.int .i64 t962)) (fun _ hk => hk.2) (.int .i64 t963)) (fun _ hk => hk.2) (.int .i64 t964)) (fun _ hk => hk.2) (.slice Ao23 t965.length co23)) (fun _ h_ => h_.1))) hb); have n4_ := Aside0.mk (blk_below (g := gb958) (o := .cells #[.int .i64 t951, .int .i64 t952, .int .i64 t953, .slice Ao16 t954.length co16] 24 (0, 0)) (by (with_reducible repeat (first | refine blk_drewN ?_ _ | refine blk_drew ?_ | refine blk_alloc ?_ _)); refine blk_far ?_ NB958_969.out _; (with_reducible repeat (first | refine blk_drewN ?_ _ | refine blk_drew ?_ | refine blk_alloc ?_ _)); refine blk_far ?_ NB958_969.out _; (with_reducible repeat (first | refine blk_drewN ?_ _ | refine blk_drew ?_ | refine blk_alloc ?_ _)); refine blk_far ?_ NB958_969.out _; (with_reducible repeat (first | refine blk_drewN ?_ _ | refine blk_drew ?_ | refine blk_alloc ?_ _)); refine blk_far ?_ NB958_969.out _; (with_reducible repeat (first | refine blk_drewN ?_ _ | refine blk_drew ?_ | refine blk_alloc ?_ _)); exact BK958.out) hb); have n5_ := Aside0.mk (blk_below (g := gb969) (o := .cells #[.int .i64 t962, .int .i64 t963, .int .i64 t964, .slice Ao23 t965.length co23] 24 (0, 0)) (by (with_reducible repeat (first | refine blk_drewN ?_ _ | refine blk_drew ?_ | refine blk_alloc ?_ _)); refine blk_put (cs := #[.int .i64 t962, .int .i64 t963, .int .i64 t964, .slice none 0 0]) ?_ 3 _ rfl; (with_reducible repeat (first | refine blk_drewN ?_ _ | refine blk_drew ?_ | refine blk_alloc ?_ _)); refine blk_put (cs := #[.int .i64 t962, .int .i64 t963, .int .i64 0, .slice none 0 0]) ?_ 2 _ rfl; (with_reducible repeat (first | refine blk_drewN ?_ _ | refine blk_drew ?_ | refine blk_alloc ?_ _)); refine blk_put (cs := #[.int .i64 t962, .int .i64 0, .int .i64 0, .slice none 0 0]) ?_ 1 _ rfl; (with_reducible repeat (first | refine blk_drewN ?_ _ | refine blk_drew ?_ | refine blk_alloc ?_ _)); refine blk_put (cs := #[.int .i64 0, .int .i64 0, .int .i64 0, .slice none 0 0]) ?_ 0 _ rfl; (with_reducible repeat (first | refine blk_drewN ?_ _ | refine blk_drew ?_ | refine blk_alloc ?_ _)); exact BK969.out) hb); have n6_ := Aside0.mk (below_step (by repeat (first | (with_reducible first | exact HB.out | apply below_alloc | apply pw_below_drewN | apply below_drew1 | refine below_set ?_ GE958.out | refine below_set ?_ GE969.out) | exact HB.out)) hb); clear HO950; clear HO956; clear HO961; clear HO967; clear BK958; clear BK969; clear HB; have HO950 := n0_; have HO956 := n1_; have HO961 := n2_; have HO967 := n3_; have BK958 := n4_; have BK969 := n5_; have HB := n6_; clear n0_ n1_ n2_ n3_ n4_ n5_ n6_; (try clear hb); (try clear hb2); (try clear hk); (try clear hi)))
    go_meet
    case rel => exact ⟨_, (true), (by first | rfl | (simp; done) | (simp [*]; done)), H', ⟨by first | omega | exact Nat.le_refl _⟩, ⟨by (with_reducible repeat (first | apply Kd.R_alloc | apply Kd.R_drewN | apply Kd.R_drew)); exact Kd.R_mono HO961.out (fun _ hk => ⟨hk.1.2, hk.2⟩)⟩, ⟨by (with_reducible repeat (first | apply Kd.R_alloc | apply Kd.R_drewN | apply Kd.R_drew)); exact Kd.R_mono HO956.out (fun _ hk => ⟨hk.1.2, hk.2⟩)⟩, ⟨by (with_reducible repeat (first | apply Kd.R_alloc | apply Kd.R_drewN | apply Kd.R_drew)); exact Kd.R_mono HO967.out (fun _ hk => ⟨hk.2, hk.1.2⟩)⟩, ⟨by (with_reducible repeat (first | refine blk_drewN ?_ _ | refine blk_drew ?_ | refine blk_alloc ?_ _)); exact BK958.out⟩, ⟨by (with_reducible repeat (first | refine blk_drewN ?_ _ | refine blk_drew ?_ | refine blk_alloc ?_ _)); exact BK969.out⟩, ⟨by repeat (first | (with_reducible first | exact HB.out | apply below_alloc | apply pw_below_drewN | apply below_drew1 | refine below_set ?_ GE958.out | refine below_set ?_ GE969.out) | exact HB.out)⟩⟩
  case rest =>
   clear HC10
   try clear c1
   try clear c2
   try clear p2
   try clear c3
   try clear c5
   try clear c5b0
   try clear c5b1
   try clear c8
   try clear c13
   try clear c15
   try clear c21
   try clear c25
   try clear c26
   try clear c30
   try clear c31
   try clear hcz15_0
   try clear hcz15_1
   try clear hcz15_2
   try clear hcz15_3
   try clear hcz22_0
   try clear hcz22_1
   try clear hcz22_2
   try clear hcz22_3
   try clear hcz27_0
   try clear hcz27_1
   try clear hcz27_2
   try clear hcz27_3
   try clear hcz28_0
   try clear hcz28_1
   try clear hcz28_2
   try clear hcz28_3
   try clear hcz31_0
   try clear hcz31_1
   try clear hcz31_2
   try clear hcz31_3
   try clear hcz32_0
   try clear hcz32_1
   try clear hcz32_2
   try clear hcz32_3
   try clear hfz15_0
   try clear hfz15_1
   try clear hfz15_2
   try clear hfz15_3
   try clear hfz22_0
   try clear hfz22_1
   try clear hfz22_2
   try clear hfz22_3
   try clear hfz27_0
   try clear hfz27_1
   try clear hfz27_2
   try clear hfz27_3
   try clear hfz28_0
   try clear hfz28_1
   try clear hfz28_2
   try clear hfz28_3
   try clear hfz31_0
   try clear hfz31_1
   try clear hfz31_2
   try clear hfz31_3
   try clear hfz32_0
   try clear hfz32_1
   try clear hfz32_2
   try clear hfz32_3
   obtain ⟨kq, x49_9, rfl, HA, HJ9, HO_11, HO_959003, HO_970003, BK958, BK969, HB⟩ := hcut
   cases kq with
   | zero => exact absurd HA.out (by simp [laws_FnExactUnfilterImage.j0])
   | succ kj9 =>
    have H := HA.out
    clear HA
    simp only [laws_FnExactUnfilterImage.j0] at H
    by_cases c34 : x49_9 = true
    ·
     subst c34
     have H1 : (some false) = some r := by rw [if_pos rfl] at H; exact H
     clear H
     have H := H1
     clear H1
     obtain rfl := Option.some.inj H
     exact absurd hrt (by decide)
    ·
     replace c34 := Bool.eq_false_iff.mpr c34
     subst c34
     have H1 : ((laws_toIntS.f kj9 l3).bind fun t971 => ((laws_eqIntS.f kj9 t959 t971).bind fun t974 => (if t974 = true then ((laws_markIntS.f kj9 t959 1).bind fun bt975 => (if bt975.1 < 0 then (laws_FnExactUnfilterImage.j1 kj9 a0 a1 a2 l3 t957 true t951 t952 t953 t954 t962 t963 t964 t965) else ((laws_eqImage.f kj9 t962 t963 t964 t965 t951 t952 t953 t954).bind fun t977 => (if t977 = true then (laws_FnExactUnfilterImage.j1 kj9 a0 a1 a2 l3 t957 (t968 != t957) t951 t952 t953 t954 t962 t963 t964 t965) else (laws_FnExactUnfilterImage.j1 kj9 a0 a1 a2 l3 t957 true t951 t952 t953 t954 t962 t963 t964 t965))))) else (some false)))) = some r := by rw [if_neg (show ¬ (false = true) by decide)] at H; exact H
     clear H
     have H := H1
     clear H1
     replace H := Option.bind_eq_some_iff.mp H
     obtain ⟨t971, A350, H⟩ := H
     replace H : ((laws_eqIntS.f kj9 t959 t971).bind fun t974 => (if t974 = true then ((laws_markIntS.f kj9 t959 1).bind fun bt975 => (if bt975.1 < 0 then (laws_FnExactUnfilterImage.j1 kj9 a0 a1 a2 l3 t957 true t951 t952 t953 t954 t962 t963 t964 t965) else ((laws_eqImage.f kj9 t962 t963 t964 t965 t951 t952 t953 t954).bind fun t977 => (if t977 = true then (laws_FnExactUnfilterImage.j1 kj9 a0 a1 a2 l3 t957 (t968 != t957) t951 t952 t953 t954 t962 t963 t964 t965) else (laws_FnExactUnfilterImage.j1 kj9 a0 a1 a2 l3 t957 true t951 t952 t953 t954 t962 t963 t964 t965))))) else (some false))) = some r := H
     have A35 := Aside0.mk A350
     clear A350
     replace H := Option.bind_eq_some_iff.mp H
     obtain ⟨t974, A360, H⟩ := H
     replace H : (if t974 = true then ((laws_markIntS.f kj9 t959 1).bind fun bt975 => (if bt975.1 < 0 then (laws_FnExactUnfilterImage.j1 kj9 a0 a1 a2 l3 t957 true t951 t952 t953 t954 t962 t963 t964 t965) else ((laws_eqImage.f kj9 t962 t963 t964 t965 t951 t952 t953 t954).bind fun t977 => (if t977 = true then (laws_FnExactUnfilterImage.j1 kj9 a0 a1 a2 l3 t957 (t968 != t957) t951 t952 t953 t954 t962 t963 t964 t965) else (laws_FnExactUnfilterImage.j1 kj9 a0 a1 a2 l3 t957 true t951 t952 t953 t954 t962 t963 t964 t965))))) else (some false)) = some r := H
     have A36 := Aside0.mk A360
     clear A360
     by_cases c37 : t974 = true
     ·
      subst c37
      have H1 : ((laws_markIntS.f kj9 t959 1).bind fun bt975 => (if bt975.1 < 0 then (laws_FnExactUnfilterImage.j1 kj9 a0 a1 a2 l3 t957 true t951 t952 t953 t954 t962 t963 t964 t965) else ((laws_eqImage.f kj9 t962 t963 t964 t965 t951 t952 t953 t954).bind fun t977 => (if t977 = true then (laws_FnExactUnfilterImage.j1 kj9 a0 a1 a2 l3 t957 (t968 != t957) t951 t952 t953 t954 t962 t963 t964 t965) else (laws_FnExactUnfilterImage.j1 kj9 a0 a1 a2 l3 t957 true t951 t952 t953 t954 t962 t963 t964 t965))))) = some r := by rw [if_pos rfl] at H; exact H
      clear H
      have H := H1
      clear H1
      replace H := Option.bind_eq_some_iff.mp H
      obtain ⟨⟨t975, t976⟩, A380, H⟩ := H
      replace H : (if t975 < 0 then (laws_FnExactUnfilterImage.j1 kj9 a0 a1 a2 l3 t957 true t951 t952 t953 t954 t962 t963 t964 t965) else ((laws_eqImage.f kj9 t962 t963 t964 t965 t951 t952 t953 t954).bind fun t977 => (if t977 = true then (laws_FnExactUnfilterImage.j1 kj9 a0 a1 a2 l3 t957 (t968 != t957) t951 t952 t953 t954 t962 t963 t964 t965) else (laws_FnExactUnfilterImage.j1 kj9 a0 a1 a2 l3 t957 true t951 t952 t953 t954 t962 t963 t964 t965)))) = some r := H
      have A38 := Aside0.mk A380
      clear A380
      have HC39 := Aside0.mk H
      clear H
      go_upto_region 12 with (first | ((with_reducible refine gate_callee (f := 13) rfl ?_); refine goesL_ (some 52) rfl rfl Try.func13 (by kernel_rfl) rfl #[.slice A3 l3.length c3] rfl (by (try simp only [List.map_toArray, List.map_cons, List.map_nil]); first | done | rfl | (simp only [List.length_drop, List.length_take]; rfl)) ?_; (with_reducible refine (laws_toIntS.calls kj9 _ _ l3 t971 _ ?side1 ?side2 A35.out).mono ?_); (case side1 => repeat (first | exact (Kd.C_below HR3.out HB.out) | (with_reducible refine Kd.C_alloc ?_ _) | (with_reducible refine Kd.C_drewN ?_ _) | (with_reducible refine Kd.C_drew ?_))); (case side2 => exact HC3.out); rintro e w40 ⟨v972, rfl, ho0, hb⟩; refine ⟨_, rfl, ?_⟩; have n0_ := Aside0.mk (Kd.R_elder' (by (with_reducible repeat (first | apply Kd.R_alloc | apply Kd.R_drewN | apply Kd.R_drew)); exact HO_11.out) (Kd.R_base ho0) hb); have n1_ := Aside0.mk (Kd.R_elder' (by (with_reducible repeat (first | apply Kd.R_alloc | apply Kd.R_drewN | apply Kd.R_drew)); exact HO_959003.out) (Kd.R_base ho0) hb); have n2_ := Aside0.mk (Kd.R_elder' (by (with_reducible repeat (first | apply Kd.R_alloc | apply Kd.R_drewN | apply Kd.R_drew)); exact HO_970003.out) (Kd.R_base ho0) hb); have n3_ := Aside0.mk (Kd.R_lower (Kd.R_new' (Kd.R_new' (Kd.R_new' ho0 (Kd.R_lt (by (with_reducible repeat (first | apply Kd.R_alloc | apply Kd.R_drewN | apply Kd.R_drew)); exact HO_11.out))) (Kd.R_lt (by (with_reducible repeat (first | apply Kd.R_alloc | apply Kd.R_drewN | apply Kd.R_drew)); exact HO_959003.out))) (Kd.R_lt (by (with_reducible repeat (first | apply Kd.R_alloc | apply Kd.R_drewN | apply Kd.R_drew)); exact HO_970003.out))) (below_size (by repeat (first | (with_reducible first | exact HB.out | apply below_alloc | apply pw_below_drewN | apply below_drew1 | refine below_set ?_ GE958.out | refine below_set ?_ GE969.out) | exact HB.out)))); have n4_ := Aside0.mk (blk_below (g := gb958) (o := .cells #[.int .i64 t951, .int .i64 t952, .int .i64 t953, .slice Ao16 t954.length co16] 24 (0, 0)) (by (with_reducible repeat (first | refine blk_drewN ?_ _ | refine blk_drew ?_ | refine blk_alloc ?_ _)); exact BK958.out) hb); have n5_ := Aside0.mk (blk_below (g := gb969) (o := .cells #[.int .i64 t962, .int .i64 t963, .int .i64 t964, .slice Ao23 t965.length co23] 24 (0, 0)) (by (with_reducible repeat (first | refine blk_drewN ?_ _ | refine blk_drew ?_ | refine blk_alloc ?_ _)); exact BK969.out) hb); have n6_ := Aside0.mk (below_step (by repeat (first | (with_reducible first | exact HB.out | apply below_alloc | apply pw_below_drewN | apply below_drew1 | refine below_set ?_ GE958.out | refine below_set ?_ GE969.out) | exact HB.out)) hb); clear HO_11; clear HO_959003; clear HO_970003; clear BK958; clear BK969; clear HB; have HO_11 := n0_; have HO_959003 := n1_; have HO_970003 := n2_; have HO973 := n3_; have BK958 := n4_; have BK969 := n5_; have HB := n6_; clear n0_ n1_ n2_ n3_ n4_ n5_ n6_; (try clear hb); (try clear hb2); (try clear hk); (try clear hi); (try clear ho0); obtain ⟨Ao41, co41, eo41⟩ := Kd.R_slice HO973.out; subst eo41) | ((with_reducible refine gate_callee (f := 16) rfl ?_); refine goesL_ (some 53) rfl rfl Try.func16 (by kernel_rfl) rfl #[.slice Ao18 t959.length co18, .slice Ao41 t971.length co41] rfl (by (try simp only [List.map_toArray, List.map_cons, List.map_nil]); first | done | rfl | (simp only [List.length_drop, List.length_take]; rfl)) ?_; (with_reducible refine (laws_eqIntS.calls kj9 _ _ t959 _ _ t971 true _ ?side1 ?side2 ?side3 ?side4 A36.out).mono ?_); (case side1 => repeat (first | exact (Kd.R_reads' HO_11.out).2.2 | (with_reducible refine Kd.C_alloc ?_ _) | (with_reducible refine Kd.C_drewN ?_ _) | (with_reducible refine Kd.C_drew ?_))); (case side2 => exact (Kd.R_reads' HO_11.out).2.1); (case side3 => repeat (first | exact (Kd.R_reads' HO973.out).2.2 | (with_reducible refine Kd.C_alloc ?_ _) | (with_reducible refine Kd.C_drewN ?_ _) | (with_reducible refine Kd.C_drew ?_))); (case side4 => exact (Kd.R_reads' HO973.out).2.1); rintro e w' ⟨rfl, ⟨nd, rfl⟩⟩; refine ⟨_, rfl, ?_⟩) | ((with_reducible refine gate_callee (f := 17) rfl ?_); refine goesL_ (some 57) rfl rfl Try.func17 (by kernel_rfl) rfl #[.slice Ao18 t959.length co18, .int .i64 1] rfl (by (try simp only [List.map_toArray, List.map_cons, List.map_nil]); first | done | rfl | (simp only [List.length_drop, List.length_take]; rfl)) ?_; (with_reducible refine (laws_markIntS.calls kj9 (fun k_ => some k_ = (.slice Ao18 t959.length co18 : Value).ownBlock) (.slice Ao18 t959.length co18) t959 1 t975 t976 w _ ?side1 ?side2 A38.out).mono ?_); (case side1 => repeat (first | (with_reducible first | exact HB.out | apply below_alloc | apply pw_below_drewN | apply below_drew1 | refine below_set ?_ GE958.out | refine below_set ?_ GE969.out) | exact HB.out)); (case side2 => exact Kd.R_tight rfl HO_11.out); rintro e w42 ⟨rfl, hy0, hb, hkp⟩; refine ⟨_, rfl, ?_⟩; have n0_ := Aside0.mk (Kd.R_reok rfl hy0 (fun k_ e_ => HO_11.out.1 k_ e_)); have n1_ := Aside0.mk (Kd.R_mono (ok' := fun k_ => some k_ ≠ (.slice Ao18 t959.length co18 : Value).ownBlock ∧ some k_ ≠ (.slice Ao23 t965.length co23 : Value).ownBlock ∧ some k_ ≠ (.slice Ao41 t971.length co41 : Value).ownBlock) (Kd.R_keptB (HO_959003.out) hkp (fun k_ hk_ hs_ => by first | exact hk_.1.1 hs_ | (revert hk_; simp only [and_imp]; intros; contradiction))) (fun k_ hk_ => by first | exact ⟨hk_.1.1.1, hk_.1.1.2, hk_.1.2⟩ | (revert hk_; simp only [and_imp]; intros; and_intros <;> assumption))); have n2_ := Aside0.mk (Kd.R_mono (ok' := fun k_ => some k_ ≠ (.slice Ao18 t959.length co18 : Value).ownBlock ∧ some k_ ≠ (.slice Ao16 t954.length co16 : Value).ownBlock ∧ some k_ ≠ (.slice Ao41 t971.length co41 : Value).ownBlock) (Kd.R_keptB (HO_970003.out) hkp (fun k_ hk_ hs_ => by first | exact hk_.1.1 hs_ | (revert hk_; simp only [and_imp]; intros; contradiction))) (fun k_ hk_ => by first | exact ⟨hk_.1.1.1, hk_.1.1.2, hk_.1.2⟩ | (revert hk_; simp only [and_imp]; intros; and_intros <;> assumption))); have n3_ := Aside0.mk (blk_kept (by (with_reducible repeat (first | refine blk_drewN ?_ _ | refine blk_drew ?_ | refine blk_alloc ?_ _)); exact BK958.out) hkp (fun hs_ => (fun e_ => (Kd.R_ne HO_11.out BK958.out (by decide)) e_) hs_)); have n4_ := Aside0.mk (blk_kept (by (with_reducible repeat (first | refine blk_drewN ?_ _ | refine blk_drew ?_ | refine blk_alloc ?_ _)); exact BK969.out) hkp (fun hs_ => (fun e_ => (Kd.R_ne HO_11.out BK969.out (by decide)) e_) hs_)); have n5_ := Aside0.mk (Kd.R_mono (ok' := fun k_ => some k_ ≠ (.slice Ao18 t959.length co18 : Value).ownBlock ∧ some k_ ≠ (.slice Ao16 t954.length co16 : Value).ownBlock ∧ some k_ ≠ (.slice Ao23 t965.length co23 : Value).ownBlock) (Kd.R_keptB (HO973.out) hkp (fun k_ hk_ hs_ => by first | exact hk_.1.1.2 hs_ | (revert hk_; simp only [and_imp]; intros; contradiction))) (fun k_ hk_ => by first | exact ⟨hk_.1.1.1.2, hk_.1.1.2, hk_.1.2⟩ | (revert hk_; simp only [and_imp]; intros; and_intros <;> assumption))); have n6_ := Aside0.mk (hb); clear HO_11; clear HO_959003; clear HO_970003; clear BK958; clear BK969; clear HO973; clear HB; have HO_11 := n0_; have HO_959003 := n1_; have HO_970003 := n2_; have BK958 := n3_; have BK969 := n4_; have HO973 := n5_; have HB := n6_; clear n0_ n1_ n2_ n3_ n4_ n5_ n6_; (try clear hb); (try clear hkp); (try clear hy0)))
      (try simp only [Act.put, List.setIfInBounds_toArray, List.set_cons_zero, List.set_cons_succ])
      go_cut [70] (fun v70 wc => ∃ (kq : Nat) (x70_38 : Bool), v70 = .bool x70_38 ∧ Aside0 (laws_FnExactUnfilterImage.j1 kq a0 a1 a2 l3 t957 x70_38 t951 t952 t953 t954 t962 t963 t964 t965 = some r) ∧ Aside0 (kq ≤ kj9) ∧ Aside0 (Kd.R (Kd.int .i64) 3 wc w.heap.size (fun k_ => some k_ ≠ ((.slice Ao23 t965.length co23) : Value).ownBlock) (.slice Ao16 t954.length co16) t954) ∧ Aside0 (Kd.R (Kd.int .i64) 3 wc w.heap.size (fun k_ => some k_ ≠ ((.slice Ao16 t954.length co16) : Value).ownBlock) (.slice Ao23 t965.length co23) t965) ∧ Aside0 (wc.heap[gb958]? = some (.cells #[.int .i64 t951, .int .i64 t952, .int .i64 t953, (.slice Ao16 t954.length co16)] 24 (0, 0))) ∧ Aside0 (wc.heap[gb969]? = some (.cells #[.int .i64 t962, .int .i64 t963, .int .i64 t964, (.slice Ao23 t965.length co23)] 24 (0, 0))) ∧ Aside0 (Below w.heap.size w wc))
      case first =>
       have H := HC39.out
       clear HC39
       by_cases c43 : t975 < 0
       ·
        rw [if_pos c43] at H
        have c43b0 : decide (t975 < 0) = true := decide_eq_true c43
        clear c43
        (first | rw [c43b0] | (simp only [i64_w, i32_w]; rw [c43b0]) | skip)
        have H' := Aside0.mk H
        clear H
        go_wp2
        go_meet
        case rel => exact ⟨_, (true), (by first | rfl | (simp; done) | (simp [*]; done)), H', ⟨by have := HJ9.out; first | omega | exact Nat.le_refl _⟩, ⟨by (with_reducible repeat (first | apply Kd.R_alloc | apply Kd.R_drewN | apply Kd.R_drew)); exact Kd.R_mono HO_959003.out (fun _ hk => hk.2.1)⟩, ⟨by (with_reducible repeat (first | apply Kd.R_alloc | apply Kd.R_drewN | apply Kd.R_drew)); exact Kd.R_mono HO_970003.out (fun _ hk => hk.2.1)⟩, ⟨by (with_reducible repeat (first | refine blk_drewN ?_ _ | refine blk_drew ?_ | refine blk_alloc ?_ _)); exact BK958.out⟩, ⟨by (with_reducible repeat (first | refine blk_drewN ?_ _ | refine blk_drew ?_ | refine blk_alloc ?_ _)); exact BK969.out⟩, ⟨by repeat (first | (with_reducible first | exact HB.out | apply below_alloc | apply pw_below_drewN | apply below_drew1 | refine below_set ?_ GE958.out | refine below_set ?_ GE969.out) | exact HB.out)⟩⟩
       ·
        rw [if_neg c43] at H
        have c43b0 : decide (t975 < 0) = false := decide_eq_false c43
        clear c43
        (first | rw [c43b0] | (simp only [i64_w, i32_w]; rw [c43b0]) | skip)
        replace H := Option.bind_eq_some_iff.mp H
        obtain ⟨t977, A440, H⟩ := H
        replace H : (if t977 = true then (laws_FnExactUnfilterImage.j1 kj9 a0 a1 a2 l3 t957 (t968 != t957) t951 t952 t953 t954 t962 t963 t964 t965) else (laws_FnExactUnfilterImage.j1 kj9 a0 a1 a2 l3 t957 true t951 t952 t953 t954 t962 t963 t964 t965)) = some r := H
        have A44 := Aside0.mk A440
        clear A440
        by_cases c45 : t977 = true
        ·
         subst c45
         have H1 : (laws_FnExactUnfilterImage.j1 kj9 a0 a1 a2 l3 t957 (t968 != t957) t951 t952 t953 t954 t962 t963 t964 t965) = some r := by rw [if_pos rfl] at H; exact H
         clear H
         have H := H1
         clear H1
         have H' := Aside0.mk H
         clear H
         have hnb46 := NB969_958.out
         have hnc46 := NB958_969.out
         have hcz47_0 : w42.cell? ⟨gb969, 0, none⟩ = some (.int .i64 t962) := (blk_cell BK969.out 0).trans rfl
         have hcz47_1 : w42.cell? ⟨gb969, 1, none⟩ = some (.int .i64 t963) := (blk_cell BK969.out 1).trans rfl
         have hcz47_2 : w42.cell? ⟨gb969, 2, none⟩ = some (.int .i64 t964) := (blk_cell BK969.out 2).trans rfl
         have hcz47_3 : w42.cell? ⟨gb969, 3, none⟩ = some (.slice Ao23 t965.length co23) := (blk_cell BK969.out 3).trans rfl
         have hfz47_0 := blk_frozen BK969.out 0
         have hfz47_1 := blk_frozen BK969.out 1
         have hfz47_2 := blk_frozen BK969.out 2
         have hfz47_3 := blk_frozen BK969.out 3
         have hcz48_0 : w42.cell? ⟨gb958, 0, none⟩ = some (.int .i64 t951) := (blk_cell BK958.out 0).trans rfl
         have hcz48_1 : w42.cell? ⟨gb958, 1, none⟩ = some (.int .i64 t952) := (blk_cell BK958.out 1).trans rfl
         have hcz48_2 : w42.cell? ⟨gb958, 2, none⟩ = some (.int .i64 t953) := (blk_cell BK958.out 2).trans rfl
         have hcz48_3 : w42.cell? ⟨gb958, 3, none⟩ = some (.slice Ao16 t954.length co16) := (blk_cell BK958.out 3).trans rfl
         have hfz48_0 := blk_frozen BK958.out 0
         have hfz48_1 := blk_frozen BK958.out 1
         have hfz48_2 := blk_frozen BK958.out 2
         have hfz48_3 := blk_frozen BK958.out 3
         go_wp2_with (first | (go_at_call 15; (with_reducible refine (laws_eqImage.calls kj9 t962 t963 t964 _ _ t965 t951 t952 t953 _ _ t954 true _ ?side1 ?side2 ?side3 ?side4 A44.out).mono ?_); (case side1 => repeat (first | exact (Kd.R_reads' HO_970003.out).2.2 | (with_reducible refine Kd.C_alloc ?_ _) | (with_reducible refine Kd.C_drewN ?_ _) | (with_reducible refine Kd.C_drew ?_))); (case side2 => exact (Kd.R_reads' HO_970003.out).2.1); (case side3 => repeat (first | exact (Kd.R_reads' HO_959003.out).2.2 | (with_reducible refine Kd.C_alloc ?_ _) | (with_reducible refine Kd.C_drewN ?_ _) | (with_reducible refine Kd.C_drew ?_))); (case side4 => exact (Kd.R_reads' HO_959003.out).2.1); rintro e w49 ⟨rfl, hb⟩; have n0_ := Aside0.mk (Kd.R_below (by (with_reducible repeat (first | apply Kd.R_alloc | apply Kd.R_drewN | apply Kd.R_drew)); exact HO_11.out) hb); have n1_ := Aside0.mk (Kd.R_below (by (with_reducible repeat (first | apply Kd.R_alloc | apply Kd.R_drewN | apply Kd.R_drew)); exact HO_959003.out) hb); have n2_ := Aside0.mk (Kd.R_below (by (with_reducible repeat (first | apply Kd.R_alloc | apply Kd.R_drewN | apply Kd.R_drew)); exact HO_970003.out) hb); have n3_ := Aside0.mk (Kd.R_below (by (with_reducible repeat (first | apply Kd.R_alloc | apply Kd.R_drewN | apply Kd.R_drew)); exact HO973.out) hb); have n4_ := Aside0.mk (blk_below (g := gb958) (o := .cells #[.int .i64 t951, .int .i64 t952, .int .i64 t953, .slice Ao16 t954.length co16] 24 (0, 0)) (by (with_reducible repeat (first | refine blk_drewN ?_ _ | refine blk_drew ?_ | refine blk_alloc ?_ _)); exact BK958.out) hb); have n5_ := Aside0.mk (blk_below (g := gb969) (o := .cells #[.int .i64 t962, .int .i64 t963, .int .i64 t964, .slice Ao23 t965.length co23] 24 (0, 0)) (by (with_reducible repeat (first | refine blk_drewN ?_ _ | refine blk_drew ?_ | refine blk_alloc ?_ _)); exact BK969.out) hb); have n6_ := Aside0.mk (below_step (by repeat (first | (with_reducible first | exact HB.out | apply below_alloc | apply pw_below_drewN | apply below_drew1 | refine below_set ?_ GE958.out | refine below_set ?_ GE969.out) | exact HB.out)) hb); clear HO_11; clear HO_959003; clear HO_970003; clear HO973; clear BK958; clear BK969; clear HB; have HO_11 := n0_; have HO_959003 := n1_; have HO_970003 := n2_; have HO973 := n3_; have BK958 := n4_; have BK969 := n5_; have HB := n6_; clear n0_ n1_ n2_ n3_ n4_ n5_ n6_; (try clear hb); (try clear hb2); (try clear hk); (try clear hi)))
         go_meet
         case rel => exact ⟨_, ((t968 != t957)), (by first | rfl | (simp; done) | (simp [*]; done)), H', ⟨by have := HJ9.out; first | omega | exact Nat.le_refl _⟩, ⟨by (with_reducible repeat (first | apply Kd.R_alloc | apply Kd.R_drewN | apply Kd.R_drew)); exact Kd.R_mono HO_959003.out (fun _ hk => hk.2.1)⟩, ⟨by (with_reducible repeat (first | apply Kd.R_alloc | apply Kd.R_drewN | apply Kd.R_drew)); exact Kd.R_mono HO_970003.out (fun _ hk => hk.2.1)⟩, ⟨by (with_reducible repeat (first | refine blk_drewN ?_ _ | refine blk_drew ?_ | refine blk_alloc ?_ _)); exact BK958.out⟩, ⟨by (with_reducible repeat (first | refine blk_drewN ?_ _ | refine blk_drew ?_ | refine blk_alloc ?_ _)); exact BK969.out⟩, ⟨by repeat (first | (with_reducible first | exact HB.out | apply below_alloc | apply pw_below_drewN | apply below_drew1 | refine below_set ?_ GE958.out | refine below_set ?_ GE969.out) | exact HB.out)⟩⟩
        ·
         replace c45 := Bool.eq_false_iff.mpr c45
         subst c45
         have H1 : (laws_FnExactUnfilterImage.j1 kj9 a0 a1 a2 l3 t957 true t951 t952 t953 t954 t962 t963 t964 t965) = some r := by rw [if_neg (show ¬ (false = true) by decide)] at H; exact H
         clear H
         have H := H1
         clear H1
         have H' := Aside0.mk H
         clear H
         have hnb50 := NB969_958.out
         have hnc50 := NB958_969.out
         have hcz51_0 : w42.cell? ⟨gb969, 0, none⟩ = some (.int .i64 t962) := (blk_cell BK969.out 0).trans rfl
         have hcz51_1 : w42.cell? ⟨gb969, 1, none⟩ = some (.int .i64 t963) := (blk_cell BK969.out 1).trans rfl
         have hcz51_2 : w42.cell? ⟨gb969, 2, none⟩ = some (.int .i64 t964) := (blk_cell BK969.out 2).trans rfl
         have hcz51_3 : w42.cell? ⟨gb969, 3, none⟩ = some (.slice Ao23 t965.length co23) := (blk_cell BK969.out 3).trans rfl
         have hfz51_0 := blk_frozen BK969.out 0
         have hfz51_1 := blk_frozen BK969.out 1
         have hfz51_2 := blk_frozen BK969.out 2
         have hfz51_3 := blk_frozen BK969.out 3
         have hcz52_0 : w42.cell? ⟨gb958, 0, none⟩ = some (.int .i64 t951) := (blk_cell BK958.out 0).trans rfl
         have hcz52_1 : w42.cell? ⟨gb958, 1, none⟩ = some (.int .i64 t952) := (blk_cell BK958.out 1).trans rfl
         have hcz52_2 : w42.cell? ⟨gb958, 2, none⟩ = some (.int .i64 t953) := (blk_cell BK958.out 2).trans rfl
         have hcz52_3 : w42.cell? ⟨gb958, 3, none⟩ = some (.slice Ao16 t954.length co16) := (blk_cell BK958.out 3).trans rfl
         have hfz52_0 := blk_frozen BK958.out 0
         have hfz52_1 := blk_frozen BK958.out 1
         have hfz52_2 := blk_frozen BK958.out 2
         have hfz52_3 := blk_frozen BK958.out 3
         go_wp2_with (first | (go_at_call 15; (with_reducible refine (laws_eqImage.calls kj9 t962 t963 t964 _ _ t965 t951 t952 t953 _ _ t954 false _ ?side1 ?side2 ?side3 ?side4 A44.out).mono ?_); (case side1 => repeat (first | exact (Kd.R_reads' HO_970003.out).2.2 | (with_reducible refine Kd.C_alloc ?_ _) | (with_reducible refine Kd.C_drewN ?_ _) | (with_reducible refine Kd.C_drew ?_))); (case side2 => exact (Kd.R_reads' HO_970003.out).2.1); (case side3 => repeat (first | exact (Kd.R_reads' HO_959003.out).2.2 | (with_reducible refine Kd.C_alloc ?_ _) | (with_reducible refine Kd.C_drewN ?_ _) | (with_reducible refine Kd.C_drew ?_))); (case side4 => exact (Kd.R_reads' HO_959003.out).2.1); rintro e w53 ⟨rfl, hb⟩; have n0_ := Aside0.mk (Kd.R_below (by (with_reducible repeat (first | apply Kd.R_alloc | apply Kd.R_drewN | apply Kd.R_drew)); exact HO_11.out) hb); have n1_ := Aside0.mk (Kd.R_below (by (with_reducible repeat (first | apply Kd.R_alloc | apply Kd.R_drewN | apply Kd.R_drew)); exact HO_959003.out) hb); have n2_ := Aside0.mk (Kd.R_below (by (with_reducible repeat (first | apply Kd.R_alloc | apply Kd.R_drewN | apply Kd.R_drew)); exact HO_970003.out) hb); have n3_ := Aside0.mk (Kd.R_below (by (with_reducible repeat (first | apply Kd.R_alloc | apply Kd.R_drewN | apply Kd.R_drew)); exact HO973.out) hb); have n4_ := Aside0.mk (blk_below (g := gb958) (o := .cells #[.int .i64 t951, .int .i64 t952, .int .i64 t953, .slice Ao16 t954.length co16] 24 (0, 0)) (by (with_reducible repeat (first | refine blk_drewN ?_ _ | refine blk_drew ?_ | refine blk_alloc ?_ _)); exact BK958.out) hb); have n5_ := Aside0.mk (blk_below (g := gb969) (o := .cells #[.int .i64 t962, .int .i64 t963, .int .i64 t964, .slice Ao23 t965.length co23] 24 (0, 0)) (by (with_reducible repeat (first | refine blk_drewN ?_ _ | refine blk_drew ?_ | refine blk_alloc ?_ _)); exact BK969.out) hb); have n6_ := Aside0.mk (below_step (by repeat (first | (with_reducible first | exact HB.out | apply below_alloc | apply pw_below_drewN | apply below_drew1 | refine below_set ?_ GE958.out | refine below_set ?_ GE969.out) | exact HB.out)) hb); clear HO_11; clear HO_959003; clear HO_970003; clear HO973; clear BK958; clear BK969; clear HB; have HO_11 := n0_; have HO_959003 := n1_; have HO_970003 := n2_; have HO973 := n3_; have BK958 := n4_; have BK969 := n5_; have HB := n6_; clear n0_ n1_ n2_ n3_ n4_ n5_ n6_; (try clear hb); (try clear hb2); (try clear hk); (try clear hi)))
         go_meet
         case rel => exact ⟨_, (true), (by first | rfl | (simp; done) | (simp [*]; done)), H', ⟨by have := HJ9.out; first | omega | exact Nat.le_refl _⟩, ⟨by (with_reducible repeat (first | apply Kd.R_alloc | apply Kd.R_drewN | apply Kd.R_drew)); exact Kd.R_mono HO_959003.out (fun _ hk => hk.2.1)⟩, ⟨by (with_reducible repeat (first | apply Kd.R_alloc | apply Kd.R_drewN | apply Kd.R_drew)); exact Kd.R_mono HO_970003.out (fun _ hk => hk.2.1)⟩, ⟨by (with_reducible repeat (first | refine blk_drewN ?_ _ | refine blk_drew ?_ | refine blk_alloc ?_ _)); exact BK958.out⟩, ⟨by (with_reducible repeat (first | refine blk_drewN ?_ _ | refine blk_drew ?_ | refine blk_alloc ?_ _)); exact BK969.out⟩, ⟨by repeat (first | (with_reducible first | exact HB.out | apply below_alloc | apply pw_below_drewN | apply below_drew1 | refine below_set ?_ GE958.out | refine below_set ?_ GE969.out) | exact HB.out)⟩⟩
      case rest =>
       clear HC39
       try clear c1
       try clear c2
       try clear p2
       try clear c3
       try clear c4
       try clear c5
       try clear c5b0
       try clear c5b1
       try clear c8
       try clear c13
       try clear c15
       try clear c16
       try clear c17
       try clear c21
       try clear c25
       try clear c26
       try clear c30
       try clear c31
       try clear c34
       try clear c37
       try clear c43
       try clear c43b0
       try clear c45
       try clear c46
       try clear c50
       try clear hcz15_0
       try clear hcz15_1
       try clear hcz15_2
       try clear hcz15_3
       try clear hcz22_0
       try clear hcz22_1
       try clear hcz22_2
       try clear hcz22_3
       try clear hcz27_0
       try clear hcz27_1
       try clear hcz27_2
       try clear hcz27_3
       try clear hcz28_0
       try clear hcz28_1
       try clear hcz28_2
       try clear hcz28_3
       try clear hcz31_0
       try clear hcz31_1
       try clear hcz31_2
       try clear hcz31_3
       try clear hcz32_0
       try clear hcz32_1
       try clear hcz32_2
       try clear hcz32_3
       try clear hcz47_0
       try clear hcz47_1
       try clear hcz47_2
       try clear hcz47_3
       try clear hcz48_0
       try clear hcz48_1
       try clear hcz48_2
       try clear hcz48_3
       try clear hcz51_0
       try clear hcz51_1
       try clear hcz51_2
       try clear hcz51_3
       try clear hcz52_0
       try clear hcz52_1
       try clear hcz52_2
       try clear hcz52_3
       try clear hfz15_0
       try clear hfz15_1
       try clear hfz15_2
       try clear hfz15_3
       try clear hfz22_0
       try clear hfz22_1
       try clear hfz22_2
       try clear hfz22_3
       try clear hfz27_0
       try clear hfz27_1
       try clear hfz27_2
       try clear hfz27_3
       try clear hfz28_0
       try clear hfz28_1
       try clear hfz28_2
       try clear hfz28_3
       try clear hfz31_0
       try clear hfz31_1
       try clear hfz31_2
       try clear hfz31_3
       try clear hfz32_0
       try clear hfz32_1
       try clear hfz32_2
       try clear hfz32_3
       try clear hfz47_0
       try clear hfz47_1
       try clear hfz47_2
       try clear hfz47_3
       try clear hfz48_0
       try clear hfz48_1
       try clear hfz48_2
       try clear hfz48_3
       try clear hfz51_0
       try clear hfz51_1
       try clear hfz51_2
       try clear hfz51_3
       try clear hfz52_0
       try clear hfz52_1
       try clear hfz52_2
       try clear hfz52_3
       try clear p2
       obtain ⟨kq, x70_38, rfl, HA, HJ38, HO_959003, HO_970003, BK958, BK969, HB⟩ := hcut
       cases kq with
       | zero => exact absurd HA.out (by simp [laws_FnExactUnfilterImage.j1])
       | succ kj38 =>
        have H := HA.out
        clear HA
        simp only [laws_FnExactUnfilterImage.j1] at H
        by_cases c54 : x70_38 = true
        ·
         subst c54
         have H1 : (some false) = some r := by rw [if_pos rfl] at H; exact H
         clear H
         have H := H1
         clear H1
         obtain rfl := Option.some.inj H
         exact absurd hrt (by decide)
        ·
         replace c54 := Bool.eq_false_iff.mpr c54
         subst c54
         have H1 : ((laws_markImage.f kj38 t962 t963 t964 t965 1).bind fun bt978 => ((laws_heldImage.f kj38 t962 t963 t964 bt978.2 1).bind fun t980 => (if t980 < 0 then (some false) else (if t980 = bt978.1 then ((laws_toIntS.f kj38 l3).bind fun t981 => ((impl_UnfilterImage.f kj38 a0 a1 a2 t981).bind fun bt984 => ((laws_eqImage.f kj38 bt984.1 bt984.2.1 bt984.2.2.1 bt984.2.2.2.1 t951 t952 t953 t954).bind fun t992 => (if t992 = true then (laws_FnExactUnfilterImage.j2 kj38 bt978.1 (bt984.2.2.2.2 != t957) t962 t963 t964 bt978.2) else (laws_FnExactUnfilterImage.j2 kj38 bt978.1 true t962 t963 t964 bt978.2))))) else (some false))))) = some r := by rw [if_neg (show ¬ (false = true) by decide)] at H; exact H
         clear H
         have H := H1
         clear H1
         replace H := Option.bind_eq_some_iff.mp H
         obtain ⟨⟨t978, t979⟩, A550, H⟩ := H
         replace H : ((laws_heldImage.f kj38 t962 t963 t964 t979 1).bind fun t980 => (if t980 < 0 then (some false) else (if t980 = t978 then ((laws_toIntS.f kj38 l3).bind fun t981 => ((impl_UnfilterImage.f kj38 a0 a1 a2 t981).bind fun bt984 => ((laws_eqImage.f kj38 bt984.1 bt984.2.1 bt984.2.2.1 bt984.2.2.2.1 t951 t952 t953 t954).bind fun t992 => (if t992 = true then (laws_FnExactUnfilterImage.j2 kj38 t978 (bt984.2.2.2.2 != t957) t962 t963 t964 t979) else (laws_FnExactUnfilterImage.j2 kj38 t978 true t962 t963 t964 t979))))) else (some false)))) = some r := H
         have A55 := Aside0.mk A550
         clear A550
         replace H := Option.bind_eq_some_iff.mp H
         obtain ⟨t980, A560, H⟩ := H
         replace H : (if t980 < 0 then (some false) else (if t980 = t978 then ((laws_toIntS.f kj38 l3).bind fun t981 => ((impl_UnfilterImage.f kj38 a0 a1 a2 t981).bind fun bt984 => ((laws_eqImage.f kj38 bt984.1 bt984.2.1 bt984.2.2.1 bt984.2.2.2.1 t951 t952 t953 t954).bind fun t992 => (if t992 = true then (laws_FnExactUnfilterImage.j2 kj38 t978 (bt984.2.2.2.2 != t957) t962 t963 t964 t979) else (laws_FnExactUnfilterImage.j2 kj38 t978 true t962 t963 t964 t979))))) else (some false))) = some r := H
         have A56 := Aside0.mk A560
         clear A560
         by_cases c57 : t980 < 0
         ·
          rw [if_pos c57] at H
          have c57b0 : decide (t980 < 0) = true := decide_eq_true c57
          clear c57
          obtain rfl := Option.some.inj H
          exact absurd hrt (by decide)
         ·
          rw [if_neg c57] at H
          have c57b0 : decide (t980 < 0) = false := decide_eq_false c57
          clear c57
          by_cases c63 : t980 = t978
          ·
           rw [if_pos c63] at H
           have c63b0 : (t980 == t978) = true := beq_iff_eq.mpr c63
           have c63b1 : (t980 != t978) = false := bne_eq_false_iff_eq.mpr c63
           clear c63
           replace H := Option.bind_eq_some_iff.mp H
           obtain ⟨t981, A640, H⟩ := H
           replace H : ((impl_UnfilterImage.f kj38 a0 a1 a2 t981).bind fun bt984 => ((laws_eqImage.f kj38 bt984.1 bt984.2.1 bt984.2.2.1 bt984.2.2.2.1 t951 t952 t953 t954).bind fun t992 => (if t992 = true then (laws_FnExactUnfilterImage.j2 kj38 t978 (bt984.2.2.2.2 != t957) t962 t963 t964 t979) else (laws_FnExactUnfilterImage.j2 kj38 t978 true t962 t963 t964 t979)))) = some r := H
           have A64 := Aside0.mk A640
           clear A640
           replace H := Option.bind_eq_some_iff.mp H
           obtain ⟨⟨t984, t985, t986, t987, t990⟩, A650, H⟩ := H
           replace H : ((laws_eqImage.f kj38 t984 t985 t986 t987 t951 t952 t953 t954).bind fun t992 => (if t992 = true then (laws_FnExactUnfilterImage.j2 kj38 t978 (t990 != t957) t962 t963 t964 t979) else (laws_FnExactUnfilterImage.j2 kj38 t978 true t962 t963 t964 t979))) = some r := H
           have A65 := Aside0.mk A650
           clear A650
           have HC66 := Aside0.mk H
           clear H
           have hnb67 := NB969_958.out
           have hnc67 := NB958_969.out
           have hcz68_0 : wc.cell? ⟨gb969, 0, none⟩ = some (.int .i64 t962) := (blk_cell BK969.out 0).trans rfl
           have hcz68_1 : wc.cell? ⟨gb969, 1, none⟩ = some (.int .i64 t963) := (blk_cell BK969.out 1).trans rfl
           have hcz68_2 : wc.cell? ⟨gb969, 2, none⟩ = some (.int .i64 t964) := (blk_cell BK969.out 2).trans rfl
           have hcz68_3 : wc.cell? ⟨gb969, 3, none⟩ = some (.slice Ao23 t965.length co23) := (blk_cell BK969.out 3).trans rfl
           have hfz68_0 := blk_frozen BK969.out 0
           have hfz68_1 := blk_frozen BK969.out 1
           have hfz68_2 := blk_frozen BK969.out 2
           have hfz68_3 := blk_frozen BK969.out 3
           go_upto_region 23 with (first | ((with_reducible refine gate_callee (f := 18) rfl ?_); refine goesL_ (some 73) rfl rfl Try.func18 (by kernel_rfl) rfl #[.agg #[.int .i64 t962, .int .i64 t963, .int .i64 t964, .slice Ao23 t965.length co23], .int .i64 1] rfl (by (try simp only [List.map_toArray, List.map_cons, List.map_nil]); first | done | rfl | (simp only [List.length_drop, List.length_take]; rfl)) ?_; (with_reducible refine (laws_markImage.calls kj38 t962 t963 t964 (fun k_ => some k_ = (.slice Ao23 t965.length co23 : Value).ownBlock) (.slice Ao23 t965.length co23) t965 1 t978 t979 w _ ?side1 ?side2 A55.out).mono ?_); (case side1 => repeat (first | (with_reducible first | exact HB.out | apply below_alloc | apply pw_below_drewN | apply below_drew1 | refine below_set ?_ GE958.out | refine below_set ?_ GE969.out) | exact HB.out)); (case side2 => exact Kd.R_tight rfl HO_970003.out); rintro e w69 ⟨rfl, hy0, hb, hkp⟩; refine ⟨_, rfl, ?_⟩; have n0_ := Aside0.mk (Kd.R_mono (ok' := fun k_ => some k_ ≠ (.slice Ao23 t965.length co23 : Value).ownBlock) (Kd.R_keptB (HO_959003.out) hkp (fun k_ hk_ hs_ => (hk_) hs_)) (fun k_ hk_ => hk_.1)); have n1_ := Aside0.mk (Kd.R_reok rfl hy0 (fun k_ e_ => HO_970003.out.1 k_ e_)); have n2_ := Aside0.mk (blk_kept (by (with_reducible repeat (first | refine blk_drewN ?_ _ | refine blk_drew ?_ | refine blk_alloc ?_ _)); exact BK958.out) hkp (fun hs_ => (fun e_ => (Kd.R_ne HO_970003.out BK958.out (by decide)) e_) hs_)); have n3_ := Aside0.mk (blk_kept (by (with_reducible repeat (first | refine blk_drewN ?_ _ | refine blk_drew ?_ | refine blk_alloc ?_ _)); exact BK969.out) hkp (fun hs_ => (fun e_ => (Kd.R_ne HO_970003.out BK969.out (by decide)) e_) hs_)); have n4_ := Aside0.mk (hb); clear HO_959003; clear HO_970003; clear BK958; clear BK969; clear HB; have HO_959003 := n0_; have HO_970003 := n1_; have BK958 := n2_; have BK969 := n3_; have HB := n4_; clear n0_ n1_ n2_ n3_ n4_; (try clear hb); (try clear hkp); (try clear hy0); have hcz70_0 : w69.cell? ⟨gb969, 0, none⟩ = some (.int .i64 t962) := (blk_cell BK969.out 0).trans rfl; have hcz70_1 : w69.cell? ⟨gb969, 1, none⟩ = some (.int .i64 t963) := (blk_cell BK969.out 1).trans rfl; have hcz70_2 : w69.cell? ⟨gb969, 2, none⟩ = some (.int .i64 t964) := (blk_cell BK969.out 2).trans rfl; have hcz70_3 : w69.cell? ⟨gb969, 3, none⟩ = some (.slice Ao23 t965.length co23) := (blk_cell BK969.out 3).trans rfl; have hfz70_0 := blk_frozen BK969.out 0; have hfz70_1 := blk_frozen BK969.out 1; have hfz70_2 := blk_frozen BK969.out 2; have hfz70_3 := blk_frozen BK969.out 3) | ((with_reducible refine gate_callee (f := 19) rfl ?_); refine goesL_ (some 76) rfl rfl Try.func19 (by kernel_rfl) rfl #[.agg #[.int .i64 t962, .int .i64 t963, .int .i64 t964, .slice Ao23 t979.length co23], .int .i64 1] rfl (by (try simp only [List.map_toArray, List.map_cons, List.map_nil]); first | done | (rw [show t979.length = t965.length from (Kd.R_reads' HO_970003.out).1.symm] <;> rfl) | rfl | (simp only [List.length_drop, List.length_take]; rfl)) ?_; (with_reducible refine (laws_heldImage.calls kj38 t962 t963 t964 _ _ t979 1 t980 _ ?side1 ?side2 A56.out).mono ?_); (case side1 => repeat (first | exact (Kd.R_reads' HO_970003.out).2.2 | (with_reducible refine Kd.C_alloc ?_ _) | (with_reducible refine Kd.C_drewN ?_ _) | (with_reducible refine Kd.C_drew ?_))); (case side2 => rw [show t979.length = t965.length from (Kd.R_reads' HO_970003.out).1.symm]; exact (Kd.R_reads' HO_970003.out).2.1); rintro e w71 ⟨rfl, hb⟩; refine ⟨_, rfl, ?_⟩; have n0_ := Aside0.mk (Kd.R_below (by (with_reducible repeat (first | apply Kd.R_alloc | apply Kd.R_drewN | apply Kd.R_drew)); exact HO_959003.out) hb); have n1_ := Aside0.mk (Kd.R_below (by (with_reducible repeat (first | apply Kd.R_alloc | apply Kd.R_drewN | apply Kd.R_drew)); exact HO_970003.out) hb); have n2_ := Aside0.mk (blk_below (g := gb958) (o := .cells #[.int .i64 t951, .int .i64 t952, .int .i64 t953, .slice Ao16 t954.length co16] 24 (0, 0)) (by (with_reducible repeat (first | refine blk_drewN ?_ _ | refine blk_drew ?_ | refine blk_alloc ?_ _)); exact BK958.out) hb); have n3_ := Aside0.mk (blk_below (g := gb969) (o := .cells #[.int .i64 t962, .int .i64 t963, .int .i64 t964, .slice Ao23 t965.length co23] 24 (0, 0)) (by (with_reducible repeat (first | refine blk_drewN ?_ _ | refine blk_drew ?_ | refine blk_alloc ?_ _)); exact BK969.out) hb); have n4_ := Aside0.mk (below_step (by repeat (first | (with_reducible first | exact HB.out | apply below_alloc | apply pw_below_drewN | apply below_drew1 | refine below_set ?_ GE958.out | refine below_set ?_ GE969.out) | exact HB.out)) hb); clear HO_959003; clear HO_970003; clear BK958; clear BK969; clear HB; have HO_959003 := n0_; have HO_970003 := n1_; have BK958 := n2_; have BK969 := n3_; have HB := n4_; clear n0_ n1_ n2_ n3_ n4_; (try clear hb); (try clear hb2); (try clear hk); (try clear hi)) | ((with_reducible refine gate_callee (f := 13) rfl ?_); refine goesL_ (some 87) rfl rfl Try.func13 (by kernel_rfl) rfl #[.slice A3 l3.length c3] rfl (by (try simp only [List.map_toArray, List.map_cons, List.map_nil]); first | done | rfl | (simp only [List.length_drop, List.length_take]; rfl)) ?_; (with_reducible refine (laws_toIntS.calls kj38 _ _ l3 t981 _ ?side1 ?side2 A64.out).mono ?_); (case side1 => repeat (first | exact (Kd.C_below HR3.out HB.out) | (with_reducible refine Kd.C_alloc ?_ _) | (with_reducible refine Kd.C_drewN ?_ _) | (with_reducible refine Kd.C_drew ?_))); (case side2 => exact HC3.out); rintro e w72 ⟨v982, rfl, ho0, hb⟩; refine ⟨_, rfl, ?_⟩; have n0_ := Aside0.mk (Kd.R_elder' (by (with_reducible repeat (first | apply Kd.R_alloc | apply Kd.R_drewN | apply Kd.R_drew)); exact HO_959003.out) (Kd.R_base ho0) hb); have n1_ := Aside0.mk (Kd.R_elder' (by (with_reducible repeat (first | apply Kd.R_alloc | apply Kd.R_drewN | apply Kd.R_drew)); exact HO_970003.out) (Kd.R_base ho0) hb); have n2_ := Aside0.mk (Kd.R_lower (Kd.R_new' (Kd.R_new' ho0 (Kd.R_lt (by (with_reducible repeat (first | apply Kd.R_alloc | apply Kd.R_drewN | apply Kd.R_drew)); exact HO_959003.out))) (Kd.R_lt (by (with_reducible repeat (first | apply Kd.R_alloc | apply Kd.R_drewN | apply Kd.R_drew)); exact HO_970003.out))) (below_size (by repeat (first | (with_reducible first | exact HB.out | apply below_alloc | apply pw_below_drewN | apply below_drew1 | refine below_set ?_ GE958.out | refine below_set ?_ GE969.out) | exact HB.out)))); have n3_ := Aside0.mk (blk_below (g := gb958) (o := .cells #[.int .i64 t951, .int .i64 t952, .int .i64 t953, .slice Ao16 t954.length co16] 24 (0, 0)) (by (with_reducible repeat (first | refine blk_drewN ?_ _ | refine blk_drew ?_ | refine blk_alloc ?_ _)); exact BK958.out) hb); have n4_ := Aside0.mk (blk_below (g := gb969) (o := .cells #[.int .i64 t962, .int .i64 t963, .int .i64 t964, .slice Ao23 t965.length co23] 24 (0, 0)) (by (with_reducible repeat (first | refine blk_drewN ?_ _ | refine blk_drew ?_ | refine blk_alloc ?_ _)); exact BK969.out) hb); have n5_ := Aside0.mk (below_step (by repeat (first | (with_reducible first | exact HB.out | apply below_alloc | apply pw_below_drewN | apply below_drew1 | refine below_set ?_ GE958.out | refine below_set ?_ GE969.out) | exact HB.out)) hb); clear HO_959003; clear HO_970003; clear BK958; clear BK969; clear HB; have HO_959003 := n0_; have HO_970003 := n1_; have HO983 := n2_; have BK958 := n3_; have BK969 := n4_; have HB := n5_; clear n0_ n1_ n2_ n3_ n4_ n5_; (try clear hb); (try clear hb2); (try clear hk); (try clear hi); (try clear ho0); obtain ⟨Ao73, co73, eo73⟩ := Kd.R_slice HO983.out; subst eo73) | ((with_reducible refine gate_callee (f := 30) rfl ?_); refine goesL_ (some 88) rfl rfl Try.func30 (by kernel_rfl) rfl #[.int .i64 a0, .int .i64 a1, .int .i64 a2, .slice Ao73 t981.length co73] rfl (by (try simp only [List.map_toArray, List.map_cons, List.map_nil]); first | done | rfl | (simp only [List.length_drop, List.length_take]; rfl)) ?_; (with_reducible refine (impl_UnfilterImage.calls kj38 a0 a1 a2 _ _ t981 t984 t985 t986 t987 t990 _ ?side1 ?side2 A65.out).mono ?_); (case side1 => repeat (first | exact (Kd.R_reads' HO983.out).2.2 | (with_reducible refine Kd.C_alloc ?_ _) | (with_reducible refine Kd.C_drewN ?_ _) | (with_reducible refine Kd.C_drew ?_))); (case side2 => exact (Kd.R_reads' HO983.out).2.1); rintro e w74 ⟨v988, rfl, ho0, hb⟩; refine ⟨_, rfl, ?_⟩; have n0_ := Aside0.mk (Kd.R_elder' (by (with_reducible repeat (first | apply Kd.R_alloc | apply Kd.R_drewN | apply Kd.R_drew)); exact HO_959003.out) (Kd.R_base ho0) hb); have n1_ := Aside0.mk (Kd.R_elder' (by (with_reducible repeat (first | apply Kd.R_alloc | apply Kd.R_drewN | apply Kd.R_drew)); exact HO_970003.out) (Kd.R_base ho0) hb); have n2_ := Aside0.mk (Kd.R_elder' (by (with_reducible repeat (first | apply Kd.R_alloc | apply Kd.R_drewN | apply Kd.R_drew)); exact HO983.out) (Kd.R_base ho0) hb); have n3_ := Aside0.mk (Kd.R_lower (Kd.R_new' (Kd.R_new' (Kd.R_new' ho0 (Kd.R_lt (by (with_reducible repeat (first | apply Kd.R_alloc | apply Kd.R_drewN | apply Kd.R_drew)); exact HO_959003.out))) (Kd.R_lt (by (with_reducible repeat (first | apply Kd.R_alloc | apply Kd.R_drewN | apply Kd.R_drew)); exact HO_970003.out))) (Kd.R_lt (by (with_reducible repeat (first | apply Kd.R_alloc | apply Kd.R_drewN | apply Kd.R_drew)); exact HO983.out))) (below_size (by repeat (first | (with_reducible first | exact HB.out | apply below_alloc | apply pw_below_drewN | apply below_drew1 | refine below_set ?_ GE958.out | refine below_set ?_ GE969.out) | exact HB.out)))); have n4_ := Aside0.mk (blk_below (g := gb958) (o := .cells #[.int .i64 t951, .int .i64 t952, .int .i64 t953, .slice Ao16 t954.length co16] 24 (0, 0)) (by (with_reducible repeat (first | refine blk_drewN ?_ _ | refine blk_drew ?_ | refine blk_alloc ?_ _)); exact BK958.out) hb); have n5_ := Aside0.mk (blk_below (g := gb969) (o := .cells #[.int .i64 t962, .int .i64 t963, .int .i64 t964, .slice Ao23 t965.length co23] 24 (0, 0)) (by (with_reducible repeat (first | refine blk_drewN ?_ _ | refine blk_drew ?_ | refine blk_alloc ?_ _)); exact BK969.out) hb); have n6_ := Aside0.mk (below_step (by repeat (first | (with_reducible first | exact HB.out | apply below_alloc | apply pw_below_drewN | apply below_drew1 | refine below_set ?_ GE958.out | refine below_set ?_ GE969.out) | exact HB.out)) hb); clear HO_959003; clear HO_970003; clear HO983; clear BK958; clear BK969; clear HB; have HO_959003 := n0_; have HO_970003 := n1_; have HO983 := n2_; have HO989 := n3_; have BK958 := n4_; have BK969 := n5_; have HB := n6_; clear n0_ n1_ n2_ n3_ n4_ n5_ n6_; (try clear hb); (try clear hb2); (try clear hk); (try clear hi); (try clear ho0)) | ((with_reducible refine gate_dst (N := 17) rfl ?_); refine box_event ?hg (N := 17) ?hd (cs := #[.int .i64 0, .int .i64 0, .int .i64 0, .slice none 0 0]) (t := 24) ?hr ?_; (case hd => rfl); (case hg => rfl); (case hr => first | (go_simp; done) | (go_simp; rfl)); intro gb991 hg w75 hbox hb; have n0_ := Aside0.mk (Kd.R_below (by (with_reducible repeat (first | apply Kd.R_alloc | apply Kd.R_drewN | apply Kd.R_drew)); exact HO_959003.out) hb); have n1_ := Aside0.mk (Kd.R_below (by (with_reducible repeat (first | apply Kd.R_alloc | apply Kd.R_drewN | apply Kd.R_drew)); exact HO_970003.out) hb); have n2_ := Aside0.mk (Kd.R_below (by (with_reducible repeat (first | apply Kd.R_alloc | apply Kd.R_drewN | apply Kd.R_drew)); exact HO983.out) hb); have n3_ := Aside0.mk (Kd.R_below (by (with_reducible repeat (first | apply Kd.R_alloc | apply Kd.R_drewN | apply Kd.R_drew)); exact HO989.out) hb); have n4_ := Aside0.mk (blk_below (g := gb958) (o := .cells #[.int .i64 t951, .int .i64 t952, .int .i64 t953, .slice Ao16 t954.length co16] 24 (0, 0)) (by (with_reducible repeat (first | refine blk_drewN ?_ _ | refine blk_drew ?_ | refine blk_alloc ?_ _)); exact BK958.out) hb); have n5_ := Aside0.mk (blk_below (g := gb969) (o := .cells #[.int .i64 t962, .int .i64 t963, .int .i64 t964, .slice Ao23 t965.length co23] 24 (0, 0)) (by (with_reducible repeat (first | refine blk_drewN ?_ _ | refine blk_drew ?_ | refine blk_alloc ?_ _)); exact BK969.out) hb); have n6_ := Aside0.mk (below_step (by repeat (first | (with_reducible first | exact HB.out | apply below_alloc | apply pw_below_drewN | apply below_drew1 | refine below_set ?_ GE958.out | refine below_set ?_ GE969.out) | exact HB.out)) hb); have n7_ := Aside0.mk (hbox); have n8_ := Aside0.mk ((by rw [hg]; exact (below_size (by repeat (first | (with_reducible first | exact HB.out | apply below_alloc | apply pw_below_drewN | apply below_drew1 | refine below_set ?_ GE958.out | refine below_set ?_ GE969.out) | exact HB.out))) : w.heap.size ≤ gb991)); have n9_ := Aside0.mk ((by rw [hg]; exact (below_size (by repeat (first | (with_reducible first | exact HB.out | apply below_alloc | apply pw_below_drewN | apply below_drew1 | refine below_set ?_ GE958.out | refine below_set ?_ GE969.out) | exact HB.out))) : w.heap.size ≤ gb991)); have n10_ := Aside0.mk ((by rw [hg]; exact Nat.ne_of_lt (blk_lt (g := gb958) (o := .cells #[.int .i64 t951, .int .i64 t952, .int .i64 t953, .slice Ao16 t954.length co16] 24 (0, 0)) (by (with_reducible repeat (first | refine blk_drewN ?_ _ | refine blk_drew ?_ | refine blk_alloc ?_ _)); exact BK958.out)) : gb958 ≠ gb991)); have n11_ := Aside0.mk ((by rw [hg]; exact Nat.ne_of_gt (blk_lt (g := gb958) (o := .cells #[.int .i64 t951, .int .i64 t952, .int .i64 t953, .slice Ao16 t954.length co16] 24 (0, 0)) (by (with_reducible repeat (first | refine blk_drewN ?_ _ | refine blk_drew ?_ | refine blk_alloc ?_ _)); exact BK958.out)) : gb991 ≠ gb958)); have n12_ := Aside0.mk ((by rw [hg]; exact Nat.ne_of_lt (blk_lt (g := gb969) (o := .cells #[.int .i64 t962, .int .i64 t963, .int .i64 t964, .slice Ao23 t965.length co23] 24 (0, 0)) (by (with_reducible repeat (first | refine blk_drewN ?_ _ | refine blk_drew ?_ | refine blk_alloc ?_ _)); exact BK969.out)) : gb969 ≠ gb991)); have n13_ := Aside0.mk ((by rw [hg]; exact Nat.ne_of_gt (blk_lt (g := gb969) (o := .cells #[.int .i64 t962, .int .i64 t963, .int .i64 t964, .slice Ao23 t965.length co23] 24 (0, 0)) (by (with_reducible repeat (first | refine blk_drewN ?_ _ | refine blk_drew ?_ | refine blk_alloc ?_ _)); exact BK969.out)) : gb991 ≠ gb969)); clear HO_959003; clear HO_970003; clear HO983; clear HO989; clear BK958; clear BK969; clear HB; have HO_959003 := n0_; have HO_970003 := n1_; have HO983 := n2_; have HO989 := n3_; have BK958 := n4_; have BK969 := n5_; have HB := n6_; have BK991 := n7_; have GW991 := n8_; have GE991 := n9_; have NB958_991 := n10_; have NB991_958 := n11_; have NB969_991 := n12_; have NB991_969 := n13_; clear n0_ n1_ n2_ n3_ n4_ n5_ n6_ n7_ n8_ n9_ n10_ n11_ n12_ n13_; clear hb hbox hg; have hnb76 := NB991_958.out; have hnc76 := NB958_991.out; have hnb77 := NB991_969.out; have hnc77 := NB969_991.out; have hcz78_0 : w75.cell? ⟨gb991, 0, none⟩ = some (.int .i64 0) := (blk_cell BK991.out 0).trans rfl; have hcz78_1 : w75.cell? ⟨gb991, 1, none⟩ = some (.int .i64 0) := (blk_cell BK991.out 1).trans rfl; have hcz78_2 : w75.cell? ⟨gb991, 2, none⟩ = some (.int .i64 0) := (blk_cell BK991.out 2).trans rfl; have hcz78_3 : w75.cell? ⟨gb991, 3, none⟩ = some (.slice none 0 0) := (blk_cell BK991.out 3).trans rfl; have hfz78_0 := blk_frozen BK991.out 0; have hfz78_1 := blk_frozen BK991.out 1; have hfz78_2 := blk_frozen BK991.out 2; have hfz78_3 := blk_frozen BK991.out 3; obtain ⟨Ao79, co79, eo79⟩ := Kd.R_slice HO989.out; subst eo79))
           (try simp only [Act.put, List.setIfInBounds_toArray, List.set_cons_zero, List.set_cons_succ])
           go_cut [99] (fun v99 wc => ∃ (kq : Nat) (x99_65 : Bool), v99 = .bool x99_65 ∧ Aside0 (laws_FnExactUnfilterImage.j2 kq t978 x99_65 t962 t963 t964 t979 = some r) ∧ Aside0 (kq ≤ kj38) ∧ Aside0 (Kd.R (Kd.int .i64) 3 wc w.heap.size (fun k_ => some k_ ≠ ((.slice Ao23 t965.length co23) : Value).ownBlock ∧ some k_ ≠ ((.slice Ao79 t987.length co79) : Value).ownBlock) (.slice Ao16 t954.length co16) t954) ∧ Aside0 (Kd.R (Kd.int .i64) 3 wc w.heap.size (fun k_ => some k_ ≠ ((.slice Ao16 t954.length co16) : Value).ownBlock ∧ some k_ ≠ ((.slice Ao79 t987.length co79) : Value).ownBlock) (.slice Ao23 t965.length co23) t979) ∧ Aside0 (Kd.R (Kd.int .i64) 3 wc w.heap.size (fun k_ => some k_ ≠ ((.slice Ao16 t954.length co16) : Value).ownBlock ∧ some k_ ≠ ((.slice Ao23 t965.length co23) : Value).ownBlock) (.slice Ao79 t987.length co79) t987) ∧ Aside0 (wc.heap[gb958]? = some (.cells #[.int .i64 t951, .int .i64 t952, .int .i64 t953, (.slice Ao16 t954.length co16)] 24 (0, 0))) ∧ Aside0 (wc.heap[gb969]? = some (.cells #[.int .i64 t962, .int .i64 t963, .int .i64 t964, (.slice Ao23 t965.length co23)] 24 (0, 0))) ∧ Aside0 (wc.heap[gb991]? = some (.cells #[.int .i64 t984, .int .i64 t985, .int .i64 t986, (.slice Ao79 t987.length co79)] 24 (0, 0))) ∧ Aside0 (Below w.heap.size w wc))
           case first =>
            have H := HC66.out
            clear HC66
            replace H := Option.bind_eq_some_iff.mp H
            obtain ⟨t992, A800, H⟩ := H
            replace H : (if t992 = true then (laws_FnExactUnfilterImage.j2 kj38 t978 (t990 != t957) t962 t963 t964 t979) else (laws_FnExactUnfilterImage.j2 kj38 t978 true t962 t963 t964 t979)) = some r := H
            have A80 := Aside0.mk A800
            clear A800
            by_cases c81 : t992 = true
            ·
             subst c81
             have H1 : (laws_FnExactUnfilterImage.j2 kj38 t978 (t990 != t957) t962 t963 t964 t979) = some r := by rw [if_pos rfl] at H; exact H
             clear H
             have H := H1
             clear H1
             have H' := Aside0.mk H
             clear H
             have hnb82 := NB991_958.out
             have hnc82 := NB958_991.out
             have hnb83 := NB991_969.out
             have hnc83 := NB969_991.out
             have hcz84_0 : w75.cell? ⟨gb991, 0, none⟩ = some (.int .i64 0) := (blk_cell BK991.out 0).trans rfl
             have hcz84_1 : w75.cell? ⟨gb991, 1, none⟩ = some (.int .i64 0) := (blk_cell BK991.out 1).trans rfl
             have hcz84_2 : w75.cell? ⟨gb991, 2, none⟩ = some (.int .i64 0) := (blk_cell BK991.out 2).trans rfl
             have hcz84_3 : w75.cell? ⟨gb991, 3, none⟩ = some (.slice none 0 0) := (blk_cell BK991.out 3).trans rfl
             have hfz84_0 := blk_frozen BK991.out 0
             have hfz84_1 := blk_frozen BK991.out 1
             have hfz84_2 := blk_frozen BK991.out 2
             have hfz84_3 := blk_frozen BK991.out 3
             have hnb85 := NB958_969.out
             have hnc85 := NB969_958.out
             have hcz86_0 : w75.cell? ⟨gb958, 0, none⟩ = some (.int .i64 t951) := (blk_cell BK958.out 0).trans rfl
             have hcz86_1 : w75.cell? ⟨gb958, 1, none⟩ = some (.int .i64 t952) := (blk_cell BK958.out 1).trans rfl
             have hcz86_2 : w75.cell? ⟨gb958, 2, none⟩ = some (.int .i64 t953) := (blk_cell BK958.out 2).trans rfl
             have hcz86_3 : w75.cell? ⟨gb958, 3, none⟩ = some (.slice Ao16 t954.length co16) := (blk_cell BK958.out 3).trans rfl
             have hfz86_0 := blk_frozen BK958.out 0
             have hfz86_1 := blk_frozen BK958.out 1
             have hfz86_2 := blk_frozen BK958.out 2
             have hfz86_3 := blk_frozen BK958.out 3
             go_wp2_with (first | ((with_reducible refine gate_callee (f := 15) rfl ?_); refine goesL_ (some 93) rfl rfl Try.func15 (by kernel_rfl) rfl #[.agg #[.int .i64 t984, .int .i64 t985, .int .i64 t986, .slice Ao79 t987.length co79], .agg #[.int .i64 t951, .int .i64 t952, .int .i64 t953, .slice Ao16 t954.length co16]] rfl (by (try simp only [List.map_toArray, List.map_cons, List.map_nil]); first | done | rfl | (simp only [List.length_drop, List.length_take]; rfl)) ?_; (with_reducible refine (laws_eqImage.calls kj38 t984 t985 t986 _ _ t987 t951 t952 t953 _ _ t954 true _ ?side1 ?side2 ?side3 ?side4 A80.out).mono ?_); (case side1 => refine (Kd.R_reads' (e := 3) (base := w.heap.size) (ok := fun k_ => (((True ∧ some k_ ≠ (.slice Ao16 t954.length co16 : Value).ownBlock) ∧ some k_ ≠ (.slice Ao23 t965.length co23 : Value).ownBlock) ∧ some k_ ≠ (.slice Ao73 t981.length co73 : Value).ownBlock)) (n := t987.length) (c := co79) ?_).2.2; exact (by (with_reducible repeat (first | apply Kd.R_alloc | apply Kd.R_drewN | apply Kd.R_drew)); exact (Kd.R_mono (Kd.R_far (p := ⟨gb991, 3, none⟩) (Kd.R_far (p := ⟨gb991, 2, none⟩) (Kd.R_far (p := ⟨gb991, 1, none⟩) (Kd.R_far (p := ⟨gb991, 0, none⟩) (Kd.R_types HO989.out BK991.out (by decide)) (fun _ hk => hk.2) (.int .i64 t984)) (fun _ hk => hk.2) (.int .i64 t985)) (fun _ hk => hk.2) (.int .i64 t986)) (fun _ hk => hk.2) (.slice Ao79 t987.length co79)) (fun _ h_ => h_.1)))); (case side2 => exact (Kd.R_reads' HO989.out).2.1); (case side3 => refine (Kd.R_reads' (e := 3) (base := w.heap.size) (ok := fun k_ => ((some k_ ≠ (.slice Ao23 t965.length co23 : Value).ownBlock ∧ some k_ ≠ (.slice Ao73 t981.length co73 : Value).ownBlock) ∧ some k_ ≠ (.slice Ao79 t987.length co79 : Value).ownBlock)) (n := t954.length) (c := co16) ?_).2.2; exact (by (with_reducible repeat (first | apply Kd.R_alloc | apply Kd.R_drewN | apply Kd.R_drew)); exact (Kd.R_mono (Kd.R_far (p := ⟨gb991, 3, none⟩) (Kd.R_far (p := ⟨gb991, 2, none⟩) (Kd.R_far (p := ⟨gb991, 1, none⟩) (Kd.R_far (p := ⟨gb991, 0, none⟩) (Kd.R_types HO_959003.out BK991.out (by decide)) (fun _ hk => hk.2) (.int .i64 t984)) (fun _ hk => hk.2) (.int .i64 t985)) (fun _ hk => hk.2) (.int .i64 t986)) (fun _ hk => hk.2) (.slice Ao79 t987.length co79)) (fun _ h_ => h_.1)))); (case side4 => exact (Kd.R_reads' HO_959003.out).2.1); rintro e w87 ⟨rfl, hb⟩; refine ⟨_, rfl, ?_⟩; have n0_ := Aside0.mk (Kd.R_below (by (with_reducible repeat (first | apply Kd.R_alloc | apply Kd.R_drewN | apply Kd.R_drew)); exact (Kd.R_mono (Kd.R_far (p := ⟨gb991, 3, none⟩) (Kd.R_far (p := ⟨gb991, 2, none⟩) (Kd.R_far (p := ⟨gb991, 1, none⟩) (Kd.R_far (p := ⟨gb991, 0, none⟩) (Kd.R_types HO_959003.out BK991.out (by decide)) (fun _ hk => hk.2) (.int .i64 t984)) (fun _ hk => hk.2) (.int .i64 t985)) (fun _ hk => hk.2) (.int .i64 t986)) (fun _ hk => hk.2) (.slice Ao79 t987.length co79)) (fun _ h_ => h_.1))) hb); have n1_ := Aside0.mk (Kd.R_below (by (with_reducible repeat (first | apply Kd.R_alloc | apply Kd.R_drewN | apply Kd.R_drew)); exact (Kd.R_mono (Kd.R_far (p := ⟨gb991, 3, none⟩) (Kd.R_far (p := ⟨gb991, 2, none⟩) (Kd.R_far (p := ⟨gb991, 1, none⟩) (Kd.R_far (p := ⟨gb991, 0, none⟩) (Kd.R_types HO_970003.out BK991.out (by decide)) (fun _ hk => hk.2) (.int .i64 t984)) (fun _ hk => hk.2) (.int .i64 t985)) (fun _ hk => hk.2) (.int .i64 t986)) (fun _ hk => hk.2) (.slice Ao79 t987.length co79)) (fun _ h_ => h_.1))) hb); have n2_ := Aside0.mk (Kd.R_below (by (with_reducible repeat (first | apply Kd.R_alloc | apply Kd.R_drewN | apply Kd.R_drew)); exact (Kd.R_mono (Kd.R_far (p := ⟨gb991, 3, none⟩) (Kd.R_far (p := ⟨gb991, 2, none⟩) (Kd.R_far (p := ⟨gb991, 1, none⟩) (Kd.R_far (p := ⟨gb991, 0, none⟩) (Kd.R_types HO983.out BK991.out (by decide)) (fun _ hk => hk.2) (.int .i64 t984)) (fun _ hk => hk.2) (.int .i64 t985)) (fun _ hk => hk.2) (.int .i64 t986)) (fun _ hk => hk.2) (.slice Ao79 t987.length co79)) (fun _ h_ => h_.1))) hb); have n3_ := Aside0.mk (Kd.R_below (by (with_reducible repeat (first | apply Kd.R_alloc | apply Kd.R_drewN | apply Kd.R_drew)); exact (Kd.R_mono (Kd.R_far (p := ⟨gb991, 3, none⟩) (Kd.R_far (p := ⟨gb991, 2, none⟩) (Kd.R_far (p := ⟨gb991, 1, none⟩) (Kd.R_far (p := ⟨gb991, 0, none⟩) (Kd.R_types HO989.out BK991.out (by decide)) (fun _ hk => hk.2) (.int .i64 t984)) (fun _ hk => hk.2) (.int .i64 t985)) (fun _ hk => hk.2) (.int .i64 t986)) (fun _ hk => hk.2) (.slice Ao79 t987.length co79)) (fun _ h_ => h_.1))) hb); have n4_ := Aside0.mk (blk_below (g := gb958) (o := .cells #[.int .i64 t951, .int .i64 t952, .int .i64 t953, .slice Ao16 t954.length co16] 24 (0, 0)) (by (with_reducible repeat (first | refine blk_drewN ?_ _ | refine blk_drew ?_ | refine blk_alloc ?_ _)); refine blk_far ?_ NB958_991.out _; (with_reducible repeat (first | refine blk_drewN ?_ _ | refine blk_drew ?_ | refine blk_alloc ?_ _)); refine blk_far ?_ NB958_991.out _; (with_reducible repeat (first | refine blk_drewN ?_ _ | refine blk_drew ?_ | refine blk_alloc ?_ _)); refine blk_far ?_ NB958_991.out _; (with_reducible repeat (first | refine blk_drewN ?_ _ | refine blk_drew ?_ | refine blk_alloc ?_ _)); refine blk_far ?_ NB958_991.out _; (with_reducible repeat (first | refine blk_drewN ?_ _ | refine blk_drew ?_ | refine blk_alloc ?_ _)); exact BK958.out) hb); have n5_ := Aside0.mk (blk_below (g := gb969) (o := .cells #[.int .i64 t962, .int .i64 t963, .int .i64 t964, .slice Ao23 t965.length co23] 24 (0, 0)) (by (with_reducible repeat (first | refine blk_drewN ?_ _ | refine blk_drew ?_ | refine blk_alloc ?_ _)); refine blk_far ?_ NB969_991.out _; (with_reducible repeat (first | refine blk_drewN ?_ _ | refine blk_drew ?_ | refine blk_alloc ?_ _)); refine blk_far ?_ NB969_991.out _; (with_reducible repeat (first | refine blk_drewN ?_ _ | refine blk_drew ?_ | refine blk_alloc ?_ _)); refine blk_far ?_ NB969_991.out _; (with_reducible repeat (first | refine blk_drewN ?_ _ | refine blk_drew ?_ | refine blk_alloc ?_ _)); refine blk_far ?_ NB969_991.out _; (with_reducible repeat (first | refine blk_drewN ?_ _ | refine blk_drew ?_ | refine blk_alloc ?_ _)); exact BK969.out) hb); have n6_ := Aside0.mk (blk_below (g := gb991) (o := .cells #[.int .i64 t984, .int .i64 t985, .int .i64 t986, .slice Ao79 t987.length co79] 24 (0, 0)) (by (with_reducible repeat (first | refine blk_drewN ?_ _ | refine blk_drew ?_ | refine blk_alloc ?_ _)); refine blk_put (cs := #[.int .i64 t984, .int .i64 t985, .int .i64 t986, .slice none 0 0]) ?_ 3 _ rfl; (with_reducible repeat (first | refine blk_drewN ?_ _ | refine blk_drew ?_ | refine blk_alloc ?_ _)); refine blk_put (cs := #[.int .i64 t984, .int .i64 t985, .int .i64 0, .slice none 0 0]) ?_ 2 _ rfl; (with_reducible repeat (first | refine blk_drewN ?_ _ | refine blk_drew ?_ | refine blk_alloc ?_ _)); refine blk_put (cs := #[.int .i64 t984, .int .i64 0, .int .i64 0, .slice none 0 0]) ?_ 1 _ rfl; (with_reducible repeat (first | refine blk_drewN ?_ _ | refine blk_drew ?_ | refine blk_alloc ?_ _)); refine blk_put (cs := #[.int .i64 0, .int .i64 0, .int .i64 0, .slice none 0 0]) ?_ 0 _ rfl; (with_reducible repeat (first | refine blk_drewN ?_ _ | refine blk_drew ?_ | refine blk_alloc ?_ _)); exact BK991.out) hb); have n7_ := Aside0.mk (below_step (by repeat (first | (with_reducible first | exact HB.out | apply below_alloc | apply pw_below_drewN | apply below_drew1 | refine below_set ?_ GE958.out | refine below_set ?_ GE969.out | refine below_set ?_ GE991.out) | exact HB.out)) hb); clear HO_959003; clear HO_970003; clear HO983; clear HO989; clear BK958; clear BK969; clear BK991; clear HB; have HO_959003 := n0_; have HO_970003 := n1_; have HO983 := n2_; have HO989 := n3_; have BK958 := n4_; have BK969 := n5_; have BK991 := n6_; have HB := n7_; clear n0_ n1_ n2_ n3_ n4_ n5_ n6_ n7_; (try clear hb); (try clear hb2); (try clear hk); (try clear hi)))
             go_meet
             case rel => exact ⟨_, ((t990 != t957)), (by first | rfl | (simp; done) | (simp [*]; done)), H', ⟨by have := HJ9.out; have := HJ38.out; first | omega | exact Nat.le_refl _⟩, ⟨by (with_reducible repeat (first | apply Kd.R_alloc | apply Kd.R_drewN | apply Kd.R_drew)); exact Kd.R_mono HO_959003.out (fun _ hk => ⟨hk.1.1, hk.2⟩)⟩, ⟨by (with_reducible repeat (first | apply Kd.R_alloc | apply Kd.R_drewN | apply Kd.R_drew)); exact Kd.R_mono HO_970003.out (fun _ hk => ⟨hk.1.1, hk.2⟩)⟩, ⟨by (with_reducible repeat (first | apply Kd.R_alloc | apply Kd.R_drewN | apply Kd.R_drew)); exact Kd.R_mono HO989.out (fun _ hk => by first | exact ⟨hk.1.1.2, hk.1.2⟩ | (revert hk; simp only [and_imp]; intros; and_intros <;> assumption))⟩, ⟨by (with_reducible repeat (first | refine blk_drewN ?_ _ | refine blk_drew ?_ | refine blk_alloc ?_ _)); exact BK958.out⟩, ⟨by (with_reducible repeat (first | refine blk_drewN ?_ _ | refine blk_drew ?_ | refine blk_alloc ?_ _)); exact BK969.out⟩, ⟨by (with_reducible repeat (first | refine blk_drewN ?_ _ | refine blk_drew ?_ | refine blk_alloc ?_ _)); exact BK991.out⟩, ⟨by repeat (first | (with_reducible first | exact HB.out | apply below_alloc | apply pw_below_drewN | apply below_drew1 | refine below_set ?_ GE958.out | refine below_set ?_ GE969.out | refine below_set ?_ GE991.out) | exact HB.out)⟩⟩
            ·
             replace c81 := Bool.eq_false_iff.mpr c81
             subst c81
             have H1 : (laws_FnExactUnfilterImage.j2 kj38 t978 true t962 t963 t964 t979) = some r := by rw [if_neg (show ¬ (false = true) by decide)] at H; exact H
             clear H
             have H := H1
             clear H1
             have H' := Aside0.mk H
             clear H
             have hnb88 := NB991_958.out
             have hnc88 := NB958_991.out
             have hnb89 := NB991_969.out
             have hnc89 := NB969_991.out
             have hcz90_0 : w75.cell? ⟨gb991, 0, none⟩ = some (.int .i64 0) := (blk_cell BK991.out 0).trans rfl
             have hcz90_1 : w75.cell? ⟨gb991, 1, none⟩ = some (.int .i64 0) := (blk_cell BK991.out 1).trans rfl
             have hcz90_2 : w75.cell? ⟨gb991, 2, none⟩ = some (.int .i64 0) := (blk_cell BK991.out 2).trans rfl
             have hcz90_3 : w75.cell? ⟨gb991, 3, none⟩ = some (.slice none 0 0) := (blk_cell BK991.out 3).trans rfl
             have hfz90_0 := blk_frozen BK991.out 0
             have hfz90_1 := blk_frozen BK991.out 1
             have hfz90_2 := blk_frozen BK991.out 2
             have hfz90_3 := blk_frozen BK991.out 3
             have hnb91 := NB958_969.out
             have hnc91 := NB969_958.out
             have hcz92_0 : w75.cell? ⟨gb958, 0, none⟩ = some (.int .i64 t951) := (blk_cell BK958.out 0).trans rfl
             have hcz92_1 : w75.cell? ⟨gb958, 1, none⟩ = some (.int .i64 t952) := (blk_cell BK958.out 1).trans rfl
             have hcz92_2 : w75.cell? ⟨gb958, 2, none⟩ = some (.int .i64 t953) := (blk_cell BK958.out 2).trans rfl
             have hcz92_3 : w75.cell? ⟨gb958, 3, none⟩ = some (.slice Ao16 t954.length co16) := (blk_cell BK958.out 3).trans rfl
             have hfz92_0 := blk_frozen BK958.out 0
             have hfz92_1 := blk_frozen BK958.out 1
             have hfz92_2 := blk_frozen BK958.out 2
             have hfz92_3 := blk_frozen BK958.out 3
             go_wp2_with (first | ((with_reducible refine gate_callee (f := 15) rfl ?_); refine goesL_ (some 93) rfl rfl Try.func15 (by kernel_rfl) rfl #[.agg #[.int .i64 t984, .int .i64 t985, .int .i64 t986, .slice Ao79 t987.length co79], .agg #[.int .i64 t951, .int .i64 t952, .int .i64 t953, .slice Ao16 t954.length co16]] rfl (by (try simp only [List.map_toArray, List.map_cons, List.map_nil]); first | done | rfl | (simp only [List.length_drop, List.length_take]; rfl)) ?_; (with_reducible refine (laws_eqImage.calls kj38 t984 t985 t986 _ _ t987 t951 t952 t953 _ _ t954 false _ ?side1 ?side2 ?side3 ?side4 A80.out).mono ?_); (case side1 => refine (Kd.R_reads' (e := 3) (base := w.heap.size) (ok := fun k_ => (((True ∧ some k_ ≠ (.slice Ao16 t954.length co16 : Value).ownBlock) ∧ some k_ ≠ (.slice Ao23 t965.length co23 : Value).ownBlock) ∧ some k_ ≠ (.slice Ao73 t981.length co73 : Value).ownBlock)) (n := t987.length) (c := co79) ?_).2.2; exact (by (with_reducible repeat (first | apply Kd.R_alloc | apply Kd.R_drewN | apply Kd.R_drew)); exact (Kd.R_mono (Kd.R_far (p := ⟨gb991, 3, none⟩) (Kd.R_far (p := ⟨gb991, 2, none⟩) (Kd.R_far (p := ⟨gb991, 1, none⟩) (Kd.R_far (p := ⟨gb991, 0, none⟩) (Kd.R_types HO989.out BK991.out (by decide)) (fun _ hk => hk.2) (.int .i64 t984)) (fun _ hk => hk.2) (.int .i64 t985)) (fun _ hk => hk.2) (.int .i64 t986)) (fun _ hk => hk.2) (.slice Ao79 t987.length co79)) (fun _ h_ => h_.1)))); (case side2 => exact (Kd.R_reads' HO989.out).2.1); (case side3 => refine (Kd.R_reads' (e := 3) (base := w.heap.size) (ok := fun k_ => ((some k_ ≠ (.slice Ao23 t965.length co23 : Value).ownBlock ∧ some k_ ≠ (.slice Ao73 t981.length co73 : Value).ownBlock) ∧ some k_ ≠ (.slice Ao79 t987.length co79 : Value).ownBlock)) (n := t954.length) (c := co16) ?_).2.2; exact (by (with_reducible repeat (first | apply Kd.R_alloc | apply Kd.R_drewN | apply Kd.R_drew)); exact (Kd.R_mono (Kd.R_far (p := ⟨gb991, 3, none⟩) (Kd.R_far (p := ⟨gb991, 2, none⟩) (Kd.R_far (p := ⟨gb991, 1, none⟩) (Kd.R_far (p := ⟨gb991, 0, none⟩) (Kd.R_types HO_959003.out BK991.out (by decide)) (fun _ hk => hk.2) (.int .i64 t984)) (fun _ hk => hk.2) (.int .i64 t985)) (fun _ hk => hk.2) (.int .i64 t986)) (fun _ hk => hk.2) (.slice Ao79 t987.length co79)) (fun _ h_ => h_.1)))); (case side4 => exact (Kd.R_reads' HO_959003.out).2.1); rintro e w93 ⟨rfl, hb⟩; refine ⟨_, rfl, ?_⟩; have n0_ := Aside0.mk (Kd.R_below (by (with_reducible repeat (first | apply Kd.R_alloc | apply Kd.R_drewN | apply Kd.R_drew)); exact (Kd.R_mono (Kd.R_far (p := ⟨gb991, 3, none⟩) (Kd.R_far (p := ⟨gb991, 2, none⟩) (Kd.R_far (p := ⟨gb991, 1, none⟩) (Kd.R_far (p := ⟨gb991, 0, none⟩) (Kd.R_types HO_959003.out BK991.out (by decide)) (fun _ hk => hk.2) (.int .i64 t984)) (fun _ hk => hk.2) (.int .i64 t985)) (fun _ hk => hk.2) (.int .i64 t986)) (fun _ hk => hk.2) (.slice Ao79 t987.length co79)) (fun _ h_ => h_.1))) hb); have n1_ := Aside0.mk (Kd.R_below (by (with_reducible repeat (first | apply Kd.R_alloc | apply Kd.R_drewN | apply Kd.R_drew)); exact (Kd.R_mono (Kd.R_far (p := ⟨gb991, 3, none⟩) (Kd.R_far (p := ⟨gb991, 2, none⟩) (Kd.R_far (p := ⟨gb991, 1, none⟩) (Kd.R_far (p := ⟨gb991, 0, none⟩) (Kd.R_types HO_970003.out BK991.out (by decide)) (fun _ hk => hk.2) (.int .i64 t984)) (fun _ hk => hk.2) (.int .i64 t985)) (fun _ hk => hk.2) (.int .i64 t986)) (fun _ hk => hk.2) (.slice Ao79 t987.length co79)) (fun _ h_ => h_.1))) hb); have n2_ := Aside0.mk (Kd.R_below (by (with_reducible repeat (first | apply Kd.R_alloc | apply Kd.R_drewN | apply Kd.R_drew)); exact (Kd.R_mono (Kd.R_far (p := ⟨gb991, 3, none⟩) (Kd.R_far (p := ⟨gb991, 2, none⟩) (Kd.R_far (p := ⟨gb991, 1, none⟩) (Kd.R_far (p := ⟨gb991, 0, none⟩) (Kd.R_types HO983.out BK991.out (by decide)) (fun _ hk => hk.2) (.int .i64 t984)) (fun _ hk => hk.2) (.int .i64 t985)) (fun _ hk => hk.2) (.int .i64 t986)) (fun _ hk => hk.2) (.slice Ao79 t987.length co79)) (fun _ h_ => h_.1))) hb); have n3_ := Aside0.mk (Kd.R_below (by (with_reducible repeat (first | apply Kd.R_alloc | apply Kd.R_drewN | apply Kd.R_drew)); exact (Kd.R_mono (Kd.R_far (p := ⟨gb991, 3, none⟩) (Kd.R_far (p := ⟨gb991, 2, none⟩) (Kd.R_far (p := ⟨gb991, 1, none⟩) (Kd.R_far (p := ⟨gb991, 0, none⟩) (Kd.R_types HO989.out BK991.out (by decide)) (fun _ hk => hk.2) (.int .i64 t984)) (fun _ hk => hk.2) (.int .i64 t985)) (fun _ hk => hk.2) (.int .i64 t986)) (fun _ hk => hk.2) (.slice Ao79 t987.length co79)) (fun _ h_ => h_.1))) hb); have n4_ := Aside0.mk (blk_below (g := gb958) (o := .cells #[.int .i64 t951, .int .i64 t952, .int .i64 t953, .slice Ao16 t954.length co16] 24 (0, 0)) (by (with_reducible repeat (first | refine blk_drewN ?_ _ | refine blk_drew ?_ | refine blk_alloc ?_ _)); refine blk_far ?_ NB958_991.out _; (with_reducible repeat (first | refine blk_drewN ?_ _ | refine blk_drew ?_ | refine blk_alloc ?_ _)); refine blk_far ?_ NB958_991.out _; (with_reducible repeat (first | refine blk_drewN ?_ _ | refine blk_drew ?_ | refine blk_alloc ?_ _)); refine blk_far ?_ NB958_991.out _; (with_reducible repeat (first | refine blk_drewN ?_ _ | refine blk_drew ?_ | refine blk_alloc ?_ _)); refine blk_far ?_ NB958_991.out _; (with_reducible repeat (first | refine blk_drewN ?_ _ | refine blk_drew ?_ | refine blk_alloc ?_ _)); exact BK958.out) hb); have n5_ := Aside0.mk (blk_below (g := gb969) (o := .cells #[.int .i64 t962, .int .i64 t963, .int .i64 t964, .slice Ao23 t965.length co23] 24 (0, 0)) (by (with_reducible repeat (first | refine blk_drewN ?_ _ | refine blk_drew ?_ | refine blk_alloc ?_ _)); refine blk_far ?_ NB969_991.out _; (with_reducible repeat (first | refine blk_drewN ?_ _ | refine blk_drew ?_ | refine blk_alloc ?_ _)); refine blk_far ?_ NB969_991.out _; (with_reducible repeat (first | refine blk_drewN ?_ _ | refine blk_drew ?_ | refine blk_alloc ?_ _)); refine blk_far ?_ NB969_991.out _; (with_reducible repeat (first | refine blk_drewN ?_ _ | refine blk_drew ?_ | refine blk_alloc ?_ _)); refine blk_far ?_ NB969_991.out _; (with_reducible repeat (first | refine blk_drewN ?_ _ | refine blk_drew ?_ | refine blk_alloc ?_ _)); exact BK969.out) hb); have n6_ := Aside0.mk (blk_below (g := gb991) (o := .cells #[.int .i64 t984, .int .i64 t985, .int .i64 t986, .slice Ao79 t987.length co79] 24 (0, 0)) (by (with_reducible repeat (first | refine blk_drewN ?_ _ | refine blk_drew ?_ | refine blk_alloc ?_ _)); refine blk_put (cs := #[.int .i64 t984, .int .i64 t985, .int .i64 t986, .slice none 0 0]) ?_ 3 _ rfl; (with_reducible repeat (first | refine blk_drewN ?_ _ | refine blk_drew ?_ | refine blk_alloc ?_ _)); refine blk_put (cs := #[.int .i64 t984, .int .i64 t985, .int .i64 0, .slice none 0 0]) ?_ 2 _ rfl; (with_reducible repeat (first | refine blk_drewN ?_ _ | refine blk_drew ?_ | refine blk_alloc ?_ _)); refine blk_put (cs := #[.int .i64 t984, .int .i64 0, .int .i64 0, .slice none 0 0]) ?_ 1 _ rfl; (with_reducible repeat (first | refine blk_drewN ?_ _ | refine blk_drew ?_ | refine blk_alloc ?_ _)); refine blk_put (cs := #[.int .i64 0, .int .i64 0, .int .i64 0, .slice none 0 0]) ?_ 0 _ rfl; (with_reducible repeat (first | refine blk_drewN ?_ _ | refine blk_drew ?_ | refine blk_alloc ?_ _)); exact BK991.out) hb); have n7_ := Aside0.mk (below_step (by repeat (first | (with_reducible first | exact HB.out | apply below_alloc | apply pw_below_drewN | apply below_drew1 | refine below_set ?_ GE958.out | refine below_set ?_ GE969.out | refine below_set ?_ GE991.out) | exact HB.out)) hb); clear HO_959003; clear HO_970003; clear HO983; clear HO989; clear BK958; clear BK969; clear BK991; clear HB; have HO_959003 := n0_; have HO_970003 := n1_; have HO983 := n2_; have HO989 := n3_; have BK958 := n4_; have BK969 := n5_; have BK991 := n6_; have HB := n7_; clear n0_ n1_ n2_ n3_ n4_ n5_ n6_ n7_; (try clear hb); (try clear hb2); (try clear hk); (try clear hi)))
             go_meet
             case rel => exact ⟨_, (true), (by first | rfl | (simp; done) | (simp [*]; done)), H', ⟨by have := HJ9.out; have := HJ38.out; first | omega | exact Nat.le_refl _⟩, ⟨by (with_reducible repeat (first | apply Kd.R_alloc | apply Kd.R_drewN | apply Kd.R_drew)); exact Kd.R_mono HO_959003.out (fun _ hk => ⟨hk.1.1, hk.2⟩)⟩, ⟨by (with_reducible repeat (first | apply Kd.R_alloc | apply Kd.R_drewN | apply Kd.R_drew)); exact Kd.R_mono HO_970003.out (fun _ hk => ⟨hk.1.1, hk.2⟩)⟩, ⟨by (with_reducible repeat (first | apply Kd.R_alloc | apply Kd.R_drewN | apply Kd.R_drew)); exact Kd.R_mono HO989.out (fun _ hk => by first | exact ⟨hk.1.1.2, hk.1.2⟩ | (revert hk; simp only [and_imp]; intros; and_intros <;> assumption))⟩, ⟨by (with_reducible repeat (first | refine blk_drewN ?_ _ | refine blk_drew ?_ | refine blk_alloc ?_ _)); exact BK958.out⟩, ⟨by (with_reducible repeat (first | refine blk_drewN ?_ _ | refine blk_drew ?_ | refine blk_alloc ?_ _)); exact BK969.out⟩, ⟨by (with_reducible repeat (first | refine blk_drewN ?_ _ | refine blk_drew ?_ | refine blk_alloc ?_ _)); exact BK991.out⟩, ⟨by repeat (first | (with_reducible first | exact HB.out | apply below_alloc | apply pw_below_drewN | apply below_drew1 | refine below_set ?_ GE958.out | refine below_set ?_ GE969.out | refine below_set ?_ GE991.out) | exact HB.out)⟩⟩
           case rest =>
            clear HC66
            try clear c1
            try clear c2
            try clear p2
            try clear c3
            try clear c4
            try clear c5
            try clear c5b0
            try clear c5b1
            try clear c6
            try clear c7
            try clear c8
            try clear c9
            try clear c13
            try clear c15
            try clear c16
            try clear c17
            try clear c18
            try clear c19
            try clear c21
            try clear c25
            try clear c26
            try clear c30
            try clear c31
            try clear c34
            try clear c37
            try clear c43
            try clear c43b0
            try clear c45
            try clear c46
            try clear c50
            try clear c54
            try clear c57
            try clear c57b0
            try clear c58
            try clear c63
            try clear c63b0
            try clear c63b1
            try clear c67
            try clear c76
            try clear c77
            try clear c81
            try clear c82
            try clear c83
            try clear c85
            try clear c88
            try clear c89
            try clear c91
            try clear hcz15_0
            try clear hcz15_1
            try clear hcz15_2
            try clear hcz15_3
            try clear hcz22_0
            try clear hcz22_1
            try clear hcz22_2
            try clear hcz22_3
            try clear hcz27_0
            try clear hcz27_1
            try clear hcz27_2
            try clear hcz27_3
            try clear hcz28_0
            try clear hcz28_1
            try clear hcz28_2
            try clear hcz28_3
            try clear hcz31_0
            try clear hcz31_1
            try clear hcz31_2
            try clear hcz31_3
            try clear hcz32_0
            try clear hcz32_1
            try clear hcz32_2
            try clear hcz32_3
            try clear hcz47_0
            try clear hcz47_1
            try clear hcz47_2
            try clear hcz47_3
            try clear hcz48_0
            try clear hcz48_1
            try clear hcz48_2
            try clear hcz48_3
            try clear hcz51_0
            try clear hcz51_1
            try clear hcz51_2
            try clear hcz51_3
            try clear hcz52_0
            try clear hcz52_1
            try clear hcz52_2
            try clear hcz52_3
            try clear hcz59_0
            try clear hcz59_1
            try clear hcz59_2
            try clear hcz59_3
            try clear hcz61_0
            try clear hcz61_1
            try clear hcz61_2
            try clear hcz61_3
            try clear hcz68_0
            try clear hcz68_1
            try clear hcz68_2
            try clear hcz68_3
            try clear hcz70_0
            try clear hcz70_1
            try clear hcz70_2
            try clear hcz70_3
            try clear hcz78_0
            try clear hcz78_1
            try clear hcz78_2
            try clear hcz78_3
            try clear hcz84_0
            try clear hcz84_1
            try clear hcz84_2
            try clear hcz84_3
            try clear hcz86_0
            try clear hcz86_1
            try clear hcz86_2
            try clear hcz86_3
            try clear hcz90_0
            try clear hcz90_1
            try clear hcz90_2
            try clear hcz90_3
            try clear hcz92_0
            try clear hcz92_1
            try clear hcz92_2
            try clear hcz92_3
            try clear hfz15_0
            try clear hfz15_1
            try clear hfz15_2
            try clear hfz15_3
            try clear hfz22_0
            try clear hfz22_1
            try clear hfz22_2
            try clear hfz22_3
            try clear hfz27_0
            try clear hfz27_1
            try clear hfz27_2
            try clear hfz27_3
            try clear hfz28_0
            try clear hfz28_1
            try clear hfz28_2
            try clear hfz28_3
            try clear hfz31_0
            try clear hfz31_1
            try clear hfz31_2
            try clear hfz31_3
            try clear hfz32_0
            try clear hfz32_1
            try clear hfz32_2
            try clear hfz32_3
            try clear hfz47_0
            try clear hfz47_1
            try clear hfz47_2
            try clear hfz47_3
            try clear hfz48_0
            try clear hfz48_1
            try clear hfz48_2
            try clear hfz48_3
            try clear hfz51_0
            try clear hfz51_1
            try clear hfz51_2
            try clear hfz51_3
            try clear hfz52_0
            try clear hfz52_1
            try clear hfz52_2
            try clear hfz52_3
            try clear hfz59_0
            try clear hfz59_1
            try clear hfz59_2
            try clear hfz59_3
            try clear hfz61_0
            try clear hfz61_1
            try clear hfz61_2
            try clear hfz61_3
            try clear hfz68_0
            try clear hfz68_1
            try clear hfz68_2
            try clear hfz68_3
            try clear hfz70_0
            try clear hfz70_1
            try clear hfz70_2
            try clear hfz70_3
            try clear hfz78_0
            try clear hfz78_1
            try clear hfz78_2
            try clear hfz78_3
            try clear hfz84_0
            try clear hfz84_1
            try clear hfz84_2
            try clear hfz84_3
            try clear hfz86_0
            try clear hfz86_1
            try clear hfz86_2
            try clear hfz86_3
            try clear hfz90_0
            try clear hfz90_1
            try clear hfz90_2
            try clear hfz90_3
            try clear hfz92_0
            try clear hfz92_1
            try clear hfz92_2
            try clear hfz92_3
            try clear p2
            obtain ⟨kq, x99_65, rfl, HA, HJ65, HO_959003, HO_970003, HO_992003, BK958, BK969, BK991, HB⟩ := hcut
            have hl970003_65 := (Kd.R_reads' HO_970003.out).1
            rw [hl970003_65] at HO_970003
            (try simp only [hl970003_65])
            (try simp only [hl970003_65] at BK958)
            (try simp only [hl970003_65] at BK969)
            (try simp only [hl970003_65] at BK991)
            (try simp only [hl970003_65] at HO_959003)
            (try simp only [hl970003_65] at HO_992003)
            cases kq with
            | zero => exact absurd HA.out (by simp [laws_FnExactUnfilterImage.j2])
            | succ kj65 =>
             have H := HA.out
             clear HA
             simp only [laws_FnExactUnfilterImage.j2] at H
             by_cases c94 : x99_65 = true
             ·
              subst c94
              have H1 : (some false) = some r := by rw [if_pos rfl] at H; exact H
              clear H
              have H := H1
              clear H1
              obtain rfl := Option.some.inj H
              exact absurd hrt (by decide)
             ·
              replace c94 := Bool.eq_false_iff.mpr c94
              subst c94
              have H1 : ((laws_heldImage.f kj65 t962 t963 t964 t979 1).bind fun t993 => (if t993 < 0 then (some false) else (if t993 = t978 then (some true) else (some false)))) = some r := by rw [if_neg (show ¬ (false = true) by decide)] at H; exact H
              clear H
              have H := H1
              clear H1
              replace H := Option.bind_eq_some_iff.mp H
              obtain ⟨t993, A950, H⟩ := H
              replace H : (if t993 < 0 then (some false) else (if t993 = t978 then (some true) else (some false))) = some r := H
              have A95 := Aside0.mk A950
              clear A950
              by_cases c96 : t993 < 0
              ·
               rw [if_pos c96] at H
               have c96b0 : decide (t993 < 0) = true := decide_eq_true c96
               clear c96
               obtain rfl := Option.some.inj H
               exact absurd hrt (by decide)
              ·
               rw [if_neg c96] at H
               have c96b0 : decide (t993 < 0) = false := decide_eq_false c96
               clear c96
               by_cases c101 : t993 = t978
               ·
                rw [if_pos c101] at H
                have c101b0 : (t993 == t978) = true := beq_iff_eq.mpr c101
                have c101b1 : (t993 != t978) = false := bne_eq_false_iff_eq.mpr c101
                clear c101
                obtain rfl := Option.some.inj H
                have hnb102 := NB969_958.out
                have hnc102 := NB958_969.out
                have hnb103 := NB969_991.out
                have hnc103 := NB991_969.out
                have hcz104_0 : wc.cell? ⟨gb969, 0, none⟩ = some (.int .i64 t962) := (blk_cell BK969.out 0).trans rfl
                have hcz104_1 : wc.cell? ⟨gb969, 1, none⟩ = some (.int .i64 t963) := (blk_cell BK969.out 1).trans rfl
                have hcz104_2 : wc.cell? ⟨gb969, 2, none⟩ = some (.int .i64 t964) := (blk_cell BK969.out 2).trans rfl
                have hcz104_3 : wc.cell? ⟨gb969, 3, none⟩ = some (.slice Ao23 t979.length co23) := (blk_cell BK969.out 3).trans rfl
                have hfz104_0 := blk_frozen BK969.out 0
                have hfz104_1 := blk_frozen BK969.out 1
                have hfz104_2 := blk_frozen BK969.out 2
                have hfz104_3 := blk_frozen BK969.out 3
                go_wp2_with (first | ((with_reducible refine gate_callee (f := 19) rfl ?_); refine goesL_ (some 102) rfl rfl Try.func19 (by kernel_rfl) rfl #[.agg #[.int .i64 t962, .int .i64 t963, .int .i64 t964, .slice Ao23 t979.length co23], .int .i64 1] rfl (by (try simp only [List.map_toArray, List.map_cons, List.map_nil]); first | done | rfl | (simp only [List.length_drop, List.length_take]; rfl)) ?_; (with_reducible refine (laws_heldImage.calls kj65 t962 t963 t964 _ _ t979 1 t993 _ ?side1 ?side2 A95.out).mono ?_); (case side1 => repeat (first | exact (Kd.R_reads' HO_970003.out).2.2 | (with_reducible refine Kd.C_alloc ?_ _) | (with_reducible refine Kd.C_drewN ?_ _) | (with_reducible refine Kd.C_drew ?_))); (case side2 => exact (Kd.R_reads' HO_970003.out).2.1); rintro e w105 ⟨rfl, hb⟩; refine ⟨_, rfl, ?_⟩; have n0_ := Aside0.mk (Kd.R_below (by (with_reducible repeat (first | apply Kd.R_alloc | apply Kd.R_drewN | apply Kd.R_drew)); exact HO_959003.out) hb); have n1_ := Aside0.mk (Kd.R_below (by (with_reducible repeat (first | apply Kd.R_alloc | apply Kd.R_drewN | apply Kd.R_drew)); exact HO_970003.out) hb); have n2_ := Aside0.mk (Kd.R_below (by (with_reducible repeat (first | apply Kd.R_alloc | apply Kd.R_drewN | apply Kd.R_drew)); exact HO_992003.out) hb); have n3_ := Aside0.mk (blk_below (g := gb958) (o := .cells #[.int .i64 t951, .int .i64 t952, .int .i64 t953, .slice Ao16 t954.length co16] 24 (0, 0)) (by (with_reducible repeat (first | refine blk_drewN ?_ _ | refine blk_drew ?_ | refine blk_alloc ?_ _)); exact BK958.out) hb); have n4_ := Aside0.mk (blk_below (g := gb969) (o := .cells #[.int .i64 t962, .int .i64 t963, .int .i64 t964, .slice Ao23 t979.length co23] 24 (0, 0)) (by (with_reducible repeat (first | refine blk_drewN ?_ _ | refine blk_drew ?_ | refine blk_alloc ?_ _)); exact BK969.out) hb); have n5_ := Aside0.mk (blk_below (g := gb991) (o := .cells #[.int .i64 t984, .int .i64 t985, .int .i64 t986, .slice Ao79 t987.length co79] 24 (0, 0)) (by (with_reducible repeat (first | refine blk_drewN ?_ _ | refine blk_drew ?_ | refine blk_alloc ?_ _)); exact BK991.out) hb); have n6_ := Aside0.mk (below_step (by repeat (first | (with_reducible first | exact HB.out | apply below_alloc | apply pw_below_drewN | apply below_drew1 | refine below_set ?_ GE958.out | refine below_set ?_ GE969.out | refine below_set ?_ GE991.out) | exact HB.out)) hb); clear HO_959003; clear HO_970003; clear HO_992003; clear BK958; clear BK969; clear BK991; clear HB; have HO_959003 := n0_; have HO_970003 := n1_; have HO_992003 := n2_; have BK958 := n3_; have BK969 := n4_; have BK991 := n5_; have HB := n6_; clear n0_ n1_ n2_ n3_ n4_ n5_ n6_; (try clear hb); (try clear hb2); (try clear hk); (try clear hi)))
                go_ret
                exact ⟨by first | rfl | (simp [errW_none, errW_some] <;> rfl) | (simp [*, errW_none, errW_some] <;> rfl), by repeat (first | (with_reducible first | exact HB.out | apply below_alloc | apply pw_below_drewN | apply below_drew1 | refine below_set ?_ GE958.out | refine below_set ?_ GE969.out | refine below_set ?_ GE991.out) | exact HB.out)⟩
               ·
                rw [if_neg c101] at H
                have c101b0 : (t993 == t978) = false := beq_eq_false_iff_ne.mpr c101
                have c101b1 : (t993 != t978) = true := bne_iff_ne.mpr c101
                obtain rfl := Option.some.inj H
                exact absurd hrt (by decide)
          ·
           rw [if_neg c63] at H
           have c63b0 : (t980 == t978) = false := beq_eq_false_iff_ne.mpr c63
           have c63b1 : (t980 != t978) = true := bne_iff_ne.mpr c63
           obtain rfl := Option.some.inj H
           exact absurd hrt (by decide)
     ·
      replace c37 := Bool.eq_false_iff.mpr c37
      subst c37
      have H1 : (some false) = some r := by rw [if_neg (show ¬ (false = true) by decide)] at H; exact H
      clear H
      have H := H1
      clear H1
      obtain rfl := Option.some.inj H
      exact absurd hrt (by decide)/-- THE ONE PURE STATEMENT of laws_FnExactUnfilterImage: yours. -/
def laws_FnExactUnfilterImage.Pure : Prop := ∀ (a0 : Int) (a1 : Int) (a2 : Int) (l3 : List Int), (Lit.int .i64 a0).wf = true → (Lit.int .i64 a1).wf = true → (Lit.int .i64 a2).wf = true → l3.length ≤ maxLen → l3.length * 8 ≤ 140737488351232 → (∀ x ∈ l3, (Lit.int .i64 x).wf = true) → ∃ k, laws_FnExactUnfilterImage.f k a0 a1 a2 l3 = some true
theorem laws_FnExactUnfilterImage.walk (P : laws_FnExactUnfilterImage.Pure) (a0 : Int) (a1 : Int) (a2 : Int) (a3 : Option Addr) (len3 cap3 : Nat) (z3 : List Int) (w : World) (w0 : (Lit.int .i64 a0).wf = true) (w1 : (Lit.int .i64 a1).wf = true) (w2 : (Lit.int .i64 a2).wf = true) (w3 : (a3 = none ∧ len3 = 0 ∧ cap3 = 0 ∧ z3 = []) ∨ ∃ x, a3 = some x ∧ len3 ≤ cap3 ∧ cap3 ≤ maxLen ∧ z3.length = cap3 ∧ (∀ i, i < z3.length → w.cell? (x.add i) = some (.int .i64 (z3.getD i 0))) ∧ ∀ n ∈ z3, (Lit.int .i64 n).wf = true) (y3 : len3 * 8 ≤ 140737488351232) :
  Calls Try.prog 8 #[.int .i64 a0, .int .i64 a1, .int .i64 a2, .slice a3 len3 cap3] w fun e w' => e = .returned (.bool true) ∧ Below w.heap.size w w' := by
 obtain ⟨l3, rfl, hr3, hm3, hw3, hc3⟩ := ReadsInt.ofRowC w3
 obtain ⟨k, h⟩ := P a0 a1 a2 l3 w0 w1 w2 hm3 y3 hw3
 refine (laws_FnExactUnfilterImage.calls k a0 a1 a2 _ _ l3 true w (Kd.C_of_reads (d := (0 : Int)) (h1 := fun _ => rfl) hr3) hc3 h rfl).mono ?_
 rintro e w' ⟨rfl, hd⟩
 exact ⟨rfl, hd⟩

end Go.Proofs.Ytchahbdmdcllaaa.P
