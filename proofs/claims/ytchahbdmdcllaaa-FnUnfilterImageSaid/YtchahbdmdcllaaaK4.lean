/- Contracts and row, written by a program of this place out of the translation: the call answers true and its argument reads as before, for every input; no condition. -/
import Derived.Test.YtchahbdmdcllaaaK0
import Derived.Test.YtchahbdmdcllaaaK1
import Derived.Test.YtchahbdmdcllaaaK2
import Derived.Test.YtchahbdmdcllaaaK3
namespace Go.Proofs.Ytchahbdmdcllaaa.P
open Go.RowKit Go.Proofs.YtchahbdmdcllaaaW.PrintWords Go.Proofs.YtchahbdmdcllaaaW.PrintLast Go.Proofs.YtchahbdmdcllaaaW.PrintMore
attribute [local go_sem] max2_int min2_int max_two min_two max_three min_three max_four min_four   -- for this text's walks alone
set_option linter.unusedVariables false
set_option linter.unusedSimpArgs false

/-! ### spec_DrawUnfilterImage: function 32 -/
def spec_DrawUnfilterImage.j0 : Nat → List Int → Bool → List Int → Int → Int → Int → Int → List Int → Option (Int × Int × Int × List Int)
 | 0, _, _, _, _, _, _, _, _ => none
 | k + 1, x8, x22, x997000, x997001, x1005000, x1005001, x1005002, x1005003 => if x22 = true then ((spec_reader_one.f k x997000 x997001 (([0, 1, 2, 3, 4, 5] : List Int))).bind fun bt1013 => (if 0 < (x8.length : Int) then ((spec_reader_spoil.f k x997000 bt1013.2 (x8.set (0 : Int).toNat bt1013.1) 256).bind fun bt1016 => (some (x1005000, x1005001, x1005002, bt1016.1))) else (none))) else ((spec_reader_spoil.f k x997000 x997001 x8 256).bind fun bt1020 => (some (x1005000, x1005001, x1005002, bt1020.1)))
def spec_DrawUnfilterImage.f (k : Nat) (l0 : List Int) : Option (Int × Int × Int × List Int) := (spec_newReader.f l0).bind fun bt994 => ((spec_anyImage.f k bt994.1 bt994.2).bind fun bt997 => ((spec_FilterImage.f k bt997.1 bt997.2.1 bt997.2.2.1 bt997.2.2.2.1).bind fun t1005 => (if (t1005.length : Int) > 0 then ((spec_reader_pick.f k bt994.1 bt997.2.2.2.2 4).bind fun bt1008 => (spec_DrawUnfilterImage.j0 k t1005 (bt1008.1 == 0) bt994.1 bt1008.2 bt997.1 bt997.2.1 bt997.2.2.1 bt997.2.2.2.1)) else (spec_DrawUnfilterImage.j0 k t1005 false bt994.1 bt997.2.2.2.2 bt997.1 bt997.2.1 bt997.2.2.1 bt997.2.2.2.1))))
theorem spec_DrawUnfilterImage.mono_l : ∀ k, (∀ y0 y1 y2 y3 y4 y5 y6 y7, LeO (spec_DrawUnfilterImage.j0 k y0 y1 y2 y3 y4 y5 y6 y7) (spec_DrawUnfilterImage.j0 (k + 1) y0 y1 y2 y3 y4 y5 y6 y7))
 | 0 => fun _ _ _ _ _ _ _ _ r h => by simp [spec_DrawUnfilterImage.j0] at h
 | k + 1 => by
  have ih0 := spec_DrawUnfilterImage.mono_l k
  ·
   intro y0 y1 y2 y3 y4 y5 y6 y7
   unfold spec_DrawUnfilterImage.j0
   repeat' first
   | (with_reducible exact ih0 _ _ _ _ _ _ _ _)
   | (with_reducible exact spec_FilterImage.mono _ _ _ _ _)
   | (with_reducible exact spec_anyImage.mono _ _ _)
   | (with_reducible exact spec_reader_one.mono _ _ _ _)
   | (with_reducible exact spec_reader_pick.mono _ _ _ _)
   | (with_reducible exact spec_reader_spoil.mono _ _ _ _ _)
   | (with_reducible exact LeO.refl _)
   | (with_reducible exact LeO.none _)
   | (with_reducible refine LeO.ite ?_ ?_)
   | (with_reducible refine LeO.bind ?_ (fun _ => ?_))
   | exact ih0 _ _ _ _ _ _ _ _
   | exact spec_FilterImage.mono _ _ _ _ _
   | exact spec_anyImage.mono _ _ _
   | exact spec_reader_one.mono _ _ _ _
   | exact spec_reader_pick.mono _ _ _ _
   | exact spec_reader_spoil.mono _ _ _ _ _
   | exact LeO.none _
   | refine LeO.ite ?_ ?_
   | refine LeO.bind ?_ (fun _ => ?_)
theorem spec_DrawUnfilterImage.mono : ∀ a0 k, LeO (spec_DrawUnfilterImage.f k a0) (spec_DrawUnfilterImage.f (k + 1) a0) := by
 intro a0 k
 have ih0 := spec_DrawUnfilterImage.mono_l k
 unfold spec_DrawUnfilterImage.f
 repeat' first
   | (with_reducible exact ih0 _ _ _ _ _ _ _ _)
   | (with_reducible exact spec_FilterImage.mono _ _ _ _ _)
   | (with_reducible exact spec_anyImage.mono _ _ _)
   | (with_reducible exact spec_reader_one.mono _ _ _ _)
   | (with_reducible exact spec_reader_pick.mono _ _ _ _)
   | (with_reducible exact spec_reader_spoil.mono _ _ _ _ _)
   | (with_reducible exact LeO.refl _)
   | (with_reducible exact LeO.none _)
   | (with_reducible refine LeO.ite ?_ ?_)
   | (with_reducible refine LeO.bind ?_ (fun _ => ?_))
   | exact ih0 _ _ _ _ _ _ _ _
   | exact spec_FilterImage.mono _ _ _ _ _
   | exact spec_anyImage.mono _ _ _
   | exact spec_reader_one.mono _ _ _ _
   | exact spec_reader_pick.mono _ _ _ _
   | exact spec_reader_spoil.mono _ _ _ _ _
   | exact LeO.none _
   | refine LeO.ite ?_ ?_
   | refine LeO.bind ?_ (fun _ => ?_)
def spec_DrawUnfilterImage.T6 : Bool × List (List Nat × List Nat) := (true, [([], []), ([0], [0]), ([], []), ([2], [2]), ([], []), ([4], [4]), ([], []), ([], []), ([6, 7], [6, 7]), ([1, 8, 0, 1], [1]), ([3, 9, 0, 1, 2, 3, 9], [3]), ([5, 10, 0, 1, 2, 3, 4, 5, 9, 10], [5]), ([8, 11, 0, 1, 2, 3, 4, 5, 6, 7, 8, 9, 10, 11], [8])])
def spec_DrawUnfilterImage.B6 : List Nat := [0, 1, 0, 4, 0, 16, 0, 0, 192, 451, 975, 2047, 4095]
theorem spec_DrawUnfilterImage.tab6 : rtab .any (opsOf Try.f32 6) = spec_DrawUnfilterImage.T6 := by kernel_rfl
theorem spec_DrawUnfilterImage.bits6 : waitsOk spec_DrawUnfilterImage.T6.2 spec_DrawUnfilterImage.B6 = true := by kernel_rfl
set_option maxHeartbeats 8000000 in
set_option maxRecDepth 100000 in
theorem spec_DrawUnfilterImage.calls (k : Nat) (A0 : Option Addr) (c0 : Nat) (l0 : List Int) (r1 : Int) (r2 : Int) (r3 : Int) (r4 : List Int) (w : World) (hr0 : Kd.C (Kd.int .u8) w A0 l0.length l0) (hc0 : l0.length ≤ c0) (h : spec_DrawUnfilterImage.f k l0 = some (r1, r2, r3, r4)) :
  Calls Try.prog 32 #[.slice A0 l0.length c0] w fun e w' => ∃ v3_ : Value, e = .returned (.tuple #[.int .i64 r1, .int .i64 r2, .int .i64 r3, v3_]) ∧ Kd.Q (Kd.int .i64) 3 w' w.heap.size (fun _ => True) v3_ r4 ∧ Below w.heap.size w w' := by
 have hu24 := Try.underlying24
 have HR0 := Aside0.mk hr0
 have HC0 := Aside0.mk hc0
 clear hr0 hc0
 have HB := Aside0.mk (Below.refl w.heap.size w)
 have H : ((spec_newReader.f l0).bind fun bt994 => ((spec_anyImage.f k bt994.1 bt994.2).bind fun bt997 => ((spec_FilterImage.f k bt997.1 bt997.2.1 bt997.2.2.1 bt997.2.2.2.1).bind fun t1005 => (if (t1005.length : Int) > 0 then ((spec_reader_pick.f k bt994.1 bt997.2.2.2.2 4).bind fun bt1008 => (spec_DrawUnfilterImage.j0 k t1005 (bt1008.1 == 0) bt994.1 bt1008.2 bt997.1 bt997.2.1 bt997.2.2.1 bt997.2.2.2.1)) else (spec_DrawUnfilterImage.j0 k t1005 false bt994.1 bt997.2.2.2.2 bt997.1 bt997.2.1 bt997.2.2.1 bt997.2.2.2.1))))) = some (r1, r2, r3, r4) := h
 clear h
 replace H := Option.bind_eq_some_iff.mp H
 obtain ⟨⟨t994, t995⟩, A20, H⟩ := H
 replace H : ((spec_anyImage.f k t994 t995).bind fun bt997 => ((spec_FilterImage.f k bt997.1 bt997.2.1 bt997.2.2.1 bt997.2.2.2.1).bind fun t1005 => (if (t1005.length : Int) > 0 then ((spec_reader_pick.f k t994 bt997.2.2.2.2 4).bind fun bt1008 => (spec_DrawUnfilterImage.j0 k t1005 (bt1008.1 == 0) t994 bt1008.2 bt997.1 bt997.2.1 bt997.2.2.1 bt997.2.2.2.1)) else (spec_DrawUnfilterImage.j0 k t1005 false t994 bt997.2.2.2.2 bt997.1 bt997.2.1 bt997.2.2.1 bt997.2.2.2.1)))) = some (r1, r2, r3, r4) := H
 have A2 := Aside0.mk A20
 clear A20
 replace H := Option.bind_eq_some_iff.mp H
 obtain ⟨⟨t997, t998, t999, t1000, t1003⟩, A30, H⟩ := H
 replace H : ((spec_FilterImage.f k t997 t998 t999 t1000).bind fun t1005 => (if (t1005.length : Int) > 0 then ((spec_reader_pick.f k t994 t1003 4).bind fun bt1008 => (spec_DrawUnfilterImage.j0 k t1005 (bt1008.1 == 0) t994 bt1008.2 t997 t998 t999 t1000)) else (spec_DrawUnfilterImage.j0 k t1005 false t994 t1003 t997 t998 t999 t1000))) = some (r1, r2, r3, r4) := H
 have A3 := Aside0.mk A30
 clear A30
 replace H := Option.bind_eq_some_iff.mp H
 obtain ⟨t1005, A40, H⟩ := H
 replace H : (if (t1005.length : Int) > 0 then ((spec_reader_pick.f k t994 t1003 4).bind fun bt1008 => (spec_DrawUnfilterImage.j0 k t1005 (bt1008.1 == 0) t994 bt1008.2 t997 t998 t999 t1000)) else (spec_DrawUnfilterImage.j0 k t1005 false t994 t1003 t997 t998 t999 t1000)) = some (r1, r2, r3, r4) := H
 have A4 := Aside0.mk A40
 clear A40
 have HC5 := Aside0.mk H
 clear H
 go_enter Try.func32, Try.ntmps32
 go_upto_region 4 with (first | ((with_reducible refine gate_callee (f := 48) rfl ?_); refine goesL_ (some 10) rfl rfl Try.func48 (by kernel_rfl) rfl #[.slice A0 l0.length c0] rfl (by (try simp only [List.map_toArray, List.map_cons, List.map_nil]); first | done | rfl | (simp only [List.length_drop, List.length_take]; rfl)) ?_; (with_reducible refine (spec_newReader.calls _ _ l0 t994 t995 w _ ?side1 ?side2 ?side3 A2.out).mono ?_); (case side1 => repeat (first | (with_reducible first | exact HB.out | apply below_alloc | apply pw_below_drewN | apply below_drew1) | exact HB.out)); (case side2 => exact HR0.out); (case side3 => exact HC0.out); rintro e w6 ⟨g996, rfl, hi, hb, hb2⟩; refine ⟨_, rfl, ?_⟩; have n0_ := Aside0.mk (hb); have n1_ := Aside0.mk (hi); clear HB; have HB := n0_; have HI996 := n1_; clear n0_ n1_; (try clear hb); (try clear hb2); (try clear hk); (try clear hi)) | ((with_reducible refine gate_callee (f := 49) rfl ?_); refine goesL_ (some 12) rfl rfl Try.func49 (by kernel_rfl) rfl #[.pointer (some ⟨g996, 0, none⟩)] rfl (by (try simp only [List.map_toArray, List.map_cons, List.map_nil]); first | done | rfl | (simp only [List.length_drop, List.length_take]; rfl)) ?_; (with_reducible refine (spec_anyImage.calls k g996 t994 t995 t997 t998 t999 t1000 t1003 w _ ?side1 ?side2 A3.out).mono ?_); (case side1 => repeat (first | (with_reducible first | exact HI996.out | apply IsS67.alloc | apply IsS67.drewN | apply IsS67.drew | apply IsS67.set_1) | exact HI996.out)); (case side2 => repeat (first | (with_reducible first | exact HB.out | apply below_alloc | apply pw_below_drewN | apply below_drew1 | refine below_set ?_ (IsS67.ge HI996.out)) | exact HB.out)); rintro e w7 ⟨v1001, rfl, ho0, hi, hb, hk⟩; refine ⟨_, rfl, ?_⟩; have n0_ := Aside0.mk (Kd.Q_lower ho0 (below_size (by repeat (first | (with_reducible first | exact HB.out | apply below_alloc | apply pw_below_drewN | apply below_drew1 | refine below_set ?_ (IsS67.ge HI996.out)) | exact HB.out)))); have n1_ := Aside0.mk (hb); have n2_ := Aside0.mk (hi); clear HB; clear HI996; have HO1002 := n0_; have HB := n1_; have HI996 := n2_; clear n0_ n1_ n2_; (try clear hb); (try clear hb2); (try clear hk); (try clear hi); (try clear ho0)) | ((with_reducible refine gate_dst (N := 7) rfl ?_); refine box_event ?hg (N := 7) ?hd (cs := #[.int .i64 0, .int .i64 0, .int .i64 0, .slice none 0 0]) (t := 24) ?hr ?_; (case hd => rfl); (case hg => rfl); (case hr => first | (go_simp; done) | (go_simp; rfl)); intro gb1004 hg w8 hbox hb; have n0_ := Aside0.mk (Kd.Q_below (qQ HO1002.out) hb); have n1_ := Aside0.mk (IsS67.below (by repeat (first | (with_reducible first | exact HI996.out | apply IsS67.alloc | apply IsS67.drewN | apply IsS67.drew | apply IsS67.set_1) | exact HI996.out)) hb); have n2_ := Aside0.mk (below_step (by repeat (first | (with_reducible first | exact HB.out | apply below_alloc | apply pw_below_drewN | apply below_drew1 | refine below_set ?_ (IsS67.ge HI996.out)) | exact HB.out)) hb); have n3_ := Aside0.mk (hbox); have n4_ := Aside0.mk ((by rw [hg]; exact (below_size (by repeat (first | (with_reducible first | exact HB.out | apply below_alloc | apply pw_below_drewN | apply below_drew1 | refine below_set ?_ (IsS67.ge HI996.out)) | exact HB.out))) : w.heap.size ≤ gb1004)); have n5_ := Aside0.mk ((by rw [hg]; exact (below_size (by repeat (first | (with_reducible first | exact HB.out | apply below_alloc | apply pw_below_drewN | apply below_drew1 | refine below_set ?_ (IsS67.ge HI996.out)) | exact HB.out))) : w.heap.size ≤ gb1004)); have n6_ := Aside0.mk ((by rw [hg]; exact Nat.ne_of_lt (IsS67.lt (show IsS67 w _ g996 t994 t1003 from by repeat (first | (with_reducible first | exact HI996.out | apply IsS67.alloc | apply IsS67.drewN | apply IsS67.drew | apply IsS67.set_1) | exact HI996.out))) : g996 ≠ gb1004)); have n7_ := Aside0.mk ((by rw [hg]; exact Nat.ne_of_gt (IsS67.lt (show IsS67 w _ g996 t994 t1003 from by repeat (first | (with_reducible first | exact HI996.out | apply IsS67.alloc | apply IsS67.drewN | apply IsS67.drew | apply IsS67.set_1) | exact HI996.out))) : gb1004 ≠ g996)); clear HO1002; clear HI996; clear HB; have HO1002 := n0_; have HI996 := n1_; have HB := n2_; have BK1004 := n3_; have GW1004 := n4_; have GE1004 := n5_; have NB996_1004 := n6_; have NB1004_996 := n7_; clear n0_ n1_ n2_ n3_ n4_ n5_ n6_ n7_; clear hb hbox hg; have hnb9 := NB1004_996.out; have hnc9 := NB996_1004.out; have hcz10_0 : w8.cell? ⟨gb1004, 0, none⟩ = some (.int .i64 0) := (blk_cell BK1004.out 0).trans rfl; have hcz10_1 : w8.cell? ⟨gb1004, 1, none⟩ = some (.int .i64 0) := (blk_cell BK1004.out 1).trans rfl; have hcz10_2 : w8.cell? ⟨gb1004, 2, none⟩ = some (.int .i64 0) := (blk_cell BK1004.out 2).trans rfl; have hcz10_3 : w8.cell? ⟨gb1004, 3, none⟩ = some (.slice none 0 0) := (blk_cell BK1004.out 3).trans rfl; have hfz10_0 := blk_frozen BK1004.out 0; have hfz10_1 := blk_frozen BK1004.out 1; have hfz10_2 := blk_frozen BK1004.out 2; have hfz10_3 := blk_frozen BK1004.out 3; obtain ⟨Ao11, co11, eo11, _⟩ := Kd.Q_slice HO1002.out; subst eo11) | ((with_reducible refine gate_callee (f := 25) rfl ?_); refine goesL_ (some 14) rfl rfl Try.func25 (by kernel_rfl) rfl #[.agg #[.int .i64 t997, .int .i64 t998, .int .i64 t999, .slice Ao11 t1000.length co11]] rfl (by (try simp only [List.map_toArray, List.map_cons, List.map_nil]); first | done | rfl | (simp only [List.length_drop, List.length_take]; rfl)) ?_; (with_reducible refine (spec_FilterImage.calls k t997 t998 t999 _ _ t1000 t1005 _ ?side1 ?side2 A4.out).mono ?_); (case side1 => refine (Kd.Q_reads' (e := 3) (base := w.heap.size) (ok := fun k_ => True) (n := t1000.length) (c := co11) ?_).2.2; exact (by (with_reducible repeat (first | apply Kd.Q_alloc | apply Kd.Q_drewN | apply Kd.Q_drew)); exact (Kd.Q_mono (Kd.Q_far (p := ⟨gb1004, 3, none⟩) (Kd.Q_far (p := ⟨gb1004, 2, none⟩) (Kd.Q_far (p := ⟨gb1004, 1, none⟩) (Kd.Q_far (p := ⟨gb1004, 0, none⟩) (Kd.Q_types HO1002.out BK1004.out (by decide)) (fun _ hk => hk.2) (.int .i64 t997)) (fun _ hk => hk.2) (.int .i64 t998)) (fun _ hk => hk.2) (.int .i64 t999)) (fun _ hk => hk.2) (.slice Ao11 t1000.length co11)) (fun _ h_ => h_.1)))); (case side2 => exact (Kd.Q_reads' HO1002.out).2.1); rintro e w12 ⟨v1006, rfl, ho0, hb⟩; refine ⟨_, rfl, ?_⟩; have n0_ := Aside0.mk (Kd.Q_elder' (by (with_reducible repeat (first | apply Kd.Q_alloc | apply Kd.Q_drewN | apply Kd.Q_drew)); exact (Kd.Q_mono (Kd.Q_far (p := ⟨gb1004, 3, none⟩) (Kd.Q_far (p := ⟨gb1004, 2, none⟩) (Kd.Q_far (p := ⟨gb1004, 1, none⟩) (Kd.Q_far (p := ⟨gb1004, 0, none⟩) (Kd.Q_types HO1002.out BK1004.out (by decide)) (fun _ hk => hk.2) (.int .i64 t997)) (fun _ hk => hk.2) (.int .i64 t998)) (fun _ hk => hk.2) (.int .i64 t999)) (fun _ hk => hk.2) (.slice Ao11 t1000.length co11)) (fun _ h_ => h_.1))) (Kd.R_base ho0) hb); have n1_ := Aside0.mk (Kd.R_lower (Kd.R_new' ho0 (Kd.Q_lt (by (with_reducible repeat (first | apply Kd.Q_alloc | apply Kd.Q_drewN | apply Kd.Q_drew)); exact (Kd.Q_mono (Kd.Q_far (p := ⟨gb1004, 3, none⟩) (Kd.Q_far (p := ⟨gb1004, 2, none⟩) (Kd.Q_far (p := ⟨gb1004, 1, none⟩) (Kd.Q_far (p := ⟨gb1004, 0, none⟩) (Kd.Q_types HO1002.out BK1004.out (by decide)) (fun _ hk => hk.2) (.int .i64 t997)) (fun _ hk => hk.2) (.int .i64 t998)) (fun _ hk => hk.2) (.int .i64 t999)) (fun _ hk => hk.2) (.slice Ao11 t1000.length co11)) (fun _ h_ => h_.1))))) (below_size (by repeat (first | (with_reducible first | exact HB.out | apply below_alloc | apply pw_below_drewN | apply below_drew1 | refine below_set ?_ (IsS67.ge HI996.out) | refine below_set ?_ GE1004.out) | exact HB.out)))); have n2_ := Aside0.mk (IsS67.below (show IsS67 w ((((w8.setCell ⟨gb1004, 0, none⟩ (.int .i64 t997)).setCell ⟨gb1004, 1, none⟩ (.int .i64 t998)).setCell ⟨gb1004, 2, none⟩ (.int .i64 t999)).setCell ⟨gb1004, 3, none⟩ (.slice Ao11 t1000.length co11)) g996 t994 t1003 from by repeat (first | (with_reducible first | exact HI996.out | apply IsS67.alloc | apply IsS67.drewN | apply IsS67.drew | apply IsS67.set_1 | refine IsS67.far ?_ NB996_1004.out _) | exact HI996.out)) hb); have n3_ := Aside0.mk (blk_below (g := gb1004) (o := .cells #[.int .i64 t997, .int .i64 t998, .int .i64 t999, .slice Ao11 t1000.length co11] 24 (0, 0)) (by (with_reducible repeat (first | refine blk_drewN ?_ _ | refine blk_drew ?_ | refine blk_alloc ?_ _)); refine blk_put (cs := #[.int .i64 t997, .int .i64 t998, .int .i64 t999, .slice none 0 0]) ?_ 3 _ rfl; (with_reducible repeat (first | refine blk_drewN ?_ _ | refine blk_drew ?_ | refine blk_alloc ?_ _)); refine blk_put (cs := #[.int .i64 t997, .int .i64 t998, .int .i64 0, .slice none 0 0]) ?_ 2 _ rfl; (with_reducible repeat (first | refine blk_drewN ?_ _ | refine blk_drew ?_ | refine blk_alloc ?_ _)); refine blk_put (cs := #[.int .i64 t997, .int .i64 0, .int .i64 0, .slice none 0 0]) ?_ 1 _ rfl; (with_reducible repeat (first | refine blk_drewN ?_ _ | refine blk_drew ?_ | refine blk_alloc ?_ _)); refine blk_put (cs := #[.int .i64 0, .int .i64 0, .int .i64 0, .slice none 0 0]) ?_ 0 _ rfl; (with_reducible repeat (first | refine blk_drewN ?_ _ | refine blk_drew ?_ | refine blk_alloc ?_ _)); exact BK1004.out) hb); have n4_ := Aside0.mk (below_step (by repeat (first | (with_reducible first | exact HB.out | apply below_alloc | apply pw_below_drewN | apply below_drew1 | refine below_set ?_ (IsS67.ge HI996.out) | refine below_set ?_ GE1004.out) | exact HB.out)) hb); clear HO1002; clear HI996; clear BK1004; clear HB; have HO1002 := n0_; have HO1007 := n1_; have HI996 := n2_; have BK1004 := n3_; have HB := n4_; clear n0_ n1_ n2_ n3_ n4_; (try clear hb); (try clear hb2); (try clear hk); (try clear hi); (try clear ho0)))
 (try simp only [Act.put, List.setIfInBounds_toArray, List.set_cons_zero, List.set_cons_succ])
 go_cut [22] (fun v22 wc => ∃ (kq : Nat) (x22_4 : Bool) (x997001_4 : Int), v22 = .bool x22_4 ∧ Aside0 (spec_DrawUnfilterImage.j0 kq t1005 x22_4 t994 x997001_4 t997 t998 t999 t1000 = some (r1, r2, r3, r4)) ∧ Aside0 (kq ≤ k) ∧ Aside0 (Kd.R (Kd.int .i64) 3 wc w.heap.size (fun k_ => some k_ ≠ ((.slice Ao11 t1000.length co11) : Value).ownBlock) v1006 t1005) ∧ Aside0 (Kd.Q (Kd.int .i64) 3 wc w.heap.size (fun k_ => some k_ ≠ (v1006 : Value).ownBlock) (.slice Ao11 t1000.length co11) t1000) ∧ Aside0 (wc.heap[gb1004]? = some (.cells #[.int .i64 t997, .int .i64 t998, .int .i64 t999, (.slice Ao11 t1000.length co11)] 24 (0, 0))) ∧ Aside0 (IsS67 w wc g996 t994 x997001_4) ∧ Aside0 (Below w.heap.size w wc))
 case first =>
  have H := HC5.out
  clear HC5
  by_cases c13 : (t1005.length : Int) > 0
  ·
   rw [if_pos c13] at H
   have c13b0 : decide (0 < (t1005.length : Int)) = true := decide_eq_true c13
   have c13b1 : decide (0 < t1005.length) = true := decide_eq_true (by omega)
   clear c13
   (first | rw [c13b0] | (simp only [i64_w, i32_w]; rw [c13b0]) | skip)
   replace H := Option.bind_eq_some_iff.mp H
   obtain ⟨⟨t1008, t1009⟩, A140, H⟩ := H
   replace H : (spec_DrawUnfilterImage.j0 k t1005 (t1008 == 0) t994 t1009 t997 t998 t999 t1000) = some (r1, r2, r3, r4) := H
   have A14 := Aside0.mk A140
   clear A140
   have H' := Aside0.mk H
   clear H
   obtain ⟨Ao15, co15, eo15⟩ := Kd.R_slice HO1007.out
   subst eo15
   go_wp2_with (first | (go_at_call 51; (with_reducible refine (spec_reader_pick.calls k g996 t994 t1003 4 t1008 t1009 w _ ?side1 ?side2 A14.out).mono ?_); (case side1 => repeat (first | (with_reducible first | exact HI996.out | apply IsS67.alloc | apply IsS67.drewN | apply IsS67.drew | apply IsS67.set_1 | refine IsS67.far ?_ NB996_1004.out _) | exact HI996.out)); (case side2 => repeat (first | (with_reducible first | exact HB.out | apply below_alloc | apply pw_below_drewN | apply below_drew1 | refine below_set ?_ (IsS67.ge HI996.out) | refine below_set ?_ GE1004.out) | exact HB.out)); rintro e w16 ⟨rfl, hi, hb, hk⟩; have n0_ := Aside0.mk (Kd.Q_mono (Kd.Q_keep (IsS67.apartQ (show IsS67 w _ g996 t994 t1003 from by repeat (first | (with_reducible first | exact HI996.out | apply IsS67.alloc | apply IsS67.drewN | apply IsS67.drew | apply IsS67.set_1 | refine IsS67.far ?_ NB996_1004.out _) | exact HI996.out)) (qQ HO1002.out) (by decide)) hk (fun _ h => h.2)) (fun _ h => h.1)); have n1_ := Aside0.mk (KeepBut.blk hk (g' := gb1004) (o := .cells #[.int .i64 t997, .int .i64 t998, .int .i64 t999, .slice Ao11 t1000.length co11] 24 (0, 0)) (qB BK1004.out) NB1004_996.out (by simp)); have n2_ := Aside0.mk (Kd.R_mono (Kd.R_keep (IsS67.apart (show IsS67 w _ g996 t994 t1003 from by repeat (first | (with_reducible first | exact HI996.out | apply IsS67.alloc | apply IsS67.drewN | apply IsS67.drew | apply IsS67.set_1 | refine IsS67.far ?_ NB996_1004.out _) | exact HI996.out)) (qR HO1007.out) (by decide)) hk (fun _ h => h.2)) (fun _ h => h.1)); have n3_ := Aside0.mk (hb); have n4_ := Aside0.mk (hi); clear HO1002; clear BK1004; clear HO1007; clear HB; clear HI996; have HO1002 := n0_; have BK1004 := n1_; have HO1007 := n2_; have HB := n3_; have HI996 := n4_; clear n0_ n1_ n2_ n3_ n4_; (try clear hb); (try clear hb2); (try clear hk); (try clear hi)))
   go_meet
   case rel => exact ⟨_, ((t1008 == 0)), (t1009), (by first | rfl | (simp; done) | (simp [*]; done)), H', ⟨by first | omega | exact Nat.le_refl _⟩, ⟨by (with_reducible repeat (first | apply Kd.R_alloc | apply Kd.R_drewN | apply Kd.R_drew)); exact Kd.R_mono HO1007.out (fun _ hk => hk.2)⟩, ⟨by (with_reducible repeat (first | apply Kd.Q_alloc | apply Kd.Q_drewN | apply Kd.Q_drew)); exact Kd.Q_mono HO1002.out (fun _ hk => hk.2)⟩, ⟨by (with_reducible repeat (first | refine blk_drewN ?_ _ | refine blk_drew ?_ | refine blk_alloc ?_ _)); exact BK1004.out⟩, ⟨by repeat (first | (with_reducible first | exact HI996.out | apply IsS67.alloc | apply IsS67.drewN | apply IsS67.drew | apply IsS67.set_1 | refine IsS67.far ?_ NB996_1004.out _) | exact HI996.out)⟩, ⟨by repeat (first | (with_reducible first | exact HB.out | apply below_alloc | apply pw_below_drewN | apply below_drew1 | refine below_set ?_ (IsS67.ge HI996.out) | refine below_set ?_ GE1004.out) | exact HB.out)⟩⟩
  ·
   rw [if_neg c13] at H
   have c13b0 : decide (0 < (t1005.length : Int)) = false := decide_eq_false c13
   have c13b1 : decide (0 < t1005.length) = false := decide_eq_false (by omega)
   clear c13
   (first | rw [c13b0] | (simp only [i64_w, i32_w]; rw [c13b0]) | skip)
   have H' := Aside0.mk H
   clear H
   obtain ⟨Ao17, co17, eo17⟩ := Kd.R_slice HO1007.out
   subst eo17
   go_wp2
   go_meet
   case rel => exact ⟨_, (false), (t1003), (by first | rfl | (simp; done) | (simp [*]; done)), H', ⟨by first | omega | exact Nat.le_refl _⟩, ⟨by (with_reducible repeat (first | apply Kd.R_alloc | apply Kd.R_drewN | apply Kd.R_drew)); exact Kd.R_mono HO1007.out (fun _ hk => hk.2)⟩, ⟨by (with_reducible repeat (first | apply Kd.Q_alloc | apply Kd.Q_drewN | apply Kd.Q_drew)); exact Kd.Q_mono HO1002.out (fun _ hk => hk.2)⟩, ⟨by (with_reducible repeat (first | refine blk_drewN ?_ _ | refine blk_drew ?_ | refine blk_alloc ?_ _)); exact BK1004.out⟩, ⟨by repeat (first | (with_reducible first | exact HI996.out | apply IsS67.alloc | apply IsS67.drewN | apply IsS67.drew | apply IsS67.set_1 | refine IsS67.far ?_ NB996_1004.out _) | exact HI996.out)⟩, ⟨by repeat (first | (with_reducible first | exact HB.out | apply below_alloc | apply pw_below_drewN | apply below_drew1 | refine below_set ?_ (IsS67.ge HI996.out) | refine below_set ?_ GE1004.out) | exact HB.out)⟩⟩
 case rest =>
  clear HC5
  try clear c1
  try clear c2
  try clear p2
  try clear c3
  try clear c4
  try clear c9
  try clear c13
  try clear c13b0
  try clear c13b1
  try clear hcz10_0
  try clear hcz10_1
  try clear hcz10_2
  try clear hcz10_3
  try clear hfz10_0
  try clear hfz10_1
  try clear hfz10_2
  try clear hfz10_3
  obtain ⟨kq, x22_4, x997001_4, rfl, HA, HJ4, HO_8, HO_1005003, BK1004, HI996, HB⟩ := hcut
  cases kq with
  | zero => exact absurd HA.out (by simp [spec_DrawUnfilterImage.j0])
  | succ kj4 =>
   have H := HA.out
   clear HA
   simp only [spec_DrawUnfilterImage.j0] at H
   by_cases c18 : x22_4 = true
   ·
    subst c18
    have H1 : ((spec_reader_one.f kj4 t994 x997001_4 (([0, 1, 2, 3, 4, 5] : List Int))).bind fun bt1013 => (if 0 < (t1005.length : Int) then ((spec_reader_spoil.f kj4 t994 bt1013.2 (t1005.set (0 : Int).toNat bt1013.1) 256).bind fun bt1016 => (some (t997, t998, t999, bt1016.1))) else (none))) = some (r1, r2, r3, r4) := by rw [if_pos rfl] at H; exact H
    clear H
    have H := H1
    clear H1
    obtain ⟨y1010, hy1010⟩ : ∃ y_ : List Int, y_ = (([0, 1, 2, 3, 4, 5] : List Int)) := ⟨_, rfl⟩
    replace H : ((spec_reader_one.f kj4 t994 x997001_4 y1010).bind fun bt1013 => (if 0 < (t1005.length : Int) then ((spec_reader_spoil.f kj4 t994 bt1013.2 (t1005.set (0 : Int).toNat bt1013.1) 256).bind fun bt1016 => (some (t997, t998, t999, bt1016.1))) else (none))) = some (r1, r2, r3, r4) := by first | (rw [hy1010]; with_reducible exact H) | (have H2_ := (Option.bind_some _ _).symm.trans H; rw [hy1010]; with_reducible exact H2_) | (have H2_ := (Option.bind_some _ _).symm.trans H; with_reducible exact H2_) | with_reducible exact H | (rw [hy1010]; exact H) | exact H
    have Ny1010 := Aside0.mk hy1010
    clear hy1010
    replace H := Option.bind_eq_some_iff.mp H
    obtain ⟨⟨t1013, t1014⟩, A190, H⟩ := H
    replace H : (if 0 < (t1005.length : Int) then ((spec_reader_spoil.f kj4 t994 t1014 (t1005.set (0 : Int).toNat t1013) 256).bind fun bt1016 => (some (t997, t998, t999, bt1016.1))) else (none)) = some (r1, r2, r3, r4) := H
    have A19 := Aside0.mk A190
    clear A190
    by_cases c20 : 0 < (t1005.length : Int)
    ·
     rw [if_pos c20] at H
     have c20b0 : decide (0 < (t1005.length : Int)) = true := decide_eq_true c20
     have c20b1 : decide (0 < t1005.length) = true := decide_eq_true (by omega)
     clear c20
     obtain ⟨y1015, hy1015⟩ : ∃ y_ : List Int, y_ = (t1005.set (0 : Int).toNat t1013) := ⟨_, rfl⟩
     replace H : ((spec_reader_spoil.f kj4 t994 t1014 y1015 256).bind fun bt1016 => (some (t997, t998, t999, bt1016.1))) = some (r1, r2, r3, r4) := by first | (rw [hy1015]; with_reducible exact H) | (have H2_ := (Option.bind_some _ _).symm.trans H; rw [hy1015]; with_reducible exact H2_) | (have H2_ := (Option.bind_some _ _).symm.trans H; with_reducible exact H2_) | with_reducible exact H | (rw [hy1015]; exact H) | exact H
     have Ny1015 := Aside0.mk hy1015
     clear hy1015
     replace H := Option.bind_eq_some_iff.mp H
     obtain ⟨⟨t1016, t1019⟩, A220, H⟩ := H
     replace H : (some (t997, t998, t999, t1016)) = some (r1, r2, r3, r4) := H
     have A22 := Aside0.mk A220
     clear A220
     simp only [Option.some.injEq, Prod.mk.injEq] at H
     obtain ⟨rfl, rfl, rfl, rfl⟩ := H
     try go_wp2_with (first | ((with_reducible refine gate_dst (N := 25) rfl ?_); refine Kd.R_lit (Kd.int .i64) _ 3 ?hg (N := 25) ?hd (xs := ([0, 1, 2, 3, 4, 5] : List Int)) (inner := [.int .i64 0, .int .i64 1, .int .i64 2, .int .i64 3, .int .i64 4, .int .i64 5]) (ok := fun _ => True) (okp := fun _ => True) ?hr ?hp (fun _ hk => hk) trivial (Below.refl _ _) (Nat.le_refl _) (by simp) ?_; (case hd => rfl); (case hg => rfl); (case hr => first | (go_simp; done) | (go_simp; rfl)); (case hp => exact (Reps.one (show Kd.M (Kd.int .i64) _ _ _ 0 [.int .i64 0] from rfl) (Reps.one (show Kd.M (Kd.int .i64) _ _ _ 1 [.int .i64 1] from rfl) (Reps.one (show Kd.M (Kd.int .i64) _ _ _ 2 [.int .i64 2] from rfl) (Reps.one (show Kd.M (Kd.int .i64) _ _ _ 3 [.int .i64 3] from rfl) (Reps.one (show Kd.M (Kd.int .i64) _ _ _ 4 [.int .i64 4] from rfl) (Reps.one (show Kd.M (Kd.int .i64) _ _ _ 5 [.int .i64 5] from rfl) (Reps.none _ _)))))))); intro v1011 w23 ho24 hb hg_ hnew_; clear hg_ hnew_; (first | rw [← Ny1010.out] at ho24 | (simp only [Int.reduceToNat] at ho24; rw [← Ny1010.out] at ho24)); have n0_ := Aside0.mk (Kd.R_elder' (qR HO_8.out) (Kd.R_base ho24) hb); have n1_ := Aside0.mk (Kd.Q_elder' (qQ HO_1005003.out) (Kd.R_base ho24) hb); have n2_ := Aside0.mk (Kd.R_lower (Kd.R_new' (Kd.R_new' ho24 (Kd.R_lt (qR HO_8.out))) (Kd.Q_lt (qQ HO_1005003.out))) (below_size (by repeat (first | (with_reducible first | exact HB.out | apply below_alloc | apply pw_below_drewN | apply below_drew1 | refine below_set ?_ (IsS67.ge HI996.out) | refine below_set ?_ GE1004.out) | exact HB.out)))); have n3_ := bB BK1004 hb; have n4_ := Aside0.mk (IsS67.below (by repeat (first | (with_reducible first | exact HI996.out | apply IsS67.alloc | apply IsS67.drewN | apply IsS67.drew | apply IsS67.set_1 | refine IsS67.far ?_ NB996_1004.out _) | exact HI996.out)) hb); have n5_ := Aside0.mk (below_step (by repeat (first | (with_reducible first | exact HB.out | apply below_alloc | apply pw_below_drewN | apply below_drew1 | refine below_set ?_ (IsS67.ge HI996.out) | refine below_set ?_ GE1004.out) | exact HB.out)) hb); clear HO_8; clear HO_1005003; clear BK1004; clear HI996; clear HB; have HO_8 := n0_; have HO_1005003 := n1_; have HO1012 := n2_; have BK1004 := n3_; have HI996 := n4_; have HB := n5_; clear n0_ n1_ n2_ n3_ n4_ n5_; clear hb ho24; obtain ⟨Ao25, co25, eo25⟩ := Kd.R_slice HO1012.out; subst eo25) | ((with_reducible refine gate_callee (f := 58) rfl ?_); refine goesL_ (some 26) rfl rfl Try.func58 (by kernel_rfl) rfl #[.pointer (some ⟨g996, 0, none⟩), .slice Ao25 y1010.length co25] rfl (by (try simp only [List.map_toArray, List.map_cons, List.map_nil]); first | done | rfl | (simp only [List.length_drop, List.length_take]; rfl)) ?_; (with_reducible refine (spec_reader_one.calls kj4 g996 t994 x997001_4 _ _ y1010 t1013 t1014 w _ ?side1 ?side2 ?side3 ?side4 ?side5 A19.out).mono ?_); (case side1 => repeat (first | (with_reducible first | exact HI996.out | apply IsS67.alloc | apply IsS67.drewN | apply IsS67.drew | apply IsS67.set_1 | refine IsS67.far ?_ NB996_1004.out _) | exact HI996.out)); (case side2 => repeat (first | (with_reducible first | exact HB.out | apply below_alloc | apply pw_below_drewN | apply below_drew1 | refine below_set ?_ (IsS67.ge HI996.out) | refine below_set ?_ GE1004.out) | exact HB.out)); (case side3 => repeat (first | exact (Kd.R_reads' HO1012.out).2.2 | (with_reducible refine Kd.C_alloc ?_ _) | (with_reducible refine Kd.C_drewN ?_ _) | (with_reducible refine Kd.C_drew ?_))); (case side4 => exact (Kd.R_reads' HO1012.out).2.1); (case side5 => exact far_slice (IsS67.own_ne HI996.out HO1012.out (by decide))); rintro e w26 ⟨rfl, hi, hb, hk⟩; refine ⟨_, rfl, ?_⟩; have n0_ := Aside0.mk (Kd.R_mono (Kd.R_keep (IsS67.apart (show IsS67 w _ g996 t994 x997001_4 from by repeat (first | (with_reducible first | exact HI996.out | apply IsS67.alloc | apply IsS67.drewN | apply IsS67.drew | apply IsS67.set_1 | refine IsS67.far ?_ NB996_1004.out _) | exact HI996.out)) (qR HO_8.out) (by decide)) hk (fun _ h => h.2)) (fun _ h => h.1)); have n1_ := Aside0.mk (Kd.Q_mono (Kd.Q_keep (IsS67.apartQ (show IsS67 w _ g996 t994 x997001_4 from by repeat (first | (with_reducible first | exact HI996.out | apply IsS67.alloc | apply IsS67.drewN | apply IsS67.drew | apply IsS67.set_1 | refine IsS67.far ?_ NB996_1004.out _) | exact HI996.out)) (qQ HO_1005003.out) (by decide)) hk (fun _ h => h.2)) (fun _ h => h.1)); have n2_ := Aside0.mk (KeepBut.blk hk (g' := gb1004) (o := .cells #[.int .i64 t997, .int .i64 t998, .int .i64 t999, .slice Ao11 t1000.length co11] 24 (0, 0)) (qB BK1004.out) NB1004_996.out (by simp)); have n3_ := Aside0.mk (Kd.R_mono (Kd.R_keep (IsS67.apart (show IsS67 w _ g996 t994 x997001_4 from by repeat (first | (with_reducible first | exact HI996.out | apply IsS67.alloc | apply IsS67.drewN | apply IsS67.drew | apply IsS67.set_1 | refine IsS67.far ?_ NB996_1004.out _) | exact HI996.out)) (qR HO1012.out) (by decide)) hk (fun _ h => h.2)) (fun _ h => h.1)); have n4_ := Aside0.mk (hb); have n5_ := Aside0.mk (hi); clear HO_8; clear HO_1005003; clear BK1004; clear HO1012; clear HB; clear HI996; have HO_8 := n0_; have HO_1005003 := n1_; have BK1004 := n2_; have HO1012 := n3_; have HB := n4_; have HI996 := n5_; clear n0_ n1_ n2_ n3_ n4_ n5_; (try clear hb); (try clear hb2); (try clear hk); (try clear hi); have p21 : 0 ≤ (0 : Int) := (by omega); have q21 : (0 : Int) < ((t1005.length : Int) : Int) := of_decide_eq_true (by first | (with_reducible assumption) | assumption); have qi21 : (0 < t1005.length) = True := eq_true (by omega); obtain ⟨go21, co21, eo21, gb21, gl21, cl21, HG21⟩ := Kd.R_form HO_8.out (by omega); (first | cases eo21 | (injection eo21 with ea_ en_ ec_; (first | subst ea_ | (injection ea_ with ea_; subst ea_)); subst ec_; clear en_)); have GB21 := Aside0.mk gb21; have GG21 := Aside0.mk HG21; clear gb21 gl21 HG21; obtain ⟨hx21_0, hf21_0⟩ := Kd.R_celln 0 HO_8.out (0 : Int) p21 q21; (try rw [show ((0 : Int)).toNat = 0 from rfl] at hx21_0); (try simp only [Nat.reduceMul, Nat.zero_mul, Nat.zero_add, Nat.reduceAdd] at hx21_0); (try rw [show ((0 : Int)).toNat = 0 from rfl] at hf21_0); (try simp only [Nat.reduceMul, Nat.zero_mul, Nat.zero_add, Nat.reduceAdd] at hf21_0); replace p21 := eq_true p21; replace q21 := eq_true q21; obtain ⟨hy27_, hz27_⟩ := Kd.R_celln 0 HO_8.out (0 : Int) (by omega) (of_decide_eq_true (by first | (with_reducible assumption) | assumption)); (try simp only [Int.reduceToNat, Int.toNat_zero, Int.toNat_ofNat, Nat.reduceMul, Nat.zero_mul, Nat.zero_add] at hy27_ hz27_); (try rw [show ((0 : Int)).toNat = 0 from rfl] at hy27_); (try rw [show ((0 : Int)).toNat = 0 from rfl] at hz27_); have HP27 := Kd.R_putg HO_8.out (0 : Int) t1013) | ((with_reducible refine gate_store (t := 3) (p := 27) rfl ?_); refine store_event (t := 3) (p := 27) (v := ?vo_w28) (w1 := (w26.setCell ⟨go21, (0 : Int).toNat, none⟩ (.int .i64 t1013))) ?hg ?ho ?hn ?hr ?_; (case ho => rfl); (case hg => rfl); (case hn => rfl); (case hr => first | (go_simp; done) | (go_simp; rfl)); intro w28 hw; have hg : w26.grownBy w28 (some go21) := (by rw [hw]; exact HP27.2); have hp_ : Kd.R (Kd.int .i64) 3 w28 w.heap.size (fun k_ => some k_ ≠ (.slice Ao11 t1000.length co11 : Value).ownBlock ∧ some k_ ≠ (.slice Ao25 y1010.length co25 : Value).ownBlock) (.slice (some ⟨go21, 0, none⟩) t1005.length co21) y1015 := (by rw [hw, Ny1015.out]; exact HP27.1); clear HP27; have n0_ := Aside0.mk (hp_); have n1_ := Aside0.mk (Kd.Q_after (v := (.slice (some ⟨go21, 0, none⟩) t1005.length co21)) (v1 := (.slice (some ⟨go21, 0, none⟩) t1005.length co21)) (ok := (fun k_ => some k_ ≠ (.slice Ao25 y1010.length co25 : Value).ownBlock)) (by (with_reducible repeat (first | apply Kd.Q_alloc | apply Kd.Q_drewN | apply Kd.Q_drew)); exact Kd.Q_mono HO_1005003.out (fun _ hk => ⟨hk.2, hk.1⟩)) hg (.inl rfl)); have n2_ := Aside0.mk (blk_grown (g := gb1004) (o := .cells #[.int .i64 t997, .int .i64 t998, .int .i64 t999, .slice Ao11 t1000.length co11] 24 (0, 0)) (qB BK1004.out) hg (Kd.R_ne HO_8.out BK1004.out (by decide))); have n3_ := Aside0.mk (IsS67.grown (by repeat (first | (with_reducible first | exact HI996.out | apply IsS67.alloc | apply IsS67.drewN | apply IsS67.drew | apply IsS67.set_1 | refine IsS67.far ?_ NB996_1004.out _) | exact HI996.out)) hg (IsS67.own_ne HI996.out HO_8.out (by decide))); have n4_ := Aside0.mk (Kd.R_after (v := (.slice (some ⟨go21, 0, none⟩) t1005.length co21)) (v1 := (.slice (some ⟨go21, 0, none⟩) t1005.length co21)) (ok := (fun k_ => some k_ ≠ (.slice Ao11 t1000.length co11 : Value).ownBlock)) (by (with_reducible repeat (first | apply Kd.R_alloc | apply Kd.R_drewN | apply Kd.R_drew)); exact Kd.R_mono HO1012.out (fun _ hk => ⟨hk.2, hk.1.2⟩)) hg (.inl rfl)); have n5_ := Aside0.mk ((by rw [hw]; exact below_set (HB.out) GB21.out : Below w.heap.size w w28)); clear HO_8; clear HO_1005003; clear BK1004; clear HI996; clear HO1012; clear HB; have HO_8 := n0_; have HO_1005003 := n1_; have BK1004 := n2_; have HI996 := n3_; have HO1012 := n4_; have HB := n5_; clear n0_ n1_ n2_ n3_ n4_ n5_; clear hg hw hp_))
     have n0_ := Aside0.mk (Kd.R_drew HO_8.out)
     have n1_ := Aside0.mk (Kd.Q_drew HO_1005003.out)
     have n2_ := Aside0.mk (Kd.R_drew HO1012.out)
     have n3_ := Aside0.mk (blk_drew BK1004.out)
     have n4_ := Aside0.mk (IsS67.drew HI996.out)
     have n5_ := Aside0.mk (below_drew1 HB.out)
     clear HO_8
     clear HO_1005003
     clear HO1012
     clear BK1004
     clear HI996
     clear HB
     have HO_8 := n0_
     have HO_1005003 := n1_
     have HO1012 := n2_
     have BK1004 := n3_
     have HI996 := n4_
     have HB := n5_
     clear n0_ n1_ n2_ n3_ n4_ n5_
     refine start_ (n := 13) (S := fun w' => w'.cell? ⟨gb1004, 0, none⟩ = some (.int .i64 t997) ∧ w'.cell? ⟨gb1004, 1, none⟩ = some (.int .i64 t998) ∧ w'.cell? ⟨gb1004, 2, none⟩ = some (.int .i64 t999) ∧ w'.cell? ⟨gb1004, 3, none⟩ = some (.slice Ao11 t1000.length co11)) (ds := []) #[false, false, false, false, false, false, false, false, false, false, false, false, false] (by kernel_rfl) rfl rfl ⟨(blk_cell BK1004.out 0).trans rfl, (blk_cell BK1004.out 1).trans rfl, (blk_cell BK1004.out 2).trans rfl, (blk_cell BK1004.out 3).trans rfl⟩ (fun hHeld => ?_); refine with_tabW spec_DrawUnfilterImage.tab6 spec_DrawUnfilterImage.bits6 (fun HT_ HW_ => ?_)
     generalize w28.drew = w29 at HO_8 HO_1005003 HO1012 BK1004 HI996 HB hHeld ⊢
     refine pure_ (i := 0) (N := some 28) (v := ?_) (a' := ?_) #[true, false, false, false, false, false, false, false, false, false, false, false, false] rfl rfl (any_of HT_.out (by kernel_rfl)) (fun _ _ _ h => h) (Or.inl ⟨by rfl, ?_⟩) ?_ ?_
     rotate_left
     ·
      intro w'
      go_simp
      with_reducible rfl
     rotate_left
     ·
      simp only [Act.put, List.setIfInBounds_toArray, List.set_cons_zero, List.set_cons_succ, i64_w, i32_w]
      rfl
     refine pure_ (i := 2) (N := some 30) (v := ?_) (a' := ?_) #[true, false, true, false, false, false, false, false, false, false, false, false, false] rfl rfl (any_of HT_.out (by kernel_rfl)) (fun _ _ _ h => h) (Or.inl ⟨by rfl, ?_⟩) ?_ ?_
     rotate_left
     ·
      intro w'
      go_simp
      with_reducible rfl
     rotate_left
     ·
      simp only [Act.put, List.setIfInBounds_toArray, List.set_cons_zero, List.set_cons_succ, i64_w, i32_w]
      rfl
     refine pure_ (i := 4) (N := some 32) (v := ?_) (a' := ?_) #[true, false, true, false, true, false, false, false, false, false, false, false, false] rfl rfl (any_of HT_.out (by kernel_rfl)) (fun _ _ _ h => h) (Or.inl ⟨by rfl, ?_⟩) ?_ ?_
     rotate_left
     ·
      intro w'
      go_simp
      with_reducible rfl
     rotate_left
     ·
      simp only [Act.put, List.setIfInBounds_toArray, List.set_cons_zero, List.set_cons_succ, i64_w, i32_w]
      rfl
     refine pure_ (i := 6) (N := some 34) (v := ?_) (a' := ?_) #[true, false, true, false, true, false, true, false, false, false, false, false, false] rfl rfl (any_of HT_.out (by kernel_rfl)) (fun _ _ _ h => h) (Or.inl ⟨by rfl, ?_⟩) ?_ ?_
     rotate_left
     ·
      intro w'
      go_simp
      with_reducible rfl
     rotate_left
     ·
      simp only [Act.put, List.setIfInBounds_toArray, List.set_cons_zero, List.set_cons_succ, i64_w, i32_w]
      rfl
     refine pure_ (i := 7) (N := some 35) (v := ?_) (a' := ?_) #[true, false, true, false, true, false, true, true, false, false, false, false, false] rfl rfl (any_of HT_.out (by kernel_rfl)) (fun _ _ _ h => h) (Or.inl ⟨by rfl, ?_⟩) ?_ ?_
     rotate_left
     ·
      intro w'
      go_simp
      with_reducible rfl
     rotate_left
     ·
      simp only [Act.put, List.setIfInBounds_toArray, List.set_cons_zero, List.set_cons_succ, i64_w, i32_w]
      rfl
     refine take_ (i := 1) (N := some 29) (v := ?_) (a' := ?_) #[true, true, true, false, true, false, true, true, false, false, false, false, false] rfl rfl (take_ofW HT_.out HW_.out (by kernel_rfl)) (fun _ _ _ h => h) (Or.inl ⟨by rfl, ?_⟩) hHeld ?_ ?_
     rotate_left
     ·
      rintro w' ⟨s0, s1, s2, s3⟩
      go_simp
      with_reducible rfl
     rotate_left
     ·
      simp only [Act.put, List.setIfInBounds_toArray, List.set_cons_zero, List.set_cons_succ, i64_w, i32_w]
      rfl
     refine take_ (i := 3) (N := some 31) (v := ?_) (a' := ?_) #[true, true, true, true, true, false, true, true, false, false, false, false, false] rfl rfl (take_ofW HT_.out HW_.out (by kernel_rfl)) (fun _ _ _ h => h) (Or.inl ⟨by rfl, ?_⟩) hHeld ?_ ?_
     rotate_left
     ·
      rintro w' ⟨s0, s1, s2, s3⟩
      go_simp
      with_reducible rfl
     rotate_left
     ·
      simp only [Act.put, List.setIfInBounds_toArray, List.set_cons_zero, List.set_cons_succ, i64_w, i32_w]
      rfl
     refine take_ (i := 5) (N := some 33) (v := ?_) (a' := ?_) #[true, true, true, true, true, true, true, true, false, false, false, false, false] rfl rfl (take_ofW HT_.out HW_.out (by kernel_rfl)) (fun _ _ _ h => h) (Or.inl ⟨by rfl, ?_⟩) hHeld ?_ ?_
     rotate_left
     ·
      rintro w' ⟨s0, s1, s2, s3⟩
      go_simp
      with_reducible rfl
     rotate_left
     ·
      simp only [Act.put, List.setIfInBounds_toArray, List.set_cons_zero, List.set_cons_succ, i64_w, i32_w]
      rfl
     refine one_ (i := 8) (N := some 36) #[true, true, true, true, true, true, true, true, true, false, false, false, false] rfl rfl (one_of HT_.out (by kernel_rfl)) (by decide) (fun K hK => ?_)
     refine goes_ Try.func50 (by kernel_rfl) rfl #[.pointer (some ⟨g996, 0, none⟩), .slice (some ⟨go21, 0, none⟩) y1015.length co21, .int .i64 256] (by rfl) rfl rfl (by (try simp only [List.map_toArray, List.map_cons, List.map_nil]); first | done | (rw [show y1015.length = t1005.length from (Kd.R_reads' HO_8.out).1.symm] <;> rfl) | rfl | (simp only [List.length_drop, List.length_take]; rfl)) ?_
     with_reducible refine (spec_reader_spoil.calls kj4 g996 t994 t1014 _ _ y1015 256 t1016 t1019 w _ ?side1 ?side2 ?side3 ?side4 ?side5 A22.out).mono ?_
     (case side1 => repeat (first | (with_reducible first | exact HI996.out | apply IsS67.alloc | apply IsS67.drewN | apply IsS67.drew | apply IsS67.set_1 | refine IsS67.far ?_ NB996_1004.out _) | exact HI996.out))
     (case side2 => repeat (first | (with_reducible first | exact HB.out | apply below_alloc | apply pw_below_drewN | apply below_drew1 | refine below_set ?_ (IsS67.ge HI996.out) | refine below_set ?_ GE1004.out) | exact HB.out))
     (case side3 => repeat (first | exact (Kd.R_reads' HO_8.out).2.2 | (with_reducible refine Kd.C_alloc ?_ _) | (with_reducible refine Kd.C_drewN ?_ _) | (with_reducible refine Kd.C_drew ?_)))
     (case side4 => rw [show y1015.length = t1005.length from (Kd.R_reads' HO_8.out).1.symm]; exact (Kd.R_reads' HO_8.out).2.1)
     (case side5 => first | exact far_slice (IsS67.own_ne HI996.out HO_8.out (by decide)) | (rw [show y1015.length = t1005.length from (Kd.R_reads' HO_8.out).1.symm]; exact far_slice (IsS67.own_ne HI996.out HO_8.out (by decide))))
     rintro e w30 ⟨v1017, rfl, ho0, hi, hb, hk⟩
     refine ⟨_, rfl, ?_⟩
     have n0_ := Aside0.mk (Kd.R_mono (Kd.R_told (Kd.R_oldK (IsS67.apart (show IsS67 w _ g996 t994 t1014 from by repeat (first | (with_reducible first | exact HI996.out | apply IsS67.alloc | apply IsS67.drewN | apply IsS67.drew | apply IsS67.set_1 | refine IsS67.far ?_ NB996_1004.out _) | exact HI996.out)) (qR HO_8.out) (by decide)) hk) (Kd.Q_base ho0)) (fun _ h_ => h_.1))
     have n1_ := Aside0.mk (Kd.Q_mono (Kd.Q_told (Kd.Q_oldK (IsS67.apartQ (show IsS67 w _ g996 t994 t1014 from by repeat (first | (with_reducible first | exact HI996.out | apply IsS67.alloc | apply IsS67.drewN | apply IsS67.drew | apply IsS67.set_1 | refine IsS67.far ?_ NB996_1004.out _) | exact HI996.out)) (qQ HO_1005003.out) (by decide)) hk) (Kd.Q_base ho0)) (fun _ h_ => h_.1))
     have n2_ := Aside0.mk (KeepBut.blk hk (g' := gb1004) (o := .cells #[.int .i64 t997, .int .i64 t998, .int .i64 t999, .slice Ao11 t1000.length co11] 24 (0, 0)) (qB BK1004.out) NB1004_996.out (by simp))
     have n3_ := Aside0.mk (Kd.R_mono (Kd.R_told (Kd.R_oldK (IsS67.apart (show IsS67 w _ g996 t994 t1014 from by repeat (first | (with_reducible first | exact HI996.out | apply IsS67.alloc | apply IsS67.drewN | apply IsS67.drew | apply IsS67.set_1 | refine IsS67.far ?_ NB996_1004.out _) | exact HI996.out)) (qR HO1012.out) (by decide)) hk) (Kd.Q_base ho0)) (fun _ h_ => h_.1))
     have n4_ := Aside0.mk (Kd.Q_lower (Kd.Q_new' (Kd.Q_new' (Kd.Q_new' ho0 (Kd.R_lt (qR HO_8.out))) (Kd.Q_lt (qQ HO_1005003.out))) (Kd.R_lt (qR HO1012.out))) (below_size (by repeat (first | (with_reducible first | exact HB.out | apply below_alloc | apply pw_below_drewN | apply below_drew1 | refine below_set ?_ (IsS67.ge HI996.out) | refine below_set ?_ GE1004.out) | exact HB.out))))
     have n5_ := Aside0.mk (hb)
     have n6_ := Aside0.mk (hi)
     clear HO_8
     clear HO_1005003
     clear BK1004
     clear HO1012
     clear HB
     clear HI996
     have HO_8 := n0_
     have HO_1005003 := n1_
     have BK1004 := n2_
     have HO1012 := n3_
     have HO1018 := n4_
     have HB := n5_
     have HI996 := n6_
     clear n0_ n1_ n2_ n3_ n4_ n5_ n6_
     (try clear hb)
     (try clear hb2)
     (try clear hk)
     (try clear hi)
     (try clear ho0)
     refine hK.out _ _ ⟨(blk_cell BK1004.out 0).trans rfl, (blk_cell BK1004.out 1).trans rfl, (blk_cell BK1004.out 2).trans rfl, (blk_cell BK1004.out 3).trans rfl⟩ (fun hHeld => ?_)
     clear hK K
     refine norm_ (a' := ?_) ?_ ?_
     rotate_left
     ·
      show Act.put _ (some 36) _ = _
      simp only [Act.put, List.setIfInBounds_toArray, List.set_cons_zero, List.set_cons_succ, i64_w, i32_w]
      rfl
     refine pure_ (i := 9) (N := some 2) (v := ?_) (a' := ?_) #[true, true, true, true, true, true, true, true, true, true, false, false, false] rfl rfl (any_of HT_.out (by kernel_rfl)) (fun _ _ _ h => h) (Or.inl ⟨by rfl, ?_⟩) ?_ ?_
     rotate_left
     ·
      intro w'
      go_simp
      with_reducible rfl
     rotate_left
     ·
      simp only [Act.put, List.setIfInBounds_toArray, List.set_cons_zero, List.set_cons_succ, i64_w, i32_w]
      rfl
     refine pure_ (i := 10) (N := some 3) (v := ?_) (a' := ?_) #[true, true, true, true, true, true, true, true, true, true, true, false, false] rfl rfl (any_of HT_.out (by kernel_rfl)) (fun _ _ _ h => h) (Or.inl ⟨by rfl, ?_⟩) ?_ ?_
     rotate_left
     ·
      intro w'
      go_simp
      with_reducible rfl
     rotate_left
     ·
      simp only [Act.put, List.setIfInBounds_toArray, List.set_cons_zero, List.set_cons_succ, i64_w, i32_w]
      rfl
     refine pure_ (i := 11) (N := some 4) (v := ?_) (a' := ?_) #[true, true, true, true, true, true, true, true, true, true, true, true, false] rfl rfl (any_of HT_.out (by kernel_rfl)) (fun _ _ _ h => h) (Or.inl ⟨by rfl, ?_⟩) ?_ ?_
     rotate_left
     ·
      intro w'
      go_simp
      with_reducible rfl
     rotate_left
     ·
      simp only [Act.put, List.setIfInBounds_toArray, List.set_cons_zero, List.set_cons_succ, i64_w, i32_w]
      rfl
     refine pure_ (i := 12) (N := some 5) (v := ?_) (a' := ?_) #[true, true, true, true, true, true, true, true, true, true, true, true, true] rfl rfl (any_of HT_.out (by kernel_rfl)) (fun _ _ _ h => h) (Or.inl ⟨by rfl, ?_⟩) ?_ ?_
     rotate_left
     ·
      intro w'
      go_simp
      with_reducible rfl
     rotate_left
     ·
      simp only [Act.put, List.setIfInBounds_toArray, List.set_cons_zero, List.set_cons_succ, i64_w, i32_w]
      rfl
     refine done_ (done_of HT_.out (by kernel_rfl)) ?_
     try go_wp2
     refine bodyPost_ret (results_list (rs := [.tmp 2, .tmp 3, .tmp 4, .tmp 5]) rfl (by simp) (.tmp (.tmp (.tmp (.tmp .nil))))) rfl ?_
     exact ⟨_, by first | rfl | (simp [errW_none, errW_some] <;> rfl) | (simp [*, errW_none, errW_some] <;> rfl), by (with_reducible repeat (first | apply Kd.Q_alloc | apply Kd.Q_drewN | apply Kd.Q_drew)); exact Kd.Q_mono HO1018.out (fun _ hk => trivial), by repeat (first | (with_reducible first | exact HB.out | apply below_alloc | apply pw_below_drewN | apply below_drew1 | refine below_set ?_ (IsS67.ge HI996.out) | refine below_set ?_ GE1004.out) | exact HB.out)⟩
    ·
     rw [if_neg c20] at H
     exact absurd H (by simp)
   ·
    replace c18 := Bool.eq_false_iff.mpr c18
    subst c18
    have H1 : ((spec_reader_spoil.f kj4 t994 x997001_4 t1005 256).bind fun bt1020 => (some (t997, t998, t999, bt1020.1))) = some (r1, r2, r3, r4) := by rw [if_neg (show ¬ (false = true) by decide)] at H; exact H
    clear H
    have H := H1
    clear H1
    replace H := Option.bind_eq_some_iff.mp H
    obtain ⟨⟨t1020, t1023⟩, A310, H⟩ := H
    replace H : (some (t997, t998, t999, t1020)) = some (r1, r2, r3, r4) := H
    have A31 := Aside0.mk A310
    clear A310
    simp only [Option.some.injEq, Prod.mk.injEq] at H
    obtain ⟨rfl, rfl, rfl, rfl⟩ := H
    try go_wp2
    have n0_ := Aside0.mk (Kd.R_drew HO_8.out)
    have n1_ := Aside0.mk (Kd.Q_drew HO_1005003.out)
    have n2_ := Aside0.mk (blk_drew BK1004.out)
    have n3_ := Aside0.mk (IsS67.drew HI996.out)
    have n4_ := Aside0.mk (below_drew1 HB.out)
    clear HO_8
    clear HO_1005003
    clear BK1004
    clear HI996
    clear HB
    have HO_8 := n0_
    have HO_1005003 := n1_
    have BK1004 := n2_
    have HI996 := n3_
    have HB := n4_
    clear n0_ n1_ n2_ n3_ n4_
    obtain ⟨Ao33, co33, eo33⟩ := Kd.R_slice HO_8.out
    (first | subst eo33 | (injection eo33 with f1_ f2_ f3_; have f4_ := f1_.symm; have f5_ := f3_.symm; clear f1_ f2_ f3_; subst f4_; subst f5_))
    refine start_ (n := 13) (S := fun w' => w'.cell? ⟨gb1004, 0, none⟩ = some (.int .i64 t997) ∧ w'.cell? ⟨gb1004, 1, none⟩ = some (.int .i64 t998) ∧ w'.cell? ⟨gb1004, 2, none⟩ = some (.int .i64 t999) ∧ w'.cell? ⟨gb1004, 3, none⟩ = some (.slice Ao11 t1000.length co11)) (ds := []) #[false, false, false, false, false, false, false, false, false, false, false, false, false] (by kernel_rfl) rfl rfl ⟨(blk_cell BK1004.out 0).trans rfl, (blk_cell BK1004.out 1).trans rfl, (blk_cell BK1004.out 2).trans rfl, (blk_cell BK1004.out 3).trans rfl⟩ (fun hHeld => ?_); refine with_tabW spec_DrawUnfilterImage.tab6 spec_DrawUnfilterImage.bits6 (fun HT_ HW_ => ?_)
    generalize wc.drew = w32 at HO_8 HO_1005003 BK1004 HI996 HB hHeld ⊢
    refine pure_ (i := 0) (N := some 28) (v := ?_) (a' := ?_) #[true, false, false, false, false, false, false, false, false, false, false, false, false] rfl rfl (any_of HT_.out (by kernel_rfl)) (fun _ _ _ h => h) (Or.inl ⟨by rfl, ?_⟩) ?_ ?_
    rotate_left
    ·
     intro w'
     go_simp
     with_reducible rfl
    rotate_left
    ·
     simp only [Act.put, List.setIfInBounds_toArray, List.set_cons_zero, List.set_cons_succ, i64_w, i32_w]
     rfl
    refine pure_ (i := 2) (N := some 30) (v := ?_) (a' := ?_) #[true, false, true, false, false, false, false, false, false, false, false, false, false] rfl rfl (any_of HT_.out (by kernel_rfl)) (fun _ _ _ h => h) (Or.inl ⟨by rfl, ?_⟩) ?_ ?_
    rotate_left
    ·
     intro w'
     go_simp
     with_reducible rfl
    rotate_left
    ·
     simp only [Act.put, List.setIfInBounds_toArray, List.set_cons_zero, List.set_cons_succ, i64_w, i32_w]
     rfl
    refine pure_ (i := 4) (N := some 32) (v := ?_) (a' := ?_) #[true, false, true, false, true, false, false, false, false, false, false, false, false] rfl rfl (any_of HT_.out (by kernel_rfl)) (fun _ _ _ h => h) (Or.inl ⟨by rfl, ?_⟩) ?_ ?_
    rotate_left
    ·
     intro w'
     go_simp
     with_reducible rfl
    rotate_left
    ·
     simp only [Act.put, List.setIfInBounds_toArray, List.set_cons_zero, List.set_cons_succ, i64_w, i32_w]
     rfl
    refine pure_ (i := 6) (N := some 34) (v := ?_) (a' := ?_) #[true, false, true, false, true, false, true, false, false, false, false, false, false] rfl rfl (any_of HT_.out (by kernel_rfl)) (fun _ _ _ h => h) (Or.inl ⟨by rfl, ?_⟩) ?_ ?_
    rotate_left
    ·
     intro w'
     go_simp
     with_reducible rfl
    rotate_left
    ·
     simp only [Act.put, List.setIfInBounds_toArray, List.set_cons_zero, List.set_cons_succ, i64_w, i32_w]
     rfl
    refine pure_ (i := 7) (N := some 35) (v := ?_) (a' := ?_) #[true, false, true, false, true, false, true, true, false, false, false, false, false] rfl rfl (any_of HT_.out (by kernel_rfl)) (fun _ _ _ h => h) (Or.inl ⟨by rfl, ?_⟩) ?_ ?_
    rotate_left
    ·
     intro w'
     go_simp
     with_reducible rfl
    rotate_left
    ·
     simp only [Act.put, List.setIfInBounds_toArray, List.set_cons_zero, List.set_cons_succ, i64_w, i32_w]
     rfl
    refine take_ (i := 1) (N := some 29) (v := ?_) (a' := ?_) #[true, true, true, false, true, false, true, true, false, false, false, false, false] rfl rfl (take_ofW HT_.out HW_.out (by kernel_rfl)) (fun _ _ _ h => h) (Or.inl ⟨by rfl, ?_⟩) hHeld ?_ ?_
    rotate_left
    ·
     rintro w' ⟨s0, s1, s2, s3⟩
     go_simp
     with_reducible rfl
    rotate_left
    ·
     simp only [Act.put, List.setIfInBounds_toArray, List.set_cons_zero, List.set_cons_succ, i64_w, i32_w]
     rfl
    refine take_ (i := 3) (N := some 31) (v := ?_) (a' := ?_) #[true, true, true, true, true, false, true, true, false, false, false, false, false] rfl rfl (take_ofW HT_.out HW_.out (by kernel_rfl)) (fun _ _ _ h => h) (Or.inl ⟨by rfl, ?_⟩) hHeld ?_ ?_
    rotate_left
    ·
     rintro w' ⟨s0, s1, s2, s3⟩
     go_simp
     with_reducible rfl
    rotate_left
    ·
     simp only [Act.put, List.setIfInBounds_toArray, List.set_cons_zero, List.set_cons_succ, i64_w, i32_w]
     rfl
    refine take_ (i := 5) (N := some 33) (v := ?_) (a' := ?_) #[true, true, true, true, true, true, true, true, false, false, false, false, false] rfl rfl (take_ofW HT_.out HW_.out (by kernel_rfl)) (fun _ _ _ h => h) (Or.inl ⟨by rfl, ?_⟩) hHeld ?_ ?_
    rotate_left
    ·
     rintro w' ⟨s0, s1, s2, s3⟩
     go_simp
     with_reducible rfl
    rotate_left
    ·
     simp only [Act.put, List.setIfInBounds_toArray, List.set_cons_zero, List.set_cons_succ, i64_w, i32_w]
     rfl
    refine one_ (i := 8) (N := some 36) #[true, true, true, true, true, true, true, true, true, false, false, false, false] rfl rfl (one_of HT_.out (by kernel_rfl)) (by decide) (fun K hK => ?_)
    refine goes_ Try.func50 (by kernel_rfl) rfl #[.pointer (some ⟨g996, 0, none⟩), .slice Ao33 t1005.length co33, .int .i64 256] (by rfl) rfl rfl (by (try simp only [List.map_toArray, List.map_cons, List.map_nil]); first | done | rfl | (simp only [List.length_drop, List.length_take]; rfl)) ?_
    with_reducible refine (spec_reader_spoil.calls kj4 g996 t994 x997001_4 _ _ t1005 256 t1020 t1023 w _ ?side1 ?side2 ?side3 ?side4 ?side5 A31.out).mono ?_
    (case side1 => repeat (first | (with_reducible first | exact HI996.out | apply IsS67.alloc | apply IsS67.drewN | apply IsS67.drew | apply IsS67.set_1 | refine IsS67.far ?_ NB996_1004.out _) | exact HI996.out))
    (case side2 => repeat (first | (with_reducible first | exact HB.out | apply below_alloc | apply pw_below_drewN | apply below_drew1 | refine below_set ?_ (IsS67.ge HI996.out) | refine below_set ?_ GE1004.out) | exact HB.out))
    (case side3 => repeat (first | exact (Kd.R_reads' HO_8.out).2.2 | (with_reducible refine Kd.C_alloc ?_ _) | (with_reducible refine Kd.C_drewN ?_ _) | (with_reducible refine Kd.C_drew ?_)))
    (case side4 => exact (Kd.R_reads' HO_8.out).2.1)
    (case side5 => exact far_slice (IsS67.own_ne HI996.out HO_8.out (by decide)))
    rintro e w34 ⟨v1021, rfl, ho0, hi, hb, hk⟩
    refine ⟨_, rfl, ?_⟩
    have n0_ := Aside0.mk (Kd.R_mono (Kd.R_told (Kd.R_oldK (IsS67.apart (show IsS67 w _ g996 t994 x997001_4 from by repeat (first | (with_reducible first | exact HI996.out | apply IsS67.alloc | apply IsS67.drewN | apply IsS67.drew | apply IsS67.set_1 | refine IsS67.far ?_ NB996_1004.out _) | exact HI996.out)) (qR HO_8.out) (by decide)) hk) (Kd.Q_base ho0)) (fun _ h_ => h_.1))
    have n1_ := Aside0.mk (Kd.Q_mono (Kd.Q_told (Kd.Q_oldK (IsS67.apartQ (show IsS67 w _ g996 t994 x997001_4 from by repeat (first | (with_reducible first | exact HI996.out | apply IsS67.alloc | apply IsS67.drewN | apply IsS67.drew | apply IsS67.set_1 | refine IsS67.far ?_ NB996_1004.out _) | exact HI996.out)) (qQ HO_1005003.out) (by decide)) hk) (Kd.Q_base ho0)) (fun _ h_ => h_.1))
    have n2_ := Aside0.mk (KeepBut.blk hk (g' := gb1004) (o := .cells #[.int .i64 t997, .int .i64 t998, .int .i64 t999, .slice Ao11 t1000.length co11] 24 (0, 0)) (qB BK1004.out) NB1004_996.out (by simp))
    have n3_ := Aside0.mk (Kd.Q_lower (Kd.Q_new' (Kd.Q_new' ho0 (Kd.R_lt (qR HO_8.out))) (Kd.Q_lt (qQ HO_1005003.out))) (below_size (by repeat (first | (with_reducible first | exact HB.out | apply below_alloc | apply pw_below_drewN | apply below_drew1 | refine below_set ?_ (IsS67.ge HI996.out) | refine below_set ?_ GE1004.out) | exact HB.out))))
    have n4_ := Aside0.mk (hb)
    have n5_ := Aside0.mk (hi)
    clear HO_8
    clear HO_1005003
    clear BK1004
    clear HB
    clear HI996
    have HO_8 := n0_
    have HO_1005003 := n1_
    have BK1004 := n2_
    have HO1022 := n3_
    have HB := n4_
    have HI996 := n5_
    clear n0_ n1_ n2_ n3_ n4_ n5_
    (try clear hb)
    (try clear hb2)
    (try clear hk)
    (try clear hi)
    (try clear ho0)
    refine hK.out _ _ ⟨(blk_cell BK1004.out 0).trans rfl, (blk_cell BK1004.out 1).trans rfl, (blk_cell BK1004.out 2).trans rfl, (blk_cell BK1004.out 3).trans rfl⟩ (fun hHeld => ?_)
    clear hK K
    refine norm_ (a' := ?_) ?_ ?_
    rotate_left
    ·
     show Act.put _ (some 36) _ = _
     simp only [Act.put, List.setIfInBounds_toArray, List.set_cons_zero, List.set_cons_succ, i64_w, i32_w]
     rfl
    refine pure_ (i := 9) (N := some 2) (v := ?_) (a' := ?_) #[true, true, true, true, true, true, true, true, true, true, false, false, false] rfl rfl (any_of HT_.out (by kernel_rfl)) (fun _ _ _ h => h) (Or.inl ⟨by rfl, ?_⟩) ?_ ?_
    rotate_left
    ·
     intro w'
     go_simp
     with_reducible rfl
    rotate_left
    ·
     simp only [Act.put, List.setIfInBounds_toArray, List.set_cons_zero, List.set_cons_succ, i64_w, i32_w]
     rfl
    refine pure_ (i := 10) (N := some 3) (v := ?_) (a' := ?_) #[true, true, true, true, true, true, true, true, true, true, true, false, false] rfl rfl (any_of HT_.out (by kernel_rfl)) (fun _ _ _ h => h) (Or.inl ⟨by rfl, ?_⟩) ?_ ?_
    rotate_left
    ·
     intro w'
     go_simp
     with_reducible rfl
    rotate_left
    ·
     simp only [Act.put, List.setIfInBounds_toArray, List.set_cons_zero, List.set_cons_succ, i64_w, i32_w]
     rfl
    refine pure_ (i := 11) (N := some 4) (v := ?_) (a' := ?_) #[true, true, true, true, true, true, true, true, true, true, true, true, false] rfl rfl (any_of HT_.out (by kernel_rfl)) (fun _ _ _ h => h) (Or.inl ⟨by rfl, ?_⟩) ?_ ?_
    rotate_left
    ·
     intro w'
     go_simp
     with_reducible rfl
    rotate_left
    ·
     simp only [Act.put, List.setIfInBounds_toArray, List.set_cons_zero, List.set_cons_succ, i64_w, i32_w]
     rfl
    refine pure_ (i := 12) (N := some 5) (v := ?_) (a' := ?_) #[true, true, true, true, true, true, true, true, true, true, true, true, true] rfl rfl (any_of HT_.out (by kernel_rfl)) (fun _ _ _ h => h) (Or.inl ⟨by rfl, ?_⟩) ?_ ?_
    rotate_left
    ·
     intro w'
     go_simp
     with_reducible rfl
    rotate_left
    ·
     simp only [Act.put, List.setIfInBounds_toArray, List.set_cons_zero, List.set_cons_succ, i64_w, i32_w]
     rfl
    refine done_ (done_of HT_.out (by kernel_rfl)) ?_
    try go_wp2
    refine bodyPost_ret (results_list (rs := [.tmp 2, .tmp 3, .tmp 4, .tmp 5]) rfl (by simp) (.tmp (.tmp (.tmp (.tmp .nil))))) rfl ?_
    exact ⟨_, by first | rfl | (simp [errW_none, errW_some] <;> rfl) | (simp [*, errW_none, errW_some] <;> rfl), by (with_reducible repeat (first | apply Kd.Q_alloc | apply Kd.Q_drewN | apply Kd.Q_drew)); exact Kd.Q_mono HO1022.out (fun _ hk => trivial), by repeat (first | (with_reducible first | exact HB.out | apply below_alloc | apply pw_below_drewN | apply below_drew1 | refine below_set ?_ (IsS67.ge HI996.out) | refine below_set ?_ GE1004.out) | exact HB.out)⟩

/-! ### impl_ValidImage: function 33 -/
def impl_ValidImage.f (a0_0 : Int) (a0_1 : Int) (a0_2 : Int) (l0_3 : List Int) : Option (Bool) := (impl_isImage.f a0_0 a0_1 a0_2 l0_3).bind fun t1025 => (some t1025)
set_option maxHeartbeats 8000000 in
set_option maxRecDepth 100000 in
theorem impl_ValidImage.calls (a0_0 : Int) (a0_1 : Int) (a0_2 : Int) (A0_3 : Option Addr) (c0_3 : Nat) (l0_3 : List Int) (r : Bool) (w : World) (hr0_3 : Kd.C (Kd.int .i64) w A0_3 l0_3.length l0_3) (hc0_3 : l0_3.length ≤ c0_3) (h : impl_ValidImage.f a0_0 a0_1 a0_2 l0_3 = some r) :
  Calls Try.prog 33 #[.agg #[.int .i64 a0_0, .int .i64 a0_1, .int .i64 a0_2, .slice A0_3 l0_3.length c0_3]] w fun e w' => e = .returned (.bool r) ∧ Below w.heap.size w w' := by
 have hu24 := Try.underlying24
 have HR0_3 := Aside0.mk hr0_3
 have HC0_3 := Aside0.mk hc0_3
 clear hr0_3 hc0_3
 have HB := Aside0.mk (Below.refl w.heap.size w)
 have H : ((impl_isImage.f a0_0 a0_1 a0_2 l0_3).bind fun t1025 => (some t1025)) = some r := h
 clear h
 replace H := Option.bind_eq_some_iff.mp H
 obtain ⟨t1025, A20, H⟩ := H
 replace H : (some t1025) = some r := H
 have A2 := Aside0.mk A20
 clear A20
 obtain rfl := Option.some.inj H
 go_enter Try.func33, Try.ntmps33
 go_wp2_with (first | ((with_reducible refine gate_dst (N := 1) rfl ?_); refine box_event ?hg (N := 1) ?hd (cs := #[.int .i64 a0_0, .int .i64 a0_1, .int .i64 a0_2, .slice A0_3 l0_3.length c0_3]) (t := 24) ?hr ?_; (case hd => rfl); (case hg => rfl); (case hr => first | (go_simp; done) | (go_simp; rfl)); intro gb1024 hg w3 hbox hb; have n0_ := Aside0.mk (below_step (qW HB.out) hb); have n1_ := Aside0.mk (hbox); have n2_ := Aside0.mk ((by rw [hg]; exact (below_size (qW HB.out)) : w.heap.size ≤ gb1024)); have n3_ := Aside0.mk ((by rw [hg]; exact (below_size (qW HB.out)) : w.heap.size ≤ gb1024)); clear HB; have HB := n0_; have BK1024 := n1_; have GW1024 := n2_; have GE1024 := n3_; clear n0_ n1_ n2_ n3_; clear hb hbox hg; have hcz4_0 : w3.cell? ⟨gb1024, 0, none⟩ = some (.int .i64 a0_0) := (blk_cell BK1024.out 0).trans rfl; have hcz4_1 : w3.cell? ⟨gb1024, 1, none⟩ = some (.int .i64 a0_1) := (blk_cell BK1024.out 1).trans rfl; have hcz4_2 : w3.cell? ⟨gb1024, 2, none⟩ = some (.int .i64 a0_2) := (blk_cell BK1024.out 2).trans rfl; have hcz4_3 : w3.cell? ⟨gb1024, 3, none⟩ = some (.slice A0_3 l0_3.length c0_3) := (blk_cell BK1024.out 3).trans rfl; have hfz4_0 := blk_frozen BK1024.out 0; have hfz4_1 := blk_frozen BK1024.out 1; have hfz4_2 := blk_frozen BK1024.out 2; have hfz4_3 := blk_frozen BK1024.out 3) | ((with_reducible refine gate_callee (f := 52) rfl ?_); refine goesL_ (some 4) rfl rfl Try.func52 (by kernel_rfl) rfl #[.agg #[.int .i64 a0_0, .int .i64 a0_1, .int .i64 a0_2, .slice A0_3 l0_3.length c0_3]] rfl (by (try simp only [List.map_toArray, List.map_cons, List.map_nil]); first | done | rfl | (simp only [List.length_drop, List.length_take]; rfl)) ?_; (with_reducible refine (impl_isImage.calls a0_0 a0_1 a0_2 _ _ l0_3 t1025 _ ?side1 ?side2 A2.out).mono ?_); (case side1 => repeat (first | exact (Kd.C_below HR0_3.out HB.out) | (with_reducible refine Kd.C_alloc ?_ _) | (with_reducible refine Kd.C_drewN ?_ _) | (with_reducible refine Kd.C_drew ?_))); (case side2 => exact HC0_3.out); rintro e w5 ⟨rfl, hb⟩; refine ⟨_, rfl, ?_⟩; have n0_ := bB BK1024 hb; have n1_ := Aside0.mk (below_step (qW HB.out) hb); clear BK1024; clear HB; have BK1024 := n0_; have HB := n1_; clear n0_ n1_; (try clear hb); (try clear hb2); (try clear hk); (try clear hi)))
 go_ret
 exact ⟨by first | rfl | (simp [errW_none, errW_some] <;> rfl) | (simp [*, errW_none, errW_some] <;> rfl), by repeat (first | (with_reducible first | exact HB.out | apply below_alloc | apply pw_below_drewN | apply below_drew1 | refine below_set ?_ GE1024.out) | exact HB.out)⟩

/-! ### laws_FnUnfilterImage: function 9 -/
def laws_FnUnfilterImage.j0 : Nat → Int → Int → Int → Bool → Bool → Bool → Int → Int → Int → List Int → Int → Int → Int → List Int → Option (Bool)
 | 0, _, _, _, _, _, _, _, _, _, _, _, _, _, _ => none
 | k + 1, x3, x4, x5, x8, x10, x51, x1040000, x1040001, x1040002, x1040003, x1048000, x1048001, x1048002, x1048003 => if x51 = true then ((laws_equalImage.f k x1040000 x1040001 x1040002 x1040003 x1048000 x1048001 x1048002 x1048003).bind fun t1049 => (if t1049 = true then (some (x8 == x10)) else (some false))) else ((impl_FilterImage.f k x1040000 x1040001 x1040002 x1040003).bind fun t1050 => ((impl_UnfilterImage.f k x3 x4 x5 t1050).bind fun bt1053 => ((impl_ValidImage.f x1040000 x1040001 x1040002 x1040003).bind fun t1061 => (if t1061 = true then (if bt1053.2.2.2.2 = true then ((laws_equalImage.f k bt1053.1 bt1053.2.1 bt1053.2.2.1 bt1053.2.2.2.1 x1040000 x1040001 x1040002 x1040003).bind fun t1062 => (some t1062)) else (some false)) else (some false)))))
def laws_FnUnfilterImage.f (k : Nat) (l0 : List Int) : Option (Bool) := if (l0.length : Int) > 1048576 then (some true) else ((spec_DrawUnfilterImage.f k l0).bind fun bt1026 => ((impl_UnfilterImage.f k bt1026.1 bt1026.2.1 bt1026.2.2.1 bt1026.2.2.2).bind fun bt1032 => ((spec_UnfilterImage.f k bt1026.1 bt1026.2.1 bt1026.2.2.1 bt1026.2.2.2).bind fun bt1040 => ((laws_equalImage.f k bt1032.1 bt1032.2.1 bt1032.2.2.1 bt1032.2.2.2.1 bt1040.1 bt1040.2.1 bt1040.2.2.1 bt1040.2.2.2.1).bind fun t1048 => (if t1048 = true then (if (bt1032.2.2.2.2 != bt1040.2.2.2.2) = true then (laws_FnUnfilterImage.j0 k bt1026.1 bt1026.2.1 bt1026.2.2.1 bt1032.2.2.2.2 bt1040.2.2.2.2 true bt1032.1 bt1032.2.1 bt1032.2.2.1 bt1032.2.2.2.1 bt1040.1 bt1040.2.1 bt1040.2.2.1 bt1040.2.2.2.1) else (laws_FnUnfilterImage.j0 k bt1026.1 bt1026.2.1 bt1026.2.2.1 bt1032.2.2.2.2 bt1040.2.2.2.2 (!bt1032.2.2.2.2) bt1032.1 bt1032.2.1 bt1032.2.2.1 bt1032.2.2.2.1 bt1040.1 bt1040.2.1 bt1040.2.2.1 bt1040.2.2.2.1)) else (laws_FnUnfilterImage.j0 k bt1026.1 bt1026.2.1 bt1026.2.2.1 bt1032.2.2.2.2 bt1040.2.2.2.2 true bt1032.1 bt1032.2.1 bt1032.2.2.1 bt1032.2.2.2.1 bt1040.1 bt1040.2.1 bt1040.2.2.1 bt1040.2.2.2.1))))))
theorem laws_FnUnfilterImage.mono_l : ∀ k, (∀ y0 y1 y2 y3 y4 y5 y6 y7 y8 y9 y10 y11 y12 y13, LeO (laws_FnUnfilterImage.j0 k y0 y1 y2 y3 y4 y5 y6 y7 y8 y9 y10 y11 y12 y13) (laws_FnUnfilterImage.j0 (k + 1) y0 y1 y2 y3 y4 y5 y6 y7 y8 y9 y10 y11 y12 y13))
 | 0 => fun _ _ _ _ _ _ _ _ _ _ _ _ _ _ r h => by simp [laws_FnUnfilterImage.j0] at h
 | k + 1 => by
  have ih0 := laws_FnUnfilterImage.mono_l k
  ·
   intro y0 y1 y2 y3 y4 y5 y6 y7 y8 y9 y10 y11 y12 y13
   unfold laws_FnUnfilterImage.j0
   repeat' first
   | (with_reducible exact ih0 _ _ _ _ _ _ _ _ _ _ _ _ _ _)
   | (with_reducible exact impl_FilterImage.mono _ _ _ _ _)
   | (with_reducible exact impl_UnfilterImage.mono _ _ _ _ _)
   | (with_reducible exact laws_equalImage.mono _ _ _ _ _ _ _ _ _)
   | (with_reducible exact spec_DrawUnfilterImage.mono _ _)
   | (with_reducible exact spec_UnfilterImage.mono _ _ _ _ _)
   | (with_reducible exact LeO.refl _)
   | (with_reducible exact LeO.none _)
   | (with_reducible refine LeO.ite ?_ ?_)
   | (with_reducible refine LeO.bind ?_ (fun _ => ?_))
   | exact ih0 _ _ _ _ _ _ _ _ _ _ _ _ _ _
   | exact impl_FilterImage.mono _ _ _ _ _
   | exact impl_UnfilterImage.mono _ _ _ _ _
   | exact laws_equalImage.mono _ _ _ _ _ _ _ _ _
   | exact spec_DrawUnfilterImage.mono _ _
   | exact spec_UnfilterImage.mono _ _ _ _ _
   | exact LeO.none _
   | refine LeO.ite ?_ ?_
   | refine LeO.bind ?_ (fun _ => ?_)
theorem laws_FnUnfilterImage.mono : ∀ a0 k, LeO (laws_FnUnfilterImage.f k a0) (laws_FnUnfilterImage.f (k + 1) a0) := by
 intro a0 k
 have ih0 := laws_FnUnfilterImage.mono_l k
 unfold laws_FnUnfilterImage.f
 repeat' first
   | (with_reducible exact ih0 _ _ _ _ _ _ _ _ _ _ _ _ _ _)
   | (with_reducible exact impl_FilterImage.mono _ _ _ _ _)
   | (with_reducible exact impl_UnfilterImage.mono _ _ _ _ _)
   | (with_reducible exact laws_equalImage.mono _ _ _ _ _ _ _ _ _)
   | (with_reducible exact spec_DrawUnfilterImage.mono _ _)
   | (with_reducible exact spec_UnfilterImage.mono _ _ _ _ _)
   | (with_reducible exact LeO.refl _)
   | (with_reducible exact LeO.none _)
   | (with_reducible refine LeO.ite ?_ ?_)
   | (with_reducible refine LeO.bind ?_ (fun _ => ?_))
   | exact ih0 _ _ _ _ _ _ _ _ _ _ _ _ _ _
   | exact impl_FilterImage.mono _ _ _ _ _
   | exact impl_UnfilterImage.mono _ _ _ _ _
   | exact laws_equalImage.mono _ _ _ _ _ _ _ _ _
   | exact spec_DrawUnfilterImage.mono _ _
   | exact spec_UnfilterImage.mono _ _ _ _ _
   | exact LeO.none _
   | refine LeO.ite ?_ ?_
   | refine LeO.bind ?_ (fun _ => ?_)
set_option maxHeartbeats 8000000 in
set_option maxRecDepth 100000 in
theorem laws_FnUnfilterImage.calls (k : Nat) (A0 : Option Addr) (c0 : Nat) (l0 : List Int) (r : Bool) (w : World) (hr0 : Kd.C (Kd.int .u8) w A0 l0.length l0) (hc0 : l0.length ≤ c0) (h : laws_FnUnfilterImage.f k l0 = some r) (hrt : r = true) :
  Calls Try.prog 9 #[.slice A0 l0.length c0] w fun e w' => e = .returned (.bool r) ∧ Below w.heap.size w w' := by
 have hu24 := Try.underlying24
 have HR0 := Aside0.mk hr0
 have HC0 := Aside0.mk hc0
 clear hr0 hc0
 have HB := Aside0.mk (Below.refl w.heap.size w)
 have H : (if (l0.length : Int) > 1048576 then (some true) else ((spec_DrawUnfilterImage.f k l0).bind fun bt1026 => ((impl_UnfilterImage.f k bt1026.1 bt1026.2.1 bt1026.2.2.1 bt1026.2.2.2).bind fun bt1032 => ((spec_UnfilterImage.f k bt1026.1 bt1026.2.1 bt1026.2.2.1 bt1026.2.2.2).bind fun bt1040 => ((laws_equalImage.f k bt1032.1 bt1032.2.1 bt1032.2.2.1 bt1032.2.2.2.1 bt1040.1 bt1040.2.1 bt1040.2.2.1 bt1040.2.2.2.1).bind fun t1048 => (if t1048 = true then (if (bt1032.2.2.2.2 != bt1040.2.2.2.2) = true then (laws_FnUnfilterImage.j0 k bt1026.1 bt1026.2.1 bt1026.2.2.1 bt1032.2.2.2.2 bt1040.2.2.2.2 true bt1032.1 bt1032.2.1 bt1032.2.2.1 bt1032.2.2.2.1 bt1040.1 bt1040.2.1 bt1040.2.2.1 bt1040.2.2.2.1) else (laws_FnUnfilterImage.j0 k bt1026.1 bt1026.2.1 bt1026.2.2.1 bt1032.2.2.2.2 bt1040.2.2.2.2 (!bt1032.2.2.2.2) bt1032.1 bt1032.2.1 bt1032.2.2.1 bt1032.2.2.2.1 bt1040.1 bt1040.2.1 bt1040.2.2.1 bt1040.2.2.2.1)) else (laws_FnUnfilterImage.j0 k bt1026.1 bt1026.2.1 bt1026.2.2.1 bt1032.2.2.2.2 bt1040.2.2.2.2 true bt1032.1 bt1032.2.1 bt1032.2.2.1 bt1032.2.2.2.1 bt1040.1 bt1040.2.1 bt1040.2.2.1 bt1040.2.2.2.1))))))) = some r := h
 clear h
 by_cases c2 : (l0.length : Int) > 1048576
 ·
  rw [if_pos c2] at H
  have c2b0 : decide (1048576 < (l0.length : Int)) = true := decide_eq_true c2
  have c2b1 : decide (1048576 < l0.length) = true := decide_eq_true (by omega)
  clear c2
  obtain rfl := Option.some.inj H
  go_enter Try.func9, Try.ntmps9
  go_wp2
  go_ret
  exact ⟨by first | rfl | (simp [errW_none, errW_some] <;> rfl) | (simp [*, errW_none, errW_some] <;> rfl), by repeat (first | (with_reducible first | exact HB.out | apply below_alloc | apply pw_below_drewN | apply below_drew1) | exact HB.out)⟩
 ·
  rw [if_neg c2] at H
  have c2b0 : decide (1048576 < (l0.length : Int)) = false := decide_eq_false c2
  have c2b1 : decide (1048576 < l0.length) = false := decide_eq_false (by omega)
  clear c2
  replace H := Option.bind_eq_some_iff.mp H
  obtain ⟨⟨t1026, t1027, t1028, t1029⟩, A30, H⟩ := H
  replace H : ((impl_UnfilterImage.f k t1026 t1027 t1028 t1029).bind fun bt1032 => ((spec_UnfilterImage.f k t1026 t1027 t1028 t1029).bind fun bt1040 => ((laws_equalImage.f k bt1032.1 bt1032.2.1 bt1032.2.2.1 bt1032.2.2.2.1 bt1040.1 bt1040.2.1 bt1040.2.2.1 bt1040.2.2.2.1).bind fun t1048 => (if t1048 = true then (if (bt1032.2.2.2.2 != bt1040.2.2.2.2) = true then (laws_FnUnfilterImage.j0 k t1026 t1027 t1028 bt1032.2.2.2.2 bt1040.2.2.2.2 true bt1032.1 bt1032.2.1 bt1032.2.2.1 bt1032.2.2.2.1 bt1040.1 bt1040.2.1 bt1040.2.2.1 bt1040.2.2.2.1) else (laws_FnUnfilterImage.j0 k t1026 t1027 t1028 bt1032.2.2.2.2 bt1040.2.2.2.2 (!bt1032.2.2.2.2) bt1032.1 bt1032.2.1 bt1032.2.2.1 bt1032.2.2.2.1 bt1040.1 bt1040.2.1 bt1040.2.2.1 bt1040.2.2.2.1)) else (laws_FnUnfilterImage.j0 k t1026 t1027 t1028 bt1032.2.2.2.2 bt1040.2.2.2.2 true bt1032.1 bt1032.2.1 bt1032.2.2.1 bt1032.2.2.2.1 bt1040.1 bt1040.2.1 bt1040.2.2.1 bt1040.2.2.2.1))))) = some r := H
  have A3 := Aside0.mk A30
  clear A30
  replace H := Option.bind_eq_some_iff.mp H
  obtain ⟨⟨t1032, t1033, t1034, t1035, t1038⟩, A40, H⟩ := H
  replace H : ((spec_UnfilterImage.f k t1026 t1027 t1028 t1029).bind fun bt1040 => ((laws_equalImage.f k t1032 t1033 t1034 t1035 bt1040.1 bt1040.2.1 bt1040.2.2.1 bt1040.2.2.2.1).bind fun t1048 => (if t1048 = true then (if (t1038 != bt1040.2.2.2.2) = true then (laws_FnUnfilterImage.j0 k t1026 t1027 t1028 t1038 bt1040.2.2.2.2 true t1032 t1033 t1034 t1035 bt1040.1 bt1040.2.1 bt1040.2.2.1 bt1040.2.2.2.1) else (laws_FnUnfilterImage.j0 k t1026 t1027 t1028 t1038 bt1040.2.2.2.2 (!t1038) t1032 t1033 t1034 t1035 bt1040.1 bt1040.2.1 bt1040.2.2.1 bt1040.2.2.2.1)) else (laws_FnUnfilterImage.j0 k t1026 t1027 t1028 t1038 bt1040.2.2.2.2 true t1032 t1033 t1034 t1035 bt1040.1 bt1040.2.1 bt1040.2.2.1 bt1040.2.2.2.1)))) = some r := H
  have A4 := Aside0.mk A40
  clear A40
  replace H := Option.bind_eq_some_iff.mp H
  obtain ⟨⟨t1040, t1041, t1042, t1043, t1046⟩, A50, H⟩ := H
  replace H : ((laws_equalImage.f k t1032 t1033 t1034 t1035 t1040 t1041 t1042 t1043).bind fun t1048 => (if t1048 = true then (if (t1038 != t1046) = true then (laws_FnUnfilterImage.j0 k t1026 t1027 t1028 t1038 t1046 true t1032 t1033 t1034 t1035 t1040 t1041 t1042 t1043) else (laws_FnUnfilterImage.j0 k t1026 t1027 t1028 t1038 t1046 (!t1038) t1032 t1033 t1034 t1035 t1040 t1041 t1042 t1043)) else (laws_FnUnfilterImage.j0 k t1026 t1027 t1028 t1038 t1046 true t1032 t1033 t1034 t1035 t1040 t1041 t1042 t1043))) = some r := H
  have A5 := Aside0.mk A50
  clear A50
  have HC6 := Aside0.mk H
  clear H
  go_enter Try.func9, Try.ntmps9
  go_upto_region 6 with (first | ((with_reducible refine gate_callee (f := 32) rfl ?_); refine goesL_ (some 18) rfl rfl Try.func32 (by kernel_rfl) rfl #[.slice A0 l0.length c0] rfl (by (try simp only [List.map_toArray, List.map_cons, List.map_nil]); first | done | rfl | (simp only [List.length_drop, List.length_take]; rfl)) ?_; (with_reducible refine (spec_DrawUnfilterImage.calls k _ _ l0 t1026 t1027 t1028 t1029 _ ?side1 ?side2 A3.out).mono ?_); (case side1 => repeat (first | exact HR0.out | (with_reducible refine Kd.C_alloc ?_ _) | (with_reducible refine Kd.C_drewN ?_ _) | (with_reducible refine Kd.C_drew ?_))); (case side2 => exact HC0.out); rintro e w7 ⟨v1030, rfl, ho0, hb⟩; refine ⟨_, rfl, ?_⟩; have n0_ := Aside0.mk (Kd.Q_lower ho0 (below_size (qW HB.out))); have n1_ := Aside0.mk (below_step (qW HB.out) hb); clear HB; have HO1031 := n0_; have HB := n1_; clear n0_ n1_; (try clear hb); (try clear hb2); (try clear hk); (try clear hi); (try clear ho0); obtain ⟨Ao8, co8, eo8, _⟩ := Kd.Q_slice HO1031.out; subst eo8) | ((with_reducible refine gate_callee (f := 30) rfl ?_); refine goesL_ (some 28) rfl rfl Try.func30 (by kernel_rfl) rfl #[.int .i64 t1026, .int .i64 t1027, .int .i64 t1028, .slice Ao8 t1029.length co8] rfl (by (try simp only [List.map_toArray, List.map_cons, List.map_nil]); first | done | rfl | (simp only [List.length_drop, List.length_take]; rfl)) ?_; (with_reducible refine (impl_UnfilterImage.calls k t1026 t1027 t1028 _ _ t1029 t1032 t1033 t1034 t1035 t1038 _ ?side1 ?side2 A4.out).mono ?_); (case side1 => repeat (first | exact (Kd.Q_reads' HO1031.out).2.2 | (with_reducible refine Kd.C_alloc ?_ _) | (with_reducible refine Kd.C_drewN ?_ _) | (with_reducible refine Kd.C_drew ?_))); (case side2 => exact (Kd.Q_reads' HO1031.out).2.1); rintro e w9 ⟨v1036, rfl, ho0, hb⟩; refine ⟨_, rfl, ?_⟩; have n0_ := Aside0.mk (Kd.Q_elder' (qQ HO1031.out) (Kd.R_base ho0) hb); have n1_ := Aside0.mk (Kd.R_lower (Kd.R_new' ho0 (Kd.Q_lt (qQ HO1031.out))) (below_size (qW HB.out))); have n2_ := Aside0.mk (below_step (qW HB.out) hb); clear HO1031; clear HB; have HO1031 := n0_; have HO1037 := n1_; have HB := n2_; clear n0_ n1_ n2_; (try clear hb); (try clear hb2); (try clear hk); (try clear hi); (try clear ho0)) | ((with_reducible refine gate_dst (N := 7) rfl ?_); refine box_event ?hg (N := 7) ?hd (cs := #[.int .i64 0, .int .i64 0, .int .i64 0, .slice none 0 0]) (t := 24) ?hr ?_; (case hd => rfl); (case hg => rfl); (case hr => first | (go_simp; done) | (go_simp; rfl)); intro gb1039 hg w10 hbox hb; have n0_ := Aside0.mk (Kd.Q_below (qQ HO1031.out) hb); have n1_ := Aside0.mk (Kd.R_below (qR HO1037.out) hb); have n2_ := Aside0.mk (below_step (qW HB.out) hb); have n3_ := Aside0.mk (hbox); have n4_ := Aside0.mk ((by rw [hg]; exact (below_size (qW HB.out)) : w.heap.size ≤ gb1039)); have n5_ := Aside0.mk ((by rw [hg]; exact (below_size (qW HB.out)) : w.heap.size ≤ gb1039)); clear HO1031; clear HO1037; clear HB; have HO1031 := n0_; have HO1037 := n1_; have HB := n2_; have BK1039 := n3_; have GW1039 := n4_; have GE1039 := n5_; clear n0_ n1_ n2_ n3_ n4_ n5_; clear hb hbox hg; have hcz11_0 : w10.cell? ⟨gb1039, 0, none⟩ = some (.int .i64 0) := (blk_cell BK1039.out 0).trans rfl; have hcz11_1 : w10.cell? ⟨gb1039, 1, none⟩ = some (.int .i64 0) := (blk_cell BK1039.out 1).trans rfl; have hcz11_2 : w10.cell? ⟨gb1039, 2, none⟩ = some (.int .i64 0) := (blk_cell BK1039.out 2).trans rfl; have hcz11_3 : w10.cell? ⟨gb1039, 3, none⟩ = some (.slice none 0 0) := (blk_cell BK1039.out 3).trans rfl; have hfz11_0 := blk_frozen BK1039.out 0; have hfz11_1 := blk_frozen BK1039.out 1; have hfz11_2 := blk_frozen BK1039.out 2; have hfz11_3 := blk_frozen BK1039.out 3; obtain ⟨Ao12, co12, eo12⟩ := Kd.R_slice HO1037.out; subst eo12) | ((with_reducible refine gate_callee (f := 31) rfl ?_); refine goesL_ (some 36) rfl rfl Try.func31 (by kernel_rfl) rfl #[.int .i64 t1026, .int .i64 t1027, .int .i64 t1028, .slice Ao8 t1029.length co8] rfl (by (try simp only [List.map_toArray, List.map_cons, List.map_nil]); first | done | rfl | (simp only [List.length_drop, List.length_take]; rfl)) ?_; (with_reducible refine (spec_UnfilterImage.calls k t1026 t1027 t1028 _ _ t1029 t1040 t1041 t1042 t1043 t1046 _ ?side1 ?side2 A5.out).mono ?_); (case side1 => refine (Kd.Q_reads' (e := 3) (base := w.heap.size) (ok := fun k_ => (True ∧ some k_ ≠ (.slice Ao12 t1035.length co12 : Value).ownBlock)) (n := t1029.length) (c := co8) ?_).2.2; exact (by (with_reducible repeat (first | apply Kd.Q_alloc | apply Kd.Q_drewN | apply Kd.Q_drew)); exact (Kd.Q_mono (Kd.Q_far (p := ⟨gb1039, 3, none⟩) (Kd.Q_far (p := ⟨gb1039, 2, none⟩) (Kd.Q_far (p := ⟨gb1039, 1, none⟩) (Kd.Q_far (p := ⟨gb1039, 0, none⟩) (Kd.Q_types HO1031.out BK1039.out (by decide)) (fun _ hk => hk.2) (.int .i64 t1032)) (fun _ hk => hk.2) (.int .i64 t1033)) (fun _ hk => hk.2) (.int .i64 t1034)) (fun _ hk => hk.2) (.slice Ao12 t1035.length co12)) (fun _ h_ => h_.1)))); (case side2 => exact (Kd.Q_reads' HO1031.out).2.1); rintro e w13 ⟨v1044, rfl, ho0, hb⟩; refine ⟨_, rfl, ?_⟩; have n0_ := Aside0.mk (Kd.Q_elder' (by (with_reducible repeat (first | apply Kd.Q_alloc | apply Kd.Q_drewN | apply Kd.Q_drew)); exact (Kd.Q_mono (Kd.Q_far (p := ⟨gb1039, 3, none⟩) (Kd.Q_far (p := ⟨gb1039, 2, none⟩) (Kd.Q_far (p := ⟨gb1039, 1, none⟩) (Kd.Q_far (p := ⟨gb1039, 0, none⟩) (Kd.Q_types HO1031.out BK1039.out (by decide)) (fun _ hk => hk.2) (.int .i64 t1032)) (fun _ hk => hk.2) (.int .i64 t1033)) (fun _ hk => hk.2) (.int .i64 t1034)) (fun _ hk => hk.2) (.slice Ao12 t1035.length co12)) (fun _ h_ => h_.1))) (Kd.R_base ho0) hb); have n1_ := Aside0.mk (Kd.R_elder' (by (with_reducible repeat (first | apply Kd.R_alloc | apply Kd.R_drewN | apply Kd.R_drew)); exact (Kd.R_mono (Kd.R_far (p := ⟨gb1039, 3, none⟩) (Kd.R_far (p := ⟨gb1039, 2, none⟩) (Kd.R_far (p := ⟨gb1039, 1, none⟩) (Kd.R_far (p := ⟨gb1039, 0, none⟩) (Kd.R_types HO1037.out BK1039.out (by decide)) (fun _ hk => hk.2) (.int .i64 t1032)) (fun _ hk => hk.2) (.int .i64 t1033)) (fun _ hk => hk.2) (.int .i64 t1034)) (fun _ hk => hk.2) (.slice Ao12 t1035.length co12)) (fun _ h_ => h_.1))) (Kd.R_base ho0) hb); have n2_ := Aside0.mk (Kd.R_lower (Kd.R_new' (Kd.R_new' ho0 (Kd.Q_lt (by (with_reducible repeat (first | apply Kd.Q_alloc | apply Kd.Q_drewN | apply Kd.Q_drew)); exact (Kd.Q_mono (Kd.Q_far (p := ⟨gb1039, 3, none⟩) (Kd.Q_far (p := ⟨gb1039, 2, none⟩) (Kd.Q_far (p := ⟨gb1039, 1, none⟩) (Kd.Q_far (p := ⟨gb1039, 0, none⟩) (Kd.Q_types HO1031.out BK1039.out (by decide)) (fun _ hk => hk.2) (.int .i64 t1032)) (fun _ hk => hk.2) (.int .i64 t1033)) (fun _ hk => hk.2) (.int .i64 t1034)) (fun _ hk => hk.2) (.slice Ao12 t1035.length co12)) (fun _ h_ => h_.1))))) (Kd.R_lt (by (with_reducible repeat (first | apply Kd.R_alloc | apply Kd.R_drewN | apply Kd.R_drew)); exact (Kd.R_mono (Kd.R_far (p := ⟨gb1039, 3, none⟩) (Kd.R_far (p := ⟨gb1039, 2, none⟩) (Kd.R_far (p := ⟨gb1039, 1, none⟩) (Kd.R_far (p := ⟨gb1039, 0, none⟩) (Kd.R_types HO1037.out BK1039.out (by decide)) (fun _ hk => hk.2) (.int .i64 t1032)) (fun _ hk => hk.2) (.int .i64 t1033)) (fun _ hk => hk.2) (.int .i64 t1034)) (fun _ hk => hk.2) (.slice Ao12 t1035.length co12)) (fun _ h_ => h_.1))))) (below_size (qW HB.out))); have n3_ := Aside0.mk (blk_below (g := gb1039) (o := .cells #[.int .i64 t1032, .int .i64 t1033, .int .i64 t1034, .slice Ao12 t1035.length co12] 24 (0, 0)) (by (with_reducible repeat (first | refine blk_drewN ?_ _ | refine blk_drew ?_ | refine blk_alloc ?_ _)); refine blk_put (cs := #[.int .i64 t1032, .int .i64 t1033, .int .i64 t1034, .slice none 0 0]) ?_ 3 _ rfl; (with_reducible repeat (first | refine blk_drewN ?_ _ | refine blk_drew ?_ | refine blk_alloc ?_ _)); refine blk_put (cs := #[.int .i64 t1032, .int .i64 t1033, .int .i64 0, .slice none 0 0]) ?_ 2 _ rfl; (with_reducible repeat (first | refine blk_drewN ?_ _ | refine blk_drew ?_ | refine blk_alloc ?_ _)); refine blk_put (cs := #[.int .i64 t1032, .int .i64 0, .int .i64 0, .slice none 0 0]) ?_ 1 _ rfl; (with_reducible repeat (first | refine blk_drewN ?_ _ | refine blk_drew ?_ | refine blk_alloc ?_ _)); refine blk_put (cs := #[.int .i64 0, .int .i64 0, .int .i64 0, .slice none 0 0]) ?_ 0 _ rfl; (with_reducible repeat (first | refine blk_drewN ?_ _ | refine blk_drew ?_ | refine blk_alloc ?_ _)); exact BK1039.out) hb); have n4_ := Aside0.mk (below_step (qW HB.out) hb); clear HO1031; clear HO1037; clear BK1039; clear HB; have HO1031 := n0_; have HO1037 := n1_; have HO1045 := n2_; have BK1039 := n3_; have HB := n4_; clear n0_ n1_ n2_ n3_ n4_; (try clear hb); (try clear hb2); (try clear hk); (try clear hi); (try clear ho0)) | ((with_reducible refine gate_dst (N := 9) rfl ?_); refine box_event ?hg (N := 9) ?hd (cs := #[.int .i64 0, .int .i64 0, .int .i64 0, .slice none 0 0]) (t := 24) ?hr ?_; (case hd => rfl); (case hg => rfl); (case hr => first | (go_simp; done) | (go_simp; rfl)); intro gb1047 hg w14 hbox hb; have n0_ := Aside0.mk (Kd.Q_below (qQ HO1031.out) hb); have n1_ := Aside0.mk (Kd.R_below (qR HO1037.out) hb); have n2_ := Aside0.mk (Kd.R_below (qR HO1045.out) hb); have n3_ := bB BK1039 hb; have n4_ := Aside0.mk (below_step (qW HB.out) hb); have n5_ := Aside0.mk (hbox); have n6_ := Aside0.mk ((by rw [hg]; exact (below_size (qW HB.out)) : w.heap.size ≤ gb1047)); have n7_ := Aside0.mk ((by rw [hg]; exact (below_size (qW HB.out)) : w.heap.size ≤ gb1047)); have n8_ := Aside0.mk ((by rw [hg]; exact Nat.ne_of_lt (blk_lt (g := gb1039) (o := .cells #[.int .i64 t1032, .int .i64 t1033, .int .i64 t1034, .slice Ao12 t1035.length co12] 24 (0, 0)) (qB BK1039.out)) : gb1039 ≠ gb1047)); have n9_ := Aside0.mk ((by rw [hg]; exact Nat.ne_of_gt (blk_lt (g := gb1039) (o := .cells #[.int .i64 t1032, .int .i64 t1033, .int .i64 t1034, .slice Ao12 t1035.length co12] 24 (0, 0)) (qB BK1039.out)) : gb1047 ≠ gb1039)); clear HO1031; clear HO1037; clear HO1045; clear BK1039; clear HB; have HO1031 := n0_; have HO1037 := n1_; have HO1045 := n2_; have BK1039 := n3_; have HB := n4_; have BK1047 := n5_; have GW1047 := n6_; have GE1047 := n7_; have NB1039_1047 := n8_; have NB1047_1039 := n9_; clear n0_ n1_ n2_ n3_ n4_ n5_ n6_ n7_ n8_ n9_; clear hb hbox hg; have hnb15 := NB1047_1039.out; have hnc15 := NB1039_1047.out; have hcz16_0 : w14.cell? ⟨gb1047, 0, none⟩ = some (.int .i64 0) := (blk_cell BK1047.out 0).trans rfl; have hcz16_1 : w14.cell? ⟨gb1047, 1, none⟩ = some (.int .i64 0) := (blk_cell BK1047.out 1).trans rfl; have hcz16_2 : w14.cell? ⟨gb1047, 2, none⟩ = some (.int .i64 0) := (blk_cell BK1047.out 2).trans rfl; have hcz16_3 : w14.cell? ⟨gb1047, 3, none⟩ = some (.slice none 0 0) := (blk_cell BK1047.out 3).trans rfl; have hfz16_0 := blk_frozen BK1047.out 0; have hfz16_1 := blk_frozen BK1047.out 1; have hfz16_2 := blk_frozen BK1047.out 2; have hfz16_3 := blk_frozen BK1047.out 3; obtain ⟨Ao17, co17, eo17⟩ := Kd.R_slice HO1045.out; subst eo17))
  (try simp only [Act.put, List.setIfInBounds_toArray, List.set_cons_zero, List.set_cons_succ])
  go_cut [51] (fun v51 wc => ∃ (kq : Nat) (x51_5 : Bool), v51 = .bool x51_5 ∧ Aside0 (laws_FnUnfilterImage.j0 kq t1026 t1027 t1028 t1038 t1046 x51_5 t1032 t1033 t1034 t1035 t1040 t1041 t1042 t1043 = some r) ∧ Aside0 (kq ≤ k) ∧ Aside0 (Kd.R (Kd.int .i64) 3 wc w.heap.size (fun k_ => some k_ ≠ ((.slice Ao17 t1043.length co17) : Value).ownBlock) (.slice Ao12 t1035.length co12) t1035) ∧ Aside0 (Kd.R (Kd.int .i64) 3 wc w.heap.size (fun k_ => some k_ ≠ ((.slice Ao12 t1035.length co12) : Value).ownBlock) (.slice Ao17 t1043.length co17) t1043) ∧ Aside0 (wc.heap[gb1039]? = some (.cells #[.int .i64 t1032, .int .i64 t1033, .int .i64 t1034, (.slice Ao12 t1035.length co12)] 24 (0, 0))) ∧ Aside0 (wc.heap[gb1047]? = some (.cells #[.int .i64 t1040, .int .i64 t1041, .int .i64 t1042, (.slice Ao17 t1043.length co17)] 24 (0, 0))) ∧ Aside0 (Below w.heap.size w wc))
  case first =>
   have H := HC6.out
   clear HC6
   replace H := Option.bind_eq_some_iff.mp H
   obtain ⟨t1048, A180, H⟩ := H
   replace H : (if t1048 = true then (if (t1038 != t1046) = true then (laws_FnUnfilterImage.j0 k t1026 t1027 t1028 t1038 t1046 true t1032 t1033 t1034 t1035 t1040 t1041 t1042 t1043) else (laws_FnUnfilterImage.j0 k t1026 t1027 t1028 t1038 t1046 (!t1038) t1032 t1033 t1034 t1035 t1040 t1041 t1042 t1043)) else (laws_FnUnfilterImage.j0 k t1026 t1027 t1028 t1038 t1046 true t1032 t1033 t1034 t1035 t1040 t1041 t1042 t1043)) = some r := H
   have A18 := Aside0.mk A180
   clear A180
   by_cases c19 : t1048 = true
   ·
    subst c19
    have H1 : (if (t1038 != t1046) = true then (laws_FnUnfilterImage.j0 k t1026 t1027 t1028 t1038 t1046 true t1032 t1033 t1034 t1035 t1040 t1041 t1042 t1043) else (laws_FnUnfilterImage.j0 k t1026 t1027 t1028 t1038 t1046 (!t1038) t1032 t1033 t1034 t1035 t1040 t1041 t1042 t1043)) = some r := by rw [if_pos rfl] at H; exact H
    clear H
    have H := H1
    clear H1
    by_cases c20 : (t1038 != t1046) = true
    ·
     rw [if_pos c20] at H
     have c20b0 : (t1038 != t1046) = true := c20
     (try (have c20b1 : decide (t1038 = t1046) = false := by simpa using c20))
     (try (have c20b2 : (t1038 == t1046) = false := by simpa using c20))
     (try (have c20b3 : ¬ (t1038 = t1046) := by simpa using c20))
     clear c20
     (first | rw [c20b0] | (simp only [i64_w, i32_w]; rw [c20b0]) | skip)
     have H' := Aside0.mk H
     clear H
     have hnb21 := NB1039_1047.out
     have hnc21 := NB1047_1039.out
     have hcz22_0 : w14.cell? ⟨gb1039, 0, none⟩ = some (.int .i64 t1032) := (blk_cell BK1039.out 0).trans rfl
     have hcz22_1 : w14.cell? ⟨gb1039, 1, none⟩ = some (.int .i64 t1033) := (blk_cell BK1039.out 1).trans rfl
     have hcz22_2 : w14.cell? ⟨gb1039, 2, none⟩ = some (.int .i64 t1034) := (blk_cell BK1039.out 2).trans rfl
     have hcz22_3 : w14.cell? ⟨gb1039, 3, none⟩ = some (.slice Ao12 t1035.length co12) := (blk_cell BK1039.out 3).trans rfl
     have hfz22_0 := blk_frozen BK1039.out 0
     have hfz22_1 := blk_frozen BK1039.out 1
     have hfz22_2 := blk_frozen BK1039.out 2
     have hfz22_3 := blk_frozen BK1039.out 3
     have hcz23_0 : w14.cell? ⟨gb1047, 0, none⟩ = some (.int .i64 0) := (blk_cell BK1047.out 0).trans rfl
     have hcz23_1 : w14.cell? ⟨gb1047, 1, none⟩ = some (.int .i64 0) := (blk_cell BK1047.out 1).trans rfl
     have hcz23_2 : w14.cell? ⟨gb1047, 2, none⟩ = some (.int .i64 0) := (blk_cell BK1047.out 2).trans rfl
     have hcz23_3 : w14.cell? ⟨gb1047, 3, none⟩ = some (.slice none 0 0) := (blk_cell BK1047.out 3).trans rfl
     have hfz23_0 := blk_frozen BK1047.out 0
     have hfz23_1 := blk_frozen BK1047.out 1
     have hfz23_2 := blk_frozen BK1047.out 2
     have hfz23_3 := blk_frozen BK1047.out 3
     go_wp2_with (first | ((with_reducible refine gate_callee (f := 21) rfl ?_); refine goesL_ (some 41) rfl rfl Try.func21 (by kernel_rfl) rfl #[.agg #[.int .i64 t1032, .int .i64 t1033, .int .i64 t1034, .slice Ao12 t1035.length co12], .agg #[.int .i64 t1040, .int .i64 t1041, .int .i64 t1042, .slice Ao17 t1043.length co17]] rfl (by (try simp only [List.map_toArray, List.map_cons, List.map_nil]); first | done | rfl | (simp only [List.length_drop, List.length_take]; rfl)) ?_; (with_reducible refine (laws_equalImage.calls k t1032 t1033 t1034 _ _ t1035 t1040 t1041 t1042 _ _ t1043 true _ ?side1 ?side2 ?side3 ?side4 A18.out).mono ?_); (case side1 => refine (Kd.R_reads' (e := 3) (base := w.heap.size) (ok := fun k_ => ((True ∧ some k_ ≠ (.slice Ao8 t1029.length co8 : Value).ownBlock) ∧ some k_ ≠ (.slice Ao17 t1043.length co17 : Value).ownBlock)) (n := t1035.length) (c := co12) ?_).2.2; exact (by (with_reducible repeat (first | apply Kd.R_alloc | apply Kd.R_drewN | apply Kd.R_drew)); exact (Kd.R_mono (Kd.R_far (p := ⟨gb1047, 3, none⟩) (Kd.R_far (p := ⟨gb1047, 2, none⟩) (Kd.R_far (p := ⟨gb1047, 1, none⟩) (Kd.R_far (p := ⟨gb1047, 0, none⟩) (Kd.R_types HO1037.out BK1047.out (by decide)) (fun _ hk => hk.2) (.int .i64 t1040)) (fun _ hk => hk.2) (.int .i64 t1041)) (fun _ hk => hk.2) (.int .i64 t1042)) (fun _ hk => hk.2) (.slice Ao17 t1043.length co17)) (fun _ h_ => h_.1)))); (case side2 => exact (Kd.R_reads' HO1037.out).2.1); (case side3 => refine (Kd.R_reads' (e := 3) (base := w.heap.size) (ok := fun k_ => ((True ∧ some k_ ≠ (.slice Ao8 t1029.length co8 : Value).ownBlock) ∧ some k_ ≠ (.slice Ao12 t1035.length co12 : Value).ownBlock)) (n := t1043.length) (c := co17) ?_).2.2; exact (by (with_reducible repeat (first | apply Kd.R_alloc | apply Kd.R_drewN | apply Kd.R_drew)); exact (Kd.R_mono (Kd.R_far (p := ⟨gb1047, 3, none⟩) (Kd.R_far (p := ⟨gb1047, 2, none⟩) (Kd.R_far (p := ⟨gb1047, 1, none⟩) (Kd.R_far (p := ⟨gb1047, 0, none⟩) (Kd.R_types HO1045.out BK1047.out (by decide)) (fun _ hk => hk.2) (.int .i64 t1040)) (fun _ hk => hk.2) (.int .i64 t1041)) (fun _ hk => hk.2) (.int .i64 t1042)) (fun _ hk => hk.2) (.slice Ao17 t1043.length co17)) (fun _ h_ => h_.1)))); (case side4 => exact (Kd.R_reads' HO1045.out).2.1); rintro e w24 ⟨rfl, hb⟩; refine ⟨_, rfl, ?_⟩; have n0_ := Aside0.mk (Kd.Q_below (by (with_reducible repeat (first | apply Kd.Q_alloc | apply Kd.Q_drewN | apply Kd.Q_drew)); exact (Kd.Q_mono (Kd.Q_far (p := ⟨gb1047, 3, none⟩) (Kd.Q_far (p := ⟨gb1047, 2, none⟩) (Kd.Q_far (p := ⟨gb1047, 1, none⟩) (Kd.Q_far (p := ⟨gb1047, 0, none⟩) (Kd.Q_types HO1031.out BK1047.out (by decide)) (fun _ hk => hk.2) (.int .i64 t1040)) (fun _ hk => hk.2) (.int .i64 t1041)) (fun _ hk => hk.2) (.int .i64 t1042)) (fun _ hk => hk.2) (.slice Ao17 t1043.length co17)) (fun _ h_ => h_.1))) hb); have n1_ := Aside0.mk (Kd.R_below (by (with_reducible repeat (first | apply Kd.R_alloc | apply Kd.R_drewN | apply Kd.R_drew)); exact (Kd.R_mono (Kd.R_far (p := ⟨gb1047, 3, none⟩) (Kd.R_far (p := ⟨gb1047, 2, none⟩) (Kd.R_far (p := ⟨gb1047, 1, none⟩) (Kd.R_far (p := ⟨gb1047, 0, none⟩) (Kd.R_types HO1037.out BK1047.out (by decide)) (fun _ hk => hk.2) (.int .i64 t1040)) (fun _ hk => hk.2) (.int .i64 t1041)) (fun _ hk => hk.2) (.int .i64 t1042)) (fun _ hk => hk.2) (.slice Ao17 t1043.length co17)) (fun _ h_ => h_.1))) hb); have n2_ := Aside0.mk (Kd.R_below (by (with_reducible repeat (first | apply Kd.R_alloc | apply Kd.R_drewN | apply Kd.R_drew)); exact (Kd.R_mono (Kd.R_far (p := ⟨gb1047, 3, none⟩) (Kd.R_far (p := ⟨gb1047, 2, none⟩) (Kd.R_far (p := ⟨gb1047, 1, none⟩) (Kd.R_far (p := ⟨gb1047, 0, none⟩) (Kd.R_types HO1045.out BK1047.out (by decide)) (fun _ hk => hk.2) (.int .i64 t1040)) (fun _ hk => hk.2) (.int .i64 t1041)) (fun _ hk => hk.2) (.int .i64 t1042)) (fun _ hk => hk.2) (.slice Ao17 t1043.length co17)) (fun _ h_ => h_.1))) hb); have n3_ := Aside0.mk (blk_below (g := gb1039) (o := .cells #[.int .i64 t1032, .int .i64 t1033, .int .i64 t1034, .slice Ao12 t1035.length co12] 24 (0, 0)) (by (with_reducible repeat (first | refine blk_drewN ?_ _ | refine blk_drew ?_ | refine blk_alloc ?_ _)); refine blk_far ?_ NB1039_1047.out _; (with_reducible repeat (first | refine blk_drewN ?_ _ | refine blk_drew ?_ | refine blk_alloc ?_ _)); refine blk_far ?_ NB1039_1047.out _; (with_reducible repeat (first | refine blk_drewN ?_ _ | refine blk_drew ?_ | refine blk_alloc ?_ _)); refine blk_far ?_ NB1039_1047.out _; (with_reducible repeat (first | refine blk_drewN ?_ _ | refine blk_drew ?_ | refine blk_alloc ?_ _)); refine blk_far ?_ NB1039_1047.out _; (with_reducible repeat (first | refine blk_drewN ?_ _ | refine blk_drew ?_ | refine blk_alloc ?_ _)); exact BK1039.out) hb); have n4_ := Aside0.mk (blk_below (g := gb1047) (o := .cells #[.int .i64 t1040, .int .i64 t1041, .int .i64 t1042, .slice Ao17 t1043.length co17] 24 (0, 0)) (by (with_reducible repeat (first | refine blk_drewN ?_ _ | refine blk_drew ?_ | refine blk_alloc ?_ _)); refine blk_put (cs := #[.int .i64 t1040, .int .i64 t1041, .int .i64 t1042, .slice none 0 0]) ?_ 3 _ rfl; (with_reducible repeat (first | refine blk_drewN ?_ _ | refine blk_drew ?_ | refine blk_alloc ?_ _)); refine blk_put (cs := #[.int .i64 t1040, .int .i64 t1041, .int .i64 0, .slice none 0 0]) ?_ 2 _ rfl; (with_reducible repeat (first | refine blk_drewN ?_ _ | refine blk_drew ?_ | refine blk_alloc ?_ _)); refine blk_put (cs := #[.int .i64 t1040, .int .i64 0, .int .i64 0, .slice none 0 0]) ?_ 1 _ rfl; (with_reducible repeat (first | refine blk_drewN ?_ _ | refine blk_drew ?_ | refine blk_alloc ?_ _)); refine blk_put (cs := #[.int .i64 0, .int .i64 0, .int .i64 0, .slice none 0 0]) ?_ 0 _ rfl; (with_reducible repeat (first | refine blk_drewN ?_ _ | refine blk_drew ?_ | refine blk_alloc ?_ _)); exact BK1047.out) hb); have n5_ := Aside0.mk (below_step (qW HB.out) hb); clear HO1031; clear HO1037; clear HO1045; clear BK1039; clear BK1047; clear HB; have HO1031 := n0_; have HO1037 := n1_; have HO1045 := n2_; have BK1039 := n3_; have BK1047 := n4_; have HB := n5_; clear n0_ n1_ n2_ n3_ n4_ n5_; (try clear hb); (try clear hb2); (try clear hk); (try clear hi)))
     go_meet
     case rel => exact ⟨_, (true), (by first | rfl | (simp; done) | (simp [*]; done)), H', ⟨by first | omega | exact Nat.le_refl _⟩, ⟨by (with_reducible repeat (first | apply Kd.R_alloc | apply Kd.R_drewN | apply Kd.R_drew)); exact Kd.R_mono HO1037.out (fun _ hk => hk.2)⟩, ⟨by (with_reducible repeat (first | apply Kd.R_alloc | apply Kd.R_drewN | apply Kd.R_drew)); exact Kd.R_mono HO1045.out (fun _ hk => hk.2)⟩, ⟨by (with_reducible repeat (first | refine blk_drewN ?_ _ | refine blk_drew ?_ | refine blk_alloc ?_ _)); exact BK1039.out⟩, ⟨by (with_reducible repeat (first | refine blk_drewN ?_ _ | refine blk_drew ?_ | refine blk_alloc ?_ _)); exact BK1047.out⟩, ⟨by repeat (first | (with_reducible first | exact HB.out | apply below_alloc | apply pw_below_drewN | apply below_drew1 | refine below_set ?_ GE1039.out | refine below_set ?_ GE1047.out) | exact HB.out)⟩⟩
    ·
     rw [if_neg c20] at H
     have c20b0 : (t1038 != t1046) = false := by simpa using c20
     (try (have c20b1 : decide (t1038 = t1046) = true := by simpa using c20))
     (try (have c20b2 : (t1038 == t1046) = true := by simpa using c20))
     clear c20
     (first | rw [c20b0] | (simp only [i64_w, i32_w]; rw [c20b0]) | skip)
     have H' := Aside0.mk H
     clear H
     have hnb25 := NB1039_1047.out
     have hnc25 := NB1047_1039.out
     have hcz26_0 : w14.cell? ⟨gb1039, 0, none⟩ = some (.int .i64 t1032) := (blk_cell BK1039.out 0).trans rfl
     have hcz26_1 : w14.cell? ⟨gb1039, 1, none⟩ = some (.int .i64 t1033) := (blk_cell BK1039.out 1).trans rfl
     have hcz26_2 : w14.cell? ⟨gb1039, 2, none⟩ = some (.int .i64 t1034) := (blk_cell BK1039.out 2).trans rfl
     have hcz26_3 : w14.cell? ⟨gb1039, 3, none⟩ = some (.slice Ao12 t1035.length co12) := (blk_cell BK1039.out 3).trans rfl
     have hfz26_0 := blk_frozen BK1039.out 0
     have hfz26_1 := blk_frozen BK1039.out 1
     have hfz26_2 := blk_frozen BK1039.out 2
     have hfz26_3 := blk_frozen BK1039.out 3
     have hcz27_0 : w14.cell? ⟨gb1047, 0, none⟩ = some (.int .i64 0) := (blk_cell BK1047.out 0).trans rfl
     have hcz27_1 : w14.cell? ⟨gb1047, 1, none⟩ = some (.int .i64 0) := (blk_cell BK1047.out 1).trans rfl
     have hcz27_2 : w14.cell? ⟨gb1047, 2, none⟩ = some (.int .i64 0) := (blk_cell BK1047.out 2).trans rfl
     have hcz27_3 : w14.cell? ⟨gb1047, 3, none⟩ = some (.slice none 0 0) := (blk_cell BK1047.out 3).trans rfl
     have hfz27_0 := blk_frozen BK1047.out 0
     have hfz27_1 := blk_frozen BK1047.out 1
     have hfz27_2 := blk_frozen BK1047.out 2
     have hfz27_3 := blk_frozen BK1047.out 3
     go_wp2_with (first | ((with_reducible refine gate_callee (f := 21) rfl ?_); refine goesL_ (some 41) rfl rfl Try.func21 (by kernel_rfl) rfl #[.agg #[.int .i64 t1032, .int .i64 t1033, .int .i64 t1034, .slice Ao12 t1035.length co12], .agg #[.int .i64 t1040, .int .i64 t1041, .int .i64 t1042, .slice Ao17 t1043.length co17]] rfl (by (try simp only [List.map_toArray, List.map_cons, List.map_nil]); first | done | rfl | (simp only [List.length_drop, List.length_take]; rfl)) ?_; (with_reducible refine (laws_equalImage.calls k t1032 t1033 t1034 _ _ t1035 t1040 t1041 t1042 _ _ t1043 true _ ?side1 ?side2 ?side3 ?side4 A18.out).mono ?_); (case side1 => refine (Kd.R_reads' (e := 3) (base := w.heap.size) (ok := fun k_ => ((True ∧ some k_ ≠ (.slice Ao8 t1029.length co8 : Value).ownBlock) ∧ some k_ ≠ (.slice Ao17 t1043.length co17 : Value).ownBlock)) (n := t1035.length) (c := co12) ?_).2.2; exact (by (with_reducible repeat (first | apply Kd.R_alloc | apply Kd.R_drewN | apply Kd.R_drew)); exact (Kd.R_mono (Kd.R_far (p := ⟨gb1047, 3, none⟩) (Kd.R_far (p := ⟨gb1047, 2, none⟩) (Kd.R_far (p := ⟨gb1047, 1, none⟩) (Kd.R_far (p := ⟨gb1047, 0, none⟩) (Kd.R_types HO1037.out BK1047.out (by decide)) (fun _ hk => hk.2) (.int .i64 t1040)) (fun _ hk => hk.2) (.int .i64 t1041)) (fun _ hk => hk.2) (.int .i64 t1042)) (fun _ hk => hk.2) (.slice Ao17 t1043.length co17)) (fun _ h_ => h_.1)))); (case side2 => exact (Kd.R_reads' HO1037.out).2.1); (case side3 => refine (Kd.R_reads' (e := 3) (base := w.heap.size) (ok := fun k_ => ((True ∧ some k_ ≠ (.slice Ao8 t1029.length co8 : Value).ownBlock) ∧ some k_ ≠ (.slice Ao12 t1035.length co12 : Value).ownBlock)) (n := t1043.length) (c := co17) ?_).2.2; exact (by (with_reducible repeat (first | apply Kd.R_alloc | apply Kd.R_drewN | apply Kd.R_drew)); exact (Kd.R_mono (Kd.R_far (p := ⟨gb1047, 3, none⟩) (Kd.R_far (p := ⟨gb1047, 2, none⟩) (Kd.R_far (p := ⟨gb1047, 1, none⟩) (Kd.R_far (p := ⟨gb1047, 0, none⟩) (Kd.R_types HO1045.out BK1047.out (by decide)) (fun _ hk => hk.2) (.int .i64 t1040)) (fun _ hk => hk.2) (.int .i64 t1041)) (fun _ hk => hk.2) (.int .i64 t1042)) (fun _ hk => hk.2) (.slice Ao17 t1043.length co17)) (fun _ h_ => h_.1)))); (case side4 => exact (Kd.R_reads' HO1045.out).2.1); rintro e w28 ⟨rfl, hb⟩; refine ⟨_, rfl, ?_⟩; have n0_ := Aside0.mk (Kd.Q_below (by (with_reducible repeat (first | apply Kd.Q_alloc | apply Kd.Q_drewN | apply Kd.Q_drew)); exact (Kd.Q_mono (Kd.Q_far (p := ⟨gb1047, 3, none⟩) (Kd.Q_far (p := ⟨gb1047, 2, none⟩) (Kd.Q_far (p := ⟨gb1047, 1, none⟩) (Kd.Q_far (p := ⟨gb1047, 0, none⟩) (Kd.Q_types HO1031.out BK1047.out (by decide)) (fun _ hk => hk.2) (.int .i64 t1040)) (fun _ hk => hk.2) (.int .i64 t1041)) (fun _ hk => hk.2) (.int .i64 t1042)) (fun _ hk => hk.2) (.slice Ao17 t1043.length co17)) (fun _ h_ => h_.1))) hb); have n1_ := Aside0.mk (Kd.R_below (by (with_reducible repeat (first | apply Kd.R_alloc | apply Kd.R_drewN | apply Kd.R_drew)); exact (Kd.R_mono (Kd.R_far (p := ⟨gb1047, 3, none⟩) (Kd.R_far (p := ⟨gb1047, 2, none⟩) (Kd.R_far (p := ⟨gb1047, 1, none⟩) (Kd.R_far (p := ⟨gb1047, 0, none⟩) (Kd.R_types HO1037.out BK1047.out (by decide)) (fun _ hk => hk.2) (.int .i64 t1040)) (fun _ hk => hk.2) (.int .i64 t1041)) (fun _ hk => hk.2) (.int .i64 t1042)) (fun _ hk => hk.2) (.slice Ao17 t1043.length co17)) (fun _ h_ => h_.1))) hb); have n2_ := Aside0.mk (Kd.R_below (by (with_reducible repeat (first | apply Kd.R_alloc | apply Kd.R_drewN | apply Kd.R_drew)); exact (Kd.R_mono (Kd.R_far (p := ⟨gb1047, 3, none⟩) (Kd.R_far (p := ⟨gb1047, 2, none⟩) (Kd.R_far (p := ⟨gb1047, 1, none⟩) (Kd.R_far (p := ⟨gb1047, 0, none⟩) (Kd.R_types HO1045.out BK1047.out (by decide)) (fun _ hk => hk.2) (.int .i64 t1040)) (fun _ hk => hk.2) (.int .i64 t1041)) (fun _ hk => hk.2) (.int .i64 t1042)) (fun _ hk => hk.2) (.slice Ao17 t1043.length co17)) (fun _ h_ => h_.1))) hb); have n3_ := Aside0.mk (blk_below (g := gb1039) (o := .cells #[.int .i64 t1032, .int .i64 t1033, .int .i64 t1034, .slice Ao12 t1035.length co12] 24 (0, 0)) (by (with_reducible repeat (first | refine blk_drewN ?_ _ | refine blk_drew ?_ | refine blk_alloc ?_ _)); refine blk_far ?_ NB1039_1047.out _; (with_reducible repeat (first | refine blk_drewN ?_ _ | refine blk_drew ?_ | refine blk_alloc ?_ _)); refine blk_far ?_ NB1039_1047.out _; (with_reducible repeat (first | refine blk_drewN ?_ _ | refine blk_drew ?_ | refine blk_alloc ?_ _)); refine blk_far ?_ NB1039_1047.out _; (with_reducible repeat (first | refine blk_drewN ?_ _ | refine blk_drew ?_ | refine blk_alloc ?_ _)); refine blk_far ?_ NB1039_1047.out _; (with_reducible repeat (first | refine blk_drewN ?_ _ | refine blk_drew ?_ | refine blk_alloc ?_ _)); exact BK1039.out) hb); have n4_ := Aside0.mk (blk_below (g := gb1047) (o := .cells #[.int .i64 t1040, .int .i64 t1041, .int .i64 t1042, .slice Ao17 t1043.length co17] 24 (0, 0)) (by (with_reducible repeat (first | refine blk_drewN ?_ _ | refine blk_drew ?_ | refine blk_alloc ?_ _)); refine blk_put (cs := #[.int .i64 t1040, .int .i64 t1041, .int .i64 t1042, .slice none 0 0]) ?_ 3 _ rfl; (with_reducible repeat (first | refine blk_drewN ?_ _ | refine blk_drew ?_ | refine blk_alloc ?_ _)); refine blk_put (cs := #[.int .i64 t1040, .int .i64 t1041, .int .i64 0, .slice none 0 0]) ?_ 2 _ rfl; (with_reducible repeat (first | refine blk_drewN ?_ _ | refine blk_drew ?_ | refine blk_alloc ?_ _)); refine blk_put (cs := #[.int .i64 t1040, .int .i64 0, .int .i64 0, .slice none 0 0]) ?_ 1 _ rfl; (with_reducible repeat (first | refine blk_drewN ?_ _ | refine blk_drew ?_ | refine blk_alloc ?_ _)); refine blk_put (cs := #[.int .i64 0, .int .i64 0, .int .i64 0, .slice none 0 0]) ?_ 0 _ rfl; (with_reducible repeat (first | refine blk_drewN ?_ _ | refine blk_drew ?_ | refine blk_alloc ?_ _)); exact BK1047.out) hb); have n5_ := Aside0.mk (below_step (qW HB.out) hb); clear HO1031; clear HO1037; clear HO1045; clear BK1039; clear BK1047; clear HB; have HO1031 := n0_; have HO1037 := n1_; have HO1045 := n2_; have BK1039 := n3_; have BK1047 := n4_; have HB := n5_; clear n0_ n1_ n2_ n3_ n4_ n5_; (try clear hb); (try clear hb2); (try clear hk); (try clear hi)))
     go_meet
     case rel => exact ⟨_, (!t1038), (by first | rfl | (simp; done) | (simp [*]; done)), H', ⟨by first | omega | exact Nat.le_refl _⟩, ⟨by (with_reducible repeat (first | apply Kd.R_alloc | apply Kd.R_drewN | apply Kd.R_drew)); exact Kd.R_mono HO1037.out (fun _ hk => hk.2)⟩, ⟨by (with_reducible repeat (first | apply Kd.R_alloc | apply Kd.R_drewN | apply Kd.R_drew)); exact Kd.R_mono HO1045.out (fun _ hk => hk.2)⟩, ⟨by (with_reducible repeat (first | refine blk_drewN ?_ _ | refine blk_drew ?_ | refine blk_alloc ?_ _)); exact BK1039.out⟩, ⟨by (with_reducible repeat (first | refine blk_drewN ?_ _ | refine blk_drew ?_ | refine blk_alloc ?_ _)); exact BK1047.out⟩, ⟨by repeat (first | (with_reducible first | exact HB.out | apply below_alloc | apply pw_below_drewN | apply below_drew1 | refine below_set ?_ GE1039.out | refine below_set ?_ GE1047.out) | exact HB.out)⟩⟩
   ·
    replace c19 := Bool.eq_false_iff.mpr c19
    subst c19
    have H1 : (laws_FnUnfilterImage.j0 k t1026 t1027 t1028 t1038 t1046 true t1032 t1033 t1034 t1035 t1040 t1041 t1042 t1043) = some r := by rw [if_neg (show ¬ (false = true) by decide)] at H; exact H
    clear H
    have H := H1
    clear H1
    have H' := Aside0.mk H
    clear H
    have hnb29 := NB1039_1047.out
    have hnc29 := NB1047_1039.out
    have hcz30_0 : w14.cell? ⟨gb1039, 0, none⟩ = some (.int .i64 t1032) := (blk_cell BK1039.out 0).trans rfl
    have hcz30_1 : w14.cell? ⟨gb1039, 1, none⟩ = some (.int .i64 t1033) := (blk_cell BK1039.out 1).trans rfl
    have hcz30_2 : w14.cell? ⟨gb1039, 2, none⟩ = some (.int .i64 t1034) := (blk_cell BK1039.out 2).trans rfl
    have hcz30_3 : w14.cell? ⟨gb1039, 3, none⟩ = some (.slice Ao12 t1035.length co12) := (blk_cell BK1039.out 3).trans rfl
    have hfz30_0 := blk_frozen BK1039.out 0
    have hfz30_1 := blk_frozen BK1039.out 1
    have hfz30_2 := blk_frozen BK1039.out 2
    have hfz30_3 := blk_frozen BK1039.out 3
    have hcz31_0 : w14.cell? ⟨gb1047, 0, none⟩ = some (.int .i64 0) := (blk_cell BK1047.out 0).trans rfl
    have hcz31_1 : w14.cell? ⟨gb1047, 1, none⟩ = some (.int .i64 0) := (blk_cell BK1047.out 1).trans rfl
    have hcz31_2 : w14.cell? ⟨gb1047, 2, none⟩ = some (.int .i64 0) := (blk_cell BK1047.out 2).trans rfl
    have hcz31_3 : w14.cell? ⟨gb1047, 3, none⟩ = some (.slice none 0 0) := (blk_cell BK1047.out 3).trans rfl
    have hfz31_0 := blk_frozen BK1047.out 0
    have hfz31_1 := blk_frozen BK1047.out 1
    have hfz31_2 := blk_frozen BK1047.out 2
    have hfz31_3 := blk_frozen BK1047.out 3
    go_wp2_with (first | ((with_reducible refine gate_callee (f := 21) rfl ?_); refine goesL_ (some 41) rfl rfl Try.func21 (by kernel_rfl) rfl #[.agg #[.int .i64 t1032, .int .i64 t1033, .int .i64 t1034, .slice Ao12 t1035.length co12], .agg #[.int .i64 t1040, .int .i64 t1041, .int .i64 t1042, .slice Ao17 t1043.length co17]] rfl (by (try simp only [List.map_toArray, List.map_cons, List.map_nil]); first | done | rfl | (simp only [List.length_drop, List.length_take]; rfl)) ?_; (with_reducible refine (laws_equalImage.calls k t1032 t1033 t1034 _ _ t1035 t1040 t1041 t1042 _ _ t1043 false _ ?side1 ?side2 ?side3 ?side4 A18.out).mono ?_); (case side1 => refine (Kd.R_reads' (e := 3) (base := w.heap.size) (ok := fun k_ => ((True ∧ some k_ ≠ (.slice Ao8 t1029.length co8 : Value).ownBlock) ∧ some k_ ≠ (.slice Ao17 t1043.length co17 : Value).ownBlock)) (n := t1035.length) (c := co12) ?_).2.2; exact (by (with_reducible repeat (first | apply Kd.R_alloc | apply Kd.R_drewN | apply Kd.R_drew)); exact (Kd.R_mono (Kd.R_far (p := ⟨gb1047, 3, none⟩) (Kd.R_far (p := ⟨gb1047, 2, none⟩) (Kd.R_far (p := ⟨gb1047, 1, none⟩) (Kd.R_far (p := ⟨gb1047, 0, none⟩) (Kd.R_types HO1037.out BK1047.out (by decide)) (fun _ hk => hk.2) (.int .i64 t1040)) (fun _ hk => hk.2) (.int .i64 t1041)) (fun _ hk => hk.2) (.int .i64 t1042)) (fun _ hk => hk.2) (.slice Ao17 t1043.length co17)) (fun _ h_ => h_.1)))); (case side2 => exact (Kd.R_reads' HO1037.out).2.1); (case side3 => refine (Kd.R_reads' (e := 3) (base := w.heap.size) (ok := fun k_ => ((True ∧ some k_ ≠ (.slice Ao8 t1029.length co8 : Value).ownBlock) ∧ some k_ ≠ (.slice Ao12 t1035.length co12 : Value).ownBlock)) (n := t1043.length) (c := co17) ?_).2.2; exact (by (with_reducible repeat (first | apply Kd.R_alloc | apply Kd.R_drewN | apply Kd.R_drew)); exact (Kd.R_mono (Kd.R_far (p := ⟨gb1047, 3, none⟩) (Kd.R_far (p := ⟨gb1047, 2, none⟩) (Kd.R_far (p := ⟨gb1047, 1, none⟩) (Kd.R_far (p := ⟨gb1047, 0, none⟩) (Kd.R_types HO1045.out BK1047.out (by decide)) (fun _ hk => hk.2) (.int .i64 t1040)) (fun _ hk => hk.2) (.int .i64 t1041)) (fun _ hk => hk.2) (.int .i64 t1042)) (fun _ hk => hk.2) (.slice Ao17 t1043.length co17)) (fun _ h_ => h_.1)))); (case side4 => exact (Kd.R_reads' HO1045.out).2.1); rintro e w32 ⟨rfl, hb⟩; refine ⟨_, rfl, ?_⟩; have n0_ := Aside0.mk (Kd.Q_below (by (with_reducible repeat (first | apply Kd.Q_alloc | apply Kd.Q_drewN | apply Kd.Q_drew)); exact (Kd.Q_mono (Kd.Q_far (p := ⟨gb1047, 3, none⟩) (Kd.Q_far (p := ⟨gb1047, 2, none⟩) (Kd.Q_far (p := ⟨gb1047, 1, none⟩) (Kd.Q_far (p := ⟨gb1047, 0, none⟩) (Kd.Q_types HO1031.out BK1047.out (by decide)) (fun _ hk => hk.2) (.int .i64 t1040)) (fun _ hk => hk.2) (.int .i64 t1041)) (fun _ hk => hk.2) (.int .i64 t1042)) (fun _ hk => hk.2) (.slice Ao17 t1043.length co17)) (fun _ h_ => h_.1))) hb); have n1_ := Aside0.mk (Kd.R_below (by (with_reducible repeat (first | apply Kd.R_alloc | apply Kd.R_drewN | apply Kd.R_drew)); exact (Kd.R_mono (Kd.R_far (p := ⟨gb1047, 3, none⟩) (Kd.R_far (p := ⟨gb1047, 2, none⟩) (Kd.R_far (p := ⟨gb1047, 1, none⟩) (Kd.R_far (p := ⟨gb1047, 0, none⟩) (Kd.R_types HO1037.out BK1047.out (by decide)) (fun _ hk => hk.2) (.int .i64 t1040)) (fun _ hk => hk.2) (.int .i64 t1041)) (fun _ hk => hk.2) (.int .i64 t1042)) (fun _ hk => hk.2) (.slice Ao17 t1043.length co17)) (fun _ h_ => h_.1))) hb); have n2_ := Aside0.mk (Kd.R_below (by (with_reducible repeat (first | apply Kd.R_alloc | apply Kd.R_drewN | apply Kd.R_drew)); exact (Kd.R_mono (Kd.R_far (p := ⟨gb1047, 3, none⟩) (Kd.R_far (p := ⟨gb1047, 2, none⟩) (Kd.R_far (p := ⟨gb1047, 1, none⟩) (Kd.R_far (p := ⟨gb1047, 0, none⟩) (Kd.R_types HO1045.out BK1047.out (by decide)) (fun _ hk => hk.2) (.int .i64 t1040)) (fun _ hk => hk.2) (.int .i64 t1041)) (fun _ hk => hk.2) (.int .i64 t1042)) (fun _ hk => hk.2) (.slice Ao17 t1043.length co17)) (fun _ h_ => h_.1))) hb); have n3_ := Aside0.mk (blk_below (g := gb1039) (o := .cells #[.int .i64 t1032, .int .i64 t1033, .int .i64 t1034, .slice Ao12 t1035.length co12] 24 (0, 0)) (by (with_reducible repeat (first | refine blk_drewN ?_ _ | refine blk_drew ?_ | refine blk_alloc ?_ _)); refine blk_far ?_ NB1039_1047.out _; (with_reducible repeat (first | refine blk_drewN ?_ _ | refine blk_drew ?_ | refine blk_alloc ?_ _)); refine blk_far ?_ NB1039_1047.out _; (with_reducible repeat (first | refine blk_drewN ?_ _ | refine blk_drew ?_ | refine blk_alloc ?_ _)); refine blk_far ?_ NB1039_1047.out _; (with_reducible repeat (first | refine blk_drewN ?_ _ | refine blk_drew ?_ | refine blk_alloc ?_ _)); refine blk_far ?_ NB1039_1047.out _; (with_reducible repeat (first | refine blk_drewN ?_ _ | refine blk_drew ?_ | refine blk_alloc ?_ _)); exact BK1039.out) hb); have n4_ := Aside0.mk (blk_below (g := gb1047) (o := .cells #[.int .i64 t1040, .int .i64 t1041, .int .i64 t1042, .slice Ao17 t1043.length co17] 24 (0, 0)) (by (with_reducible repeat (first | refine blk_drewN ?_ _ | refine blk_drew ?_ | refine blk_alloc ?_ _)); refine blk_put (cs := #[.int .i64 t1040, .int .i64 t1041, .int .i64 t1042, .slice none 0 0]) ?_ 3 _ rfl; (with_reducible repeat (first | refine blk_drewN ?_ _ | refine blk_drew ?_ | refine blk_alloc ?_ _)); refine blk_put (cs := #[.int .i64 t1040, .int .i64 t1041, .int .i64 0, .slice none 0 0]) ?_ 2 _ rfl; (with_reducible repeat (first | refine blk_drewN ?_ _ | refine blk_drew ?_ | refine blk_alloc ?_ _)); refine blk_put (cs := #[.int .i64 t1040, .int .i64 0, .int .i64 0, .slice none 0 0]) ?_ 1 _ rfl; (with_reducible repeat (first | refine blk_drewN ?_ _ | refine blk_drew ?_ | refine blk_alloc ?_ _)); refine blk_put (cs := #[.int .i64 0, .int .i64 0, .int .i64 0, .slice none 0 0]) ?_ 0 _ rfl; (with_reducible repeat (first | refine blk_drewN ?_ _ | refine blk_drew ?_ | refine blk_alloc ?_ _)); exact BK1047.out) hb); have n5_ := Aside0.mk (below_step (qW HB.out) hb); clear HO1031; clear HO1037; clear HO1045; clear BK1039; clear BK1047; clear HB; have HO1031 := n0_; have HO1037 := n1_; have HO1045 := n2_; have BK1039 := n3_; have BK1047 := n4_; have HB := n5_; clear n0_ n1_ n2_ n3_ n4_ n5_; (try clear hb); (try clear hb2); (try clear hk); (try clear hi)))
    go_meet
    case rel => exact ⟨_, (true), (by first | rfl | (simp; done) | (simp [*]; done)), H', ⟨by first | omega | exact Nat.le_refl _⟩, ⟨by (with_reducible repeat (first | apply Kd.R_alloc | apply Kd.R_drewN | apply Kd.R_drew)); exact Kd.R_mono HO1037.out (fun _ hk => hk.2)⟩, ⟨by (with_reducible repeat (first | apply Kd.R_alloc | apply Kd.R_drewN | apply Kd.R_drew)); exact Kd.R_mono HO1045.out (fun _ hk => hk.2)⟩, ⟨by (with_reducible repeat (first | refine blk_drewN ?_ _ | refine blk_drew ?_ | refine blk_alloc ?_ _)); exact BK1039.out⟩, ⟨by (with_reducible repeat (first | refine blk_drewN ?_ _ | refine blk_drew ?_ | refine blk_alloc ?_ _)); exact BK1047.out⟩, ⟨by repeat (first | (with_reducible first | exact HB.out | apply below_alloc | apply pw_below_drewN | apply below_drew1 | refine below_set ?_ GE1039.out | refine below_set ?_ GE1047.out) | exact HB.out)⟩⟩
  case rest =>
   clear HC6
   try clear c1
   try clear c2
   try clear c2b0
   try clear c2b1
   try clear p2
   try clear c3
   try clear c9
   try clear c15
   try clear c19
   try clear c20
   try clear c20b0
   try clear c20b1
   try clear c20b2
   try clear c21
   try clear c25
   try clear c29
   try clear c30
   try clear c31
   try clear c32
   try clear hcz11_0
   try clear hcz11_1
   try clear hcz11_2
   try clear hcz11_3
   try clear hcz16_0
   try clear hcz16_1
   try clear hcz16_2
   try clear hcz16_3
   try clear hcz22_0
   try clear hcz22_1
   try clear hcz22_2
   try clear hcz22_3
   try clear hcz23_0
   try clear hcz23_1
   try clear hcz23_2
   try clear hcz23_3
   try clear hcz26_0
   try clear hcz26_1
   try clear hcz26_2
   try clear hcz26_3
   try clear hcz27_0
   try clear hcz27_1
   try clear hcz27_2
   try clear hcz27_3
   try clear hcz30_0
   try clear hcz30_1
   try clear hcz30_2
   try clear hcz30_3
   try clear hcz31_0
   try clear hcz31_1
   try clear hcz31_2
   try clear hcz31_3
   try clear hfz11_0
   try clear hfz11_1
   try clear hfz11_2
   try clear hfz11_3
   try clear hfz16_0
   try clear hfz16_1
   try clear hfz16_2
   try clear hfz16_3
   try clear hfz22_0
   try clear hfz22_1
   try clear hfz22_2
   try clear hfz22_3
   try clear hfz23_0
   try clear hfz23_1
   try clear hfz23_2
   try clear hfz23_3
   try clear hfz26_0
   try clear hfz26_1
   try clear hfz26_2
   try clear hfz26_3
   try clear hfz27_0
   try clear hfz27_1
   try clear hfz27_2
   try clear hfz27_3
   try clear hfz30_0
   try clear hfz30_1
   try clear hfz30_2
   try clear hfz30_3
   try clear hfz31_0
   try clear hfz31_1
   try clear hfz31_2
   try clear hfz31_3
   obtain ⟨kq, x51_5, rfl, HA, HJ5, HO_1040003, HO_1048003, BK1039, BK1047, HB⟩ := hcut
   cases kq with
   | zero => exact absurd HA.out (by simp [laws_FnUnfilterImage.j0])
   | succ kj5 =>
    have H := HA.out
    clear HA
    simp only [laws_FnUnfilterImage.j0] at H
    by_cases c33 : x51_5 = true
    ·
     subst c33
     have H1 : ((laws_equalImage.f kj5 t1032 t1033 t1034 t1035 t1040 t1041 t1042 t1043).bind fun t1049 => (if t1049 = true then (some (t1038 == t1046)) else (some false))) = some r := by rw [if_pos rfl] at H; exact H
     clear H
     have H := H1
     clear H1
     replace H := Option.bind_eq_some_iff.mp H
     obtain ⟨t1049, A340, H⟩ := H
     replace H : (if t1049 = true then (some (t1038 == t1046)) else (some false)) = some r := H
     have A34 := Aside0.mk A340
     clear A340
     by_cases c35 : t1049 = true
     ·
      subst c35
      have H1 : (some (t1038 == t1046)) = some r := by rw [if_pos rfl] at H; exact H
      clear H
      have H := H1
      clear H1
      obtain rfl := Option.some.inj H
      have hnb36 := NB1039_1047.out
      have hnc36 := NB1047_1039.out
      have hcz37_0 : wc.cell? ⟨gb1039, 0, none⟩ = some (.int .i64 t1032) := (blk_cell BK1039.out 0).trans rfl
      have hcz37_1 : wc.cell? ⟨gb1039, 1, none⟩ = some (.int .i64 t1033) := (blk_cell BK1039.out 1).trans rfl
      have hcz37_2 : wc.cell? ⟨gb1039, 2, none⟩ = some (.int .i64 t1034) := (blk_cell BK1039.out 2).trans rfl
      have hcz37_3 : wc.cell? ⟨gb1039, 3, none⟩ = some (.slice Ao12 t1035.length co12) := (blk_cell BK1039.out 3).trans rfl
      have hfz37_0 := blk_frozen BK1039.out 0
      have hfz37_1 := blk_frozen BK1039.out 1
      have hfz37_2 := blk_frozen BK1039.out 2
      have hfz37_3 := blk_frozen BK1039.out 3
      have hcz38_0 : wc.cell? ⟨gb1047, 0, none⟩ = some (.int .i64 t1040) := (blk_cell BK1047.out 0).trans rfl
      have hcz38_1 : wc.cell? ⟨gb1047, 1, none⟩ = some (.int .i64 t1041) := (blk_cell BK1047.out 1).trans rfl
      have hcz38_2 : wc.cell? ⟨gb1047, 2, none⟩ = some (.int .i64 t1042) := (blk_cell BK1047.out 2).trans rfl
      have hcz38_3 : wc.cell? ⟨gb1047, 3, none⟩ = some (.slice Ao17 t1043.length co17) := (blk_cell BK1047.out 3).trans rfl
      have hfz38_0 := blk_frozen BK1047.out 0
      have hfz38_1 := blk_frozen BK1047.out 1
      have hfz38_2 := blk_frozen BK1047.out 2
      have hfz38_3 := blk_frozen BK1047.out 3
      go_wp2_with (first | ((with_reducible refine gate_callee (f := 21) rfl ?_); refine goesL_ (some 54) rfl rfl Try.func21 (by kernel_rfl) rfl #[.agg #[.int .i64 t1032, .int .i64 t1033, .int .i64 t1034, .slice Ao12 t1035.length co12], .agg #[.int .i64 t1040, .int .i64 t1041, .int .i64 t1042, .slice Ao17 t1043.length co17]] rfl (by (try simp only [List.map_toArray, List.map_cons, List.map_nil]); first | done | rfl | (simp only [List.length_drop, List.length_take]; rfl)) ?_; (with_reducible refine (laws_equalImage.calls kj5 t1032 t1033 t1034 _ _ t1035 t1040 t1041 t1042 _ _ t1043 true _ ?side1 ?side2 ?side3 ?side4 A34.out).mono ?_); (case side1 => repeat (first | exact (Kd.R_reads' HO_1040003.out).2.2 | (with_reducible refine Kd.C_alloc ?_ _) | (with_reducible refine Kd.C_drewN ?_ _) | (with_reducible refine Kd.C_drew ?_))); (case side2 => exact (Kd.R_reads' HO_1040003.out).2.1); (case side3 => repeat (first | exact (Kd.R_reads' HO_1048003.out).2.2 | (with_reducible refine Kd.C_alloc ?_ _) | (with_reducible refine Kd.C_drewN ?_ _) | (with_reducible refine Kd.C_drew ?_))); (case side4 => exact (Kd.R_reads' HO_1048003.out).2.1); rintro e w39 ⟨rfl, hb⟩; refine ⟨_, rfl, ?_⟩; have n0_ := Aside0.mk (Kd.R_below (qR HO_1040003.out) hb); have n1_ := Aside0.mk (Kd.R_below (qR HO_1048003.out) hb); have n2_ := bB BK1039 hb; have n3_ := bB BK1047 hb; have n4_ := Aside0.mk (below_step (qW HB.out) hb); clear HO_1040003; clear HO_1048003; clear BK1039; clear BK1047; clear HB; have HO_1040003 := n0_; have HO_1048003 := n1_; have BK1039 := n2_; have BK1047 := n3_; have HB := n4_; clear n0_ n1_ n2_ n3_ n4_; (try clear hb); (try clear hb2); (try clear hk); (try clear hi)))
      go_ret
      exact ⟨by first | rfl | (simp [errW_none, errW_some] <;> rfl) | (simp [*, errW_none, errW_some] <;> rfl), by repeat (first | (with_reducible first | exact HB.out | apply below_alloc | apply pw_below_drewN | apply below_drew1 | refine below_set ?_ GE1039.out | refine below_set ?_ GE1047.out) | exact HB.out)⟩
     ·
      replace c35 := Bool.eq_false_iff.mpr c35
      subst c35
      have H1 : (some false) = some r := by rw [if_neg (show ¬ (false = true) by decide)] at H; exact H
      clear H
      have H := H1
      clear H1
      obtain rfl := Option.some.inj H
      exact absurd hrt (by decide)
    ·
     replace c33 := Bool.eq_false_iff.mpr c33
     subst c33
     have H1 : ((impl_FilterImage.f kj5 t1032 t1033 t1034 t1035).bind fun t1050 => ((impl_UnfilterImage.f kj5 t1026 t1027 t1028 t1050).bind fun bt1053 => ((impl_ValidImage.f t1032 t1033 t1034 t1035).bind fun t1061 => (if t1061 = true then (if bt1053.2.2.2.2 = true then ((laws_equalImage.f kj5 bt1053.1 bt1053.2.1 bt1053.2.2.1 bt1053.2.2.2.1 t1032 t1033 t1034 t1035).bind fun t1062 => (some t1062)) else (some false)) else (some false))))) = some r := by rw [if_neg (show ¬ (false = true) by decide)] at H; exact H
     clear H
     have H := H1
     clear H1
     replace H := Option.bind_eq_some_iff.mp H
     obtain ⟨t1050, A440, H⟩ := H
     replace H : ((impl_UnfilterImage.f kj5 t1026 t1027 t1028 t1050).bind fun bt1053 => ((impl_ValidImage.f t1032 t1033 t1034 t1035).bind fun t1061 => (if t1061 = true then (if bt1053.2.2.2.2 = true then ((laws_equalImage.f kj5 bt1053.1 bt1053.2.1 bt1053.2.2.1 bt1053.2.2.2.1 t1032 t1033 t1034 t1035).bind fun t1062 => (some t1062)) else (some false)) else (some false)))) = some r := H
     have A44 := Aside0.mk A440
     clear A440
     replace H := Option.bind_eq_some_iff.mp H
     obtain ⟨⟨t1053, t1054, t1055, t1056, t1059⟩, A450, H⟩ := H
     replace H : ((impl_ValidImage.f t1032 t1033 t1034 t1035).bind fun t1061 => (if t1061 = true then (if t1059 = true then ((laws_equalImage.f kj5 t1053 t1054 t1055 t1056 t1032 t1033 t1034 t1035).bind fun t1062 => (some t1062)) else (some false)) else (some false))) = some r := H
     have A45 := Aside0.mk A450
     clear A450
     replace H := Option.bind_eq_some_iff.mp H
     obtain ⟨t1061, A460, H⟩ := H
     replace H : (if t1061 = true then (if t1059 = true then ((laws_equalImage.f kj5 t1053 t1054 t1055 t1056 t1032 t1033 t1034 t1035).bind fun t1062 => (some t1062)) else (some false)) else (some false)) = some r := H
     have A46 := Aside0.mk A460
     clear A460
     by_cases c47 : t1061 = true
     ·
      subst c47
      have H1 : (if t1059 = true then ((laws_equalImage.f kj5 t1053 t1054 t1055 t1056 t1032 t1033 t1034 t1035).bind fun t1062 => (some t1062)) else (some false)) = some r := by rw [if_pos rfl] at H; exact H
      clear H
      have H := H1
      clear H1
      by_cases c48 : t1059 = true
      ·
       subst c48
       have H1 : ((laws_equalImage.f kj5 t1053 t1054 t1055 t1056 t1032 t1033 t1034 t1035).bind fun t1062 => (some t1062)) = some r := by rw [if_pos rfl] at H; exact H
       clear H
       have H := H1
       clear H1
       replace H := Option.bind_eq_some_iff.mp H
       obtain ⟨t1062, A490, H⟩ := H
       replace H : (some t1062) = some r := H
       have A49 := Aside0.mk A490
       clear A490
       obtain rfl := Option.some.inj H
       have hnb50 := NB1039_1047.out
       have hnc50 := NB1047_1039.out
       have hcz51_0 : wc.cell? ⟨gb1039, 0, none⟩ = some (.int .i64 t1032) := (blk_cell BK1039.out 0).trans rfl
       have hcz51_1 : wc.cell? ⟨gb1039, 1, none⟩ = some (.int .i64 t1033) := (blk_cell BK1039.out 1).trans rfl
       have hcz51_2 : wc.cell? ⟨gb1039, 2, none⟩ = some (.int .i64 t1034) := (blk_cell BK1039.out 2).trans rfl
       have hcz51_3 : wc.cell? ⟨gb1039, 3, none⟩ = some (.slice Ao12 t1035.length co12) := (blk_cell BK1039.out 3).trans rfl
       have hfz51_0 := blk_frozen BK1039.out 0
       have hfz51_1 := blk_frozen BK1039.out 1
       have hfz51_2 := blk_frozen BK1039.out 2
       have hfz51_3 := blk_frozen BK1039.out 3
       go_wp2_with (first | ((with_reducible refine gate_callee (f := 27) rfl ?_); refine goesL_ (some 65) rfl rfl Try.func27 (by kernel_rfl) rfl #[.agg #[.int .i64 t1032, .int .i64 t1033, .int .i64 t1034, .slice Ao12 t1035.length co12]] rfl (by (try simp only [List.map_toArray, List.map_cons, List.map_nil]); first | done | rfl | (simp only [List.length_drop, List.length_take]; rfl)) ?_; (with_reducible refine (impl_FilterImage.calls kj5 t1032 t1033 t1034 _ _ t1035 t1050 _ ?side1 ?side2 A44.out).mono ?_); (case side1 => repeat (first | exact (Kd.R_reads' HO_1040003.out).2.2 | (with_reducible refine Kd.C_alloc ?_ _) | (with_reducible refine Kd.C_drewN ?_ _) | (with_reducible refine Kd.C_drew ?_))); (case side2 => exact (Kd.R_reads' HO_1040003.out).2.1); rintro e w52 ⟨v1051, rfl, ho0, hb⟩; refine ⟨_, rfl, ?_⟩; have n0_ := Aside0.mk (Kd.R_elder' (qR HO_1040003.out) (Kd.R_base ho0) hb); have n1_ := Aside0.mk (Kd.R_elder' (qR HO_1048003.out) (Kd.R_base ho0) hb); have n2_ := Aside0.mk (Kd.R_lower (Kd.R_new' (Kd.R_new' ho0 (Kd.R_lt (qR HO_1040003.out))) (Kd.R_lt (qR HO_1048003.out))) (below_size (qW HB.out))); have n3_ := bB BK1039 hb; have n4_ := bB BK1047 hb; have n5_ := Aside0.mk (below_step (qW HB.out) hb); clear HO_1040003; clear HO_1048003; clear BK1039; clear BK1047; clear HB; have HO_1040003 := n0_; have HO_1048003 := n1_; have HO1052 := n2_; have BK1039 := n3_; have BK1047 := n4_; have HB := n5_; clear n0_ n1_ n2_ n3_ n4_ n5_; (try clear hb); (try clear hb2); (try clear hk); (try clear hi); (try clear ho0); obtain ⟨Ao53, co53, eo53⟩ := Kd.R_slice HO1052.out; subst eo53) | ((with_reducible refine gate_callee (f := 30) rfl ?_); refine goesL_ (some 66) rfl rfl Try.func30 (by kernel_rfl) rfl #[.int .i64 t1026, .int .i64 t1027, .int .i64 t1028, .slice Ao53 t1050.length co53] rfl (by (try simp only [List.map_toArray, List.map_cons, List.map_nil]); first | done | rfl | (simp only [List.length_drop, List.length_take]; rfl)) ?_; (with_reducible refine (impl_UnfilterImage.calls kj5 t1026 t1027 t1028 _ _ t1050 t1053 t1054 t1055 t1056 true _ ?side1 ?side2 A45.out).mono ?_); (case side1 => repeat (first | exact (Kd.R_reads' HO1052.out).2.2 | (with_reducible refine Kd.C_alloc ?_ _) | (with_reducible refine Kd.C_drewN ?_ _) | (with_reducible refine Kd.C_drew ?_))); (case side2 => exact (Kd.R_reads' HO1052.out).2.1); rintro e w54 ⟨v1057, rfl, ho0, hb⟩; refine ⟨_, rfl, ?_⟩; have n0_ := Aside0.mk (Kd.R_elder' (qR HO_1040003.out) (Kd.R_base ho0) hb); have n1_ := Aside0.mk (Kd.R_elder' (qR HO_1048003.out) (Kd.R_base ho0) hb); have n2_ := Aside0.mk (Kd.R_elder' (qR HO1052.out) (Kd.R_base ho0) hb); have n3_ := Aside0.mk (Kd.R_lower (Kd.R_new' (Kd.R_new' (Kd.R_new' ho0 (Kd.R_lt (qR HO_1040003.out))) (Kd.R_lt (qR HO_1048003.out))) (Kd.R_lt (qR HO1052.out))) (below_size (qW HB.out))); have n4_ := bB BK1039 hb; have n5_ := bB BK1047 hb; have n6_ := Aside0.mk (below_step (qW HB.out) hb); clear HO_1040003; clear HO_1048003; clear HO1052; clear BK1039; clear BK1047; clear HB; have HO_1040003 := n0_; have HO_1048003 := n1_; have HO1052 := n2_; have HO1058 := n3_; have BK1039 := n4_; have BK1047 := n5_; have HB := n6_; clear n0_ n1_ n2_ n3_ n4_ n5_ n6_; (try clear hb); (try clear hb2); (try clear hk); (try clear hi); (try clear ho0)) | ((with_reducible refine gate_dst (N := 11) rfl ?_); refine box_event ?hg (N := 11) ?hd (cs := #[.int .i64 0, .int .i64 0, .int .i64 0, .slice none 0 0]) (t := 24) ?hr ?_; (case hd => rfl); (case hg => rfl); (case hr => first | (go_simp; done) | (go_simp; rfl)); intro gb1060 hg w55 hbox hb; have n0_ := Aside0.mk (Kd.R_below (qR HO_1040003.out) hb); have n1_ := Aside0.mk (Kd.R_below (qR HO_1048003.out) hb); have n2_ := Aside0.mk (Kd.R_below (qR HO1052.out) hb); have n3_ := Aside0.mk (Kd.R_below (qR HO1058.out) hb); have n4_ := bB BK1039 hb; have n5_ := bB BK1047 hb; have n6_ := Aside0.mk (below_step (qW HB.out) hb); have n7_ := Aside0.mk (hbox); have n8_ := Aside0.mk ((by rw [hg]; exact (below_size (qW HB.out)) : w.heap.size ≤ gb1060)); have n9_ := Aside0.mk ((by rw [hg]; exact (below_size (qW HB.out)) : w.heap.size ≤ gb1060)); have n10_ := Aside0.mk ((by rw [hg]; exact Nat.ne_of_lt (blk_lt (g := gb1039) (o := .cells #[.int .i64 t1032, .int .i64 t1033, .int .i64 t1034, .slice Ao12 t1035.length co12] 24 (0, 0)) (qB BK1039.out)) : gb1039 ≠ gb1060)); have n11_ := Aside0.mk ((by rw [hg]; exact Nat.ne_of_gt (blk_lt (g := gb1039) (o := .cells #[.int .i64 t1032, .int .i64 t1033, .int .i64 t1034, .slice Ao12 t1035.length co12] 24 (0, 0)) (qB BK1039.out)) : gb1060 ≠ gb1039)); have n12_ := Aside0.mk ((by rw [hg]; exact Nat.ne_of_lt (blk_lt (g := gb1047) (o := .cells #[.int .i64 t1040, .int .i64 t1041, .int .i64 t1042, .slice Ao17 t1043.length co17] 24 (0, 0)) (qB BK1047.out)) : gb1047 ≠ gb1060)); have n13_ := Aside0.mk ((by rw [hg]; exact Nat.ne_of_gt (blk_lt (g := gb1047) (o := .cells #[.int .i64 t1040, .int .i64 t1041, .int .i64 t1042, .slice Ao17 t1043.length co17] 24 (0, 0)) (qB BK1047.out)) : gb1060 ≠ gb1047)); clear HO_1040003; clear HO_1048003; clear HO1052; clear HO1058; clear BK1039; clear BK1047; clear HB; have HO_1040003 := n0_; have HO_1048003 := n1_; have HO1052 := n2_; have HO1058 := n3_; have BK1039 := n4_; have BK1047 := n5_; have HB := n6_; have BK1060 := n7_; have GW1060 := n8_; have GE1060 := n9_; have NB1039_1060 := n10_; have NB1060_1039 := n11_; have NB1047_1060 := n12_; have NB1060_1047 := n13_; clear n0_ n1_ n2_ n3_ n4_ n5_ n6_ n7_ n8_ n9_ n10_ n11_ n12_ n13_; clear hb hbox hg; have hnb56 := NB1060_1039.out; have hnc56 := NB1039_1060.out; have hnb57 := NB1060_1047.out; have hnc57 := NB1047_1060.out; have hcz58_0 : w55.cell? ⟨gb1060, 0, none⟩ = some (.int .i64 0) := (blk_cell BK1060.out 0).trans rfl; have hcz58_1 : w55.cell? ⟨gb1060, 1, none⟩ = some (.int .i64 0) := (blk_cell BK1060.out 1).trans rfl; have hcz58_2 : w55.cell? ⟨gb1060, 2, none⟩ = some (.int .i64 0) := (blk_cell BK1060.out 2).trans rfl; have hcz58_3 : w55.cell? ⟨gb1060, 3, none⟩ = some (.slice none 0 0) := (blk_cell BK1060.out 3).trans rfl; have hfz58_0 := blk_frozen BK1060.out 0; have hfz58_1 := blk_frozen BK1060.out 1; have hfz58_2 := blk_frozen BK1060.out 2; have hfz58_3 := blk_frozen BK1060.out 3; obtain ⟨Ao59, co59, eo59⟩ := Kd.R_slice HO1058.out; subst eo59; have hcz60_0 : w55.cell? ⟨gb1039, 0, none⟩ = some (.int .i64 t1032) := (blk_cell BK1039.out 0).trans rfl; have hcz60_1 : w55.cell? ⟨gb1039, 1, none⟩ = some (.int .i64 t1033) := (blk_cell BK1039.out 1).trans rfl; have hcz60_2 : w55.cell? ⟨gb1039, 2, none⟩ = some (.int .i64 t1034) := (blk_cell BK1039.out 2).trans rfl; have hcz60_3 : w55.cell? ⟨gb1039, 3, none⟩ = some (.slice Ao12 t1035.length co12) := (blk_cell BK1039.out 3).trans rfl; have hfz60_0 := blk_frozen BK1039.out 0; have hfz60_1 := blk_frozen BK1039.out 1; have hfz60_2 := blk_frozen BK1039.out 2; have hfz60_3 := blk_frozen BK1039.out 3) | ((with_reducible refine gate_callee (f := 33) rfl ?_); refine goesL_ (some 70) rfl rfl Try.func33 (by kernel_rfl) rfl #[.agg #[.int .i64 t1032, .int .i64 t1033, .int .i64 t1034, .slice Ao12 t1035.length co12]] rfl (by (try simp only [List.map_toArray, List.map_cons, List.map_nil]); first | done | rfl | (simp only [List.length_drop, List.length_take]; rfl)) ?_; (with_reducible refine (impl_ValidImage.calls t1032 t1033 t1034 _ _ t1035 true _ ?side1 ?side2 A46.out).mono ?_); (case side1 => refine (Kd.R_reads' (e := 3) (base := w.heap.size) (ok := fun k_ => ((some k_ ≠ (.slice Ao17 t1043.length co17 : Value).ownBlock ∧ some k_ ≠ (.slice Ao53 t1050.length co53 : Value).ownBlock) ∧ some k_ ≠ (.slice Ao59 t1056.length co59 : Value).ownBlock)) (n := t1035.length) (c := co12) ?_).2.2; exact (by (with_reducible repeat (first | apply Kd.R_alloc | apply Kd.R_drewN | apply Kd.R_drew)); exact (Kd.R_mono (Kd.R_far (p := ⟨gb1060, 3, none⟩) (Kd.R_far (p := ⟨gb1060, 2, none⟩) (Kd.R_far (p := ⟨gb1060, 1, none⟩) (Kd.R_far (p := ⟨gb1060, 0, none⟩) (Kd.R_types HO_1040003.out BK1060.out (by decide)) (fun _ hk => hk.2) (.int .i64 t1053)) (fun _ hk => hk.2) (.int .i64 t1054)) (fun _ hk => hk.2) (.int .i64 t1055)) (fun _ hk => hk.2) (.slice Ao59 t1056.length co59)) (fun _ h_ => h_.1)))); (case side2 => exact (Kd.R_reads' HO_1040003.out).2.1); rintro e w61 ⟨rfl, hb⟩; refine ⟨_, rfl, ?_⟩; have n0_ := Aside0.mk (Kd.R_below (by (with_reducible repeat (first | apply Kd.R_alloc | apply Kd.R_drewN | apply Kd.R_drew)); exact (Kd.R_mono (Kd.R_far (p := ⟨gb1060, 3, none⟩) (Kd.R_far (p := ⟨gb1060, 2, none⟩) (Kd.R_far (p := ⟨gb1060, 1, none⟩) (Kd.R_far (p := ⟨gb1060, 0, none⟩) (Kd.R_types HO_1040003.out BK1060.out (by decide)) (fun _ hk => hk.2) (.int .i64 t1053)) (fun _ hk => hk.2) (.int .i64 t1054)) (fun _ hk => hk.2) (.int .i64 t1055)) (fun _ hk => hk.2) (.slice Ao59 t1056.length co59)) (fun _ h_ => h_.1))) hb); have n1_ := Aside0.mk (Kd.R_below (by (with_reducible repeat (first | apply Kd.R_alloc | apply Kd.R_drewN | apply Kd.R_drew)); exact (Kd.R_mono (Kd.R_far (p := ⟨gb1060, 3, none⟩) (Kd.R_far (p := ⟨gb1060, 2, none⟩) (Kd.R_far (p := ⟨gb1060, 1, none⟩) (Kd.R_far (p := ⟨gb1060, 0, none⟩) (Kd.R_types HO_1048003.out BK1060.out (by decide)) (fun _ hk => hk.2) (.int .i64 t1053)) (fun _ hk => hk.2) (.int .i64 t1054)) (fun _ hk => hk.2) (.int .i64 t1055)) (fun _ hk => hk.2) (.slice Ao59 t1056.length co59)) (fun _ h_ => h_.1))) hb); have n2_ := Aside0.mk (Kd.R_below (by (with_reducible repeat (first | apply Kd.R_alloc | apply Kd.R_drewN | apply Kd.R_drew)); exact (Kd.R_mono (Kd.R_far (p := ⟨gb1060, 3, none⟩) (Kd.R_far (p := ⟨gb1060, 2, none⟩) (Kd.R_far (p := ⟨gb1060, 1, none⟩) (Kd.R_far (p := ⟨gb1060, 0, none⟩) (Kd.R_types HO1052.out BK1060.out (by decide)) (fun _ hk => hk.2) (.int .i64 t1053)) (fun _ hk => hk.2) (.int .i64 t1054)) (fun _ hk => hk.2) (.int .i64 t1055)) (fun _ hk => hk.2) (.slice Ao59 t1056.length co59)) (fun _ h_ => h_.1))) hb); have n3_ := Aside0.mk (Kd.R_below (by (with_reducible repeat (first | apply Kd.R_alloc | apply Kd.R_drewN | apply Kd.R_drew)); exact (Kd.R_mono (Kd.R_far (p := ⟨gb1060, 3, none⟩) (Kd.R_far (p := ⟨gb1060, 2, none⟩) (Kd.R_far (p := ⟨gb1060, 1, none⟩) (Kd.R_far (p := ⟨gb1060, 0, none⟩) (Kd.R_types HO1058.out BK1060.out (by decide)) (fun _ hk => hk.2) (.int .i64 t1053)) (fun _ hk => hk.2) (.int .i64 t1054)) (fun _ hk => hk.2) (.int .i64 t1055)) (fun _ hk => hk.2) (.slice Ao59 t1056.length co59)) (fun _ h_ => h_.1))) hb); have n4_ := Aside0.mk (blk_below (g := gb1039) (o := .cells #[.int .i64 t1032, .int .i64 t1033, .int .i64 t1034, .slice Ao12 t1035.length co12] 24 (0, 0)) (by (with_reducible repeat (first | refine blk_drewN ?_ _ | refine blk_drew ?_ | refine blk_alloc ?_ _)); refine blk_far ?_ NB1039_1060.out _; (with_reducible repeat (first | refine blk_drewN ?_ _ | refine blk_drew ?_ | refine blk_alloc ?_ _)); refine blk_far ?_ NB1039_1060.out _; (with_reducible repeat (first | refine blk_drewN ?_ _ | refine blk_drew ?_ | refine blk_alloc ?_ _)); refine blk_far ?_ NB1039_1060.out _; (with_reducible repeat (first | refine blk_drewN ?_ _ | refine blk_drew ?_ | refine blk_alloc ?_ _)); refine blk_far ?_ NB1039_1060.out _; (with_reducible repeat (first | refine blk_drewN ?_ _ | refine blk_drew ?_ | refine blk_alloc ?_ _)); exact BK1039.out) hb); have n5_ := Aside0.mk (blk_below (g := gb1047) (o := .cells #[.int .i64 t1040, .int .i64 t1041, .int .i64 t1042, .slice Ao17 t1043.length co17] 24 (0, 0)) (by (with_reducible repeat (first | refine blk_drewN ?_ _ | refine blk_drew ?_ | refine blk_alloc ?_ _)); refine blk_far ?_ NB1047_1060.out _; (with_reducible repeat (first | refine blk_drewN ?_ _ | refine blk_drew ?_ | refine blk_alloc ?_ _)); refine blk_far ?_ NB1047_1060.out _; (with_reducible repeat (first | refine blk_drewN ?_ _ | refine blk_drew ?_ | refine blk_alloc ?_ _)); refine blk_far ?_ NB1047_1060.out _; (with_reducible repeat (first | refine blk_drewN ?_ _ | refine blk_drew ?_ | refine blk_alloc ?_ _)); refine blk_far ?_ NB1047_1060.out _; (with_reducible repeat (first | refine blk_drewN ?_ _ | refine blk_drew ?_ | refine blk_alloc ?_ _)); exact BK1047.out) hb); have n6_ := Aside0.mk (blk_below (g := gb1060) (o := .cells #[.int .i64 t1053, .int .i64 t1054, .int .i64 t1055, .slice Ao59 t1056.length co59] 24 (0, 0)) (by (with_reducible repeat (first | refine blk_drewN ?_ _ | refine blk_drew ?_ | refine blk_alloc ?_ _)); refine blk_put (cs := #[.int .i64 t1053, .int .i64 t1054, .int .i64 t1055, .slice none 0 0]) ?_ 3 _ rfl; (with_reducible repeat (first | refine blk_drewN ?_ _ | refine blk_drew ?_ | refine blk_alloc ?_ _)); refine blk_put (cs := #[.int .i64 t1053, .int .i64 t1054, .int .i64 0, .slice none 0 0]) ?_ 2 _ rfl; (with_reducible repeat (first | refine blk_drewN ?_ _ | refine blk_drew ?_ | refine blk_alloc ?_ _)); refine blk_put (cs := #[.int .i64 t1053, .int .i64 0, .int .i64 0, .slice none 0 0]) ?_ 1 _ rfl; (with_reducible repeat (first | refine blk_drewN ?_ _ | refine blk_drew ?_ | refine blk_alloc ?_ _)); refine blk_put (cs := #[.int .i64 0, .int .i64 0, .int .i64 0, .slice none 0 0]) ?_ 0 _ rfl; (with_reducible repeat (first | refine blk_drewN ?_ _ | refine blk_drew ?_ | refine blk_alloc ?_ _)); exact BK1060.out) hb); have n7_ := Aside0.mk (below_step (qW HB.out) hb); clear HO_1040003; clear HO_1048003; clear HO1052; clear HO1058; clear BK1039; clear BK1047; clear BK1060; clear HB; have HO_1040003 := n0_; have HO_1048003 := n1_; have HO1052 := n2_; have HO1058 := n3_; have BK1039 := n4_; have BK1047 := n5_; have BK1060 := n6_; have HB := n7_; clear n0_ n1_ n2_ n3_ n4_ n5_ n6_ n7_; (try clear hb); (try clear hb2); (try clear hk); (try clear hi); have hcz62_0 : w61.cell? ⟨gb1060, 0, none⟩ = some (.int .i64 t1053) := (blk_cell BK1060.out 0).trans rfl; have hcz62_1 : w61.cell? ⟨gb1060, 1, none⟩ = some (.int .i64 t1054) := (blk_cell BK1060.out 1).trans rfl; have hcz62_2 : w61.cell? ⟨gb1060, 2, none⟩ = some (.int .i64 t1055) := (blk_cell BK1060.out 2).trans rfl; have hcz62_3 : w61.cell? ⟨gb1060, 3, none⟩ = some (.slice Ao59 t1056.length co59) := (blk_cell BK1060.out 3).trans rfl; have hfz62_0 := blk_frozen BK1060.out 0; have hfz62_1 := blk_frozen BK1060.out 1; have hfz62_2 := blk_frozen BK1060.out 2; have hfz62_3 := blk_frozen BK1060.out 3; have hcz63_0 : w61.cell? ⟨gb1039, 0, none⟩ = some (.int .i64 t1032) := (blk_cell BK1039.out 0).trans rfl; have hcz63_1 : w61.cell? ⟨gb1039, 1, none⟩ = some (.int .i64 t1033) := (blk_cell BK1039.out 1).trans rfl; have hcz63_2 : w61.cell? ⟨gb1039, 2, none⟩ = some (.int .i64 t1034) := (blk_cell BK1039.out 2).trans rfl; have hcz63_3 : w61.cell? ⟨gb1039, 3, none⟩ = some (.slice Ao12 t1035.length co12) := (blk_cell BK1039.out 3).trans rfl; have hfz63_0 := blk_frozen BK1039.out 0; have hfz63_1 := blk_frozen BK1039.out 1; have hfz63_2 := blk_frozen BK1039.out 2; have hfz63_3 := blk_frozen BK1039.out 3) | (go_at_call 21; (with_reducible refine (laws_equalImage.calls kj5 t1053 t1054 t1055 _ _ t1056 t1032 t1033 t1034 _ _ t1035 t1062 _ ?side1 ?side2 ?side3 ?side4 A49.out).mono ?_); (case side1 => repeat (first | exact (Kd.R_reads' HO1058.out).2.2 | (with_reducible refine Kd.C_alloc ?_ _) | (with_reducible refine Kd.C_drewN ?_ _) | (with_reducible refine Kd.C_drew ?_))); (case side2 => exact (Kd.R_reads' HO1058.out).2.1); (case side3 => repeat (first | exact (Kd.R_reads' HO_1040003.out).2.2 | (with_reducible refine Kd.C_alloc ?_ _) | (with_reducible refine Kd.C_drewN ?_ _) | (with_reducible refine Kd.C_drew ?_))); (case side4 => exact (Kd.R_reads' HO_1040003.out).2.1); rintro e w64 ⟨rfl, hb⟩; have n0_ := Aside0.mk (Kd.R_below (qR HO_1040003.out) hb); have n1_ := Aside0.mk (Kd.R_below (qR HO_1048003.out) hb); have n2_ := Aside0.mk (Kd.R_below (qR HO1052.out) hb); have n3_ := Aside0.mk (Kd.R_below (qR HO1058.out) hb); have n4_ := bB BK1039 hb; have n5_ := bB BK1047 hb; have n6_ := bB BK1060 hb; have n7_ := Aside0.mk (below_step (qW HB.out) hb); clear HO_1040003; clear HO_1048003; clear HO1052; clear HO1058; clear BK1039; clear BK1047; clear BK1060; clear HB; have HO_1040003 := n0_; have HO_1048003 := n1_; have HO1052 := n2_; have HO1058 := n3_; have BK1039 := n4_; have BK1047 := n5_; have BK1060 := n6_; have HB := n7_; clear n0_ n1_ n2_ n3_ n4_ n5_ n6_ n7_; (try clear hb); (try clear hb2); (try clear hk); (try clear hi)))
       go_ret
       exact ⟨by first | rfl | (simp [errW_none, errW_some] <;> rfl) | (simp [*, errW_none, errW_some] <;> rfl), by repeat (first | (with_reducible first | exact HB.out | apply below_alloc | apply pw_below_drewN | apply below_drew1 | refine below_set ?_ GE1039.out | refine below_set ?_ GE1047.out | refine below_set ?_ GE1060.out) | exact HB.out)⟩
      ·
       replace c48 := Bool.eq_false_iff.mpr c48
       subst c48
       have H1 : (some false) = some r := by rw [if_neg (show ¬ (false = true) by decide)] at H; exact H
       clear H
       have H := H1
       clear H1
       obtain rfl := Option.some.inj H
       exact absurd hrt (by decide)
     ·
      replace c47 := Bool.eq_false_iff.mpr c47
      subst c47
      have H1 : (some false) = some r := by rw [if_neg (show ¬ (false = true) by decide)] at H; exact H
      clear H
      have H := H1
      clear H1
      obtain rfl := Option.some.inj H
      exact absurd hrt (by decide)/-- THE ONE PURE STATEMENT of laws_FnUnfilterImage: yours. -/
def laws_FnUnfilterImage.Pure : Prop := ∀ (l0 : List Int), l0.length ≤ maxLen → l0.length * 1 ≤ 140737488351232 → (∀ x ∈ l0, (Lit.int .u8 x).wf = true) → ∃ k, laws_FnUnfilterImage.f k l0 = some true
theorem laws_FnUnfilterImage.walk (P : laws_FnUnfilterImage.Pure) (a0 : Option Addr) (len0 cap0 : Nat) (z0 : List Int) (w : World) (w0 : (a0 = none ∧ len0 = 0 ∧ cap0 = 0 ∧ z0 = []) ∨ ∃ x, a0 = some x ∧ len0 ≤ cap0 ∧ cap0 ≤ maxLen ∧ z0.length = cap0 ∧ (∀ i, i < z0.length → w.cell? (x.add i) = some (.int .u8 (z0.getD i 0))) ∧ ∀ n ∈ z0, (Lit.int .u8 n).wf = true) (y0 : len0 * 1 ≤ 140737488351232) :
  Calls Try.prog 9 #[.slice a0 len0 cap0] w fun e w' => e = .returned (.bool true) ∧ Below w.heap.size w w' := by
 obtain ⟨l0, rfl, hr0, hm0, hw0, hc0⟩ := ReadsInt.ofRowC w0
 obtain ⟨k, h⟩ := P l0 hm0 y0 hw0
 refine (laws_FnUnfilterImage.calls k _ _ l0 true w (Kd.C_of_reads (d := (0 : Int)) (h1 := fun _ => rfl) hr0) hc0 h rfl).mono ?_
 rintro e w' ⟨rfl, hd⟩
 exact ⟨rfl, hd⟩

end Go.Proofs.Ytchahbdmdcllaaa.P
