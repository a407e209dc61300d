/- Contracts and row, written by a program of this place out of the translation: the call answers true and its argument reads as before, for every input; no condition. -/
import Derived.Test.YtnamhlcdlbjcfaaPx0
import Derived.Test.YtnamhlcdlbjcfaaK1
import Derived.Test.YtnamhlcdlbjcfaaK2
namespace Go.Proofs.Ytnamhlcdlbjcfaa.P
open Go.RowKit Go.Proofs.YtnamhlcdlbjcfaaW.PrintWords Go.Proofs.YtnamhlcdlbjcfaaW.PrintLast Go.Proofs.YtnamhlcdlbjcfaaW.PrintMore
attribute [local go_sem] max2_int min2_int max_two min_two max_three min_three max_four min_four   -- for this text's walks alone
set_option linter.unusedVariables false
set_option linter.unusedSimpArgs false

/-! ### laws_FnGrayImage: function 4 -/
mutual
def laws_FnGrayImage.j0 : Nat → Bool → Int → Int → Int → List Int → Int → Int → Int → List Int → Option (Bool)
 | 0, _, _, _, _, _, _, _, _, _ => none
 | k + 1, x24, x343000, x343001, x343002, x343003, x350000, x350001, x350002, x350003 => if x24 = true then ((spec_GrayImage.f k x343000 x343001 x343002 x343003).bind fun bt357 => ((laws_equalImage.f k x350000 x350001 x350002 x350003 bt357.1 bt357.2.1 bt357.2.2.1 bt357.2.2.2).bind fun t363 => (some t363))) else (laws_FnGrayImage.l0 k 0 x343000 x343001 x343002 x343003 x350000 x350001 x350002 x350003)
def laws_FnGrayImage.l0 : Nat → Int → Int → Int → Int → List Int → Int → Int → Int → List Int → Option (Bool)
 | 0, _, _, _, _, _, _, _, _, _ => none
 | k + 1, x5, x343000, x343001, x343002, x343003, x350000, x350001, x350002, x350003 => if x5 < (x350003.length : Int) then (laws_FnGrayImage.j2 k x5 (decide ((wrap64 ((wrap64 (3 * x5)) + 2)) < (x343003.length : Int))) x343000 x343001 x343002 x343003 x350000 x350001 x350002 x350003) else (laws_FnGrayImage.j2 k x5 false x343000 x343001 x343002 x343003 x350000 x350001 x350002 x350003)
def laws_FnGrayImage.j2 : Nat → Int → Bool → Int → Int → Int → List Int → Int → Int → Int → List Int → Option (Bool)
 | 0, _, _, _, _, _, _, _, _, _, _ => none
 | k + 1, x5, x42, x343000, x343001, x343002, x343003, x350000, x350001, x350002, x350003 => if x42 = true then (if 0 ≤ (wrap64 (3 * x5)) then (if (wrap64 (3 * x5)) < (x343003.length : Int) then (if 0 ≤ (wrap64 ((wrap64 (3 * x5)) + 1)) then (if (wrap64 ((wrap64 (3 * x5)) + 1)) < (x343003.length : Int) then (if 0 ≤ (wrap64 ((wrap64 (3 * x5)) + 2)) then (if (wrap64 ((wrap64 (3 * x5)) + 2)) < (x343003.length : Int) then (if 0 ≤ x5 then (if x5 < (x350003.length : Int) then (if (rd x350003 x5) < (mn (rd x343003 (wrap64 (3 * x5))) (mn (rd x343003 (wrap64 ((wrap64 (3 * x5)) + 1))) (rd x343003 (wrap64 ((wrap64 (3 * x5)) + 2))))) then (some false) else (if (rd x350003 x5) > (mx (rd x343003 (wrap64 (3 * x5))) (mx (rd x343003 (wrap64 ((wrap64 (3 * x5)) + 1))) (rd x343003 (wrap64 ((wrap64 (3 * x5)) + 2))))) then (some false) else (laws_FnGrayImage.l0 k (wrap64 (x5 + 1)) x343000 x343001 x343002 x343003 x350000 x350001 x350002 x350003))) else (none)) else (none)) else (none)) else (none)) else (none)) else (none)) else (none)) else (none)) else (if x350002 = 1 then (some ((wrap64 (3 * (x350003.length : Int))) == (x343003.length : Int))) else (some false))
end
def laws_FnGrayImage.f (k : Nat) (l0 : List Int) : Option (Bool) := if (l0.length : Int) > 1048576 then (some true) else ((spec_DrawGrayImage.f k l0).bind fun bt336 => ((impl_GrayImage.f bt336.1 bt336.2.1 bt336.2.2.1 bt336.2.2.2).bind fun bt343 => ((spec_GrayImage.f k bt336.1 bt336.2.1 bt336.2.2.1 bt336.2.2.2).bind fun bt350 => ((laws_equalImage.f k bt343.1 bt343.2.1 bt343.2.2.1 bt343.2.2.2 bt350.1 bt350.2.1 bt350.2.2.1 bt350.2.2.2).bind fun t356 => (if t356 = true then (laws_FnGrayImage.j0 k (bt343.1 == 0) bt336.1 bt336.2.1 bt336.2.2.1 bt336.2.2.2 bt343.1 bt343.2.1 bt343.2.2.1 bt343.2.2.2) else (laws_FnGrayImage.j0 k true bt336.1 bt336.2.1 bt336.2.2.1 bt336.2.2.2 bt343.1 bt343.2.1 bt343.2.2.1 bt343.2.2.2))))))
theorem laws_FnGrayImage.mono_l : ∀ k, (∀ y0 y1 y2 y3 y4 y5 y6 y7 y8, LeO (laws_FnGrayImage.j0 k y0 y1 y2 y3 y4 y5 y6 y7 y8) (laws_FnGrayImage.j0 (k + 1) y0 y1 y2 y3 y4 y5 y6 y7 y8)) ∧ (∀ y0 y1 y2 y3 y4 y5 y6 y7 y8, LeO (laws_FnGrayImage.l0 k y0 y1 y2 y3 y4 y5 y6 y7 y8) (laws_FnGrayImage.l0 (k + 1) y0 y1 y2 y3 y4 y5 y6 y7 y8)) ∧ (∀ y0 y1 y2 y3 y4 y5 y6 y7 y8 y9, LeO (laws_FnGrayImage.j2 k y0 y1 y2 y3 y4 y5 y6 y7 y8 y9) (laws_FnGrayImage.j2 (k + 1) y0 y1 y2 y3 y4 y5 y6 y7 y8 y9))
 | 0 => ⟨fun _ _ _ _ _ _ _ _ _ r h => by simp [laws_FnGrayImage.j0] at h, fun _ _ _ _ _ _ _ _ _ r h => by simp [laws_FnGrayImage.l0] at h, fun _ _ _ _ _ _ _ _ _ _ r h => by simp [laws_FnGrayImage.j2] at h⟩
 | k + 1 => by
  obtain ⟨ih0, ih1, ih2⟩ := laws_FnGrayImage.mono_l k
  refine ⟨?_, ?_, ?_⟩
  ·
   intro y0 y1 y2 y3 y4 y5 y6 y7 y8
   unfold laws_FnGrayImage.j0
   repeat' first
   | (with_reducible exact ih0 _ _ _ _ _ _ _ _ _)
   | (with_reducible exact ih1 _ _ _ _ _ _ _ _ _)
   | (with_reducible exact ih2 _ _ _ _ _ _ _ _ _ _)
   | (with_reducible exact laws_equalImage.mono _ _ _ _ _ _ _ _ _)
   | (with_reducible exact spec_DrawGrayImage.mono _ _)
   | (with_reducible exact spec_GrayImage.mono _ _ _ _ _)
   | (with_reducible exact LeO.refl _)
   | (with_reducible exact LeO.none _)
   | (with_reducible refine LeO.ite ?_ ?_)
   | (with_reducible refine LeO.bind ?_ (fun _ => ?_))
   | exact ih0 _ _ _ _ _ _ _ _ _
   | exact ih1 _ _ _ _ _ _ _ _ _
   | exact ih2 _ _ _ _ _ _ _ _ _ _
   | exact laws_equalImage.mono _ _ _ _ _ _ _ _ _
   | exact spec_DrawGrayImage.mono _ _
   | exact spec_GrayImage.mono _ _ _ _ _
   | exact LeO.none _
   | refine LeO.ite ?_ ?_
   | refine LeO.bind ?_ (fun _ => ?_)
  ·
   intro y0 y1 y2 y3 y4 y5 y6 y7 y8
   unfold laws_FnGrayImage.l0
   repeat' first
   | (with_reducible exact ih0 _ _ _ _ _ _ _ _ _)
   | (with_reducible exact ih1 _ _ _ _ _ _ _ _ _)
   | (with_reducible exact ih2 _ _ _ _ _ _ _ _ _ _)
   | (with_reducible exact laws_equalImage.mono _ _ _ _ _ _ _ _ _)
   | (with_reducible exact spec_DrawGrayImage.mono _ _)
   | (with_reducible exact spec_GrayImage.mono _ _ _ _ _)
   | (with_reducible exact LeO.refl _)
   | (with_reducible exact LeO.none _)
   | (with_reducible refine LeO.ite ?_ ?_)
   | (with_reducible refine LeO.bind ?_ (fun _ => ?_))
   | exact ih0 _ _ _ _ _ _ _ _ _
   | exact ih1 _ _ _ _ _ _ _ _ _
   | exact ih2 _ _ _ _ _ _ _ _ _ _
   | exact laws_equalImage.mono _ _ _ _ _ _ _ _ _
   | exact spec_DrawGrayImage.mono _ _
   | exact spec_GrayImage.mono _ _ _ _ _
   | exact LeO.none _
   | refine LeO.ite ?_ ?_
   | refine LeO.bind ?_ (fun _ => ?_)
  ·
   intro y0 y1 y2 y3 y4 y5 y6 y7 y8 y9
   unfold laws_FnGrayImage.j2
   repeat' first
   | (with_reducible exact ih0 _ _ _ _ _ _ _ _ _)
   | (with_reducible exact ih1 _ _ _ _ _ _ _ _ _)
   | (with_reducible exact ih2 _ _ _ _ _ _ _ _ _ _)
   | (with_reducible exact laws_equalImage.mono _ _ _ _ _ _ _ _ _)
   | (with_reducible exact spec_DrawGrayImage.mono _ _)
   | (with_reducible exact spec_GrayImage.mono _ _ _ _ _)
   | (with_reducible exact LeO.refl _)
   | (with_reducible exact LeO.none _)
   | (with_reducible refine LeO.ite ?_ ?_)
   | (with_reducible refine LeO.bind ?_ (fun _ => ?_))
   | exact ih0 _ _ _ _ _ _ _ _ _
   | exact ih1 _ _ _ _ _ _ _ _ _
   | exact ih2 _ _ _ _ _ _ _ _ _ _
   | exact laws_equalImage.mono _ _ _ _ _ _ _ _ _
   | exact spec_DrawGrayImage.mono _ _
   | exact spec_GrayImage.mono _ _ _ _ _
   | exact LeO.none _
   | refine LeO.ite ?_ ?_
   | refine LeO.bind ?_ (fun _ => ?_)
theorem laws_FnGrayImage.mono : ∀ a0 k, LeO (laws_FnGrayImage.f k a0) (laws_FnGrayImage.f (k + 1) a0) := by
 intro a0 k
 obtain ⟨ih0, ih1, ih2⟩ := laws_FnGrayImage.mono_l k
 unfold laws_FnGrayImage.f
 repeat' first
   | (with_reducible exact ih0 _ _ _ _ _ _ _ _ _)
   | (with_reducible exact ih1 _ _ _ _ _ _ _ _ _)
   | (with_reducible exact ih2 _ _ _ _ _ _ _ _ _ _)
   | (with_reducible exact laws_equalImage.mono _ _ _ _ _ _ _ _ _)
   | (with_reducible exact spec_DrawGrayImage.mono _ _)
   | (with_reducible exact spec_GrayImage.mono _ _ _ _ _)
   | (with_reducible exact LeO.refl _)
   | (with_reducible exact LeO.none _)
   | (with_reducible refine LeO.ite ?_ ?_)
   | (with_reducible refine LeO.bind ?_ (fun _ => ?_))
   | exact ih0 _ _ _ _ _ _ _ _ _
   | exact ih1 _ _ _ _ _ _ _ _ _
   | exact ih2 _ _ _ _ _ _ _ _ _ _
   | exact laws_equalImage.mono _ _ _ _ _ _ _ _ _
   | exact spec_DrawGrayImage.mono _ _
   | exact spec_GrayImage.mono _ _ _ _ _
   | exact LeO.none _
   | refine LeO.ite ?_ ?_
   | refine LeO.bind ?_ (fun _ => ?_)
def laws_FnGrayImage.T5 : Bool × List (List Nat × List Nat) := (true, [([], []), ([], []), ([1], [1]), ([0, 2, 2], [0, 2]), ([3], [3]), ([4, 3], [4]), ([5], [5]), ([6, 5], [5, 6]), ([7, 5], [5, 7]), ([5, 8], [5, 8])])
def laws_FnGrayImage.B5 : List Nat := [0, 0, 2, 7, 15, 31, 63, 127, 255, 511]
theorem laws_FnGrayImage.tab5 : rtab .any (opsOf Try.f4 5) = laws_FnGrayImage.T5 := by kernel_rfl
theorem laws_FnGrayImage.bits5 : waitsOk laws_FnGrayImage.T5.2 laws_FnGrayImage.B5 = true := by kernel_rfl
def laws_FnGrayImage.T10 : Bool × List (List Nat × List Nat) := (true, [([], []), ([0], [0]), ([], []), ([2], [2]), ([1, 3], [1, 3]), ([4], [4]), ([], []), ([6], [6]), ([], []), ([8], [8]), ([9], [9]), ([7, 10], [7, 10]), ([11], [11]), ([], []), ([13], [13]), ([], []), ([15], [15]), ([16], [16]), ([14, 17], [14, 17]), ([18], [18]), ([12, 19], [12, 19]), ([5, 20], [5, 20]), ([21, 0, 1, 2, 3, 4, 5, 6, 7, 8, 9, 10, 11, 12, 13, 14, 15, 16, 17, 18, 19, 20, 21], [21])])
def laws_FnGrayImage.B10 : List Nat := [0, 1, 0, 4, 15, 31, 0, 64, 0, 256, 768, 1984, 4032, 0, 8192, 0, 32768, 98304, 253952, 516096, 1048512, 2097151, 4194303]
theorem laws_FnGrayImage.tab10 : rtab .any (opsOf Try.f4 10) = laws_FnGrayImage.T10 := by kernel_rfl
theorem laws_FnGrayImage.bits10 : waitsOk laws_FnGrayImage.T10.2 laws_FnGrayImage.B10 = true := by kernel_rfl
def laws_FnGrayImage.T11 : Bool × List (List Nat × List Nat) := (true, [([], []), ([0], [0]), ([], []), ([2], [2]), ([1, 3], [1, 3]), ([4], [4]), ([], []), ([6], [6]), ([], []), ([8], [8]), ([9], [9]), ([7, 10], [7, 10]), ([11], [11]), ([], []), ([13], [13]), ([], []), ([15], [15]), ([16], [16]), ([14, 17], [14, 17]), ([18], [18]), ([12, 19], [12, 19]), ([5, 20], [5, 20]), ([21, 0, 1, 2, 3, 4, 5, 6, 7, 8, 9, 10, 11, 12, 13, 14, 15, 16, 17, 18, 19, 20, 21], [21])])
def laws_FnGrayImage.B11 : List Nat := [0, 1, 0, 4, 15, 31, 0, 64, 0, 256, 768, 1984, 4032, 0, 8192, 0, 32768, 98304, 253952, 516096, 1048512, 2097151, 4194303]
theorem laws_FnGrayImage.tab11 : rtab .any (opsOf Try.f4 11) = laws_FnGrayImage.T11 := by kernel_rfl
theorem laws_FnGrayImage.bits11 : waitsOk laws_FnGrayImage.T11.2 laws_FnGrayImage.B11 = true := by kernel_rfl
set_option maxHeartbeats 8000000 in
set_option maxRecDepth 100000 in
theorem laws_FnGrayImage.calls (k : Nat) (A0 : Option Addr) (c0 : Nat) (l0 : List Int) (r : Bool) (w : World) (hr0 : Kd.C (Kd.int .u8) w A0 l0.length l0) (hc0 : l0.length ≤ c0) (h : laws_FnGrayImage.f k l0 = some r) (hrt : r = true) :
  Calls Try.prog 4 #[.slice A0 l0.length c0] w fun e w' => e = .returned (.bool r) ∧ Below w.heap.size w w' := by
 have hu26 := Try.underlying26
 have HR0 := Aside0.mk hr0
 have HC0 := Aside0.mk hc0
 clear hr0 hc0
 have HB := Aside0.mk (Below.refl w.heap.size w)
 have H : (if (l0.length : Int) > 1048576 then (some true) else ((spec_DrawGrayImage.f k l0).bind fun bt336 => ((impl_GrayImage.f bt336.1 bt336.2.1 bt336.2.2.1 bt336.2.2.2).bind fun bt343 => ((spec_GrayImage.f k bt336.1 bt336.2.1 bt336.2.2.1 bt336.2.2.2).bind fun bt350 => ((laws_equalImage.f k bt343.1 bt343.2.1 bt343.2.2.1 bt343.2.2.2 bt350.1 bt350.2.1 bt350.2.2.1 bt350.2.2.2).bind fun t356 => (if t356 = true then (laws_FnGrayImage.j0 k (bt343.1 == 0) bt336.1 bt336.2.1 bt336.2.2.1 bt336.2.2.2 bt343.1 bt343.2.1 bt343.2.2.1 bt343.2.2.2) else (laws_FnGrayImage.j0 k true bt336.1 bt336.2.1 bt336.2.2.1 bt336.2.2.2 bt343.1 bt343.2.1 bt343.2.2.1 bt343.2.2.2))))))) = some r := h
 clear h
 by_cases c2 : (l0.length : Int) > 1048576
 ·
  rw [if_pos c2] at H
  have c2b0 : decide (1048576 < (l0.length : Int)) = true := decide_eq_true c2
  have c2b1 : decide (1048576 < l0.length) = true := decide_eq_true (by omega)
  clear c2
  obtain rfl := Option.some.inj H
  go_enter Try.func4, Try.ntmps4
  go_wp2
  go_ret
  exact ⟨by first | rfl | (simp [errW_none, errW_some] <;> rfl) | (simp [*, errW_none, errW_some] <;> rfl), by repeat (first | (with_reducible first | exact HB.out | apply below_alloc | apply pw_below_drewN | apply below_drew1) | exact HB.out)⟩
 ·
  rw [if_neg c2] at H
  have c2b0 : decide (1048576 < (l0.length : Int)) = false := decide_eq_false c2
  have c2b1 : decide (1048576 < l0.length) = false := decide_eq_false (by omega)
  clear c2
  replace H := Option.bind_eq_some_iff.mp H
  obtain ⟨⟨t336, t337, t338, t339⟩, A30, H⟩ := H
  replace H : ((impl_GrayImage.f t336 t337 t338 t339).bind fun bt343 => ((spec_GrayImage.f k t336 t337 t338 t339).bind fun bt350 => ((laws_equalImage.f k bt343.1 bt343.2.1 bt343.2.2.1 bt343.2.2.2 bt350.1 bt350.2.1 bt350.2.2.1 bt350.2.2.2).bind fun t356 => (if t356 = true then (laws_FnGrayImage.j0 k (bt343.1 == 0) t336 t337 t338 t339 bt343.1 bt343.2.1 bt343.2.2.1 bt343.2.2.2) else (laws_FnGrayImage.j0 k true t336 t337 t338 t339 bt343.1 bt343.2.1 bt343.2.2.1 bt343.2.2.2))))) = some r := H
  have A3 := Aside0.mk A30
  clear A30
  replace H := Option.bind_eq_some_iff.mp H
  obtain ⟨⟨t343, t344, t345, t346⟩, A40, H⟩ := H
  replace H : ((spec_GrayImage.f k t336 t337 t338 t339).bind fun bt350 => ((laws_equalImage.f k t343 t344 t345 t346 bt350.1 bt350.2.1 bt350.2.2.1 bt350.2.2.2).bind fun t356 => (if t356 = true then (laws_FnGrayImage.j0 k (t343 == 0) t336 t337 t338 t339 t343 t344 t345 t346) else (laws_FnGrayImage.j0 k true t336 t337 t338 t339 t343 t344 t345 t346)))) = some r := H
  have A4 := Aside0.mk A40
  clear A40
  have HC5 := Aside0.mk H
  clear H
  go_enter Try.func4, Try.ntmps4
  go_upto_region 5 with (first | ((with_reducible refine gate_callee (f := 22) rfl ?_); refine goesL_ (some 12) rfl rfl Try.func22 (by kernel_rfl) rfl #[.slice A0 l0.length c0] rfl (by (try simp only [List.map_toArray, List.map_cons, List.map_nil]); first | done | rfl | (simp only [List.length_drop, List.length_take]; rfl)) ?_; (with_reducible refine (spec_DrawGrayImage.calls k _ _ l0 t336 t337 t338 t339 _ ?side1 ?side2 A3.out).mono ?_); (case side1 => repeat (first | exact HR0.out | (with_reducible refine Kd.C_alloc ?_ _) | (with_reducible refine Kd.C_drewN ?_ _) | (with_reducible refine Kd.C_drew ?_))); (case side2 => exact HC0.out); rintro e w6 ⟨v340, rfl, ho0, hb⟩; refine ⟨_, rfl, ?_⟩; have n0_ := Aside0.mk (Kd.Q_lower ho0 (below_size (by repeat (first | (with_reducible first | exact HB.out | apply below_alloc | apply pw_below_drewN | apply below_drew1) | exact HB.out)))); have n1_ := Aside0.mk (below_step (by repeat (first | (with_reducible first | exact HB.out | apply below_alloc | apply pw_below_drewN | apply below_drew1) | exact HB.out)) hb); clear HB; have HO341 := n0_; have HB := n1_; clear n0_ n1_; (try clear hb); (try clear hb2); (try clear hk); (try clear hi); (try clear ho0)) | ((with_reducible refine gate_dst (N := 3) rfl ?_); (try (refine gate_guard (by rfl) ?_; dsimp only)); refine box_event ?hg (N := 3) ?hd (cs := #[.int .i64 0, .int .i64 0, .int .i64 0, .slice none 0 0]) (t := 26) ?hr ?_; (case hd => rfl); (case hg => rfl); (case hr => first | (go_simp; done) | (go_simp; rfl)); intro gb342 hg w7 hbox hb; have n0_ := Aside0.mk (Kd.Q_below (by (with_reducible repeat (first | apply Kd.Q_alloc | apply Kd.Q_drewN | apply Kd.Q_drew)); exact HO341.out) hb); have n1_ := Aside0.mk (below_step (by repeat (first | (with_reducible first | exact HB.out | apply below_alloc | apply pw_below_drewN | apply below_drew1) | exact HB.out)) hb); have n2_ := Aside0.mk (hbox); have n3_ := Aside0.mk ((by rw [hg]; exact (below_size (by repeat (first | (with_reducible first | exact HB.out | apply below_alloc | apply pw_below_drewN | apply below_drew1) | exact HB.out))) : w.heap.size ≤ gb342)); have n4_ := Aside0.mk ((by rw [hg]; exact (below_size (by repeat (first | (with_reducible first | exact HB.out | apply below_alloc | apply pw_below_drewN | apply below_drew1) | exact HB.out))) : w.heap.size ≤ gb342)); clear HO341; clear HB; have HO341 := n0_; have HB := n1_; have BK342 := n2_; have GW342 := n3_; have GE342 := n4_; clear n0_ n1_ n2_ n3_ n4_; clear hb hbox hg; have hcz8_0 : w7.cell? ⟨gb342, 0, none⟩ = some (.int .i64 0) := (blk_cell BK342.out 0).trans rfl; have hcz8_1 : w7.cell? ⟨gb342, 1, none⟩ = some (.int .i64 0) := (blk_cell BK342.out 1).trans rfl; have hcz8_2 : w7.cell? ⟨gb342, 2, none⟩ = some (.int .i64 0) := (blk_cell BK342.out 2).trans rfl; have hcz8_3 : w7.cell? ⟨gb342, 3, none⟩ = some (.slice none 0 0) := (blk_cell BK342.out 3).trans rfl; have hfz8_0 := blk_frozen BK342.out 0; have hfz8_1 := blk_frozen BK342.out 1; have hfz8_2 := blk_frozen BK342.out 2; have hfz8_3 := blk_frozen BK342.out 3; obtain ⟨Ao9, co9, eo9, _⟩ := Kd.Q_slice HO341.out; subst eo9) | ((with_reducible refine gate_callee (f := 18) rfl ?_); refine goesL_ (some 14) rfl rfl Try.func18 (by kernel_rfl) rfl #[.agg #[.int .i64 t336, .int .i64 t337, .int .i64 t338, .slice Ao9 t339.length co9]] rfl (by (try simp only [List.map_toArray, List.map_cons, List.map_nil]); first | done | rfl | (simp only [List.length_drop, List.length_take]; rfl)) ?_; (with_reducible refine (impl_GrayImage.calls t336 t337 t338 _ _ t339 t343 t344 t345 t346 _ ?side1 ?side2 A4.out).mono ?_); (case side1 => refine (Kd.Q_reads' (e := 3) (base := w.heap.size) (ok := fun k_ => True) (n := t339.length) (c := co9) ?_).2.2; exact (by (with_reducible repeat (first | apply Kd.Q_alloc | apply Kd.Q_drewN | apply Kd.Q_drew)); exact (Kd.Q_mono (Kd.Q_far (p := ⟨gb342, 3, none⟩) (Kd.Q_far (p := ⟨gb342, 2, none⟩) (Kd.Q_far (p := ⟨gb342, 1, none⟩) (Kd.Q_far (p := ⟨gb342, 0, none⟩) (Kd.Q_types HO341.out BK342.out (by decide)) (fun _ hk => hk.2) (.int .i64 t336)) (fun _ hk => hk.2) (.int .i64 t337)) (fun _ hk => hk.2) (.int .i64 t338)) (fun _ hk => hk.2) (.slice Ao9 t339.length co9)) (fun _ h_ => h_.1)))); (case side2 => exact (Kd.Q_reads' HO341.out).2.1); rintro e w10 ⟨v347, rfl, ho0, hb⟩; refine ⟨_, rfl, ?_⟩; have n0_ := Aside0.mk (Kd.Q_elder' (by (with_reducible repeat (first | apply Kd.Q_alloc | apply Kd.Q_drewN | apply Kd.Q_drew)); exact (Kd.Q_mono (Kd.Q_far (p := ⟨gb342, 3, none⟩) (Kd.Q_far (p := ⟨gb342, 2, none⟩) (Kd.Q_far (p := ⟨gb342, 1, none⟩) (Kd.Q_far (p := ⟨gb342, 0, none⟩) (Kd.Q_types HO341.out BK342.out (by decide)) (fun _ hk => hk.2) (.int .i64 t336)) (fun _ hk => hk.2) (.int .i64 t337)) (fun _ hk => hk.2) (.int .i64 t338)) (fun _ hk => hk.2) (.slice Ao9 t339.length co9)) (fun _ h_ => h_.1))) (Kd.R_base ho0) hb); have n1_ := Aside0.mk (Kd.R_lower (Kd.R_new' ho0 (Kd.Q_lt (by (with_reducible repeat (first | apply Kd.Q_alloc | apply Kd.Q_drewN | apply Kd.Q_drew)); exact (Kd.Q_mono (Kd.Q_far (p := ⟨gb342, 3, none⟩) (Kd.Q_far (p := ⟨gb342, 2, none⟩) (Kd.Q_far (p := ⟨gb342, 1, none⟩) (Kd.Q_far (p := ⟨gb342, 0, none⟩) (Kd.Q_types HO341.out BK342.out (by decide)) (fun _ hk => hk.2) (.int .i64 t336)) (fun _ hk => hk.2) (.int .i64 t337)) (fun _ hk => hk.2) (.int .i64 t338)) (fun _ hk => hk.2) (.slice Ao9 t339.length co9)) (fun _ h_ => h_.1))))) (below_size (by repeat (first | (with_reducible first | exact HB.out | apply below_alloc | apply pw_below_drewN | apply below_drew1 | refine below_set ?_ GE342.out) | exact HB.out)))); have n2_ := Aside0.mk (blk_below (g := gb342) (o := .cells #[.int .i64 t336, .int .i64 t337, .int .i64 t338, .slice Ao9 t339.length co9] 26 (0, 0)) (by (with_reducible repeat (first | refine blk_drewN ?_ _ | refine blk_drew ?_ | refine blk_alloc ?_ _)); refine blk_put (cs := #[.int .i64 t336, .int .i64 t337, .int .i64 t338, .slice none 0 0]) ?_ 3 _ rfl; (with_reducible repeat (first | refine blk_drewN ?_ _ | refine blk_drew ?_ | refine blk_alloc ?_ _)); refine blk_put (cs := #[.int .i64 t336, .int .i64 t337, .int .i64 0, .slice none 0 0]) ?_ 2 _ rfl; (with_reducible repeat (first | refine blk_drewN ?_ _ | refine blk_drew ?_ | refine blk_alloc ?_ _)); refine blk_put (cs := #[.int .i64 t336, .int .i64 0, .int .i64 0, .slice none 0 0]) ?_ 1 _ rfl; (with_reducible repeat (first | refine blk_drewN ?_ _ | refine blk_drew ?_ | refine blk_alloc ?_ _)); refine blk_put (cs := #[.int .i64 0, .int .i64 0, .int .i64 0, .slice none 0 0]) ?_ 0 _ rfl; (with_reducible repeat (first | refine blk_drewN ?_ _ | refine blk_drew ?_ | refine blk_alloc ?_ _)); exact BK342.out) hb); have n3_ := Aside0.mk (below_step (by repeat (first | (with_reducible first | exact HB.out | apply below_alloc | apply pw_below_drewN | apply below_drew1 | refine below_set ?_ GE342.out) | exact HB.out)) hb); clear HO341; clear BK342; clear HB; have HO341 := n0_; have HO348 := n1_; have BK342 := n2_; have HB := n3_; clear n0_ n1_ n2_ n3_; (try clear hb); (try clear hb2); (try clear hk); (try clear hi); (try clear ho0)) | ((with_reducible refine gate_dst (N := 4) rfl ?_); (try (refine gate_guard (by rfl) ?_; dsimp only)); refine box_event ?hg (N := 4) ?hd (cs := #[.int .i64 0, .int .i64 0, .int .i64 0, .slice none 0 0]) (t := 26) ?hr ?_; (case hd => rfl); (case hg => rfl); (case hr => first | (go_simp; done) | (go_simp; rfl)); intro gb349 hg w11 hbox hb; have n0_ := Aside0.mk (Kd.Q_below (by (with_reducible repeat (first | apply Kd.Q_alloc | apply Kd.Q_drewN | apply Kd.Q_drew)); exact HO341.out) hb); have n1_ := Aside0.mk (Kd.R_below (by (with_reducible repeat (first | apply Kd.R_alloc | apply Kd.R_drewN | apply Kd.R_drew)); exact HO348.out) hb); have n2_ := Aside0.mk (blk_below (g := gb342) (o := .cells #[.int .i64 t336, .int .i64 t337, .int .i64 t338, .slice Ao9 t339.length co9] 26 (0, 0)) (by (with_reducible repeat (first | refine blk_drewN ?_ _ | refine blk_drew ?_ | refine blk_alloc ?_ _)); exact BK342.out) hb); have n3_ := Aside0.mk (below_step (by repeat (first | (with_reducible first | exact HB.out | apply below_alloc | apply pw_below_drewN | apply below_drew1 | refine below_set ?_ GE342.out) | exact HB.out)) hb); have n4_ := Aside0.mk (hbox); have n5_ := Aside0.mk ((by rw [hg]; exact (below_size (by repeat (first | (with_reducible first | exact HB.out | apply below_alloc | apply pw_below_drewN | apply below_drew1 | refine below_set ?_ GE342.out) | exact HB.out))) : w.heap.size ≤ gb349)); have n6_ := Aside0.mk ((by rw [hg]; exact (below_size (by repeat (first | (with_reducible first | exact HB.out | apply below_alloc | apply pw_below_drewN | apply below_drew1 | refine below_set ?_ GE342.out) | exact HB.out))) : w.heap.size ≤ gb349)); have n7_ := Aside0.mk ((by rw [hg]; exact Nat.ne_of_lt (blk_lt (g := gb342) (o := .cells #[.int .i64 t336, .int .i64 t337, .int .i64 t338, .slice Ao9 t339.length co9] 26 (0, 0)) (by (with_reducible repeat (first | refine blk_drewN ?_ _ | refine blk_drew ?_ | refine blk_alloc ?_ _)); exact BK342.out)) : gb342 ≠ gb349)); have n8_ := Aside0.mk ((by rw [hg]; exact Nat.ne_of_gt (blk_lt (g := gb342) (o := .cells #[.int .i64 t336, .int .i64 t337, .int .i64 t338, .slice Ao9 t339.length co9] 26 (0, 0)) (by (with_reducible repeat (first | refine blk_drewN ?_ _ | refine blk_drew ?_ | refine blk_alloc ?_ _)); exact BK342.out)) : gb349 ≠ gb342)); clear HO341; clear HO348; clear BK342; clear HB; have HO341 := n0_; have HO348 := n1_; have BK342 := n2_; have HB := n3_; have BK349 := n4_; have GW349 := n5_; have GE349 := n6_; have NB342_349 := n7_; have NB349_342 := n8_; clear n0_ n1_ n2_ n3_ n4_ n5_ n6_ n7_ n8_; clear hb hbox hg; have hnb12 := NB349_342.out; have hnc12 := NB342_349.out; have hcz13_0 : w11.cell? ⟨gb349, 0, none⟩ = some (.int .i64 0) := (blk_cell BK349.out 0).trans rfl; have hcz13_1 : w11.cell? ⟨gb349, 1, none⟩ = some (.int .i64 0) := (blk_cell BK349.out 1).trans rfl; have hcz13_2 : w11.cell? ⟨gb349, 2, none⟩ = some (.int .i64 0) := (blk_cell BK349.out 2).trans rfl; have hcz13_3 : w11.cell? ⟨gb349, 3, none⟩ = some (.slice none 0 0) := (blk_cell BK349.out 3).trans rfl; have hfz13_0 := blk_frozen BK349.out 0; have hfz13_1 := blk_frozen BK349.out 1; have hfz13_2 := blk_frozen BK349.out 2; have hfz13_3 := blk_frozen BK349.out 3; obtain ⟨Ao14, co14, eo14⟩ := Kd.R_slice HO348.out; subst eo14))
  (try simp only [Act.put, List.setIfInBounds_toArray, List.set_cons_zero, List.set_cons_succ])
  go_cut [24] (fun v24 wc => ∃ (kq : Nat) (x24_4 : Bool), v24 = .bool x24_4 ∧ Aside0 (laws_FnGrayImage.j0 kq x24_4 t336 t337 t338 t339 t343 t344 t345 t346 = some r) ∧ Aside0 (kq ≤ k) ∧ Aside0 (Kd.Q (Kd.int .i64) 3 wc w.heap.size (fun k_ => some k_ ≠ ((.slice Ao14 t346.length co14) : Value).ownBlock) (.slice Ao9 t339.length co9) t339) ∧ Aside0 (Kd.Q (Kd.int .i64) 3 wc w.heap.size (fun k_ => some k_ ≠ ((.slice Ao9 t339.length co9) : Value).ownBlock) (.slice Ao14 t346.length co14) t346) ∧ Aside0 (wc.heap[gb342]? = some (.cells #[.int .i64 t336, .int .i64 t337, .int .i64 t338, (.slice Ao9 t339.length co9)] 26 (0, 0))) ∧ Aside0 (wc.heap[gb349]? = some (.cells #[.int .i64 t343, .int .i64 t344, .int .i64 t345, (.slice Ao14 t346.length co14)] 26 (0, 0))) ∧ Aside0 (Below w.heap.size w wc))
  case first =>
   have H := HC5.out
   clear HC5
   replace H := Option.bind_eq_some_iff.mp H
   obtain ⟨⟨t350, t351, t352, t353⟩, A150, H⟩ := H
   replace H : ((laws_equalImage.f k t343 t344 t345 t346 t350 t351 t352 t353).bind fun t356 => (if t356 = true then (laws_FnGrayImage.j0 k (t343 == 0) t336 t337 t338 t339 t343 t344 t345 t346) else (laws_FnGrayImage.j0 k true t336 t337 t338 t339 t343 t344 t345 t346))) = some r := H
   have A15 := Aside0.mk A150
   clear A150
   replace H := Option.bind_eq_some_iff.mp H
   obtain ⟨t356, A160, H⟩ := H
   replace H : (if t356 = true then (laws_FnGrayImage.j0 k (t343 == 0) t336 t337 t338 t339 t343 t344 t345 t346) else (laws_FnGrayImage.j0 k true t336 t337 t338 t339 t343 t344 t345 t346)) = some r := H
   have A16 := Aside0.mk A160
   clear A160
   by_cases c17 : t356 = true
   ·
    subst c17
    have H1 : (laws_FnGrayImage.j0 k (t343 == 0) t336 t337 t338 t339 t343 t344 t345 t346) = some r := by rw [if_pos rfl] at H; exact H
    clear H
    have H := H1
    clear H1
    have H' := Aside0.mk H
    clear H
    try go_wp2
    have n0_ : Aside0 (Kd.Q (Kd.int .i64) 3 ((((w11.setCell ⟨gb349, 0, none⟩ (.int .i64 t343)).setCell ⟨gb349, 1, none⟩ (.int .i64 t344)).setCell ⟨gb349, 2, none⟩ (.int .i64 t345)).setCell ⟨gb349, 3, none⟩ (.slice Ao14 t346.length co14)) w.heap.size (fun k_ => some k_ ≠ (.slice Ao14 t346.length co14 : Value).ownBlock) (.slice Ao9 t339.length co9) t339) := ⟨by (with_reducible repeat (first | apply Kd.Q_alloc | apply Kd.Q_drewN | apply Kd.Q_drew)); exact Kd.Q_mono (Kd.Q_far (p := ⟨gb349, 3, none⟩) (Kd.Q_far (p := ⟨gb349, 2, none⟩) (Kd.Q_far (p := ⟨gb349, 1, none⟩) (Kd.Q_far (p := ⟨gb349, 0, none⟩) (Kd.Q_types HO341.out BK349.out (by decide)) (fun _ hk => hk.2) (.int .i64 t343)) (fun _ hk => hk.2) (.int .i64 t344)) (fun _ hk => hk.2) (.int .i64 t345)) (fun _ hk => hk.2) (.slice Ao14 t346.length co14)) (fun _ hk => hk.1.2)⟩
    have n1_ : Aside0 (Kd.R (Kd.int .i64) 3 ((((w11.setCell ⟨gb349, 0, none⟩ (.int .i64 t343)).setCell ⟨gb349, 1, none⟩ (.int .i64 t344)).setCell ⟨gb349, 2, none⟩ (.int .i64 t345)).setCell ⟨gb349, 3, none⟩ (.slice Ao14 t346.length co14)) w.heap.size (fun k_ => some k_ ≠ (.slice Ao9 t339.length co9 : Value).ownBlock) (.slice Ao14 t346.length co14) t346) := ⟨by (with_reducible repeat (first | apply Kd.R_alloc | apply Kd.R_drewN | apply Kd.R_drew)); exact Kd.R_mono (Kd.R_far (p := ⟨gb349, 3, none⟩) (Kd.R_far (p := ⟨gb349, 2, none⟩) (Kd.R_far (p := ⟨gb349, 1, none⟩) (Kd.R_far (p := ⟨gb349, 0, none⟩) (Kd.R_types HO348.out BK349.out (by decide)) (fun _ hk => hk.2) (.int .i64 t343)) (fun _ hk => hk.2) (.int .i64 t344)) (fun _ hk => hk.2) (.int .i64 t345)) (fun _ hk => hk.2) (.slice Ao14 t346.length co14)) (fun _ hk => hk.1.2)⟩
    have n2_ : Aside0 (((((w11.setCell ⟨gb349, 0, none⟩ (.int .i64 t343)).setCell ⟨gb349, 1, none⟩ (.int .i64 t344)).setCell ⟨gb349, 2, none⟩ (.int .i64 t345)).setCell ⟨gb349, 3, none⟩ (.slice Ao14 t346.length co14)).heap[gb342]? = some (.cells #[.int .i64 t336, .int .i64 t337, .int .i64 t338, .slice Ao9 t339.length co9] 26 (0, 0))) := ⟨by (with_reducible repeat (first | refine blk_drewN ?_ _ | refine blk_drew ?_ | refine blk_alloc ?_ _)); refine blk_far ?_ NB342_349.out _; (with_reducible repeat (first | refine blk_drewN ?_ _ | refine blk_drew ?_ | refine blk_alloc ?_ _)); refine blk_far ?_ NB342_349.out _; (with_reducible repeat (first | refine blk_drewN ?_ _ | refine blk_drew ?_ | refine blk_alloc ?_ _)); refine blk_far ?_ NB342_349.out _; (with_reducible repeat (first | refine blk_drewN ?_ _ | refine blk_drew ?_ | refine blk_alloc ?_ _)); refine blk_far ?_ NB342_349.out _; (with_reducible repeat (first | refine blk_drewN ?_ _ | refine blk_drew ?_ | refine blk_alloc ?_ _)); exact BK342.out⟩
    have n3_ : Aside0 (((((w11.setCell ⟨gb349, 0, none⟩ (.int .i64 t343)).setCell ⟨gb349, 1, none⟩ (.int .i64 t344)).setCell ⟨gb349, 2, none⟩ (.int .i64 t345)).setCell ⟨gb349, 3, none⟩ (.slice Ao14 t346.length co14)).heap[gb349]? = some (.cells #[.int .i64 t343, .int .i64 t344, .int .i64 t345, .slice Ao14 t346.length co14] 26 (0, 0))) := ⟨by (with_reducible repeat (first | refine blk_drewN ?_ _ | refine blk_drew ?_ | refine blk_alloc ?_ _)); refine blk_put (cs := #[.int .i64 t343, .int .i64 t344, .int .i64 t345, .slice none 0 0]) ?_ 3 _ rfl; (with_reducible repeat (first | refine blk_drewN ?_ _ | refine blk_drew ?_ | refine blk_alloc ?_ _)); refine blk_put (cs := #[.int .i64 t343, .int .i64 t344, .int .i64 0, .slice none 0 0]) ?_ 2 _ rfl; (with_reducible repeat (first | refine blk_drewN ?_ _ | refine blk_drew ?_ | refine blk_alloc ?_ _)); refine blk_put (cs := #[.int .i64 t343, .int .i64 0, .int .i64 0, .slice none 0 0]) ?_ 1 _ rfl; (with_reducible repeat (first | refine blk_drewN ?_ _ | refine blk_drew ?_ | refine blk_alloc ?_ _)); refine blk_put (cs := #[.int .i64 0, .int .i64 0, .int .i64 0, .slice none 0 0]) ?_ 0 _ rfl; (with_reducible repeat (first | refine blk_drewN ?_ _ | refine blk_drew ?_ | refine blk_alloc ?_ _)); exact BK349.out⟩
    have n4_ : Aside0 (Below w.heap.size w ((((w11.setCell ⟨gb349, 0, none⟩ (.int .i64 t343)).setCell ⟨gb349, 1, none⟩ (.int .i64 t344)).setCell ⟨gb349, 2, none⟩ (.int .i64 t345)).setCell ⟨gb349, 3, none⟩ (.slice Ao14 t346.length co14))) := ⟨by repeat (first | (with_reducible first | exact HB.out | apply below_alloc | apply pw_below_drewN | apply below_drew1 | refine below_set ?_ GE342.out | refine below_set ?_ GE349.out) | exact HB.out)⟩
    (try clear HO341)
    (try clear HO348)
    (try clear BK342)
    (try clear BK349)
    (try clear HB)
    generalize ((((w11.setCell ⟨gb349, 0, none⟩ (.int .i64 t343)).setCell ⟨gb349, 1, none⟩ (.int .i64 t344)).setCell ⟨gb349, 2, none⟩ (.int .i64 t345)).setCell ⟨gb349, 3, none⟩ (.slice Ao14 t346.length co14)) = w18 at n0_ n1_ n2_ n3_ n4_ ⊢
    have HO341 := n0_
    have HO348 := n1_
    have BK342 := n2_
    have BK349 := n3_
    have HB := n4_
    clear n0_ n1_ n2_ n3_ n4_
    have n0_ := Aside0.mk (Kd.Q_drew HO341.out)
    have n1_ := Aside0.mk (Kd.R_drew HO348.out)
    have n2_ := Aside0.mk (blk_drew BK342.out)
    have n3_ := Aside0.mk (blk_drew BK349.out)
    have n4_ := Aside0.mk (below_drew1 HB.out)
    clear HO341
    clear HO348
    clear BK342
    clear BK349
    clear HB
    have HO341 := n0_
    have HO348 := n1_
    have BK342 := n2_
    have BK349 := n3_
    have HB := n4_
    clear n0_ n1_ n2_ n3_ n4_
    refine start_ (n := 10) (S := fun w' => w'.cell? ⟨gb349, 0, none⟩ = some (.int .i64 t343) ∧ w'.cell? ⟨gb349, 1, none⟩ = some (.int .i64 t344) ∧ w'.cell? ⟨gb349, 2, none⟩ = some (.int .i64 t345) ∧ w'.cell? ⟨gb349, 3, none⟩ = some (.slice Ao14 t346.length co14) ∧ w'.cell? ⟨gb342, 0, none⟩ = some (.int .i64 t336) ∧ w'.cell? ⟨gb342, 1, none⟩ = some (.int .i64 t337) ∧ w'.cell? ⟨gb342, 2, none⟩ = some (.int .i64 t338) ∧ w'.cell? ⟨gb342, 3, none⟩ = some (.slice Ao9 t339.length co9)) (ds := []) #[false, false, false, false, false, false, false, false, false, false] (by kernel_rfl) rfl rfl ⟨(blk_cell BK349.out 0).trans rfl, (blk_cell BK349.out 1).trans rfl, (blk_cell BK349.out 2).trans rfl, (blk_cell BK349.out 3).trans rfl, (blk_cell BK342.out 0).trans rfl, (blk_cell BK342.out 1).trans rfl, (blk_cell BK342.out 2).trans rfl, (blk_cell BK342.out 3).trans rfl⟩ (fun hHeld => ?_); refine with_tabW laws_FnGrayImage.tab5 laws_FnGrayImage.bits5 (fun HT_ HW_ => ?_)
    generalize w18.drew = w19 at HO341 HO348 BK342 BK349 HB hHeld ⊢
    refine take_ (i := 0) (N := some 15) (v := ?_) (a' := ?_) #[true, false, false, false, false, false, false, false, false, false] rfl rfl (take_ofW HT_.out HW_.out (by kernel_rfl)) (fun _ _ _ h => h) (Or.inl ⟨by rfl, ?_⟩) hHeld ?_ ?_
    rotate_left
    ·
     rintro w' ⟨s0, s1, s2, s3, s4, s5, s6, s7⟩
     go_simp
     with_reducible rfl
    rotate_left
    ·
     simp only [Act.put, List.setIfInBounds_toArray, List.set_cons_zero, List.set_cons_succ, i64_w, i32_w]
     rfl
    refine take_ (i := 1) (N := some 16) (v := ?_) (a' := ?_) #[true, true, false, false, false, false, false, false, false, false] rfl rfl (take_ofW HT_.out HW_.out (by kernel_rfl)) (fun _ _ _ h => h) (Or.inl ⟨by rfl, ?_⟩) hHeld ?_ ?_
    rotate_left
    ·
     rintro w' ⟨s0, s1, s2, s3, s4, s5, s6, s7⟩
     go_simp
     with_reducible rfl
    rotate_left
    ·
     simp only [Act.put, List.setIfInBounds_toArray, List.set_cons_zero, List.set_cons_succ, i64_w, i32_w]
     rfl
    refine one_ (i := 2) (N := some 17) #[true, true, true, false, false, false, false, false, false, false] rfl rfl (one_of HT_.out (by kernel_rfl)) (by decide) (fun K hK => ?_)
    refine goes_ Try.func16 (by kernel_rfl) rfl #[.agg #[.int .i64 t336, .int .i64 t337, .int .i64 t338, .slice Ao9 t339.length co9]] (by rfl) rfl rfl (by (try simp only [List.map_toArray, List.map_cons, List.map_nil]); first | done | rfl | (simp only [List.length_drop, List.length_take]; rfl)) ?_
    with_reducible refine (spec_GrayImage.calls k t336 t337 t338 _ _ t339 t350 t351 t352 t353 _ ?side1 ?side2 A15.out).mono ?_
    (case side1 => repeat (first | exact (Kd.Q_reads' HO341.out).2.2 | (with_reducible refine Kd.C_alloc ?_ _) | (with_reducible refine Kd.C_drewN ?_ _) | (with_reducible refine Kd.C_drew ?_)))
    (case side2 => exact (Kd.Q_reads' HO341.out).2.1)
    rintro e w20 ⟨v354, rfl, ho0, hb⟩
    refine ⟨_, rfl, ?_⟩
    have n0_ := Aside0.mk (Kd.Q_elder' (by (with_reducible repeat (first | apply Kd.Q_alloc | apply Kd.Q_drewN | apply Kd.Q_drew)); exact HO341.out) (Kd.R_base ho0) hb)
    have n1_ := Aside0.mk (Kd.R_elder' (by (with_reducible repeat (first | apply Kd.R_alloc | apply Kd.R_drewN | apply Kd.R_drew)); exact HO348.out) (Kd.R_base ho0) hb)
    have n2_ := Aside0.mk (Kd.R_lower (Kd.R_new' (Kd.R_new' ho0 (Kd.Q_lt (by (with_reducible repeat (first | apply Kd.Q_alloc | apply Kd.Q_drewN | apply Kd.Q_drew)); exact HO341.out))) (Kd.R_lt (by (with_reducible repeat (first | apply Kd.R_alloc | apply Kd.R_drewN | apply Kd.R_drew)); exact HO348.out))) (below_size (by repeat (first | (with_reducible first | exact HB.out | apply below_alloc | apply pw_below_drewN | apply below_drew1 | refine below_set ?_ GE342.out | refine below_set ?_ GE349.out) | exact HB.out))))
    have n3_ := Aside0.mk (blk_below (g := gb342) (o := .cells #[.int .i64 t336, .int .i64 t337, .int .i64 t338, .slice Ao9 t339.length co9] 26 (0, 0)) (by (with_reducible repeat (first | refine blk_drewN ?_ _ | refine blk_drew ?_ | refine blk_alloc ?_ _)); exact BK342.out) hb)
    have n4_ := Aside0.mk (blk_below (g := gb349) (o := .cells #[.int .i64 t343, .int .i64 t344, .int .i64 t345, .slice Ao14 t346.length co14] 26 (0, 0)) (by (with_reducible repeat (first | refine blk_drewN ?_ _ | refine blk_drew ?_ | refine blk_alloc ?_ _)); exact BK349.out) hb)
    have n5_ := Aside0.mk (below_step (by repeat (first | (with_reducible first | exact HB.out | apply below_alloc | apply pw_below_drewN | apply below_drew1 | refine below_set ?_ GE342.out | refine below_set ?_ GE349.out) | exact HB.out)) hb)
    clear HO341
    clear HO348
    clear BK342
    clear BK349
    clear HB
    have HO341 := n0_
    have HO348 := n1_
    have HO355 := n2_
    have BK342 := n3_
    have BK349 := n4_
    have HB := n5_
    clear n0_ n1_ n2_ n3_ n4_ n5_
    (try clear hb)
    (try clear hb2)
    (try clear hk)
    (try clear hi)
    (try clear ho0)
    obtain ⟨Ao21, co21, eo21⟩ := Kd.R_slice HO355.out
    (first | subst eo21 | (injection eo21 with f1_ f2_ f3_; have f4_ := f1_.symm; have f5_ := f3_.symm; clear f1_ f2_ f3_; subst f4_; subst f5_))
    refine hK.out _ _ ⟨(blk_cell BK349.out 0).trans rfl, (blk_cell BK349.out 1).trans rfl, (blk_cell BK349.out 2).trans rfl, (blk_cell BK349.out 3).trans rfl, (blk_cell BK342.out 0).trans rfl, (blk_cell BK342.out 1).trans rfl, (blk_cell BK342.out 2).trans rfl, (blk_cell BK342.out 3).trans rfl⟩ (fun hHeld => ?_)
    clear hK K
    refine norm_ (a' := ?_) ?_ ?_
    rotate_left
    ·
     show Act.put _ (some 17) _ = _
     simp only [Act.put, List.setIfInBounds_toArray, List.set_cons_zero, List.set_cons_succ, i64_w, i32_w]
     rfl
    refine one_ (i := 3) (N := some 18) #[true, true, true, true, false, false, false, false, false, false] rfl rfl (one_of HT_.out (by kernel_rfl)) (by decide) (fun K hK => ?_)
    refine goes_ Try.func23 (by kernel_rfl) rfl #[.agg #[.int .i64 t343, .int .i64 t344, .int .i64 t345, .slice Ao14 t346.length co14], .agg #[.int .i64 t350, .int .i64 t351, .int .i64 t352, .slice Ao21 t353.length co21]] (by rfl) rfl rfl (by (try simp only [List.map_toArray, List.map_cons, List.map_nil]); first | done | rfl | (simp only [List.length_drop, List.length_take]; rfl)) ?_
    with_reducible refine (laws_equalImage.calls k t343 t344 t345 _ _ t346 t350 t351 t352 _ _ t353 true _ ?side1 ?side2 ?side3 ?side4 A16.out).mono ?_
    (case side1 => repeat (first | exact (Kd.R_reads' HO348.out).2.2 | (with_reducible refine Kd.C_alloc ?_ _) | (with_reducible refine Kd.C_drewN ?_ _) | (with_reducible refine Kd.C_drew ?_)))
    (case side2 => exact (Kd.R_reads' HO348.out).2.1)
    (case side3 => repeat (first | exact (Kd.R_reads' HO355.out).2.2 | (with_reducible refine Kd.C_alloc ?_ _) | (with_reducible refine Kd.C_drewN ?_ _) | (with_reducible refine Kd.C_drew ?_)))
    (case side4 => exact (Kd.R_reads' HO355.out).2.1)
    rintro e w22 ⟨rfl, hb⟩
    refine ⟨_, rfl, ?_⟩
    have n0_ := Aside0.mk (Kd.Q_below (by (with_reducible repeat (first | apply Kd.Q_alloc | apply Kd.Q_drewN | apply Kd.Q_drew)); exact HO341.out) hb)
    have n1_ := Aside0.mk (Kd.R_below (by (with_reducible repeat (first | apply Kd.R_alloc | apply Kd.R_drewN | apply Kd.R_drew)); exact HO348.out) hb)
    have n2_ := Aside0.mk (Kd.R_below (by (with_reducible repeat (first | apply Kd.R_alloc | apply Kd.R_drewN | apply Kd.R_drew)); exact HO355.out) hb)
    have n3_ := Aside0.mk (blk_below (g := gb342) (o := .cells #[.int .i64 t336, .int .i64 t337, .int .i64 t338, .slice Ao9 t339.length co9] 26 (0, 0)) (by (with_reducible repeat (first | refine blk_drewN ?_ _ | refine blk_drew ?_ | refine blk_alloc ?_ _)); exact BK342.out) hb)
    have n4_ := Aside0.mk (blk_below (g := gb349) (o := .cells #[.int .i64 t343, .int .i64 t344, .int .i64 t345, .slice Ao14 t346.length co14] 26 (0, 0)) (by (with_reducible repeat (first | refine blk_drewN ?_ _ | refine blk_drew ?_ | refine blk_alloc ?_ _)); exact BK349.out) hb)
    have n5_ := Aside0.mk (below_step (by repeat (first | (with_reducible first | exact HB.out | apply below_alloc | apply pw_below_drewN | apply below_drew1 | refine below_set ?_ GE342.out | refine below_set ?_ GE349.out) | exact HB.out)) hb)
    clear HO341
    clear HO348
    clear HO355
    clear BK342
    clear BK349
    clear HB
    have HO341 := n0_
    have HO348 := n1_
    have HO355 := n2_
    have BK342 := n3_
    have BK349 := n4_
    have HB := n5_
    clear n0_ n1_ n2_ n3_ n4_ n5_
    (try clear hb)
    (try clear hb2)
    (try clear hk)
    (try clear hi)
    refine hK.out _ _ ⟨(blk_cell BK349.out 0).trans rfl, (blk_cell BK349.out 1).trans rfl, (blk_cell BK349.out 2).trans rfl, (blk_cell BK349.out 3).trans rfl, (blk_cell BK342.out 0).trans rfl, (blk_cell BK342.out 1).trans rfl, (blk_cell BK342.out 2).trans rfl, (blk_cell BK342.out 3).trans rfl⟩ (fun hHeld => ?_)
    clear hK K
    refine norm_ (a' := ?_) ?_ ?_
    rotate_left
    ·
     show Act.put _ (some 18) _ = _
     simp only [Act.put, List.setIfInBounds_toArray, List.set_cons_zero, List.set_cons_succ, i64_w, i32_w]
     rfl
    refine pure_ (i := 4) (N := some 19) (v := ?_) (a' := ?_) #[true, true, true, true, true, false, false, false, false, false] rfl rfl (any_of HT_.out (by kernel_rfl)) (fun _ _ _ h => h) (Or.inl ⟨by rfl, ?_⟩) ?_ ?_
    rotate_left
    ·
     intro w'
     go_simp
     with_reducible rfl
    rotate_left
    ·
     simp only [Act.put, List.setIfInBounds_toArray, List.set_cons_zero, List.set_cons_succ, i64_w, i32_w]
     rfl
    refine pure_ (i := 5) (N := some 20) (v := ?_) (a' := ?_) #[true, true, true, true, true, true, false, false, false, false] rfl rfl (any_of HT_.out (by kernel_rfl)) (fun _ _ _ h => h) (Or.inl ⟨by rfl, ?_⟩) ?_ ?_
    rotate_left
    ·
     intro w'
     go_simp
     with_reducible rfl
    rotate_left
    ·
     simp only [Act.put, List.setIfInBounds_toArray, List.set_cons_zero, List.set_cons_succ, i64_w, i32_w]
     rfl
    refine pure_ (i := 6) (N := some 21) (v := ?_) (a' := ?_) #[true, true, true, true, true, true, true, false, false, false] rfl rfl (any_of HT_.out (by kernel_rfl)) (fun _ _ _ h => h) (Or.inl ⟨by rfl, ?_⟩) ?_ ?_
    rotate_left
    ·
     intro w'
     go_simp
     with_reducible rfl
    rotate_left
    ·
     simp only [Act.put, List.setIfInBounds_toArray, List.set_cons_zero, List.set_cons_succ, i64_w, i32_w]
     rfl
    refine take_ (i := 7) (N := some 22) (v := ?_) (a' := ?_) #[true, true, true, true, true, true, true, true, false, false] rfl rfl (take_ofW HT_.out HW_.out (by kernel_rfl)) (fun _ _ _ h => h) (Or.inl ⟨by rfl, ?_⟩) hHeld ?_ ?_
    rotate_left
    ·
     rintro w' ⟨s0, s1, s2, s3, s4, s5, s6, s7⟩
     go_simp
     with_reducible rfl
    rotate_left
    ·
     simp only [Act.put, List.setIfInBounds_toArray, List.set_cons_zero, List.set_cons_succ, i64_w, i32_w]
     rfl
    refine pure_ (i := 8) (N := some 23) (v := ?_) (a' := ?_) #[true, true, true, true, true, true, true, true, true, false] rfl rfl (any_of HT_.out (by kernel_rfl)) (fun _ _ _ h => h) (Or.inl ⟨by rfl, ?_⟩) ?_ ?_
    rotate_left
    ·
     intro w'
     go_simp
     with_reducible rfl
    rotate_left
    ·
     simp only [Act.put, List.setIfInBounds_toArray, List.set_cons_zero, List.set_cons_succ, i64_w, i32_w]
     rfl
    refine pure_ (i := 9) (N := some 24) (v := ?_) (a' := ?_) #[true, true, true, true, true, true, true, true, true, true] rfl rfl (any_of HT_.out (by kernel_rfl)) (fun _ _ _ h => h) (Or.inl ⟨by rfl, ?_⟩) ?_ ?_
    rotate_left
    ·
     intro w'
     go_simp
     with_reducible rfl
    rotate_left
    ·
     simp only [Act.put, List.setIfInBounds_toArray, List.set_cons_zero, List.set_cons_succ, i64_w, i32_w]
     rfl
    refine done_ (done_of HT_.out (by kernel_rfl)) ?_
    try go_wp2
    go_meet
    case rel => exact ⟨_, ((t343 == 0)), (by first | rfl | (simp; done) | (simp [*]; done)), H', ⟨by first | omega | exact Nat.le_refl _⟩, ⟨by (with_reducible repeat (first | apply Kd.Q_alloc | apply Kd.Q_drewN | apply Kd.Q_drew)); exact Kd.Q_mono HO341.out (fun _ hk => hk.1)⟩, ⟨Kd.Q_of_R (by (with_reducible repeat (first | apply Kd.R_alloc | apply Kd.R_drewN | apply Kd.R_drew)); exact Kd.R_mono HO348.out (fun _ hk => hk.1))⟩, ⟨by (with_reducible repeat (first | refine blk_drewN ?_ _ | refine blk_drew ?_ | refine blk_alloc ?_ _)); exact BK342.out⟩, ⟨by (with_reducible repeat (first | refine blk_drewN ?_ _ | refine blk_drew ?_ | refine blk_alloc ?_ _)); exact BK349.out⟩, ⟨by repeat (first | (with_reducible first | exact HB.out | apply below_alloc | apply pw_below_drewN | apply below_drew1 | refine below_set ?_ GE342.out | refine below_set ?_ GE349.out) | exact HB.out)⟩⟩
   ·
    replace c17 := Bool.eq_false_iff.mpr c17
    subst c17
    have H1 : (laws_FnGrayImage.j0 k true t336 t337 t338 t339 t343 t344 t345 t346) = some r := by rw [if_neg (show ¬ (false = true) by decide)] at H; exact H
    clear H
    have H := H1
    clear H1
    have H' := Aside0.mk H
    clear H
    try go_wp2
    have n0_ : Aside0 (Kd.Q (Kd.int .i64) 3 ((((w11.setCell ⟨gb349, 0, none⟩ (.int .i64 t343)).setCell ⟨gb349, 1, none⟩ (.int .i64 t344)).setCell ⟨gb349, 2, none⟩ (.int .i64 t345)).setCell ⟨gb349, 3, none⟩ (.slice Ao14 t346.length co14)) w.heap.size (fun k_ => some k_ ≠ (.slice Ao14 t346.length co14 : Value).ownBlock) (.slice Ao9 t339.length co9) t339) := ⟨by (with_reducible repeat (first | apply Kd.Q_alloc | apply Kd.Q_drewN | apply Kd.Q_drew)); exact Kd.Q_mono (Kd.Q_far (p := ⟨gb349, 3, none⟩) (Kd.Q_far (p := ⟨gb349, 2, none⟩) (Kd.Q_far (p := ⟨gb349, 1, none⟩) (Kd.Q_far (p := ⟨gb349, 0, none⟩) (Kd.Q_types HO341.out BK349.out (by decide)) (fun _ hk => hk.2) (.int .i64 t343)) (fun _ hk => hk.2) (.int .i64 t344)) (fun _ hk => hk.2) (.int .i64 t345)) (fun _ hk => hk.2) (.slice Ao14 t346.length co14)) (fun _ hk => hk.1.2)⟩
    have n1_ : Aside0 (Kd.R (Kd.int .i64) 3 ((((w11.setCell ⟨gb349, 0, none⟩ (.int .i64 t343)).setCell ⟨gb349, 1, none⟩ (.int .i64 t344)).setCell ⟨gb349, 2, none⟩ (.int .i64 t345)).setCell ⟨gb349, 3, none⟩ (.slice Ao14 t346.length co14)) w.heap.size (fun k_ => some k_ ≠ (.slice Ao9 t339.length co9 : Value).ownBlock) (.slice Ao14 t346.length co14) t346) := ⟨by (with_reducible repeat (first | apply Kd.R_alloc | apply Kd.R_drewN | apply Kd.R_drew)); exact Kd.R_mono (Kd.R_far (p := ⟨gb349, 3, none⟩) (Kd.R_far (p := ⟨gb349, 2, none⟩) (Kd.R_far (p := ⟨gb349, 1, none⟩) (Kd.R_far (p := ⟨gb349, 0, none⟩) (Kd.R_types HO348.out BK349.out (by decide)) (fun _ hk => hk.2) (.int .i64 t343)) (fun _ hk => hk.2) (.int .i64 t344)) (fun _ hk => hk.2) (.int .i64 t345)) (fun _ hk => hk.2) (.slice Ao14 t346.length co14)) (fun _ hk => hk.1.2)⟩
    have n2_ : Aside0 (((((w11.setCell ⟨gb349, 0, none⟩ (.int .i64 t343)).setCell ⟨gb349, 1, none⟩ (.int .i64 t344)).setCell ⟨gb349, 2, none⟩ (.int .i64 t345)).setCell ⟨gb349, 3, none⟩ (.slice Ao14 t346.length co14)).heap[gb342]? = some (.cells #[.int .i64 t336, .int .i64 t337, .int .i64 t338, .slice Ao9 t339.length co9] 26 (0, 0))) := ⟨by (with_reducible repeat (first | refine blk_drewN ?_ _ | refine blk_drew ?_ | refine blk_alloc ?_ _)); refine blk_far ?_ NB342_349.out _; (with_reducible repeat (first | refine blk_drewN ?_ _ | refine blk_drew ?_ | refine blk_alloc ?_ _)); refine blk_far ?_ NB342_349.out _; (with_reducible repeat (first | refine blk_drewN ?_ _ | refine blk_drew ?_ | refine blk_alloc ?_ _)); refine blk_far ?_ NB342_349.out _; (with_reducible repeat (first | refine blk_drewN ?_ _ | refine blk_drew ?_ | refine blk_alloc ?_ _)); refine blk_far ?_ NB342_349.out _; (with_reducible repeat (first | refine blk_drewN ?_ _ | refine blk_drew ?_ | refine blk_alloc ?_ _)); exact BK342.out⟩
    have n3_ : Aside0 (((((w11.setCell ⟨gb349, 0, none⟩ (.int .i64 t343)).setCell ⟨gb349, 1, none⟩ (.int .i64 t344)).setCell ⟨gb349, 2, none⟩ (.int .i64 t345)).setCell ⟨gb349, 3, none⟩ (.slice Ao14 t346.length co14)).heap[gb349]? = some (.cells #[.int .i64 t343, .int .i64 t344, .int .i64 t345, .slice Ao14 t346.length co14] 26 (0, 0))) := ⟨by (with_reducible repeat (first | refine blk_drewN ?_ _ | refine blk_drew ?_ | refine blk_alloc ?_ _)); refine blk_put (cs := #[.int .i64 t343, .int .i64 t344, .int .i64 t345, .slice none 0 0]) ?_ 3 _ rfl; (with_reducible repeat (first | refine blk_drewN ?_ _ | refine blk_drew ?_ | refine blk_alloc ?_ _)); refine blk_put (cs := #[.int .i64 t343, .int .i64 t344, .int .i64 0, .slice none 0 0]) ?_ 2 _ rfl; (with_reducible repeat (first | refine blk_drewN ?_ _ | refine blk_drew ?_ | refine blk_alloc ?_ _)); refine blk_put (cs := #[.int .i64 t343, .int .i64 0, .int .i64 0, .slice none 0 0]) ?_ 1 _ rfl; (with_reducible repeat (first | refine blk_drewN ?_ _ | refine blk_drew ?_ | refine blk_alloc ?_ _)); refine blk_put (cs := #[.int .i64 0, .int .i64 0, .int .i64 0, .slice none 0 0]) ?_ 0 _ rfl; (with_reducible repeat (first | refine blk_drewN ?_ _ | refine blk_drew ?_ | refine blk_alloc ?_ _)); exact BK349.out⟩
    have n4_ : Aside0 (Below w.heap.size w ((((w11.setCell ⟨gb349, 0, none⟩ (.int .i64 t343)).setCell ⟨gb349, 1, none⟩ (.int .i64 t344)).setCell ⟨gb349, 2, none⟩ (.int .i64 t345)).setCell ⟨gb349, 3, none⟩ (.slice Ao14 t346.length co14))) := ⟨by repeat (first | (with_reducible first | exact HB.out | apply below_alloc | apply pw_below_drewN | apply below_drew1 | refine below_set ?_ GE342.out | refine below_set ?_ GE349.out) | exact HB.out)⟩
    (try clear HO341)
    (try clear HO348)
    (try clear BK342)
    (try clear BK349)
    (try clear HB)
    generalize ((((w11.setCell ⟨gb349, 0, none⟩ (.int .i64 t343)).setCell ⟨gb349, 1, none⟩ (.int .i64 t344)).setCell ⟨gb349, 2, none⟩ (.int .i64 t345)).setCell ⟨gb349, 3, none⟩ (.slice Ao14 t346.length co14)) = w23 at n0_ n1_ n2_ n3_ n4_ ⊢
    have HO341 := n0_
    have HO348 := n1_
    have BK342 := n2_
    have BK349 := n3_
    have HB := n4_
    clear n0_ n1_ n2_ n3_ n4_
    have n0_ := Aside0.mk (Kd.Q_drew HO341.out)
    have n1_ := Aside0.mk (Kd.R_drew HO348.out)
    have n2_ := Aside0.mk (blk_drew BK342.out)
    have n3_ := Aside0.mk (blk_drew BK349.out)
    have n4_ := Aside0.mk (below_drew1 HB.out)
    clear HO341
    clear HO348
    clear BK342
    clear BK349
    clear HB
    have HO341 := n0_
    have HO348 := n1_
    have BK342 := n2_
    have BK349 := n3_
    have HB := n4_
    clear n0_ n1_ n2_ n3_ n4_
    refine start_ (n := 10) (S := fun w' => w'.cell? ⟨gb349, 0, none⟩ = some (.int .i64 t343) ∧ w'.cell? ⟨gb349, 1, none⟩ = some (.int .i64 t344) ∧ w'.cell? ⟨gb349, 2, none⟩ = some (.int .i64 t345) ∧ w'.cell? ⟨gb349, 3, none⟩ = some (.slice Ao14 t346.length co14) ∧ w'.cell? ⟨gb342, 0, none⟩ = some (.int .i64 t336) ∧ w'.cell? ⟨gb342, 1, none⟩ = some (.int .i64 t337) ∧ w'.cell? ⟨gb342, 2, none⟩ = some (.int .i64 t338) ∧ w'.cell? ⟨gb342, 3, none⟩ = some (.slice Ao9 t339.length co9)) (ds := []) #[false, false, false, false, false, false, false, false, false, false] (by kernel_rfl) rfl rfl ⟨(blk_cell BK349.out 0).trans rfl, (blk_cell BK349.out 1).trans rfl, (blk_cell BK349.out 2).trans rfl, (blk_cell BK349.out 3).trans rfl, (blk_cell BK342.out 0).trans rfl, (blk_cell BK342.out 1).trans rfl, (blk_cell BK342.out 2).trans rfl, (blk_cell BK342.out 3).trans rfl⟩ (fun hHeld => ?_); refine with_tabW laws_FnGrayImage.tab5 laws_FnGrayImage.bits5 (fun HT_ HW_ => ?_)
    generalize w23.drew = w24 at HO341 HO348 BK342 BK349 HB hHeld ⊢
    refine take_ (i := 0) (N := some 15) (v := ?_) (a' := ?_) #[true, false, false, false, false, false, false, false, false, false] rfl rfl (take_ofW HT_.out HW_.out (by kernel_rfl)) (fun _ _ _ h => h) (Or.inl ⟨by rfl, ?_⟩) hHeld ?_ ?_
    rotate_left
    ·
     rintro w' ⟨s0, s1, s2, s3, s4, s5, s6, s7⟩
     go_simp
     with_reducible rfl
    rotate_left
    ·
     simp only [Act.put, List.setIfInBounds_toArray, List.set_cons_zero, List.set_cons_succ, i64_w, i32_w]
     rfl
    refine take_ (i := 1) (N := some 16) (v := ?_) (a' := ?_) #[true, true, false, false, false, false, false, false, false, false] rfl rfl (take_ofW HT_.out HW_.out (by kernel_rfl)) (fun _ _ _ h => h) (Or.inl ⟨by rfl, ?_⟩) hHeld ?_ ?_
    rotate_left
    ·
     rintro w' ⟨s0, s1, s2, s3, s4, s5, s6, s7⟩
     go_simp
     with_reducible rfl
    rotate_left
    ·
     simp only [Act.put, List.setIfInBounds_toArray, List.set_cons_zero, List.set_cons_succ, i64_w, i32_w]
     rfl
    refine one_ (i := 2) (N := some 17) #[true, true, true, false, false, false, false, false, false, false] rfl rfl (one_of HT_.out (by kernel_rfl)) (by decide) (fun K hK => ?_)
    refine goes_ Try.func16 (by kernel_rfl) rfl #[.agg #[.int .i64 t336, .int .i64 t337, .int .i64 t338, .slice Ao9 t339.length co9]] (by rfl) rfl rfl (by (try simp only [List.map_toArray, List.map_cons, List.map_nil]); first | done | rfl | (simp only [List.length_drop, List.length_take]; rfl)) ?_
    with_reducible refine (spec_GrayImage.calls k t336 t337 t338 _ _ t339 t350 t351 t352 t353 _ ?side1 ?side2 A15.out).mono ?_
    (case side1 => repeat (first | exact (Kd.Q_reads' HO341.out).2.2 | (with_reducible refine Kd.C_alloc ?_ _) | (with_reducible refine Kd.C_drewN ?_ _) | (with_reducible refine Kd.C_drew ?_)))
    (case side2 => exact (Kd.Q_reads' HO341.out).2.1)
    rintro e w25 ⟨v354, rfl, ho0, hb⟩
    refine ⟨_, rfl, ?_⟩
    have n0_ := Aside0.mk (Kd.Q_elder' (by (with_reducible repeat (first | apply Kd.Q_alloc | apply Kd.Q_drewN | apply Kd.Q_drew)); exact HO341.out) (Kd.R_base ho0) hb)
    have n1_ := Aside0.mk (Kd.R_elder' (by (with_reducible repeat (first | apply Kd.R_alloc | apply Kd.R_drewN | apply Kd.R_drew)); exact HO348.out) (Kd.R_base ho0) hb)
    have n2_ := Aside0.mk (Kd.R_lower (Kd.R_new' (Kd.R_new' ho0 (Kd.Q_lt (by (with_reducible repeat (first | apply Kd.Q_alloc | apply Kd.Q_drewN | apply Kd.Q_drew)); exact HO341.out))) (Kd.R_lt (by (with_reducible repeat (first | apply Kd.R_alloc | apply Kd.R_drewN | apply Kd.R_drew)); exact HO348.out))) (below_size (by repeat (first | (with_reducible first | exact HB.out | apply below_alloc | apply pw_below_drewN | apply below_drew1 | refine below_set ?_ GE342.out | refine below_set ?_ GE349.out) | exact HB.out))))
    have n3_ := Aside0.mk (blk_below (g := gb342) (o := .cells #[.int .i64 t336, .int .i64 t337, .int .i64 t338, .slice Ao9 t339.length co9] 26 (0, 0)) (by (with_reducible repeat (first | refine blk_drewN ?_ _ | refine blk_drew ?_ | refine blk_alloc ?_ _)); exact BK342.out) hb)
    have n4_ := Aside0.mk (blk_below (g := gb349) (o := .cells #[.int .i64 t343, .int .i64 t344, .int .i64 t345, .slice Ao14 t346.length co14] 26 (0, 0)) (by (with_reducible repeat (first | refine blk_drewN ?_ _ | refine blk_drew ?_ | refine blk_alloc ?_ _)); exact BK349.out) hb)
    have n5_ := Aside0.mk (below_step (by repeat (first | (with_reducible first | exact HB.out | apply below_alloc | apply pw_below_drewN | apply below_drew1 | refine below_set ?_ GE342.out | refine below_set ?_ GE349.out) | exact HB.out)) hb)
    clear HO341
    clear HO348
    clear BK342
    clear BK349
    clear HB
    have HO341 := n0_
    have HO348 := n1_
    have HO355 := n2_
    have BK342 := n3_
    have BK349 := n4_
    have HB := n5_
    clear n0_ n1_ n2_ n3_ n4_ n5_
    (try clear hb)
    (try clear hb2)
    (try clear hk)
    (try clear hi)
    (try clear ho0)
    obtain ⟨Ao26, co26, eo26⟩ := Kd.R_slice HO355.out
    (first | subst eo26 | (injection eo26 with f1_ f2_ f3_; have f4_ := f1_.symm; have f5_ := f3_.symm; clear f1_ f2_ f3_; subst f4_; subst f5_))
    refine hK.out _ _ ⟨(blk_cell BK349.out 0).trans rfl, (blk_cell BK349.out 1).trans rfl, (blk_cell BK349.out 2).trans rfl, (blk_cell BK349.out 3).trans rfl, (blk_cell BK342.out 0).trans rfl, (blk_cell BK342.out 1).trans rfl, (blk_cell BK342.out 2).trans rfl, (blk_cell BK342.out 3).trans rfl⟩ (fun hHeld => ?_)
    clear hK K
    refine norm_ (a' := ?_) ?_ ?_
    rotate_left
    ·
     show Act.put _ (some 17) _ = _
     simp only [Act.put, List.setIfInBounds_toArray, List.set_cons_zero, List.set_cons_succ, i64_w, i32_w]
     rfl
    refine one_ (i := 3) (N := some 18) #[true, true, true, true, false, false, false, false, false, false] rfl rfl (one_of HT_.out (by kernel_rfl)) (by decide) (fun K hK => ?_)
    refine goes_ Try.func23 (by kernel_rfl) rfl #[.agg #[.int .i64 t343, .int .i64 t344, .int .i64 t345, .slice Ao14 t346.length co14], .agg #[.int .i64 t350, .int .i64 t351, .int .i64 t352, .slice Ao26 t353.length co26]] (by rfl) rfl rfl (by (try simp only [List.map_toArray, List.map_cons, List.map_nil]); first | done | rfl | (simp only [List.length_drop, List.length_take]; rfl)) ?_
    with_reducible refine (laws_equalImage.calls k t343 t344 t345 _ _ t346 t350 t351 t352 _ _ t353 false _ ?side1 ?side2 ?side3 ?side4 A16.out).mono ?_
    (case side1 => repeat (first | exact (Kd.R_reads' HO348.out).2.2 | (with_reducible refine Kd.C_alloc ?_ _) | (with_reducible refine Kd.C_drewN ?_ _) | (with_reducible refine Kd.C_drew ?_)))
    (case side2 => exact (Kd.R_reads' HO348.out).2.1)
    (case side3 => repeat (first | exact (Kd.R_reads' HO355.out).2.2 | (with_reducible refine Kd.C_alloc ?_ _) | (with_reducible refine Kd.C_drewN ?_ _) | (with_reducible refine Kd.C_drew ?_)))
    (case side4 => exact (Kd.R_reads' HO355.out).2.1)
    rintro e w27 ⟨rfl, hb⟩
    refine ⟨_, rfl, ?_⟩
    have n0_ := Aside0.mk (Kd.Q_below (by (with_reducible repeat (first | apply Kd.Q_alloc | apply Kd.Q_drewN | apply Kd.Q_drew)); exact HO341.out) hb)
    have n1_ := Aside0.mk (Kd.R_below (by (with_reducible repeat (first | apply Kd.R_alloc | apply Kd.R_drewN | apply Kd.R_drew)); exact HO348.out) hb)
    have n2_ := Aside0.mk (Kd.R_below (by (with_reducible repeat (first | apply Kd.R_alloc | apply Kd.R_drewN | apply Kd.R_drew)); exact HO355.out) hb)
    have n3_ := Aside0.mk (blk_below (g := gb342) (o := .cells #[.int .i64 t336, .int .i64 t337, .int .i64 t338, .slice Ao9 t339.length co9] 26 (0, 0)) (by (with_reducible repeat (first | refine blk_drewN ?_ _ | refine blk_drew ?_ | refine blk_alloc ?_ _)); exact BK342.out) hb)
    have n4_ := Aside0.mk (blk_below (g := gb349) (o := .cells #[.int .i64 t343, .int .i64 t344, .int .i64 t345, .slice Ao14 t346.length co14] 26 (0, 0)) (by (with_reducible repeat (first | refine blk_drewN ?_ _ | refine blk_drew ?_ | refine blk_alloc ?_ _)); exact BK349.out) hb)
    have n5_ := Aside0.mk (below_step (by repeat (first | (with_reducible first | exact HB.out | apply below_alloc | apply pw_below_drewN | apply below_drew1 | refine below_set ?_ GE342.out | refine below_set ?_ GE349.out) | exact HB.out)) hb)
    clear HO341
    clear HO348
    clear HO355
    clear BK342
    clear BK349
    clear HB
    have HO341 := n0_
    have HO348 := n1_
    have HO355 := n2_
    have BK342 := n3_
    have BK349 := n4_
    have HB := n5_
    clear n0_ n1_ n2_ n3_ n4_ n5_
    (try clear hb)
    (try clear hb2)
    (try clear hk)
    (try clear hi)
    refine hK.out _ _ ⟨(blk_cell BK349.out 0).trans rfl, (blk_cell BK349.out 1).trans rfl, (blk_cell BK349.out 2).trans rfl, (blk_cell BK349.out 3).trans rfl, (blk_cell BK342.out 0).trans rfl, (blk_cell BK342.out 1).trans rfl, (blk_cell BK342.out 2).trans rfl, (blk_cell BK342.out 3).trans rfl⟩ (fun hHeld => ?_)
    clear hK K
    refine norm_ (a' := ?_) ?_ ?_
    rotate_left
    ·
     show Act.put _ (some 18) _ = _
     simp only [Act.put, List.setIfInBounds_toArray, List.set_cons_zero, List.set_cons_succ, i64_w, i32_w]
     rfl
    refine pure_ (i := 4) (N := some 19) (v := ?_) (a' := ?_) #[true, true, true, true, true, false, false, false, false, false] rfl rfl (any_of HT_.out (by kernel_rfl)) (fun _ _ _ h => h) (Or.inl ⟨by rfl, ?_⟩) ?_ ?_
    rotate_left
    ·
     intro w'
     go_simp
     with_reducible rfl
    rotate_left
    ·
     simp only [Act.put, List.setIfInBounds_toArray, List.set_cons_zero, List.set_cons_succ, i64_w, i32_w]
     rfl
    refine pure_ (i := 5) (N := some 20) (v := ?_) (a' := ?_) #[true, true, true, true, true, true, false, false, false, false] rfl rfl (any_of HT_.out (by kernel_rfl)) (fun _ _ _ h => h) (Or.inl ⟨by rfl, ?_⟩) ?_ ?_
    rotate_left
    ·
     intro w'
     go_simp
     with_reducible rfl
    rotate_left
    ·
     simp only [Act.put, List.setIfInBounds_toArray, List.set_cons_zero, List.set_cons_succ, i64_w, i32_w]
     rfl
    refine pure_ (i := 6) (N := some 21) (v := undef) (a' := ?_) #[true, true, true, true, true, true, true, false, false, false] rfl rfl (any_of HT_.out (by kernel_rfl)) (fun _ _ _ h => h) (Or.inr ⟨by rfl, rfl⟩) ?_ ?_
    rotate_left
    ·
     simp only [Act.put, List.setIfInBounds_toArray, List.set_cons_zero, List.set_cons_succ, i64_w, i32_w]
     rfl
    refine pure_ (i := 7) (N := some 22) (v := undef) (a' := ?_) #[true, true, true, true, true, true, true, true, false, false] rfl rfl (any_of HT_.out (by kernel_rfl)) (fun _ _ _ h => h) (Or.inr ⟨by rfl, rfl⟩) ?_ ?_
    rotate_left
    ·
     simp only [Act.put, List.setIfInBounds_toArray, List.set_cons_zero, List.set_cons_succ, i64_w, i32_w]
     rfl
    refine pure_ (i := 8) (N := some 23) (v := undef) (a' := ?_) #[true, true, true, true, true, true, true, true, true, false] rfl rfl (any_of HT_.out (by kernel_rfl)) (fun _ _ _ h => h) (Or.inr ⟨by rfl, rfl⟩) ?_ ?_
    rotate_left
    ·
     simp only [Act.put, List.setIfInBounds_toArray, List.set_cons_zero, List.set_cons_succ, i64_w, i32_w]
     rfl
    refine pure_ (i := 9) (N := some 24) (v := ?_) (a' := ?_) #[true, true, true, true, true, true, true, true, true, true] rfl rfl (any_of HT_.out (by kernel_rfl)) (fun _ _ _ h => h) (Or.inl ⟨by rfl, ?_⟩) ?_ ?_
    rotate_left
    ·
     intro w'
     go_simp
     with_reducible rfl
    rotate_left
    ·
     simp only [Act.put, List.setIfInBounds_toArray, List.set_cons_zero, List.set_cons_succ, i64_w, i32_w]
     rfl
    refine done_ (done_of HT_.out (by kernel_rfl)) ?_
    try go_wp2
    go_meet
    case rel => exact ⟨_, (true), (by first | rfl | (simp; done) | (simp [*]; done)), H', ⟨by first | omega | exact Nat.le_refl _⟩, ⟨by (with_reducible repeat (first | apply Kd.Q_alloc | apply Kd.Q_drewN | apply Kd.Q_drew)); exact Kd.Q_mono HO341.out (fun _ hk => hk.1)⟩, ⟨Kd.Q_of_R (by (with_reducible repeat (first | apply Kd.R_alloc | apply Kd.R_drewN | apply Kd.R_drew)); exact Kd.R_mono HO348.out (fun _ hk => hk.1))⟩, ⟨by (with_reducible repeat (first | refine blk_drewN ?_ _ | refine blk_drew ?_ | refine blk_alloc ?_ _)); exact BK342.out⟩, ⟨by (with_reducible repeat (first | refine blk_drewN ?_ _ | refine blk_drew ?_ | refine blk_alloc ?_ _)); exact BK349.out⟩, ⟨by repeat (first | (with_reducible first | exact HB.out | apply below_alloc | apply pw_below_drewN | apply below_drew1 | refine below_set ?_ GE342.out | refine below_set ?_ GE349.out) | exact HB.out)⟩⟩
  case rest =>
   clear HC5
   try clear c1
   try clear c2
   try clear c2b0
   try clear c2b1
   try clear p2
   try clear c4
   try clear c12
   try clear c16
   try clear c17
   try clear c18
   try clear c22
   try clear c23
   try clear hcz13_0
   try clear hcz13_1
   try clear hcz13_2
   try clear hcz13_3
   try clear hcz8_0
   try clear hcz8_1
   try clear hcz8_2
   try clear hcz8_3
   try clear hfz13_0
   try clear hfz13_1
   try clear hfz13_2
   try clear hfz13_3
   try clear hfz8_0
   try clear hfz8_1
   try clear hfz8_2
   try clear hfz8_3
   obtain ⟨kq, x24_4, rfl, HA, HJ4, HO_343003, HO_350003, BK342, BK349, HB⟩ := hcut
   cases kq with
   | zero => exact absurd HA.out (by simp [laws_FnGrayImage.j0])
   | succ kj4 =>
    have H := HA.out
    clear HA
    simp only [laws_FnGrayImage.j0] at H
    by_cases c28 : x24_4 = true
    ·
     subst c28
     have H1 : ((spec_GrayImage.f kj4 t336 t337 t338 t339).bind fun bt357 => ((laws_equalImage.f kj4 t343 t344 t345 t346 bt357.1 bt357.2.1 bt357.2.2.1 bt357.2.2.2).bind fun t363 => (some t363))) = some r := by rw [if_pos rfl] at H; exact H
     clear H
     have H := H1
     clear H1
     replace H := Option.bind_eq_some_iff.mp H
     obtain ⟨⟨t357, t358, t359, t360⟩, A290, H⟩ := H
     replace H : ((laws_equalImage.f kj4 t343 t344 t345 t346 t357 t358 t359 t360).bind fun t363 => (some t363)) = some r := H
     have A29 := Aside0.mk A290
     clear A290
     replace H := Option.bind_eq_some_iff.mp H
     obtain ⟨t363, A300, H⟩ := H
     replace H : (some t363) = some r := H
     have A30 := Aside0.mk A300
     clear A300
     obtain rfl := Option.some.inj H
     try go_wp2
     have n0_ := Aside0.mk (Kd.Q_drew HO_343003.out)
     have n1_ := Aside0.mk (Kd.Q_drew HO_350003.out)
     have n2_ := Aside0.mk (blk_drew BK342.out)
     have n3_ := Aside0.mk (blk_drew BK349.out)
     have n4_ := Aside0.mk (below_drew1 HB.out)
     clear HO_343003
     clear HO_350003
     clear BK342
     clear BK349
     clear HB
     have HO_343003 := n0_
     have HO_350003 := n1_
     have BK342 := n2_
     have BK349 := n3_
     have HB := n4_
     clear n0_ n1_ n2_ n3_ n4_
     refine start_ (n := 5) (S := fun w' => w'.cell? ⟨gb349, 0, none⟩ = some (.int .i64 t343) ∧ w'.cell? ⟨gb349, 1, none⟩ = some (.int .i64 t344) ∧ w'.cell? ⟨gb349, 2, none⟩ = some (.int .i64 t345) ∧ w'.cell? ⟨gb349, 3, none⟩ = some (.slice Ao14 t346.length co14) ∧ w'.cell? ⟨gb342, 0, none⟩ = some (.int .i64 t336) ∧ w'.cell? ⟨gb342, 1, none⟩ = some (.int .i64 t337) ∧ w'.cell? ⟨gb342, 2, none⟩ = some (.int .i64 t338) ∧ w'.cell? ⟨gb342, 3, none⟩ = some (.slice Ao9 t339.length co9)) (ds := []) #[false, false, false, false, false] (by kernel_rfl) rfl rfl ⟨(blk_cell BK349.out 0).trans rfl, (blk_cell BK349.out 1).trans rfl, (blk_cell BK349.out 2).trans rfl, (blk_cell BK349.out 3).trans rfl, (blk_cell BK342.out 0).trans rfl, (blk_cell BK342.out 1).trans rfl, (blk_cell BK342.out 2).trans rfl, (blk_cell BK342.out 3).trans rfl⟩ (fun hHeld => ?_)
     generalize wc.drew = w31 at HO_343003 HO_350003 BK342 BK349 HB hHeld ⊢
     refine take_ (i := 0) (N := some 25) (v := ?_) (a' := ?_) #[true, false, false, false, false] rfl rfl (by kernel_rfl) (fun _ _ _ h => h) (Or.inl ⟨by rfl, ?_⟩) hHeld ?_ ?_
     rotate_left
     ·
      rintro w' ⟨s0, s1, s2, s3, s4, s5, s6, s7⟩
      go_simp
      with_reducible rfl
     rotate_left
     ·
      simp only [Act.put, List.setIfInBounds_toArray, List.set_cons_zero, List.set_cons_succ, i64_w, i32_w]
      rfl
     refine take_ (i := 1) (N := some 26) (v := ?_) (a' := ?_) #[true, true, false, false, false] rfl rfl (by kernel_rfl) (fun _ _ _ h => h) (Or.inl ⟨by rfl, ?_⟩) hHeld ?_ ?_
     rotate_left
     ·
      rintro w' ⟨s0, s1, s2, s3, s4, s5, s6, s7⟩
      go_simp
      with_reducible rfl
     rotate_left
     ·
      simp only [Act.put, List.setIfInBounds_toArray, List.set_cons_zero, List.set_cons_succ, i64_w, i32_w]
      rfl
     refine one_ (i := 2) (N := some 27) #[true, true, true, false, false] rfl rfl (by kernel_rfl) (by decide) (fun K hK => ?_)
     refine goes_ Try.func16 (by kernel_rfl) rfl #[.agg #[.int .i64 t336, .int .i64 t337, .int .i64 t338, .slice Ao9 t339.length co9]] (by rfl) rfl rfl (by (try simp only [List.map_toArray, List.map_cons, List.map_nil]); first | done | rfl | (simp only [List.length_drop, List.length_take]; rfl)) ?_
     with_reducible refine (spec_GrayImage.calls kj4 t336 t337 t338 _ _ t339 t357 t358 t359 t360 _ ?side1 ?side2 A29.out).mono ?_
     (case side1 => repeat (first | exact (Kd.Q_reads' HO_343003.out).2.2 | (with_reducible refine Kd.C_alloc ?_ _) | (with_reducible refine Kd.C_drewN ?_ _) | (with_reducible refine Kd.C_drew ?_)))
     (case side2 => exact (Kd.Q_reads' HO_343003.out).2.1)
     rintro e w32 ⟨v361, rfl, ho0, hb⟩
     refine ⟨_, rfl, ?_⟩
     have n0_ := Aside0.mk (Kd.Q_elder' (by (with_reducible repeat (first | apply Kd.Q_alloc | apply Kd.Q_drewN | apply Kd.Q_drew)); exact HO_343003.out) (Kd.R_base ho0) hb)
     have n1_ := Aside0.mk (Kd.Q_elder' (by (with_reducible repeat (first | apply Kd.Q_alloc | apply Kd.Q_drewN | apply Kd.Q_drew)); exact HO_350003.out) (Kd.R_base ho0) hb)
     have n2_ := Aside0.mk (Kd.R_lower (Kd.R_new' (Kd.R_new' ho0 (Kd.Q_lt (by (with_reducible repeat (first | apply Kd.Q_alloc | apply Kd.Q_drewN | apply Kd.Q_drew)); exact HO_343003.out))) (Kd.Q_lt (by (with_reducible repeat (first | apply Kd.Q_alloc | apply Kd.Q_drewN | apply Kd.Q_drew)); exact HO_350003.out))) (below_size (by repeat (first | (with_reducible first | exact HB.out | apply below_alloc | apply pw_below_drewN | apply below_drew1 | refine below_set ?_ GE342.out | refine below_set ?_ GE349.out) | exact HB.out))))
     have n3_ := Aside0.mk (blk_below (g := gb342) (o := .cells #[.int .i64 t336, .int .i64 t337, .int .i64 t338, .slice Ao9 t339.length co9] 26 (0, 0)) (by (with_reducible repeat (first | refine blk_drewN ?_ _ | refine blk_drew ?_ | refine blk_alloc ?_ _)); exact BK342.out) hb)
     have n4_ := Aside0.mk (blk_below (g := gb349) (o := .cells #[.int .i64 t343, .int .i64 t344, .int .i64 t345, .slice Ao14 t346.length co14] 26 (0, 0)) (by (with_reducible repeat (first | refine blk_drewN ?_ _ | refine blk_drew ?_ | refine blk_alloc ?_ _)); exact BK349.out) hb)
     have n5_ := Aside0.mk (below_step (by repeat (first | (with_reducible first | exact HB.out | apply below_alloc | apply pw_below_drewN | apply below_drew1 | refine below_set ?_ GE342.out | refine below_set ?_ GE349.out) | exact HB.out)) hb)
     clear HO_343003
     clear HO_350003
     clear BK342
     clear BK349
     clear HB
     have HO_343003 := n0_
     have HO_350003 := n1_
     have HO362 := n2_
     have BK342 := n3_
     have BK349 := n4_
     have HB := n5_
     clear n0_ n1_ n2_ n3_ n4_ n5_
     (try clear hb)
     (try clear hb2)
     (try clear hk)
     (try clear hi)
     (try clear ho0)
     obtain ⟨Ao33, co33, eo33⟩ := Kd.R_slice HO362.out
     (first | subst eo33 | (injection eo33 with f1_ f2_ f3_; have f4_ := f1_.symm; have f5_ := f3_.symm; clear f1_ f2_ f3_; subst f4_; subst f5_))
     refine hK.out _ _ ⟨(blk_cell BK349.out 0).trans rfl, (blk_cell BK349.out 1).trans rfl, (blk_cell BK349.out 2).trans rfl, (blk_cell BK349.out 3).trans rfl, (blk_cell BK342.out 0).trans rfl, (blk_cell BK342.out 1).trans rfl, (blk_cell BK342.out 2).trans rfl, (blk_cell BK342.out 3).trans rfl⟩ (fun hHeld => ?_)
     clear hK K
     refine norm_ (a' := ?_) ?_ ?_
     rotate_left
     ·
      show Act.put _ (some 27) _ = _
      simp only [Act.put, List.setIfInBounds_toArray, List.set_cons_zero, List.set_cons_succ, i64_w, i32_w]
      rfl
     refine one_ (i := 3) (N := some 28) #[true, true, true, true, false] rfl rfl (by kernel_rfl) (by decide) (fun K hK => ?_)
     refine goes_ Try.func23 (by kernel_rfl) rfl #[.agg #[.int .i64 t343, .int .i64 t344, .int .i64 t345, .slice Ao14 t346.length co14], .agg #[.int .i64 t357, .int .i64 t358, .int .i64 t359, .slice Ao33 t360.length co33]] (by rfl) rfl rfl (by (try simp only [List.map_toArray, List.map_cons, List.map_nil]); first | done | rfl | (simp only [List.length_drop, List.length_take]; rfl)) ?_
     with_reducible refine (laws_equalImage.calls kj4 t343 t344 t345 _ _ t346 t357 t358 t359 _ _ t360 t363 _ ?side1 ?side2 ?side3 ?side4 A30.out).mono ?_
     (case side1 => repeat (first | exact (Kd.Q_reads' HO_350003.out).2.2 | (with_reducible refine Kd.C_alloc ?_ _) | (with_reducible refine Kd.C_drewN ?_ _) | (with_reducible refine Kd.C_drew ?_)))
     (case side2 => exact (Kd.Q_reads' HO_350003.out).2.1)
     (case side3 => repeat (first | exact (Kd.R_reads' HO362.out).2.2 | (with_reducible refine Kd.C_alloc ?_ _) | (with_reducible refine Kd.C_drewN ?_ _) | (with_reducible refine Kd.C_drew ?_)))
     (case side4 => exact (Kd.R_reads' HO362.out).2.1)
     rintro e w34 ⟨rfl, hb⟩
     refine ⟨_, rfl, ?_⟩
     have n0_ := Aside0.mk (Kd.Q_below (by (with_reducible repeat (first | apply Kd.Q_alloc | apply Kd.Q_drewN | apply Kd.Q_drew)); exact HO_343003.out) hb)
     have n1_ := Aside0.mk (Kd.Q_below (by (with_reducible repeat (first | apply Kd.Q_alloc | apply Kd.Q_drewN | apply Kd.Q_drew)); exact HO_350003.out) hb)
     have n2_ := Aside0.mk (Kd.R_below (by (with_reducible repeat (first | apply Kd.R_alloc | apply Kd.R_drewN | apply Kd.R_drew)); exact HO362.out) hb)
     have n3_ := Aside0.mk (blk_below (g := gb342) (o := .cells #[.int .i64 t336, .int .i64 t337, .int .i64 t338, .slice Ao9 t339.length co9] 26 (0, 0)) (by (with_reducible repeat (first | refine blk_drewN ?_ _ | refine blk_drew ?_ | refine blk_alloc ?_ _)); exact BK342.out) hb)
     have n4_ := Aside0.mk (blk_below (g := gb349) (o := .cells #[.int .i64 t343, .int .i64 t344, .int .i64 t345, .slice Ao14 t346.length co14] 26 (0, 0)) (by (with_reducible repeat (first | refine blk_drewN ?_ _ | refine blk_drew ?_ | refine blk_alloc ?_ _)); exact BK349.out) hb)
     have n5_ := Aside0.mk (below_step (by repeat (first | (with_reducible first | exact HB.out | apply below_alloc | apply pw_below_drewN | apply below_drew1 | refine below_set ?_ GE342.out | refine below_set ?_ GE349.out) | exact HB.out)) hb)
     clear HO_343003
     clear HO_350003
     clear HO362
     clear BK342
     clear BK349
     clear HB
     have HO_343003 := n0_
     have HO_350003 := n1_
     have HO362 := n2_
     have BK342 := n3_
     have BK349 := n4_
     have HB := n5_
     clear n0_ n1_ n2_ n3_ n4_ n5_
     (try clear hb)
     (try clear hb2)
     (try clear hk)
     (try clear hi)
     refine hK.out _ _ ⟨(blk_cell BK349.out 0).trans rfl, (blk_cell BK349.out 1).trans rfl, (blk_cell BK349.out 2).trans rfl, (blk_cell BK349.out 3).trans rfl, (blk_cell BK342.out 0).trans rfl, (blk_cell BK342.out 1).trans rfl, (blk_cell BK342.out 2).trans rfl, (blk_cell BK342.out 3).trans rfl⟩ (fun hHeld => ?_)
     clear hK K
     refine norm_ (a' := ?_) ?_ ?_
     rotate_left
     ·
      show Act.put _ (some 28) _ = _
      simp only [Act.put, List.setIfInBounds_toArray, List.set_cons_zero, List.set_cons_succ, i64_w, i32_w]
      rfl
     refine pure_ (i := 4) (N := some 2) (v := ?_) (a' := ?_) #[true, true, true, true, true] rfl rfl (by kernel_rfl) (fun _ _ _ h => h) (Or.inl ⟨by rfl, ?_⟩) ?_ ?_
     rotate_left
     ·
      intro w'
      go_simp
      with_reducible rfl
     rotate_left
     ·
      simp only [Act.put, List.setIfInBounds_toArray, List.set_cons_zero, List.set_cons_succ, i64_w, i32_w]
      rfl
     refine done_ (by kernel_rfl) ?_
     try go_wp2
     go_ret
     exact ⟨by first | rfl | (simp [errW_none, errW_some] <;> rfl) | (simp [*, errW_none, errW_some] <;> rfl), by repeat (first | (with_reducible first | exact HB.out | apply below_alloc | apply pw_below_drewN | apply below_drew1 | refine below_set ?_ GE342.out | refine below_set ?_ GE349.out) | exact HB.out)⟩
    ·
     replace c28 := Bool.eq_false_iff.mpr c28
     subst c28
     have H1 : (laws_FnGrayImage.l0 kj4 0 t336 t337 t338 t339 t343 t344 t345 t346) = some r := by rw [if_neg (show ¬ (false = true) by decide)] at H; exact H
     clear H
     have H := H1
     clear H1
     have H' := Aside0.mk H
     clear H
     go_wp2
     go_loopg [5] kj4 (fun kq v5 w' => ∃ (x5_2 : Int), v5 = .int .i64 x5_2 ∧ Aside0 (laws_FnGrayImage.l0 kq x5_2 t336 t337 t338 t339 t343 t344 t345 t346 = some r) ∧ Aside0 (kq ≤ kj4) ∧ Aside0 (Kd.Q (Kd.int .i64) 3 w' w.heap.size (fun k_ => some k_ ≠ ((.slice Ao14 t346.length co14) : Value).ownBlock) (.slice Ao9 t339.length co9) t339) ∧ Aside0 (Kd.Q (Kd.int .i64) 3 w' w.heap.size (fun k_ => some k_ ≠ ((.slice Ao9 t339.length co9) : Value).ownBlock) (.slice Ao14 t346.length co14) t346) ∧ Aside0 (w'.heap[gb342]? = some (.cells #[.int .i64 t336, .int .i64 t337, .int .i64 t338, (.slice Ao9 t339.length co9)] 26 (0, 0))) ∧ Aside0 (w'.heap[gb349]? = some (.cells #[.int .i64 t343, .int .i64 t344, .int .i64 t345, (.slice Ao14 t346.length co14)] 26 (0, 0))) ∧ Aside0 (Below w.heap.size w w'))
     case atStart => exact ⟨(0), (by first | rfl | (simp; done) | (simp [*]; done)), H', ⟨Nat.le_refl _⟩, ⟨by (with_reducible repeat (first | apply Kd.Q_alloc | apply Kd.Q_drewN | apply Kd.Q_drew)); exact HO_343003.out⟩, ⟨by (with_reducible repeat (first | apply Kd.Q_alloc | apply Kd.Q_drewN | apply Kd.Q_drew)); exact HO_350003.out⟩, ⟨by (with_reducible repeat (first | refine blk_drewN ?_ _ | refine blk_drew ?_ | refine blk_alloc ?_ _)); exact BK342.out⟩, ⟨by (with_reducible repeat (first | refine blk_drewN ?_ _ | refine blk_drew ?_ | refine blk_alloc ?_ _)); exact BK349.out⟩, ⟨by repeat (first | (with_reducible first | exact HB.out | apply below_alloc | apply pw_below_drewN | apply below_drew1 | refine below_set ?_ GE342.out | refine below_set ?_ GE349.out) | exact HB.out)⟩⟩
     case round =>
      clear H'
      try clear c1
      try clear c2
      try clear c2b0
      try clear c2b1
      try clear p2
      try clear c4
      try clear c12
      try clear c16
      try clear c17
      try clear c18
      try clear c22
      try clear c23
      try clear c28
      try clear hcz13_0
      try clear hcz13_1
      try clear hcz13_2
      try clear hcz13_3
      try clear hcz8_0
      try clear hcz8_1
      try clear hcz8_2
      try clear hcz8_3
      try clear hfz13_0
      try clear hfz13_1
      try clear hfz13_2
      try clear hfz13_3
      try clear hfz8_0
      try clear hfz8_1
      try clear hfz8_2
      try clear hfz8_3
      try clear p2
      obtain ⟨x5_2, rfl, HA, HK2, HO_343003, HO_350003, BK342, BK349, HB⟩ := hrel
      cases gk with
      | zero => exact absurd HA.out (by simp [laws_FnGrayImage.l0])
      | succ k2 =>
       have H := HA.out
       clear HA
       simp only [laws_FnGrayImage.l0] at H
       have HC35 := Aside0.mk H
       clear H
       go_upto_region 8 with (fail)
       go_cut [42] (fun v42 wc => ∃ (kq : Nat) (x42_34 : Bool), v42 = .bool x42_34 ∧ Aside0 (laws_FnGrayImage.j2 kq x5_2 x42_34 t336 t337 t338 t339 t343 t344 t345 t346 = some r) ∧ Aside0 (kq ≤ k2) ∧ Aside0 (Kd.Q (Kd.int .i64) 3 wc w.heap.size (fun k_ => some k_ ≠ ((.slice Ao14 t346.length co14) : Value).ownBlock) (.slice Ao9 t339.length co9) t339) ∧ Aside0 (Kd.Q (Kd.int .i64) 3 wc w.heap.size (fun k_ => some k_ ≠ ((.slice Ao9 t339.length co9) : Value).ownBlock) (.slice Ao14 t346.length co14) t346) ∧ Aside0 (wc.heap[gb342]? = some (.cells #[.int .i64 t336, .int .i64 t337, .int .i64 t338, (.slice Ao9 t339.length co9)] 26 (0, 0))) ∧ Aside0 (wc.heap[gb349]? = some (.cells #[.int .i64 t343, .int .i64 t344, .int .i64 t345, (.slice Ao14 t346.length co14)] 26 (0, 0))) ∧ Aside0 (Below w.heap.size w wc))
       case first =>
        have H := HC35.out
        clear HC35
        by_cases c36 : x5_2 < (t346.length : Int)
        ·
         rw [if_pos c36] at H
         have c36b0 : decide (x5_2 < (t346.length : Int)) = true := decide_eq_true c36
         clear c36
         (first | rw [c36b0] | (simp only [i64_w, i32_w]; rw [c36b0]) | skip)
         have H' := Aside0.mk H
         clear H
         have hnb37 := NB349_342.out
         have hnc37 := NB342_349.out
         have hcz38_0 : wr.cell? ⟨gb349, 0, none⟩ = some (.int .i64 t343) := (blk_cell BK349.out 0).trans rfl
         have hcz38_1 : wr.cell? ⟨gb349, 1, none⟩ = some (.int .i64 t344) := (blk_cell BK349.out 1).trans rfl
         have hcz38_2 : wr.cell? ⟨gb349, 2, none⟩ = some (.int .i64 t345) := (blk_cell BK349.out 2).trans rfl
         have hcz38_3 : wr.cell? ⟨gb349, 3, none⟩ = some (.slice Ao14 t346.length co14) := (blk_cell BK349.out 3).trans rfl
         have hfz38_0 := blk_frozen BK349.out 0
         have hfz38_1 := blk_frozen BK349.out 1
         have hfz38_2 := blk_frozen BK349.out 2
         have hfz38_3 := blk_frozen BK349.out 3
         have hcz39_0 : wr.cell? ⟨gb342, 0, none⟩ = some (.int .i64 t336) := (blk_cell BK342.out 0).trans rfl
         have hcz39_1 : wr.cell? ⟨gb342, 1, none⟩ = some (.int .i64 t337) := (blk_cell BK342.out 1).trans rfl
         have hcz39_2 : wr.cell? ⟨gb342, 2, none⟩ = some (.int .i64 t338) := (blk_cell BK342.out 2).trans rfl
         have hcz39_3 : wr.cell? ⟨gb342, 3, none⟩ = some (.slice Ao9 t339.length co9) := (blk_cell BK342.out 3).trans rfl
         have hfz39_0 := blk_frozen BK342.out 0
         have hfz39_1 := blk_frozen BK342.out 1
         have hfz39_2 := blk_frozen BK342.out 2
         have hfz39_3 := blk_frozen BK342.out 3
         go_wp2
         go_meet
         case rel => exact ⟨_, (decide ((wrap64 ((wrap64 (3 * x5_2)) + 2)) < (t339.length : Int))), (by first | rfl | (simp; done) | (simp [*]; done)), H', ⟨by have := HJ4.out; have := HK2.out; first | omega | exact Nat.le_refl _⟩, ⟨by (with_reducible repeat (first | apply Kd.Q_alloc | apply Kd.Q_drewN | apply Kd.Q_drew)); exact HO_343003.out⟩, ⟨by (with_reducible repeat (first | apply Kd.Q_alloc | apply Kd.Q_drewN | apply Kd.Q_drew)); exact HO_350003.out⟩, ⟨by (with_reducible repeat (first | refine blk_drewN ?_ _ | refine blk_drew ?_ | refine blk_alloc ?_ _)); exact BK342.out⟩, ⟨by (with_reducible repeat (first | refine blk_drewN ?_ _ | refine blk_drew ?_ | refine blk_alloc ?_ _)); exact BK349.out⟩, ⟨by repeat (first | (with_reducible first | exact HB.out | apply below_alloc | apply pw_below_drewN | apply below_drew1 | refine below_set ?_ GE342.out | refine below_set ?_ GE349.out) | exact HB.out)⟩⟩
        ·
         rw [if_neg c36] at H
         have c36b0 : decide (x5_2 < (t346.length : Int)) = false := decide_eq_false c36
         clear c36
         (first | rw [c36b0] | (simp only [i64_w, i32_w]; rw [c36b0]) | skip)
         have H' := Aside0.mk H
         clear H
         have hnb40 := NB349_342.out
         have hnc40 := NB342_349.out
         have hcz41_0 : wr.cell? ⟨gb349, 0, none⟩ = some (.int .i64 t343) := (blk_cell BK349.out 0).trans rfl
         have hcz41_1 : wr.cell? ⟨gb349, 1, none⟩ = some (.int .i64 t344) := (blk_cell BK349.out 1).trans rfl
         have hcz41_2 : wr.cell? ⟨gb349, 2, none⟩ = some (.int .i64 t345) := (blk_cell BK349.out 2).trans rfl
         have hcz41_3 : wr.cell? ⟨gb349, 3, none⟩ = some (.slice Ao14 t346.length co14) := (blk_cell BK349.out 3).trans rfl
         have hfz41_0 := blk_frozen BK349.out 0
         have hfz41_1 := blk_frozen BK349.out 1
         have hfz41_2 := blk_frozen BK349.out 2
         have hfz41_3 := blk_frozen BK349.out 3
         go_wp2
         go_meet
         case rel => exact ⟨_, (false), (by first | rfl | (simp; done) | (simp [*]; done)), H', ⟨by have := HJ4.out; have := HK2.out; first | omega | exact Nat.le_refl _⟩, ⟨by (with_reducible repeat (first | apply Kd.Q_alloc | apply Kd.Q_drewN | apply Kd.Q_drew)); exact HO_343003.out⟩, ⟨by (with_reducible repeat (first | apply Kd.Q_alloc | apply Kd.Q_drewN | apply Kd.Q_drew)); exact HO_350003.out⟩, ⟨by (with_reducible repeat (first | refine blk_drewN ?_ _ | refine blk_drew ?_ | refine blk_alloc ?_ _)); exact BK342.out⟩, ⟨by (with_reducible repeat (first | refine blk_drewN ?_ _ | refine blk_drew ?_ | refine blk_alloc ?_ _)); exact BK349.out⟩, ⟨by repeat (first | (with_reducible first | exact HB.out | apply below_alloc | apply pw_below_drewN | apply below_drew1 | refine below_set ?_ GE342.out | refine below_set ?_ GE349.out) | exact HB.out)⟩⟩
       case rest =>
        clear HC35
        try clear c1
        try clear c2
        try clear c2b0
        try clear c2b1
        try clear p2
        try clear c3
        try clear c4
        try clear p6
        try clear c12
        try clear c16
        try clear c17
        try clear c18
        try clear c22
        try clear c23
        try clear c28
        try clear c36
        try clear c36b0
        try clear c37
        try clear c40
        try clear hcz13_0
        try clear hcz13_1
        try clear hcz13_2
        try clear hcz13_3
        try clear hcz38_0
        try clear hcz38_1
        try clear hcz38_2
        try clear hcz38_3
        try clear hcz39_0
        try clear hcz39_1
        try clear hcz39_2
        try clear hcz39_3
        try clear hcz41_0
        try clear hcz41_1
        try clear hcz41_2
        try clear hcz41_3
        try clear hcz8_0
        try clear hcz8_1
        try clear hcz8_2
        try clear hcz8_3
        try clear hfz13_0
        try clear hfz13_1
        try clear hfz13_2
        try clear hfz13_3
        try clear hfz38_0
        try clear hfz38_1
        try clear hfz38_2
        try clear hfz38_3
        try clear hfz39_0
        try clear hfz39_1
        try clear hfz39_2
        try clear hfz39_3
        try clear hfz41_0
        try clear hfz41_1
        try clear hfz41_2
        try clear hfz41_3
        try clear hfz8_0
        try clear hfz8_1
        try clear hfz8_2
        try clear hfz8_3
        try clear p2
        obtain ⟨kq, x42_34, rfl, HA, HJ34, HO_343003, HO_350003, BK342, BK349, HB⟩ := hcut
        cases kq with
        | zero => exact absurd HA.out (by simp [laws_FnGrayImage.j2])
        | succ kj34 =>
         have H := HA.out
         clear HA
         simp only [laws_FnGrayImage.j2] at H
         by_cases c42 : x42_34 = true
         ·
          subst c42
          have H1 : (if 0 ≤ (wrap64 (3 * x5_2)) then (if (wrap64 (3 * x5_2)) < (t339.length : Int) then (if 0 ≤ (wrap64 ((wrap64 (3 * x5_2)) + 1)) then (if (wrap64 ((wrap64 (3 * x5_2)) + 1)) < (t339.length : Int) then (if 0 ≤ (wrap64 ((wrap64 (3 * x5_2)) + 2)) then (if (wrap64 ((wrap64 (3 * x5_2)) + 2)) < (t339.length : Int) then (if 0 ≤ x5_2 then (if x5_2 < (t346.length : Int) then (if (rd t346 x5_2) < (mn (rd t339 (wrap64 (3 * x5_2))) (mn (rd t339 (wrap64 ((wrap64 (3 * x5_2)) + 1))) (rd t339 (wrap64 ((wrap64 (3 * x5_2)) + 2))))) then (some false) else (if (rd t346 x5_2) > (mx (rd t339 (wrap64 (3 * x5_2))) (mx (rd t339 (wrap64 ((wrap64 (3 * x5_2)) + 1))) (rd t339 (wrap64 ((wrap64 (3 * x5_2)) + 2))))) then (some false) else (laws_FnGrayImage.l0 kj34 (wrap64 (x5_2 + 1)) t336 t337 t338 t339 t343 t344 t345 t346))) else (none)) else (none)) else (none)) else (none)) else (none)) else (none)) else (none)) else (none)) = some r := by rw [if_pos rfl] at H; exact H
          clear H
          have H := H1
          clear H1
          obtain ⟨ji43, hji43⟩ : ∃ j_ : Int, (wrap64 (3 * x5_2)) = j_ := ⟨_, rfl⟩
          replace H : (if 0 ≤ (ji43) then (if (ji43) < (t339.length : Int) then (if 0 ≤ (wrap64 ((ji43) + 1)) then (if (wrap64 ((ji43) + 1)) < (t339.length : Int) then (if 0 ≤ (wrap64 ((ji43) + 2)) then (if (wrap64 ((ji43) + 2)) < (t339.length : Int) then (if 0 ≤ x5_2 then (if x5_2 < (t346.length : Int) then (if (rd t346 x5_2) < (mn (rd t339 (ji43)) (mn (rd t339 (wrap64 ((ji43) + 1))) (rd t339 (wrap64 ((ji43) + 2))))) then (some false) else (if (rd t346 x5_2) > (mx (rd t339 (ji43)) (mx (rd t339 (wrap64 ((ji43) + 1))) (rd t339 (wrap64 ((ji43) + 2))))) then (some false) else (laws_FnGrayImage.l0 kj34 (wrap64 (x5_2 + 1)) t336 t337 t338 t339 t343 t344 t345 t346))) else (none)) else (none)) else (none)) else (none)) else (none)) else (none)) else (none)) else (none)) = some r := by first | (rw [hji43] at H; exact H) | (simp only [hji43] at H ⊢; exact H)
          have hji43w : (IntKind.i64.wrap (3 * x5_2)) = ji43 := (i64_w _).trans hji43
          by_cases c44 : 0 ≤ (ji43)
          ·
           rw [if_pos c44] at H
           have c44b0 : decide (0 ≤ (ji43)) = true := decide_eq_true c44
           clear c44
           by_cases c45 : (ji43) < (t339.length : Int)
           ·
            rw [if_pos c45] at H
            have c45b0 : decide ((ji43) < (t339.length : Int)) = true := decide_eq_true c45
            clear c45
            obtain ⟨ji46, hji46⟩ : ∃ j_ : Int, (wrap64 ((ji43) + 1)) = j_ := ⟨_, rfl⟩
            replace H : (if 0 ≤ (ji46) then (if (ji46) < (t339.length : Int) then (if 0 ≤ (wrap64 ((ji43) + 2)) then (if (wrap64 ((ji43) + 2)) < (t339.length : Int) then (if 0 ≤ x5_2 then (if x5_2 < (t346.length : Int) then (if (rd t346 x5_2) < (mn (rd t339 (ji43)) (mn (rd t339 (ji46)) (rd t339 (wrap64 ((ji43) + 2))))) then (some false) else (if (rd t346 x5_2) > (mx (rd t339 (ji43)) (mx (rd t339 (ji46)) (rd t339 (wrap64 ((ji43) + 2))))) then (some false) else (laws_FnGrayImage.l0 kj34 (wrap64 (x5_2 + 1)) t336 t337 t338 t339 t343 t344 t345 t346))) else (none)) else (none)) else (none)) else (none)) else (none)) else (none)) = some r := by first | (rw [hji46] at H; exact H) | (simp only [hji46] at H ⊢; exact H)
            have hji46w : (IntKind.i64.wrap ((ji43) + 1)) = ji46 := (i64_w _).trans hji46
            by_cases c47 : 0 ≤ (ji46)
            ·
             rw [if_pos c47] at H
             have c47b0 : decide (0 ≤ (ji46)) = true := decide_eq_true c47
             clear c47
             by_cases c48 : (ji46) < (t339.length : Int)
             ·
              rw [if_pos c48] at H
              have c48b0 : decide ((ji46) < (t339.length : Int)) = true := decide_eq_true c48
              clear c48
              obtain ⟨ji49, hji49⟩ : ∃ j_ : Int, (wrap64 ((ji43) + 2)) = j_ := ⟨_, rfl⟩
              replace H : (if 0 ≤ (ji49) then (if (ji49) < (t339.length : Int) then (if 0 ≤ x5_2 then (if x5_2 < (t346.length : Int) then (if (rd t346 x5_2) < (mn (rd t339 (ji43)) (mn (rd t339 (ji46)) (rd t339 (ji49)))) then (some false) else (if (rd t346 x5_2) > (mx (rd t339 (ji43)) (mx (rd t339 (ji46)) (rd t339 (ji49)))) then (some false) else (laws_FnGrayImage.l0 kj34 (wrap64 (x5_2 + 1)) t336 t337 t338 t339 t343 t344 t345 t346))) else (none)) else (none)) else (none)) else (none)) = some r := by first | (rw [hji49] at H; exact H) | (simp only [hji49] at H ⊢; exact H)
              have hji49w : (IntKind.i64.wrap ((ji43) + 2)) = ji49 := (i64_w _).trans hji49
              by_cases c50 : 0 ≤ (ji49)
              ·
               rw [if_pos c50] at H
               have c50b0 : decide (0 ≤ (ji49)) = true := decide_eq_true c50
               clear c50
               by_cases c51 : (ji49) < (t339.length : Int)
               ·
                rw [if_pos c51] at H
                have c51b0 : decide ((ji49) < (t339.length : Int)) = true := decide_eq_true c51
                clear c51
                obtain ⟨ji52, hji52⟩ : ∃ j_ : Int, (mn (rd t339 (ji46)) (rd t339 (ji49))) = j_ := ⟨_, rfl⟩
                replace H : (if 0 ≤ x5_2 then (if x5_2 < (t346.length : Int) then (if (rd t346 x5_2) < (mn (rd t339 (ji43)) (ji52)) then (some false) else (if (rd t346 x5_2) > (mx (rd t339 (ji43)) (mx (rd t339 (ji46)) (rd t339 (ji49)))) then (some false) else (laws_FnGrayImage.l0 kj34 (wrap64 (x5_2 + 1)) t336 t337 t338 t339 t343 t344 t345 t346))) else (none)) else (none)) = some r := by first | (rw [hji52] at H; exact H) | (simp only [hji52] at H ⊢; exact H)
                have hji52_ : (if (rd t339 (ji49)) < (rd t339 (ji46)) then (rd t339 (ji49)) else (rd t339 (ji46))) = ji52 := hji52
                obtain ⟨ji53, hji53⟩ : ∃ j_ : Int, (mn (rd t339 (ji43)) (ji52)) = j_ := ⟨_, rfl⟩
                replace H : (if 0 ≤ x5_2 then (if x5_2 < (t346.length : Int) then (if (rd t346 x5_2) < (ji53) then (some false) else (if (rd t346 x5_2) > (mx (rd t339 (ji43)) (mx (rd t339 (ji46)) (rd t339 (ji49)))) then (some false) else (laws_FnGrayImage.l0 kj34 (wrap64 (x5_2 + 1)) t336 t337 t338 t339 t343 t344 t345 t346))) else (none)) else (none)) = some r := by first | (rw [hji53] at H; exact H) | (simp only [hji53] at H ⊢; exact H)
                have hji53_ : (if (ji52) < (rd t339 (ji43)) then (ji52) else (rd t339 (ji43))) = ji53 := hji53
                obtain ⟨ji54, hji54⟩ : ∃ j_ : Int, (mx (rd t339 (ji46)) (rd t339 (ji49))) = j_ := ⟨_, rfl⟩
                replace H : (if 0 ≤ x5_2 then (if x5_2 < (t346.length : Int) then (if (rd t346 x5_2) < (ji53) then (some false) else (if (rd t346 x5_2) > (mx (rd t339 (ji43)) (ji54)) then (some false) else (laws_FnGrayImage.l0 kj34 (wrap64 (x5_2 + 1)) t336 t337 t338 t339 t343 t344 t345 t346))) else (none)) else (none)) = some r := by first | (rw [hji54] at H; exact H) | (simp only [hji54] at H ⊢; exact H)
                have hji54_ : (if (rd t339 (ji46)) < (rd t339 (ji49)) then (rd t339 (ji49)) else (rd t339 (ji46))) = ji54 := hji54
                obtain ⟨ji55, hji55⟩ : ∃ j_ : Int, (mx (rd t339 (ji43)) (ji54)) = j_ := ⟨_, rfl⟩
                replace H : (if 0 ≤ x5_2 then (if x5_2 < (t346.length : Int) then (if (rd t346 x5_2) < (ji53) then (some false) else (if (rd t346 x5_2) > (ji55) then (some false) else (laws_FnGrayImage.l0 kj34 (wrap64 (x5_2 + 1)) t336 t337 t338 t339 t343 t344 t345 t346))) else (none)) else (none)) = some r := by first | (rw [hji55] at H; exact H) | (simp only [hji55] at H ⊢; exact H)
                have hji55_ : (if (rd t339 (ji43)) < (ji54) then (ji54) else (rd t339 (ji43))) = ji55 := hji55
                by_cases c56 : 0 ≤ x5_2
                ·
                 rw [if_pos c56] at H
                 have c56b0 : decide (0 ≤ x5_2) = true := decide_eq_true c56
                 clear c56
                 by_cases c57 : x5_2 < (t346.length : Int)
                 ·
                  rw [if_pos c57] at H
                  have c57b0 : decide (x5_2 < (t346.length : Int)) = true := decide_eq_true c57
                  clear c57
                  by_cases c58 : (rd t346 x5_2) < (ji53)
                  ·
                   rw [if_pos c58] at H
                   have c58b0 : decide ((rd t346 x5_2) < (ji53)) = true := decide_eq_true c58
                   clear c58
                   obtain rfl := Option.some.inj H
                   exact absurd hrt (by decide)
                  ·
                   rw [if_neg c58] at H
                   have c58b0 : decide ((rd t346 x5_2) < (ji53)) = false := decide_eq_false c58
                   clear c58
                   by_cases c63 : (rd t346 x5_2) > (ji55)
                   ·
                    rw [if_pos c63] at H
                    have c63b0 : decide ((ji55) < (rd t346 x5_2)) = true := decide_eq_true c63
                    clear c63
                    obtain rfl := Option.some.inj H
                    exact absurd hrt (by decide)
                   ·
                    rw [if_neg c63] at H
                    have c63b0 : decide ((ji55) < (rd t346 x5_2)) = false := decide_eq_false c63
                    clear c63
                    have H' := Aside0.mk H
                    clear H
                    try go_wp2
                    have n0_ := Aside0.mk (Kd.Q_drew HO_343003.out)
                    have n1_ := Aside0.mk (Kd.Q_drew HO_350003.out)
                    have n2_ := Aside0.mk (blk_drew BK342.out)
                    have n3_ := Aside0.mk (blk_drew BK349.out)
                    have n4_ := Aside0.mk (below_drew1 HB.out)
                    clear HO_343003
                    clear HO_350003
                    clear BK342
                    clear BK349
                    clear HB
                    have HO_343003 := n0_
                    have HO_350003 := n1_
                    have BK342 := n2_
                    have BK349 := n3_
                    have HB := n4_
                    clear n0_ n1_ n2_ n3_ n4_
                    have p364 : 0 ≤ ((ji43) : Int) := of_decide_eq_true (by first | (with_reducible assumption) | assumption)
                    have q364 : (ji43) < (t339.length : Int) := of_decide_eq_true (by first | (with_reducible assumption) | assumption)
                    obtain ⟨ad364, e364, hx364_0⟩ := Kd.at_int (Kd.Q_reads' HO_343003.out).2.2 (ji43) p364 q364
                    cases e364
                    replace p364 := eq_true p364
                    replace q364 := eq_true q364
                    have p365 : 0 ≤ ((ji46) : Int) := of_decide_eq_true (by first | (with_reducible assumption) | assumption)
                    have q365 : (ji46) < (t339.length : Int) := of_decide_eq_true (by first | (with_reducible assumption) | assumption)
                    obtain ⟨ad365, e365, hx365_0⟩ := Kd.at_int (Kd.Q_reads' HO_343003.out).2.2 (ji46) p365 q365
                    obtain rfl : ad364 = ad365 := (by injection e365)
                    replace p365 := eq_true p365
                    replace q365 := eq_true q365
                    have p366 : 0 ≤ ((ji49) : Int) := of_decide_eq_true (by first | (with_reducible assumption) | assumption)
                    have q366 : (ji49) < (t339.length : Int) := of_decide_eq_true (by first | (with_reducible assumption) | assumption)
                    obtain ⟨ad366, e366, hx366_0⟩ := Kd.at_int (Kd.Q_reads' HO_343003.out).2.2 (ji49) p366 q366
                    obtain rfl : ad364 = ad366 := (by injection e366)
                    replace p366 := eq_true p366
                    replace q366 := eq_true q366
                    refine start_ (n := 23) (S := fun w' => w'.cell? ⟨gb342, 0, none⟩ = some (.int .i64 t336) ∧ w'.cell? ⟨gb342, 1, none⟩ = some (.int .i64 t337) ∧ w'.cell? ⟨gb342, 2, none⟩ = some (.int .i64 t338) ∧ w'.cell? ⟨gb342, 3, none⟩ = some (.slice (some ad364) t339.length co9) ∧ w'.cell? (ad364.add ((ji43)).toNat) = some (.int .i64 (rd t339 (ji43))) ∧ w'.cell? (ad364.add ((ji46)).toNat) = some (.int .i64 (rd t339 (ji46))) ∧ w'.cell? (ad364.add ((ji49)).toNat) = some (.int .i64 (rd t339 (ji49)))) (ds := []) #[false, false, false, false, false, false, false, false, false, false, false, false, false, false, false, false, false, false, false, false, false, false, false] (by kernel_rfl) rfl rfl ⟨(blk_cell BK342.out 0).trans rfl, (blk_cell BK342.out 1).trans rfl, (blk_cell BK342.out 2).trans rfl, (blk_cell BK342.out 3).trans rfl, hx364_0, hx365_0, hx366_0⟩ (fun hHeld => ?_); refine with_tabW laws_FnGrayImage.tab10 laws_FnGrayImage.bits10 (fun HT_ HW_ => ?_)
                    generalize wc.drew = w68 at HO_343003 HO_350003 BK342 BK349 HB hx364_0 hx365_0 hx366_0 hHeld ⊢
                    refine pure_ (i := 0) (N := some 45) (v := ?_) (a' := ?_) #[true, false, false, false, false, false, false, false, false, false, false, false, false, false, false, false, false, false, false, false, false, false, false] rfl rfl (any_of HT_.out (by kernel_rfl)) (fun _ _ _ h => h) (Or.inl ⟨by rfl, ?_⟩) ?_ ?_
                    rotate_left
                    ·
                     intro w'
                     go_simp
                     with_reducible rfl
                    rotate_left
                    ·
                     simp only [Act.put, List.setIfInBounds_toArray, List.set_cons_zero, List.set_cons_succ, i64_w, i32_w]
                     rfl
                    refine pure_ (i := 2) (N := some 47) (v := ?_) (a' := ?_) #[true, false, true, false, false, false, false, false, false, false, false, false, false, false, false, false, false, false, false, false, false, false, false] rfl rfl (any_of HT_.out (by kernel_rfl)) (fun _ _ _ h => h) (Or.inl ⟨by rfl, ?_⟩) ?_ ?_
                    rotate_left
                    ·
                     intro w'
                     go_simp
                     with_reducible rfl
                    rotate_left
                    ·
                     simp only [Act.put, List.setIfInBounds_toArray, List.set_cons_zero, List.set_cons_succ, i64_w, i32_w]
                     rfl
                    refine pure_ (i := 3) (N := some 48) (v := ?_) (a' := ?_) #[true, false, true, true, false, false, false, false, false, false, false, false, false, false, false, false, false, false, false, false, false, false, false] rfl rfl (any_of HT_.out (by kernel_rfl)) (fun _ _ _ h => h) (Or.inl ⟨by rfl, ?_⟩) ?_ ?_
                    rotate_left
                    ·
                     intro w'
                     go_simp
                     with_reducible rfl
                    rotate_left
                    ·
                     simp only [Act.put, List.setIfInBounds_toArray, List.set_cons_zero, List.set_cons_succ, i64_w, i32_w]
                     rfl
                    refine pure_ (i := 6) (N := some 51) (v := ?_) (a' := ?_) #[true, false, true, true, false, false, true, false, false, false, false, false, false, false, false, false, false, false, false, false, false, false, false] rfl rfl (any_of HT_.out (by kernel_rfl)) (fun _ _ _ h => h) (Or.inl ⟨by rfl, ?_⟩) ?_ ?_
                    rotate_left
                    ·
                     intro w'
                     go_simp
                     with_reducible rfl
                    rotate_left
                    ·
                     simp only [Act.put, List.setIfInBounds_toArray, List.set_cons_zero, List.set_cons_succ, i64_w, i32_w]
                     rfl
                    refine pure_ (i := 8) (N := some 53) (v := ?_) (a' := ?_) #[true, false, true, true, false, false, true, false, true, false, false, false, false, false, false, false, false, false, false, false, false, false, false] rfl rfl (any_of HT_.out (by kernel_rfl)) (fun _ _ _ h => h) (Or.inl ⟨by rfl, ?_⟩) ?_ ?_
                    rotate_left
                    ·
                     intro w'
                     go_simp
                     with_reducible rfl
                    rotate_left
                    ·
                     simp only [Act.put, List.setIfInBounds_toArray, List.set_cons_zero, List.set_cons_succ, i64_w, i32_w]
                     rfl
                    refine pure_ (i := 9) (N := some 54) (v := ?_) (a' := ?_) #[true, false, true, true, false, false, true, false, true, true, false, false, false, false, false, false, false, false, false, false, false, false, false] rfl rfl (any_of HT_.out (by kernel_rfl)) (fun _ _ _ h => h) (Or.inl ⟨by rfl, ?_⟩) ?_ ?_
                    rotate_left
                    ·
                     intro w'
                     go_simp
                     with_reducible rfl
                    rotate_left
                    ·
                     simp only [Act.put, List.setIfInBounds_toArray, List.set_cons_zero, List.set_cons_succ, i64_w, i32_w]
                     rfl
                    refine pure_ (i := 10) (N := some 55) (v := ?_) (a' := ?_) #[true, false, true, true, false, false, true, false, true, true, true, false, false, false, false, false, false, false, false, false, false, false, false] rfl rfl (any_of HT_.out (by kernel_rfl)) (fun _ _ _ h => h) (Or.inl ⟨by rfl, ?_⟩) ?_ ?_
                    rotate_left
                    ·
                     intro w'
                     go_simp
                     with_reducible rfl
                    rotate_left
                    ·
                     simp only [Act.put, List.setIfInBounds_toArray, List.set_cons_zero, List.set_cons_succ, i64_w, i32_w]
                     rfl
                    refine pure_ (i := 13) (N := some 58) (v := ?_) (a' := ?_) #[true, false, true, true, false, false, true, false, true, true, true, false, false, true, false, false, false, false, false, false, false, false, false] rfl rfl (any_of HT_.out (by kernel_rfl)) (fun _ _ _ h => h) (Or.inl ⟨by rfl, ?_⟩) ?_ ?_
                    rotate_left
                    ·
                     intro w'
                     go_simp
                     with_reducible rfl
                    rotate_left
                    ·
                     simp only [Act.put, List.setIfInBounds_toArray, List.set_cons_zero, List.set_cons_succ, i64_w, i32_w]
                     rfl
                    refine pure_ (i := 15) (N := some 60) (v := ?_) (a' := ?_) #[true, false, true, true, false, false, true, false, true, true, true, false, false, true, false, true, false, false, false, false, false, false, false] rfl rfl (any_of HT_.out (by kernel_rfl)) (fun _ _ _ h => h) (Or.inl ⟨by rfl, ?_⟩) ?_ ?_
                    rotate_left
                    ·
                     intro w'
                     go_simp
                     with_reducible rfl
                    rotate_left
                    ·
                     simp only [Act.put, List.setIfInBounds_toArray, List.set_cons_zero, List.set_cons_succ, i64_w, i32_w]
                     rfl
                    refine pure_ (i := 16) (N := some 61) (v := ?_) (a' := ?_) #[true, false, true, true, false, false, true, false, true, true, true, false, false, true, false, true, true, false, false, false, false, false, false] rfl rfl (any_of HT_.out (by kernel_rfl)) (fun _ _ _ h => h) (Or.inl ⟨by rfl, ?_⟩) ?_ ?_
                    rotate_left
                    ·
                     intro w'
                     go_simp
                     with_reducible rfl
                    rotate_left
                    ·
                     simp only [Act.put, List.setIfInBounds_toArray, List.set_cons_zero, List.set_cons_succ, i64_w, i32_w]
                     rfl
                    refine pure_ (i := 17) (N := some 62) (v := ?_) (a' := ?_) #[true, false, true, true, false, false, true, false, true, true, true, false, false, true, false, true, true, true, false, false, false, false, false] rfl rfl (any_of HT_.out (by kernel_rfl)) (fun _ _ _ h => h) (Or.inl ⟨by rfl, ?_⟩) ?_ ?_
                    rotate_left
                    ·
                     intro w'
                     go_simp
                     with_reducible rfl
                    rotate_left
                    ·
                     simp only [Act.put, List.setIfInBounds_toArray, List.set_cons_zero, List.set_cons_succ, i64_w, i32_w]
                     rfl
                    refine take_ (i := 1) (N := some 46) (v := ?_) (a' := ?_) #[true, true, true, true, false, false, true, false, true, true, true, false, false, true, false, true, true, true, false, false, false, false, false] rfl rfl (take_ofW HT_.out HW_.out (by kernel_rfl)) (fun _ _ _ h => h) (Or.inl ⟨by rfl, ?_⟩) hHeld ?_ ?_
                    rotate_left
                    ·
                     rintro w' ⟨s0, s1, s2, s3, s4, s5, s6⟩
                     go_simp
                     with_reducible rfl
                    rotate_left
                    ·
                     simp only [Act.put, List.setIfInBounds_toArray, List.set_cons_zero, List.set_cons_succ, i64_w, i32_w]
                     rfl
                    refine pure_ (i := 4) (N := some 49) (v := ?_) (a' := ?_) #[true, true, true, true, true, false, true, false, true, true, true, false, false, true, false, true, true, true, false, false, false, false, false] rfl rfl (any_of HT_.out (by kernel_rfl)) (fun _ _ _ h => h) (Or.inl ⟨by rfl, ?_⟩) ?_ ?_
                    rotate_left
                    ·
                     intro w'
                     go_simp
                     with_reducible rfl
                    rotate_left
                    ·
                     simp only [Act.put, List.setIfInBounds_toArray, List.set_cons_zero, List.set_cons_succ, i64_w, i32_w]
                     rfl
                    refine take_ (i := 5) (N := some 50) (v := ?_) (a' := ?_) #[true, true, true, true, true, true, true, false, true, true, true, false, false, true, false, true, true, true, false, false, false, false, false] rfl rfl (take_ofW HT_.out HW_.out (by kernel_rfl)) (fun _ _ _ h => h) (Or.inl ⟨by rfl, ?_⟩) hHeld ?_ ?_
                    rotate_left
                    ·
                     rintro w' ⟨s0, s1, s2, s3, s4, s5, s6⟩
                     go_simp
                     with_reducible rfl
                    rotate_left
                    ·
                     simp only [Act.put, List.setIfInBounds_toArray, List.set_cons_zero, List.set_cons_succ, i64_w, i32_w]
                     rfl
                    refine take_ (i := 7) (N := some 52) (v := ?_) (a' := ?_) #[true, true, true, true, true, true, true, true, true, true, true, false, false, true, false, true, true, true, false, false, false, false, false] rfl rfl (take_ofW HT_.out HW_.out (by kernel_rfl)) (fun _ _ _ h => h) (Or.inl ⟨by rfl, ?_⟩) hHeld ?_ ?_
                    rotate_left
                    ·
                     rintro w' ⟨s0, s1, s2, s3, s4, s5, s6⟩
                     go_simp
                     with_reducible rfl
                    rotate_left
                    ·
                     simp only [Act.put, List.setIfInBounds_toArray, List.set_cons_zero, List.set_cons_succ, i64_w, i32_w]
                     rfl
                    refine pure_ (i := 11) (N := some 56) (v := ?_) (a' := ?_) #[true, true, true, true, true, true, true, true, true, true, true, true, false, true, false, true, true, true, false, false, false, false, false] rfl rfl (any_of HT_.out (by kernel_rfl)) (fun _ _ _ h => h) (Or.inl ⟨by rfl, ?_⟩) ?_ ?_
                    rotate_left
                    ·
                     intro w'
                     go_simp
                     with_reducible rfl
                    rotate_left
                    ·
                     simp only [Act.put, List.setIfInBounds_toArray, List.set_cons_zero, List.set_cons_succ, i64_w, i32_w]
                     rfl
                    refine take_ (i := 12) (N := some 57) (v := ?_) (a' := ?_) #[true, true, true, true, true, true, true, true, true, true, true, true, true, true, false, true, true, true, false, false, false, false, false] rfl rfl (take_ofW HT_.out HW_.out (by kernel_rfl)) (fun _ _ _ h => h) (Or.inl ⟨by rfl, ?_⟩) hHeld ?_ ?_
                    rotate_left
                    ·
                     rintro w' ⟨s0, s1, s2, s3, s4, s5, s6⟩
                     go_simp
                     with_reducible rfl
                    rotate_left
                    ·
                     simp only [Act.put, List.setIfInBounds_toArray, List.set_cons_zero, List.set_cons_succ, i64_w, i32_w]
                     rfl
                    refine take_ (i := 14) (N := some 59) (v := ?_) (a' := ?_) #[true, true, true, true, true, true, true, true, true, true, true, true, true, true, true, true, true, true, false, false, false, false, false] rfl rfl (take_ofW HT_.out HW_.out (by kernel_rfl)) (fun _ _ _ h => h) (Or.inl ⟨by rfl, ?_⟩) hHeld ?_ ?_
                    rotate_left
                    ·
                     rintro w' ⟨s0, s1, s2, s3, s4, s5, s6⟩
                     go_simp
                     with_reducible rfl
                    rotate_left
                    ·
                     simp only [Act.put, List.setIfInBounds_toArray, List.set_cons_zero, List.set_cons_succ, i64_w, i32_w]
                     rfl
                    refine pure_ (i := 18) (N := some 63) (v := ?_) (a' := ?_) #[true, true, true, true, true, true, true, true, true, true, true, true, true, true, true, true, true, true, true, false, false, false, false] rfl rfl (any_of HT_.out (by kernel_rfl)) (fun _ _ _ h => h) (Or.inl ⟨by rfl, ?_⟩) ?_ ?_
                    rotate_left
                    ·
                     intro w'
                     go_simp
                     with_reducible rfl
                    rotate_left
                    ·
                     simp only [Act.put, List.setIfInBounds_toArray, List.set_cons_zero, List.set_cons_succ, i64_w, i32_w]
                     rfl
                    refine take_ (i := 19) (N := some 64) (v := ?_) (a' := ?_) #[true, true, true, true, true, true, true, true, true, true, true, true, true, true, true, true, true, true, true, true, false, false, false] rfl rfl (take_ofW HT_.out HW_.out (by kernel_rfl)) (fun _ _ _ h => h) (Or.inl ⟨by rfl, ?_⟩) hHeld ?_ ?_
                    rotate_left
                    ·
                     rintro w' ⟨s0, s1, s2, s3, s4, s5, s6⟩
                     go_simp
                     with_reducible rfl
                    rotate_left
                    ·
                     simp only [Act.put, List.setIfInBounds_toArray, List.set_cons_zero, List.set_cons_succ, i64_w, i32_w]
                     rfl
                    refine pure_ (i := 20) (N := some 65) (v := ?_) (a' := ?_) #[true, true, true, true, true, true, true, true, true, true, true, true, true, true, true, true, true, true, true, true, true, false, false] rfl rfl (any_of HT_.out (by kernel_rfl)) (fun _ _ _ h => h) (Or.inl ⟨by rfl, ?_⟩) ?_ ?_
                    rotate_left
                    ·
                     intro w'
                     go_simp
                     with_reducible rfl
                    rotate_left
                    ·
                     simp only [Act.put, List.setIfInBounds_toArray, List.set_cons_zero, List.set_cons_succ, i64_w, i32_w]
                     rfl
                    refine pure_ (i := 21) (N := some 66) (v := ?_) (a' := ?_) #[true, true, true, true, true, true, true, true, true, true, true, true, true, true, true, true, true, true, true, true, true, true, false] rfl rfl (any_of HT_.out (by kernel_rfl)) (fun _ _ _ h => h) (Or.inl ⟨by rfl, ?_⟩) ?_ ?_
                    rotate_left
                    ·
                     intro w'
                     go_simp
                     with_reducible rfl
                    rotate_left
                    ·
                     simp only [Act.put, List.setIfInBounds_toArray, List.set_cons_zero, List.set_cons_succ, i64_w, i32_w]
                     rfl
                    refine pure_ (i := 22) (N := some 6) (v := ?_) (a' := ?_) #[true, true, true, true, true, true, true, true, true, true, true, true, true, true, true, true, true, true, true, true, true, true, true] rfl rfl (any_of HT_.out (by kernel_rfl)) (fun _ _ _ h => h) (Or.inl ⟨by rfl, ?_⟩) ?_ ?_
                    rotate_left
                    ·
                     intro w'
                     go_simp
                     with_reducible rfl
                    rotate_left
                    ·
                     simp only [Act.put, List.setIfInBounds_toArray, List.set_cons_zero, List.set_cons_succ, i64_w, i32_w]
                     rfl
                    refine done_ (done_of HT_.out (by kernel_rfl)) ?_
                    try go_wp2
                    have n0_ := Aside0.mk (Kd.Q_drew HO_343003.out)
                    have n1_ := Aside0.mk (Kd.Q_drew HO_350003.out)
                    have n2_ := Aside0.mk (blk_drew BK342.out)
                    have n3_ := Aside0.mk (blk_drew BK349.out)
                    have n4_ := Aside0.mk (below_drew1 HB.out)
                    clear HO_343003
                    clear HO_350003
                    clear BK342
                    clear BK349
                    clear HB
                    have HO_343003 := n0_
                    have HO_350003 := n1_
                    have BK342 := n2_
                    have BK349 := n3_
                    have HB := n4_
                    clear n0_ n1_ n2_ n3_ n4_
                    have p367 : 0 ≤ ((ji43) : Int) := of_decide_eq_true (by first | (with_reducible assumption) | assumption)
                    have q367 : (ji43) < (t339.length : Int) := of_decide_eq_true (by first | (with_reducible assumption) | assumption)
                    obtain ⟨ad367, e367, hx367_0⟩ := Kd.at_int (Kd.Q_reads' HO_343003.out).2.2 (ji43) p367 q367
                    obtain rfl : ad364 = ad367 := (by injection e367)
                    replace p367 := eq_true p367
                    replace q367 := eq_true q367
                    have p368 : 0 ≤ ((ji46) : Int) := of_decide_eq_true (by first | (with_reducible assumption) | assumption)
                    have q368 : (ji46) < (t339.length : Int) := of_decide_eq_true (by first | (with_reducible assumption) | assumption)
                    obtain ⟨ad368, e368, hx368_0⟩ := Kd.at_int (Kd.Q_reads' HO_343003.out).2.2 (ji46) p368 q368
                    obtain rfl : ad364 = ad368 := (by injection e368)
                    replace p368 := eq_true p368
                    replace q368 := eq_true q368
                    have p369 : 0 ≤ ((ji49) : Int) := of_decide_eq_true (by first | (with_reducible assumption) | assumption)
                    have q369 : (ji49) < (t339.length : Int) := of_decide_eq_true (by first | (with_reducible assumption) | assumption)
                    obtain ⟨ad369, e369, hx369_0⟩ := Kd.at_int (Kd.Q_reads' HO_343003.out).2.2 (ji49) p369 q369
                    obtain rfl : ad364 = ad369 := (by injection e369)
                    replace p369 := eq_true p369
                    replace q369 := eq_true q369
                    refine start_ (n := 23) (S := fun w' => w'.cell? ⟨gb342, 0, none⟩ = some (.int .i64 t336) ∧ w'.cell? ⟨gb342, 1, none⟩ = some (.int .i64 t337) ∧ w'.cell? ⟨gb342, 2, none⟩ = some (.int .i64 t338) ∧ w'.cell? ⟨gb342, 3, none⟩ = some (.slice (some ad364) t339.length co9) ∧ w'.cell? (ad364.add ((ji43)).toNat) = some (.int .i64 (rd t339 (ji43))) ∧ w'.cell? (ad364.add ((ji46)).toNat) = some (.int .i64 (rd t339 (ji46))) ∧ w'.cell? (ad364.add ((ji49)).toNat) = some (.int .i64 (rd t339 (ji49)))) (ds := []) #[false, false, false, false, false, false, false, false, false, false, false, false, false, false, false, false, false, false, false, false, false, false, false] (by kernel_rfl) rfl rfl ⟨(blk_cell BK342.out 0).trans rfl, (blk_cell BK342.out 1).trans rfl, (blk_cell BK342.out 2).trans rfl, (blk_cell BK342.out 3).trans rfl, hx367_0, hx368_0, hx369_0⟩ (fun hHeld => ?_); refine with_tabW laws_FnGrayImage.tab11 laws_FnGrayImage.bits11 (fun HT_ HW_ => ?_)
                    generalize w68.drew = w69 at HO_343003 HO_350003 BK342 BK349 HB hx367_0 hx368_0 hx369_0 hHeld ⊢
                    refine pure_ (i := 0) (N := some 67) (v := ?_) (a' := ?_) #[true, false, false, false, false, false, false, false, false, false, false, false, false, false, false, false, false, false, false, false, false, false, false] rfl rfl (any_of HT_.out (by kernel_rfl)) (fun _ _ _ h => h) (Or.inl ⟨by rfl, ?_⟩) ?_ ?_
                    rotate_left
                    ·
                     intro w'
                     go_simp
                     with_reducible rfl
                    rotate_left
                    ·
                     simp only [Act.put, List.setIfInBounds_toArray, List.set_cons_zero, List.set_cons_succ, i64_w, i32_w]
                     rfl
                    refine pure_ (i := 2) (N := some 69) (v := ?_) (a' := ?_) #[true, false, true, false, false, false, false, false, false, false, false, false, false, false, false, false, false, false, false, false, false, false, false] rfl rfl (any_of HT_.out (by kernel_rfl)) (fun _ _ _ h => h) (Or.inl ⟨by rfl, ?_⟩) ?_ ?_
                    rotate_left
                    ·
                     intro w'
                     go_simp
                     with_reducible rfl
                    rotate_left
                    ·
                     simp only [Act.put, List.setIfInBounds_toArray, List.set_cons_zero, List.set_cons_succ, i64_w, i32_w]
                     rfl
                    refine pure_ (i := 3) (N := some 70) (v := ?_) (a' := ?_) #[true, false, true, true, false, false, false, false, false, false, false, false, false, false, false, false, false, false, false, false, false, false, false] rfl rfl (any_of HT_.out (by kernel_rfl)) (fun _ _ _ h => h) (Or.inl ⟨by rfl, ?_⟩) ?_ ?_
                    rotate_left
                    ·
                     intro w'
                     go_simp
                     with_reducible rfl
                    rotate_left
                    ·
                     simp only [Act.put, List.setIfInBounds_toArray, List.set_cons_zero, List.set_cons_succ, i64_w, i32_w]
                     rfl
                    refine pure_ (i := 6) (N := some 73) (v := ?_) (a' := ?_) #[true, false, true, true, false, false, true, false, false, false, false, false, false, false, false, false, false, false, false, false, false, false, false] rfl rfl (any_of HT_.out (by kernel_rfl)) (fun _ _ _ h => h) (Or.inl ⟨by rfl, ?_⟩) ?_ ?_
                    rotate_left
                    ·
                     intro w'
                     go_simp
                     with_reducible rfl
                    rotate_left
                    ·
                     simp only [Act.put, List.setIfInBounds_toArray, List.set_cons_zero, List.set_cons_succ, i64_w, i32_w]
                     rfl
                    refine pure_ (i := 8) (N := some 75) (v := ?_) (a' := ?_) #[true, false, true, true, false, false, true, false, true, false, false, false, false, false, false, false, false, false, false, false, false, false, false] rfl rfl (any_of HT_.out (by kernel_rfl)) (fun _ _ _ h => h) (Or.inl ⟨by rfl, ?_⟩) ?_ ?_
                    rotate_left
                    ·
                     intro w'
                     go_simp
                     with_reducible rfl
                    rotate_left
                    ·
                     simp only [Act.put, List.setIfInBounds_toArray, List.set_cons_zero, List.set_cons_succ, i64_w, i32_w]
                     rfl
                    refine pure_ (i := 9) (N := some 76) (v := ?_) (a' := ?_) #[true, false, true, true, false, false, true, false, true, true, false, false, false, false, false, false, false, false, false, false, false, false, false] rfl rfl (any_of HT_.out (by kernel_rfl)) (fun _ _ _ h => h) (Or.inl ⟨by rfl, ?_⟩) ?_ ?_
                    rotate_left
                    ·
                     intro w'
                     go_simp
                     with_reducible rfl
                    rotate_left
                    ·
                     simp only [Act.put, List.setIfInBounds_toArray, List.set_cons_zero, List.set_cons_succ, i64_w, i32_w]
                     rfl
                    refine pure_ (i := 10) (N := some 77) (v := ?_) (a' := ?_) #[true, false, true, true, false, false, true, false, true, true, true, false, false, false, false, false, false, false, false, false, false, false, false] rfl rfl (any_of HT_.out (by kernel_rfl)) (fun _ _ _ h => h) (Or.inl ⟨by rfl, ?_⟩) ?_ ?_
                    rotate_left
                    ·
                     intro w'
                     go_simp
                     with_reducible rfl
                    rotate_left
                    ·
                     simp only [Act.put, List.setIfInBounds_toArray, List.set_cons_zero, List.set_cons_succ, i64_w, i32_w]
                     rfl
                    refine pure_ (i := 13) (N := some 80) (v := ?_) (a' := ?_) #[true, false, true, true, false, false, true, false, true, true, true, false, false, true, false, false, false, false, false, false, false, false, false] rfl rfl (any_of HT_.out (by kernel_rfl)) (fun _ _ _ h => h) (Or.inl ⟨by rfl, ?_⟩) ?_ ?_
                    rotate_left
                    ·
                     intro w'
                     go_simp
                     with_reducible rfl
                    rotate_left
                    ·
                     simp only [Act.put, List.setIfInBounds_toArray, List.set_cons_zero, List.set_cons_succ, i64_w, i32_w]
                     rfl
                    refine pure_ (i := 15) (N := some 82) (v := ?_) (a' := ?_) #[true, false, true, true, false, false, true, false, true, true, true, false, false, true, false, true, false, false, false, false, false, false, false] rfl rfl (any_of HT_.out (by kernel_rfl)) (fun _ _ _ h => h) (Or.inl ⟨by rfl, ?_⟩) ?_ ?_
                    rotate_left
                    ·
                     intro w'
                     go_simp
                     with_reducible rfl
                    rotate_left
                    ·
                     simp only [Act.put, List.setIfInBounds_toArray, List.set_cons_zero, List.set_cons_succ, i64_w, i32_w]
                     rfl
                    refine pure_ (i := 16) (N := some 83) (v := ?_) (a' := ?_) #[true, false, true, true, false, false, true, false, true, true, true, false, false, true, false, true, true, false, false, false, false, false, false] rfl rfl (any_of HT_.out (by kernel_rfl)) (fun _ _ _ h => h) (Or.inl ⟨by rfl, ?_⟩) ?_ ?_
                    rotate_left
                    ·
                     intro w'
                     go_simp
                     with_reducible rfl
                    rotate_left
                    ·
                     simp only [Act.put, List.setIfInBounds_toArray, List.set_cons_zero, List.set_cons_succ, i64_w, i32_w]
                     rfl
                    refine pure_ (i := 17) (N := some 84) (v := ?_) (a' := ?_) #[true, false, true, true, false, false, true, false, true, true, true, false, false, true, false, true, true, true, false, false, false, false, false] rfl rfl (any_of HT_.out (by kernel_rfl)) (fun _ _ _ h => h) (Or.inl ⟨by rfl, ?_⟩) ?_ ?_
                    rotate_left
                    ·
                     intro w'
                     go_simp
                     with_reducible rfl
                    rotate_left
                    ·
                     simp only [Act.put, List.setIfInBounds_toArray, List.set_cons_zero, List.set_cons_succ, i64_w, i32_w]
                     rfl
                    refine take_ (i := 1) (N := some 68) (v := ?_) (a' := ?_) #[true, true, true, true, false, false, true, false, true, true, true, false, false, true, false, true, true, true, false, false, false, false, false] rfl rfl (take_ofW HT_.out HW_.out (by kernel_rfl)) (fun _ _ _ h => h) (Or.inl ⟨by rfl, ?_⟩) hHeld ?_ ?_
                    rotate_left
                    ·
                     rintro w' ⟨s0, s1, s2, s3, s4, s5, s6⟩
                     go_simp
                     with_reducible rfl
                    rotate_left
                    ·
                     simp only [Act.put, List.setIfInBounds_toArray, List.set_cons_zero, List.set_cons_succ, i64_w, i32_w]
                     rfl
                    refine pure_ (i := 4) (N := some 71) (v := ?_) (a' := ?_) #[true, true, true, true, true, false, true, false, true, true, true, false, false, true, false, true, true, true, false, false, false, false, false] rfl rfl (any_of HT_.out (by kernel_rfl)) (fun _ _ _ h => h) (Or.inl ⟨by rfl, ?_⟩) ?_ ?_
                    rotate_left
                    ·
                     intro w'
                     go_simp
                     with_reducible rfl
                    rotate_left
                    ·
                     simp only [Act.put, List.setIfInBounds_toArray, List.set_cons_zero, List.set_cons_succ, i64_w, i32_w]
                     rfl
                    refine take_ (i := 5) (N := some 72) (v := ?_) (a' := ?_) #[true, true, true, true, true, true, true, false, true, true, true, false, false, true, false, true, true, true, false, false, false, false, false] rfl rfl (take_ofW HT_.out HW_.out (by kernel_rfl)) (fun _ _ _ h => h) (Or.inl ⟨by rfl, ?_⟩) hHeld ?_ ?_
                    rotate_left
                    ·
                     rintro w' ⟨s0, s1, s2, s3, s4, s5, s6⟩
                     go_simp
                     with_reducible rfl
                    rotate_left
                    ·
                     simp only [Act.put, List.setIfInBounds_toArray, List.set_cons_zero, List.set_cons_succ, i64_w, i32_w]
                     rfl
                    refine take_ (i := 7) (N := some 74) (v := ?_) (a' := ?_) #[true, true, true, true, true, true, true, true, true, true, true, false, false, true, false, true, true, true, false, false, false, false, false] rfl rfl (take_ofW HT_.out HW_.out (by kernel_rfl)) (fun _ _ _ h => h) (Or.inl ⟨by rfl, ?_⟩) hHeld ?_ ?_
                    rotate_left
                    ·
                     rintro w' ⟨s0, s1, s2, s3, s4, s5, s6⟩
                     go_simp
                     with_reducible rfl
                    rotate_left
                    ·
                     simp only [Act.put, List.setIfInBounds_toArray, List.set_cons_zero, List.set_cons_succ, i64_w, i32_w]
                     rfl
                    refine pure_ (i := 11) (N := some 78) (v := ?_) (a' := ?_) #[true, true, true, true, true, true, true, true, true, true, true, true, false, true, false, true, true, true, false, false, false, false, false] rfl rfl (any_of HT_.out (by kernel_rfl)) (fun _ _ _ h => h) (Or.inl ⟨by rfl, ?_⟩) ?_ ?_
                    rotate_left
                    ·
                     intro w'
                     go_simp
                     with_reducible rfl
                    rotate_left
                    ·
                     simp only [Act.put, List.setIfInBounds_toArray, List.set_cons_zero, List.set_cons_succ, i64_w, i32_w]
                     rfl
                    refine take_ (i := 12) (N := some 79) (v := ?_) (a' := ?_) #[true, true, true, true, true, true, true, true, true, true, true, true, true, true, false, true, true, true, false, false, false, false, false] rfl rfl (take_ofW HT_.out HW_.out (by kernel_rfl)) (fun _ _ _ h => h) (Or.inl ⟨by rfl, ?_⟩) hHeld ?_ ?_
                    rotate_left
                    ·
                     rintro w' ⟨s0, s1, s2, s3, s4, s5, s6⟩
                     go_simp
                     with_reducible rfl
                    rotate_left
                    ·
                     simp only [Act.put, List.setIfInBounds_toArray, List.set_cons_zero, List.set_cons_succ, i64_w, i32_w]
                     rfl
                    refine take_ (i := 14) (N := some 81) (v := ?_) (a' := ?_) #[true, true, true, true, true, true, true, true, true, true, true, true, true, true, true, true, true, true, false, false, false, false, false] rfl rfl (take_ofW HT_.out HW_.out (by kernel_rfl)) (fun _ _ _ h => h) (Or.inl ⟨by rfl, ?_⟩) hHeld ?_ ?_
                    rotate_left
                    ·
                     rintro w' ⟨s0, s1, s2, s3, s4, s5, s6⟩
                     go_simp
                     with_reducible rfl
                    rotate_left
                    ·
                     simp only [Act.put, List.setIfInBounds_toArray, List.set_cons_zero, List.set_cons_succ, i64_w, i32_w]
                     rfl
                    refine pure_ (i := 18) (N := some 85) (v := ?_) (a' := ?_) #[true, true, true, true, true, true, true, true, true, true, true, true, true, true, true, true, true, true, true, false, false, false, false] rfl rfl (any_of HT_.out (by kernel_rfl)) (fun _ _ _ h => h) (Or.inl ⟨by rfl, ?_⟩) ?_ ?_
                    rotate_left
                    ·
                     intro w'
                     go_simp
                     with_reducible rfl
                    rotate_left
                    ·
                     simp only [Act.put, List.setIfInBounds_toArray, List.set_cons_zero, List.set_cons_succ, i64_w, i32_w]
                     rfl
                    refine take_ (i := 19) (N := some 86) (v := ?_) (a' := ?_) #[true, true, true, true, true, true, true, true, true, true, true, true, true, true, true, true, true, true, true, true, false, false, false] rfl rfl (take_ofW HT_.out HW_.out (by kernel_rfl)) (fun _ _ _ h => h) (Or.inl ⟨by rfl, ?_⟩) hHeld ?_ ?_
                    rotate_left
                    ·
                     rintro w' ⟨s0, s1, s2, s3, s4, s5, s6⟩
                     go_simp
                     with_reducible rfl
                    rotate_left
                    ·
                     simp only [Act.put, List.setIfInBounds_toArray, List.set_cons_zero, List.set_cons_succ, i64_w, i32_w]
                     rfl
                    refine pure_ (i := 20) (N := some 87) (v := ?_) (a' := ?_) #[true, true, true, true, true, true, true, true, true, true, true, true, true, true, true, true, true, true, true, true, true, false, false] rfl rfl (any_of HT_.out (by kernel_rfl)) (fun _ _ _ h => h) (Or.inl ⟨by rfl, ?_⟩) ?_ ?_
                    rotate_left
                    ·
                     intro w'
                     go_simp
                     with_reducible rfl
                    rotate_left
                    ·
                     simp only [Act.put, List.setIfInBounds_toArray, List.set_cons_zero, List.set_cons_succ, i64_w, i32_w]
                     rfl
                    refine pure_ (i := 21) (N := some 88) (v := ?_) (a' := ?_) #[true, true, true, true, true, true, true, true, true, true, true, true, true, true, true, true, true, true, true, true, true, true, false] rfl rfl (any_of HT_.out (by kernel_rfl)) (fun _ _ _ h => h) (Or.inl ⟨by rfl, ?_⟩) ?_ ?_
                    rotate_left
                    ·
                     intro w'
                     go_simp
                     with_reducible rfl
                    rotate_left
                    ·
                     simp only [Act.put, List.setIfInBounds_toArray, List.set_cons_zero, List.set_cons_succ, i64_w, i32_w]
                     rfl
                    refine pure_ (i := 22) (N := some 7) (v := ?_) (a' := ?_) #[true, true, true, true, true, true, true, true, true, true, true, true, true, true, true, true, true, true, true, true, true, true, true] rfl rfl (any_of HT_.out (by kernel_rfl)) (fun _ _ _ h => h) (Or.inl ⟨by rfl, ?_⟩) ?_ ?_
                    rotate_left
                    ·
                     intro w'
                     go_simp
                     with_reducible rfl
                    rotate_left
                    ·
                     simp only [Act.put, List.setIfInBounds_toArray, List.set_cons_zero, List.set_cons_succ, i64_w, i32_w]
                     rfl
                    refine done_ (done_of HT_.out (by kernel_rfl)) ?_
                    have hnb70 := NB349_342.out
                    have hnc70 := NB342_349.out
                    have hcz71_0 : w69.cell? ⟨gb349, 0, none⟩ = some (.int .i64 t343) := (blk_cell BK349.out 0).trans rfl
                    have hcz71_1 : w69.cell? ⟨gb349, 1, none⟩ = some (.int .i64 t344) := (blk_cell BK349.out 1).trans rfl
                    have hcz71_2 : w69.cell? ⟨gb349, 2, none⟩ = some (.int .i64 t345) := (blk_cell BK349.out 2).trans rfl
                    have hcz71_3 : w69.cell? ⟨gb349, 3, none⟩ = some (.slice Ao14 t346.length co14) := (blk_cell BK349.out 3).trans rfl
                    have hfz71_0 := blk_frozen BK349.out 0
                    have hfz71_1 := blk_frozen BK349.out 1
                    have hfz71_2 := blk_frozen BK349.out 2
                    have hfz71_3 := blk_frozen BK349.out 3
                    have p370 : 0 ≤ (x5_2 : Int) := of_decide_eq_true (by first | (with_reducible assumption) | assumption)
                    have q370 : x5_2 < (t346.length : Int) := of_decide_eq_true (by first | (with_reducible assumption) | assumption)
                    obtain ⟨ad370, e370, hx370_0⟩ := Kd.at_int (Kd.Q_reads' HO_350003.out).2.2 x5_2 p370 q370
                    cases e370
                    replace p370 := eq_true p370
                    replace q370 := eq_true q370
                    have p371 : 0 ≤ (x5_2 : Int) := of_decide_eq_true (by first | (with_reducible assumption) | assumption)
                    have q371 : x5_2 < (t346.length : Int) := of_decide_eq_true (by first | (with_reducible assumption) | assumption)
                    obtain ⟨ad371, e371, hx371_0⟩ := Kd.at_int (Kd.Q_reads' HO_350003.out).2.2 x5_2 p371 q371
                    obtain rfl : ad370 = ad371 := (by injection e371)
                    replace p371 := eq_true p371
                    replace q371 := eq_true q371
                    try go_wp2
                    go_roundg kj34
                    case measure => have := HJ4.out; have := HK2.out; have := HJ34.out; omega
                    case rel => exact ⟨(wrap64 (x5_2 + 1)), (by first | rfl | (simp; done) | (simp [*]; done)), H', ⟨by have := HJ4.out; have := HK2.out; have := HJ34.out; omega⟩, ⟨by (with_reducible repeat (first | apply Kd.Q_alloc | apply Kd.Q_drewN | apply Kd.Q_drew)); exact HO_343003.out⟩, ⟨by (with_reducible repeat (first | apply Kd.Q_alloc | apply Kd.Q_drewN | apply Kd.Q_drew)); exact HO_350003.out⟩, ⟨by (with_reducible repeat (first | refine blk_drewN ?_ _ | refine blk_drew ?_ | refine blk_alloc ?_ _)); exact BK342.out⟩, ⟨by (with_reducible repeat (first | refine blk_drewN ?_ _ | refine blk_drew ?_ | refine blk_alloc ?_ _)); exact BK349.out⟩, ⟨by repeat (first | (with_reducible first | exact HB.out | apply below_alloc | apply pw_below_drewN | apply below_drew1 | refine below_set ?_ GE342.out | refine below_set ?_ GE349.out) | exact HB.out)⟩⟩
                 ·
                  rw [if_neg c57] at H
                  exact absurd H (by simp)
                ·
                 rw [if_neg c56] at H
                 exact absurd H (by simp)
               ·
                rw [if_neg c51] at H
                exact absurd H (by simp)
              ·
               rw [if_neg c50] at H
               exact absurd H (by simp)
             ·
              rw [if_neg c48] at H
              exact absurd H (by simp)
            ·
             rw [if_neg c47] at H
             exact absurd H (by simp)
           ·
            rw [if_neg c45] at H
            exact absurd H (by simp)
          ·
           rw [if_neg c44] at H
           exact absurd H (by simp)
         ·
          replace c42 := Bool.eq_false_iff.mpr c42
          subst c42
          have H1 : (if t345 = 1 then (some ((wrap64 (3 * (t346.length : Int))) == (t339.length : Int))) else (some false)) = some r := by rw [if_neg (show ¬ (false = true) by decide)] at H; exact H
          clear H
          have H := H1
          clear H1
          by_cases c72 : t345 = 1
          ·
           rw [if_pos c72] at H
           have c72b0 : (t345 == 1) = true := beq_iff_eq.mpr c72
           have c72b1 : (t345 != 1) = false := bne_eq_false_iff_eq.mpr c72
           clear c72
           obtain rfl := Option.some.inj H
           have hnb73 := NB349_342.out
           have hnc73 := NB342_349.out
           have hcz74_0 : wc.cell? ⟨gb349, 0, none⟩ = some (.int .i64 t343) := (blk_cell BK349.out 0).trans rfl
           have hcz74_1 : wc.cell? ⟨gb349, 1, none⟩ = some (.int .i64 t344) := (blk_cell BK349.out 1).trans rfl
           have hcz74_2 : wc.cell? ⟨gb349, 2, none⟩ = some (.int .i64 t345) := (blk_cell BK349.out 2).trans rfl
           have hcz74_3 : wc.cell? ⟨gb349, 3, none⟩ = some (.slice Ao14 t346.length co14) := (blk_cell BK349.out 3).trans rfl
           have hfz74_0 := blk_frozen BK349.out 0
           have hfz74_1 := blk_frozen BK349.out 1
           have hfz74_2 := blk_frozen BK349.out 2
           have hfz74_3 := blk_frozen BK349.out 3
           have hcz75_0 : wc.cell? ⟨gb342, 0, none⟩ = some (.int .i64 t336) := (blk_cell BK342.out 0).trans rfl
           have hcz75_1 : wc.cell? ⟨gb342, 1, none⟩ = some (.int .i64 t337) := (blk_cell BK342.out 1).trans rfl
           have hcz75_2 : wc.cell? ⟨gb342, 2, none⟩ = some (.int .i64 t338) := (blk_cell BK342.out 2).trans rfl
           have hcz75_3 : wc.cell? ⟨gb342, 3, none⟩ = some (.slice Ao9 t339.length co9) := (blk_cell BK342.out 3).trans rfl
           have hfz75_0 := blk_frozen BK342.out 0
           have hfz75_1 := blk_frozen BK342.out 1
           have hfz75_2 := blk_frozen BK342.out 2
           have hfz75_3 := blk_frozen BK342.out 3
           go_wp2
           go_ret
           exact ⟨by first | rfl | (simp [errW_none, errW_some] <;> rfl) | (simp [*, errW_none, errW_some] <;> rfl), by repeat (first | (with_reducible first | exact HB.out | apply below_alloc | apply pw_below_drewN | apply below_drew1 | refine below_set ?_ GE342.out | refine below_set ?_ GE349.out) | exact HB.out)⟩
          ·
           rw [if_neg c72] at H
           have c72b0 : (t345 == 1) = false := beq_eq_false_iff_ne.mpr c72
           have c72b1 : (t345 != 1) = true := bne_iff_ne.mpr c72
           obtain rfl := Option.some.inj H
           exact absurd hrt (by decide)/-- THE ONE PURE STATEMENT of laws_FnGrayImage: yours. -/
def laws_FnGrayImage.Pure : Prop := ∀ (l0 : List Int), l0.length ≤ maxLen → l0.length * 1 ≤ 140737488351232 → (∀ x ∈ l0, (Lit.int .u8 x).wf = true) → ∃ k, laws_FnGrayImage.f k l0 = some true
theorem laws_FnGrayImage.walk (P : laws_FnGrayImage.Pure) (a0 : Option Addr) (len0 cap0 : Nat) (z0 : List Int) (w : World) (w0 : (a0 = none ∧ len0 = 0 ∧ cap0 = 0 ∧ z0 = []) ∨ ∃ x, a0 = some x ∧ len0 ≤ cap0 ∧ cap0 ≤ maxLen ∧ z0.length = cap0 ∧ (∀ i, i < z0.length → w.cell? (x.add i) = some (.int .u8 (z0.getD i 0))) ∧ ∀ n ∈ z0, (Lit.int .u8 n).wf = true) (y0 : len0 * 1 ≤ 140737488351232) :
  Calls Try.prog 4 #[.slice a0 len0 cap0] w fun e w' => e = .returned (.bool true) ∧ Below w.heap.size w w' := by
 obtain ⟨l0, rfl, hr0, hm0, hw0, hc0⟩ := ReadsInt.ofRowC w0
 obtain ⟨k, h⟩ := P l0 hm0 y0 hw0
 refine (laws_FnGrayImage.calls k _ _ l0 true w (Kd.C_of_reads (d := (0 : Int)) (h1 := fun _ => rfl) hr0) hc0 h rfl).mono ?_
 rintro e w' ⟨rfl, hd⟩
 exact ⟨rfl, hd⟩

end Go.Proofs.Ytnamhlcdlbjcfaa.P
