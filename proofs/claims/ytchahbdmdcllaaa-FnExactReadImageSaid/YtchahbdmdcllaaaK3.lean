/- Contracts and row, written by a program of this place out of the translation: the call answers true and its argument reads as before, for every input; no condition. -/
import Derived.Test.YtchahbdmdcllaaaK0
import Derived.Test.YtchahbdmdcllaaaK1
import Derived.Test.YtchahbdmdcllaaaK2
namespace Go.Proofs.Ytchahbdmdcllaaa.P
open Go.RowKit Go.Proofs.YtchahbdmdcllaaaW.PrintWords Go.Proofs.YtchahbdmdcllaaaW.PrintLast Go.Proofs.YtchahbdmdcllaaaW.PrintMore
attribute [local go_sem] max2_int min2_int max_two min_two max_three min_three max_four min_four   -- for this text's walks alone
set_option linter.unusedVariables false
set_option linter.unusedSimpArgs false

/-! ### spec_unfilterImage: function 40 -/
mutual
def spec_unfilterImage.l0 : Nat → Int → Int → List Int → Int → List Int → Int → Int → Int → Int → List Int → Option (Int × Int × Int × List Int × Bool)
 | 0, _, _, _, _, _, _, _, _, _, _ => none
 | k + 1, x1, x2, x3, x11, x12, x13, x167000, x167001, x167002, x167003 => if x13 < x1 then (if 0 ≤ (wrap64 (x13 * (wrap64 (x11 + 1)))) then (if (wrap64 (x13 * (wrap64 (x11 + 1)))) < (x3.length : Int) then ((spec_inRange.f (rd x3 (wrap64 (x13 * (wrap64 (x11 + 1))))) 0 4).bind fun t171 => (if t171 = true then (if 0 ≤ (wrap64 ((wrap64 (x13 * (wrap64 (x11 + 1)))) + 1)) then (if (wrap64 ((wrap64 (x13 * (wrap64 (x11 + 1)))) + 1)) ≤ (wrap64 ((wrap64 ((wrap64 (x13 * (wrap64 (x11 + 1)))) + 1)) + x11)) then (if (wrap64 ((wrap64 ((wrap64 (x13 * (wrap64 (x11 + 1)))) + 1)) + x11)) ≤ (x3.length : Int) then ((spec_unfilterRow.f k (rd x3 (wrap64 (x13 * (wrap64 (x11 + 1))))) ((x3.take ((wrap64 ((wrap64 ((wrap64 (x13 * (wrap64 (x11 + 1)))) + 1)) + x11)) : Int).toNat).drop ((wrap64 ((wrap64 (x13 * (wrap64 (x11 + 1)))) + 1)) : Int).toNat) x12 x2).bind fun t174 => (spec_unfilterImage.l1 k x1 x2 x3 x11 x13 t174 0 x167000 x167001 x167002 x167003)) else (none)) else (none)) else (none)) else (some (0, 0, 0, ([] : List Int), false)))) else (none)) else (none)) else (some (x167000, x167001, x167002, x167003, true))
def spec_unfilterImage.l1 : Nat → Int → Int → List Int → Int → Int → List Int → Int → Int → Int → Int → List Int → Option (Int × Int × Int × List Int × Bool)
 | 0, _, _, _, _, _, _, _, _, _, _, _ => none
 | k + 1, x1, x2, x3, x11, x13, x15, x16, x167000, x167001, x167002, x167003 => if x16 < x11 then (if 0 ≤ x16 then (if x16 < (x15.length : Int) then (if 0 ≤ (wrap64 ((wrap64 (x13 * x11)) + x16)) then (if (wrap64 ((wrap64 (x13 * x11)) + x16)) < (x167003.length : Int) then (spec_unfilterImage.l1 k x1 x2 x3 x11 x13 x15 (wrap64 (x16 + 1)) x167000 x167001 x167002 (x167003.set ((wrap64 ((wrap64 (x13 * x11)) + x16)) : Int).toNat (rd x15 x16))) else (none)) else (none)) else (none)) else (none)) else (spec_unfilterImage.l0 k x1 x2 x3 x11 x15 (wrap64 (x13 + 1)) x167000 x167001 x167002 x167003)
end
def spec_unfilterImage.f (k : Nat) (a0 : Int) (a1 : Int) (a2 : Int) (l3 : List Int) : Option (Int × Int × Int × List Int × Bool) := (spec_newImage.f a0 a1 a2).bind fun bt160 => (if 0 ≤ (wrap64 (a0 * a2)) then (if (wrap64 (a0 * a2) : Int).toNat ≤ 35184372088832 then (spec_unfilterImage.l0 k a1 a2 l3 (wrap64 (a0 * a2)) (List.replicate (wrap64 (a0 * a2) : Int).toNat 0) 0 bt160.1 bt160.2.1 bt160.2.2.1 bt160.2.2.2) else (none)) else (none))
theorem spec_unfilterImage.mono_l : ∀ k, (∀ y0 y1 y2 y3 y4 y5 y6 y7 y8 y9, LeO (spec_unfilterImage.l0 k y0 y1 y2 y3 y4 y5 y6 y7 y8 y9) (spec_unfilterImage.l0 (k + 1) y0 y1 y2 y3 y4 y5 y6 y7 y8 y9)) ∧ (∀ y0 y1 y2 y3 y4 y5 y6 y7 y8 y9 y10, LeO (spec_unfilterImage.l1 k y0 y1 y2 y3 y4 y5 y6 y7 y8 y9 y10) (spec_unfilterImage.l1 (k + 1) y0 y1 y2 y3 y4 y5 y6 y7 y8 y9 y10))
 | 0 => ⟨fun _ _ _ _ _ _ _ _ _ _ r h => by simp [spec_unfilterImage.l0] at h, fun _ _ _ _ _ _ _ _ _ _ _ r h => by simp [spec_unfilterImage.l1] at h⟩
 | k + 1 => by
  obtain ⟨ih0, ih1⟩ := spec_unfilterImage.mono_l k
  refine ⟨?_, ?_⟩
  ·
   intro y0 y1 y2 y3 y4 y5 y6 y7 y8 y9
   unfold spec_unfilterImage.l0
   repeat' first
   | (with_reducible exact ih0 _ _ _ _ _ _ _ _ _ _)
   | (with_reducible exact ih1 _ _ _ _ _ _ _ _ _ _ _)
   | (with_reducible exact spec_unfilterRow.mono _ _ _ _ _)
   | (with_reducible exact LeO.refl _)
   | (with_reducible exact LeO.none _)
   | (with_reducible refine LeO.ite ?_ ?_)
   | (with_reducible refine LeO.bind ?_ (fun _ => ?_))
   | exact ih0 _ _ _ _ _ _ _ _ _ _
   | exact ih1 _ _ _ _ _ _ _ _ _ _ _
   | exact spec_unfilterRow.mono _ _ _ _ _
   | exact LeO.none _
   | refine LeO.ite ?_ ?_
   | refine LeO.bind ?_ (fun _ => ?_)
  ·
   intro y0 y1 y2 y3 y4 y5 y6 y7 y8 y9 y10
   unfold spec_unfilterImage.l1
   repeat' first
   | (with_reducible exact ih0 _ _ _ _ _ _ _ _ _ _)
   | (with_reducible exact ih1 _ _ _ _ _ _ _ _ _ _ _)
   | (with_reducible exact spec_unfilterRow.mono _ _ _ _ _)
   | (with_reducible exact LeO.refl _)
   | (with_reducible exact LeO.none _)
   | (with_reducible refine LeO.ite ?_ ?_)
   | (with_reducible refine LeO.bind ?_ (fun _ => ?_))
   | exact ih0 _ _ _ _ _ _ _ _ _ _
   | exact ih1 _ _ _ _ _ _ _ _ _ _ _
   | exact spec_unfilterRow.mono _ _ _ _ _
   | exact LeO.none _
   | refine LeO.ite ?_ ?_
   | refine LeO.bind ?_ (fun _ => ?_)
theorem spec_unfilterImage.mono : ∀ a0 a1 a2 a3 k, LeO (spec_unfilterImage.f k a0 a1 a2 a3) (spec_unfilterImage.f (k + 1) a0 a1 a2 a3) := by
 intro a0 a1 a2 a3 k
 obtain ⟨ih0, ih1⟩ := spec_unfilterImage.mono_l k
 unfold spec_unfilterImage.f
 repeat' first
   | (with_reducible exact ih0 _ _ _ _ _ _ _ _ _ _)
   | (with_reducible exact ih1 _ _ _ _ _ _ _ _ _ _ _)
   | (with_reducible exact spec_unfilterRow.mono _ _ _ _ _)
   | (with_reducible exact LeO.refl _)
   | (with_reducible exact LeO.none _)
   | (with_reducible refine LeO.ite ?_ ?_)
   | (with_reducible refine LeO.bind ?_ (fun _ => ?_))
   | exact ih0 _ _ _ _ _ _ _ _ _ _
   | exact ih1 _ _ _ _ _ _ _ _ _ _ _
   | exact spec_unfilterRow.mono _ _ _ _ _
   | exact LeO.none _
   | refine LeO.ite ?_ ?_
   | refine LeO.bind ?_ (fun _ => ?_)
def spec_unfilterImage.T10 : Bool × List (List Nat × List Nat) := (true, [([], []), ([], []), ([0, 1], [0, 1]), ([2], [2]), ([], []), ([], []), ([5], [5]), ([], []), ([7], [7]), ([], []), ([8, 9], [8, 9]), ([4, 6, 10], [4, 6, 10]), ([], []), ([], []), ([3, 11, 12, 13], [3, 11, 12, 13]), ([14, 14, 0, 1, 2, 3, 4, 5, 6, 7, 8, 9, 10, 11, 12, 13, 14], [14])])
def spec_unfilterImage.B10 : List Nat := [0, 0, 3, 7, 0, 0, 32, 0, 128, 0, 896, 2032, 0, 0, 16383, 32767]
theorem spec_unfilterImage.tab10 : rtab .any (opsOf Try.f40 10) = spec_unfilterImage.T10 := by kernel_rfl
theorem spec_unfilterImage.bits10 : waitsOk spec_unfilterImage.T10.2 spec_unfilterImage.B10 = true := by kernel_rfl
def spec_unfilterImage.T14 : Bool × List (List Nat × List Nat) := (true, [([], []), ([0], [0]), ([], []), ([], []), ([2, 3], [2, 3]), ([], []), ([4, 5], [4, 5]), ([], []), ([], []), ([7, 8], [7, 8]), ([9], [9]), ([1, 6, 0, 1, 2, 3, 4, 5, 6, 7, 8, 9, 10], [1, 6]), ([11, 10, 0, 1, 2, 3, 4, 5, 6, 7, 8, 9, 10], [10, 11])])
def spec_unfilterImage.B14 : List Nat := [0, 1, 0, 0, 12, 0, 60, 0, 0, 384, 896, 2047, 4095]
theorem spec_unfilterImage.tab14 : rtab .any (opsOf Try.f40 14) = spec_unfilterImage.T14 := by kernel_rfl
theorem spec_unfilterImage.bits14 : waitsOk spec_unfilterImage.T14.2 spec_unfilterImage.B14 = true := by kernel_rfl
set_option maxHeartbeats 8000000 in
set_option maxRecDepth 100000 in
theorem spec_unfilterImage.calls (k : Nat) (a0 : Int) (a1 : Int) (a2 : Int) (A3 : Option Addr) (c3 : Nat) (l3 : List Int) (r1 : Int) (r2 : Int) (r3 : Int) (r4 : List Int) (r5 : Bool) (w : World) (hr3 : Kd.C (Kd.int .i64) w A3 l3.length l3) (hc3 : l3.length ≤ c3) (h : spec_unfilterImage.f k a0 a1 a2 l3 = some (r1, r2, r3, r4, r5)) :
  Calls Try.prog 40 #[.int .i64 a0, .int .i64 a1, .int .i64 a2, .slice A3 l3.length c3] w fun e w' => ∃ v3_ : Value, e = .returned (.tuple #[.agg #[.int .i64 r1, .int .i64 r2, .int .i64 r3, v3_], .bool r5]) ∧ Kd.R (Kd.int .i64) 3 w' w.heap.size (fun _ => True) v3_ r4 ∧ Below w.heap.size w w' := by
 have hu24 := Try.underlying24
 have HR3 := aM hr3
 have HC3 := aM hc3
 clear hr3 hc3
 have HB := aM (Below.refl w.heap.size w)
 have H : ((spec_newImage.f a0 a1 a2).bind fun bt160 => (if 0 ≤ (wrap64 (a0 * a2)) then (if (wrap64 (a0 * a2) : Int).toNat ≤ 35184372088832 then (spec_unfilterImage.l0 k a1 a2 l3 (wrap64 (a0 * a2)) (List.replicate (wrap64 (a0 * a2) : Int).toNat 0) 0 bt160.1 bt160.2.1 bt160.2.2.1 bt160.2.2.2) else (none)) else (none))) = some (r1, r2, r3, r4, r5) := h
 clear h
 replace H := Option.bind_eq_some_iff.mp H
 obtain ⟨⟨t160, t161, t162, t163⟩, A50, H⟩ := H
 replace H : (if 0 ≤ (wrap64 (a0 * a2)) then (if (wrap64 (a0 * a2) : Int).toNat ≤ 35184372088832 then (spec_unfilterImage.l0 k a1 a2 l3 (wrap64 (a0 * a2)) (List.replicate (wrap64 (a0 * a2) : Int).toNat 0) 0 t160 t161 t162 t163) else (none)) else (none)) = some (r1, r2, r3, r4, r5) := H
 have A5 := aM A50
 clear A50
 obtain ⟨ji6, hji6⟩ : ∃ j_ : Int, (wrap64 (a0 * a2)) = j_ := ⟨_, rfl⟩
 replace H : (if 0 ≤ (ji6) then (if (ji6 : Int).toNat ≤ 35184372088832 then (spec_unfilterImage.l0 k a1 a2 l3 ji6 (List.replicate (ji6 : Int).toNat 0) 0 t160 t161 t162 t163) else (none)) else (none)) = some (r1, r2, r3, r4, r5) := by first | (rw [hji6] at H; exact H) | (simp only [hji6] at H ⊢; exact H)
 (try rw [hji6] at A5)
 have hji6w : (IntKind.i64.wrap (a0 * a2)) = ji6 := (i64_w _).trans hji6
 by_cases c7 : 0 ≤ (ji6)
 rotate_left
 ·
  rw [if_neg c7] at H
  exact absurd H (by simp)
 rw [if_pos c7] at H
 have c7b0 := eq_true c7
 have c7b1 : decide (0 ≤ (ji6)) = true := decide_eq_true c7
 clear c7
 by_cases c8 : (ji6 : Int).toNat ≤ 35184372088832
 rotate_left
 ·
  rw [if_neg c8] at H
  exact absurd H (by simp)
 rw [if_pos c8] at H
 have c8b0 := eq_true c8
 have c8b1 : decide ((ji6 : Int).toNat ≤ 35184372088832) = true := decide_eq_true c8
 clear c8
 obtain ⟨y167, hy167⟩ : ∃ y_ : List Int, y_ = (List.replicate (ji6 : Int).toNat 0) := ⟨_, rfl⟩
 replace H : (spec_unfilterImage.l0 k a1 a2 l3 ji6 y167 0 t160 t161 t162 t163) = some (r1, r2, r3, r4, r5) := rY hy167 H
 have Ny167 := aM hy167
 clear hy167
 have H' := aM H
 clear H
 go_enter Try.func40, Try.ntmps40
 go_wp2_with (first | ((with_reducible refine gate_dst (N := 8) rfl ?_); refine box_event ?hg (N := 8) ?hd (cs := #[.int .i64 0, .int .i64 0, .int .i64 0, .slice none 0 0]) (t := 24) ?hr ?_; (case hd => rfl); (case hg => rfl); (case hr => first | (go_simp; done) | (go_simp; rfl)); intro gb159 hg w9 hbox hb; have BK159 := aM (hbox); have GW159 := aM ((by rw [hg]; exact (below_size (qW HB.out)) : w.heap.size ≤ gb159)); have GE159 := aM ((by rw [hg]; exact (below_size (qW HB.out)) : w.heap.size ≤ gb159)); replace HB := aM (below_step (qW HB.out) hb); clear hb hbox hg) | ((with_reducible refine gate_callee (f := 61) rfl ?_); refine goesL_ (some 20) rfl rfl Try.func61 (by kernel_rfl) rfl #[.int .i64 a0, .int .i64 a1, .int .i64 a2] rfl qM ?_; (with_reducible refine (spec_newImage.calls a0 a1 a2 t160 t161 t162 t163 _ A5.out).mono ?_); rintro e w10 ⟨v164, rfl, ho0, hb⟩; refine ⟨_, rfl, ?_⟩; have HO165 := aM (Kd.R_lower ho0 (below_size (qW HB.out))); replace BK159 := bB BK159 hb; replace HB := aM (below_step (qW HB.out) hb); (try clear hb); (try clear hb2); (try clear hk); (try clear hi); (try clear ho0)) | ((with_reducible refine gate_dst (N := 10) rfl ?_); refine box_event ?hg (N := 10) ?hd (cs := #[.int .i64 0, .int .i64 0, .int .i64 0, .slice none 0 0]) (t := 24) ?hr ?_; (case hd => rfl); (case hg => rfl); (case hr => first | (go_simp; done) | (go_simp; rfl)); intro gb166 hg w11 hbox hb; replace HO165 := aM (Kd.R_below (qR HO165.out) hb); have BK166 := aM (hbox); have GW166 := aM ((by rw [hg]; exact (below_size (qW HB.out)) : w.heap.size ≤ gb166)); have GE166 := aM ((by rw [hg]; exact (below_size (qW HB.out)) : w.heap.size ≤ gb166)); replace HB := aM (below_step (qW HB.out) hb); have NB159_166 := aM ((by rw [hg]; exact Nat.ne_of_lt (blk_lt (g := gb159) (o := .cells #[.int .i64 0, .int .i64 0, .int .i64 0, .slice none 0 0] 24 (0, 0)) (qB BK159.out)) : gb159 ≠ gb166)); have NB166_159 := aM ((by rw [hg]; exact Nat.ne_of_gt (blk_lt (g := gb159) (o := .cells #[.int .i64 0, .int .i64 0, .int .i64 0, .slice none 0 0] 24 (0, 0)) (qB BK159.out)) : gb166 ≠ gb159)); replace BK159 := bB BK159 hb; clear hb hbox hg; have hnb12 := NB166_159.out; have hnc12 := NB159_166.out; obtain ⟨hcz13_0, hcz13_1, hcz13_2, hcz13_3⟩ := cz4 BK166.out; obtain ⟨hfz13_0, hfz13_1, hfz13_2, hfz13_3⟩ := fz4 BK166.out; obtain ⟨Ao14, co14, eo14⟩ := Kd.R_slice HO165.out; subst eo14) | ((with_reducible refine gate_dst (N := 25) rfl ?_); refine Kd.R_make (Kd.int .i64) _ 3 rfl (N := 25) rfl 22 _ _ rfl ji6 rfl rfl Try.underlying22 (.int .i64 0) 8 info3 rfl (by decide) (by omega) 0 (ok := fun _ => True) (okp := fun _ => True) rfl (fun _ hk => hk) trivial oD (Nat.le_trans (Nat.mul_le_mul_right _ (oD : ji6.toNat ≤ 35184372088832)) (by omega)) (Below.refl _ _) (Nat.le_refl _) ?_; intro v168 w15 ho16 hb hg_ hnew_; clear hg_ hnew_; (first | rw [← Ny167.out] at ho16 | (simp only [Int.reduceToNat] at ho16; rw [← Ny167.out] at ho16)); have HO169 := aM (Kd.R_lower (Kd.R_new' ho16 (Kd.R_lt (by refine qR ?_; exact (fr4 HO165 BK166)))) (below_size (qW HB.out))); replace HO165 := aM (Kd.R_elder' (by refine qR ?_; exact (fr4 HO165 BK166)) (Kd.R_base ho16) hb); replace BK159 := aM (blk_below (g := gb159) (o := .cells #[.int .i64 0, .int .i64 0, .int .i64 0, .slice none 0 0] 24 (0, 0)) (by refine qB ?_; refine blk_far ?_ NB159_166.out _; refine qB ?_; refine blk_far ?_ NB159_166.out _; refine qB ?_; refine blk_far ?_ NB159_166.out _; refine qB ?_; refine blk_far ?_ NB159_166.out _; refine qB ?_; exact BK159.out) hb); replace BK166 := aM (blk_below (g := gb166) (o := .cells #[.int .i64 t160, .int .i64 t161, .int .i64 t162, .slice Ao14 t163.length co14] 24 (0, 0)) (by refine qB ?_; refine blk_put (cs := #[.int .i64 t160, .int .i64 t161, .int .i64 t162, .slice none 0 0]) ?_ 3 _ rfl; refine qB ?_; refine blk_put (cs := #[.int .i64 t160, .int .i64 t161, .int .i64 0, .slice none 0 0]) ?_ 2 _ rfl; refine qB ?_; refine blk_put (cs := #[.int .i64 t160, .int .i64 0, .int .i64 0, .slice none 0 0]) ?_ 1 _ rfl; refine qB ?_; refine blk_put (cs := #[.int .i64 0, .int .i64 0, .int .i64 0, .slice none 0 0]) ?_ 0 _ rfl; refine qB ?_; exact BK166.out) hb); replace HB := aM (below_step (qW HB.out) hb); clear hb ho16))
 go_loopg [12, 13] k (fun kq v12 v13 w' => ∃ (x12_1 : List Int) (x13_1 : Int) (x160000_1 : Int) (x160001_1 : Int) (x160002_1 : Int) (x167003_1 : List Int) (u167003 : Value), v13 = .int .i64 x13_1 ∧ Aside0 (spec_unfilterImage.l0 kq a1 a2 l3 ji6 x12_1 x13_1 t160 t161 t162 x167003_1 = some (r1, r2, r3, r4, r5)) ∧ Aside0 (kq ≤ k) ∧ Aside0 (Kd.R (Kd.int .i64) 3 w' w.heap.size (fun k_ => some k_ ≠ (u167003 : Value).ownBlock) v12 x12_1) ∧ Aside0 (Kd.R (Kd.int .i64) 3 w' w.heap.size (fun k_ => some k_ ≠ (v12 : Value).ownBlock) u167003 x167003_1) ∧ Aside0 (w'.heap[gb159]? = some (.cells #[.int .i64 x160000_1, .int .i64 x160001_1, .int .i64 x160002_1, (.slice none 0 0)] 24 (0, 0))) ∧ Aside0 (w'.heap[gb166]? = some (.cells #[.int .i64 t160, .int .i64 t161, .int .i64 t162, u167003] 24 (0, 0))) ∧ Aside0 (Below w.heap.size w w'))
 case atStart => exact ⟨(y167), (0), (0), (0), (0), (t163), (.slice Ao14 t163.length co14), qE, H', ⟨Nat.le_refl _⟩, ⟨by refine qR ?_; exact Kd.R_mono HO169.out (fun _ hk => hk.2)⟩, ⟨by refine qR ?_; exact Kd.R_mono HO165.out (fun _ hk => hk.2)⟩, ⟨by refine qB ?_; exact BK159.out⟩, ⟨by refine qB ?_; exact BK166.out⟩, ⟨by exact qW HB.out⟩⟩
 case round =>
  clear H'
  try clear c1
  try clear p2
  try clear c3
  try clear c4
  try clear c6
  try clear p6
  try clear c7
  try clear c7b0
  try clear c7b1
  try clear c8
  try clear c8b0
  try clear c8b1
  try clear c12
  try clear hcz13_0 hcz13_1 hcz13_2 hcz13_3 hfz13_0 hfz13_1 hfz13_2 hfz13_3
  obtain ⟨x12_1, x13_1, x160000_1, x160001_1, x160002_1, x167003_1, u167003, rfl, HA, HK1, HO_12, HO_167003, BK159, BK166, HB⟩ := hrel
  cases gk with
  | zero => exact absurd HA.out (by simp [spec_unfilterImage.l0])
  | succ k1 =>
   have H := HA.out
   clear HA
   simp only [spec_unfilterImage.l0] at H
   by_cases c17 : x13_1 < a1
   rotate_left
   ·
    rw [if_neg c17] at H
    have c17b0 : decide (x13_1 < a1) = false := decide_eq_false c17
    clear c17
    simp only [Option.some.injEq, Prod.mk.injEq] at H
    obtain ⟨rfl, rfl, rfl, rfl, rfl⟩ := H
    have hnb44 := NB166_159.out
    have hnc44 := NB159_166.out
    obtain ⟨hcz45_0, hcz45_1, hcz45_2, hcz45_3⟩ := cz4 BK166.out
    obtain ⟨hfz45_0, hfz45_1, hfz45_2, hfz45_3⟩ := fz4 BK166.out
    obtain ⟨hcz46_0, hcz46_1, hcz46_2, hcz46_3⟩ := cz4 BK159.out
    obtain ⟨hfz46_0, hfz46_1, hfz46_2, hfz46_3⟩ := fz4 BK159.out
    obtain ⟨Ao47, co47, eo47⟩ := Kd.R_slice HO_167003.out
    subst eo47
    go_wp2
    refine bodyPost_ret (results_ct rfl _ _ gb159 24 #[.int .i64 t160, .int .i64 t161, .int .i64 t162, .slice Ao47 x167003_1.length co47] (0, 0) _ rfl (by refine qB ?_; refine blk_put (cs := #[.int .i64 t160, .int .i64 t161, .int .i64 t162, .slice none 0 0]) ?_ 3 _ rfl; refine qB ?_; refine blk_put (cs := #[.int .i64 t160, .int .i64 t161, .int .i64 x160002_1, .slice none 0 0]) ?_ 2 _ rfl; refine qB ?_; refine blk_put (cs := #[.int .i64 t160, .int .i64 x160001_1, .int .i64 x160002_1, .slice none 0 0]) ?_ 1 _ rfl; refine qB ?_; refine blk_put (cs := #[.int .i64 x160000_1, .int .i64 x160001_1, .int .i64 x160002_1, .slice none 0 0]) ?_ 0 _ rfl; refine qB ?_; exact BK159.out) Try.underlying24 rfl (by kernel_rfl)) rfl ?_
    exact ⟨_, by first | rfl | (simp [errW_none, errW_some] <;> rfl) | (simp only [← hji6]; first | rfl | (simp [errW_none, errW_some] <;> rfl)) | (simp [*, errW_none, errW_some] <;> rfl), by refine qR ?_; exact Kd.R_mono (Kd.R_far (p := ⟨gb159, 3, none⟩) (Kd.R_far (p := ⟨gb159, 2, none⟩) (Kd.R_far (p := ⟨gb159, 1, none⟩) (Kd.R_far (p := ⟨gb159, 0, none⟩) (Kd.R_types HO_167003.out BK159.out (by decide)) (fun _ hk => hk.2) (.int .i64 t160)) (fun _ hk => hk.2) (.int .i64 t161)) (fun _ hk => hk.2) (.int .i64 t162)) (fun _ hk => hk.2) (.slice Ao47 x167003_1.length co47)) (fun _ hk => trivial), by exact qW HB.out⟩
   rw [if_pos c17] at H
   have c17b0 : decide (x13_1 < a1) = true := decide_eq_true c17
   clear c17
   obtain ⟨ji18, hji18⟩ : ∃ j_ : Int, (wrap64 (x13_1 * (wrap64 (ji6 + 1)))) = j_ := ⟨_, rfl⟩
   replace H : (if 0 ≤ (ji18) then (if (ji18) < (l3.length : Int) then ((spec_inRange.f (rd l3 (ji18)) 0 4).bind fun t171 => (if t171 = true then (if 0 ≤ (wrap64 ((ji18) + 1)) then (if (wrap64 ((ji18) + 1)) ≤ (wrap64 ((wrap64 ((ji18) + 1)) + ji6)) then (if (wrap64 ((wrap64 ((ji18) + 1)) + ji6)) ≤ (l3.length : Int) then ((spec_unfilterRow.f k1 (rd l3 (ji18)) ((l3.take ((wrap64 ((wrap64 ((ji18) + 1)) + ji6)) : Int).toNat).drop ((wrap64 ((ji18) + 1)) : Int).toNat) x12_1 a2).bind fun t174 => (spec_unfilterImage.l1 k1 a1 a2 l3 ji6 x13_1 t174 0 t160 t161 t162 x167003_1)) else (none)) else (none)) else (none)) else (some (0, 0, 0, ([] : List Int), false)))) else (none)) else (none)) = some (r1, r2, r3, r4, r5) := by first | (rw [hji18] at H; exact H) | (simp only [hji18] at H ⊢; exact H)
   have hji18w : (IntKind.i64.wrap (x13_1 * (wrap64 (ji6 + 1)))) = ji18 := (i64_w _).trans hji18
   by_cases c19 : 0 ≤ (ji18)
   rotate_left
   ·
    rw [if_neg c19] at H
    exact absurd H (by simp)
   rw [if_pos c19] at H
   have c19b0 : decide (0 ≤ (ji18)) = true := decide_eq_true c19
   clear c19
   by_cases c20 : (ji18) < (l3.length : Int)
   rotate_left
   ·
    rw [if_neg c20] at H
    exact absurd H (by simp)
   rw [if_pos c20] at H
   have c20b0 : decide ((ji18) < (l3.length : Int)) = true := decide_eq_true c20
   clear c20
   replace H := Option.bind_eq_some_iff.mp H
   obtain ⟨t171, A210, H⟩ := H
   replace H : (if t171 = true then (if 0 ≤ (wrap64 ((ji18) + 1)) then (if (wrap64 ((ji18) + 1)) ≤ (wrap64 ((wrap64 ((ji18) + 1)) + ji6)) then (if (wrap64 ((wrap64 ((ji18) + 1)) + ji6)) ≤ (l3.length : Int) then ((spec_unfilterRow.f k1 (rd l3 (ji18)) ((l3.take ((wrap64 ((wrap64 ((ji18) + 1)) + ji6)) : Int).toNat).drop ((wrap64 ((ji18) + 1)) : Int).toNat) x12_1 a2).bind fun t174 => (spec_unfilterImage.l1 k1 a1 a2 l3 ji6 x13_1 t174 0 t160 t161 t162 x167003_1)) else (none)) else (none)) else (none)) else (some (0, 0, 0, ([] : List Int), false))) = some (r1, r2, r3, r4, r5) := H
   have A21 := aM A210
   clear A210
   by_cases c22 : t171 = true
   rotate_left
   ·
    replace c22 := Bool.eq_false_iff.mpr c22
    subst c22
    have H1 : (some (0, 0, 0, ([] : List Int), false)) = some (r1, r2, r3, r4, r5) := by rw [if_neg (show ¬ (false = true) by decide)] at H; exact H
    clear H
    have H := H1
    clear H1
    simp only [Option.some.injEq, Prod.mk.injEq] at H
    obtain ⟨rfl, rfl, rfl, rfl, rfl⟩ := H
    have p170 : 0 ≤ ((ji18) : Int) := oD
    have q170 : (ji18) < (l3.length : Int) := oD
    obtain ⟨ad170, e170, hx170_0⟩ := Kd.at_int HR3.out (ji18) p170 q170
    cases e170
    replace hx170_0 := bD HB hx170_0
    replace p170 := eq_true p170
    replace q170 := eq_true q170
    go_wp2_with (first | ((with_reducible refine gate_callee (f := 59) rfl ?_); refine goesL_ (some 39) rfl rfl Try.func59 (by kernel_rfl) rfl #[.int .i64 (rd l3 (ji18)), .int .i64 0, .int .i64 4] rfl (by (try simp only [List.map_toArray, List.map_cons, List.map_nil]); first | done | (simp only [hji18]; rfl) | rfl | (simp only [List.length_drop, List.length_take]; rfl)) ?_; (with_reducible refine (spec_inRange.calls (rd l3 (ji18)) 0 4 false _ A21.out).mono ?_); rintro e w' ⟨rfl, ⟨nd, rfl⟩⟩; refine ⟨_, rfl, ?_⟩; (try (rw [drewN_self wr]; generalize hq_ : World.drewN wr _ = wr; replace HO_12 : Aside0 (Kd.R (Kd.int .i64) 3 wr w.heap.size (fun k_ => some k_ ≠ (u167003 : Value).ownBlock) u12 x12_1) := ⟨by rw [← hq_]; exact (qR HO_12.out)⟩; replace HO_167003 : Aside0 (Kd.R (Kd.int .i64) 3 wr w.heap.size (fun k_ => some k_ ≠ (u12 : Value).ownBlock) u167003 x167003_1) := ⟨by rw [← hq_]; exact (qR HO_167003.out)⟩; replace BK159 : Aside0 (wr.heap[gb159]? = some (.cells #[.int .i64 x160000_1, .int .i64 x160001_1, .int .i64 x160002_1, .slice none 0 0] 24 (0, 0))) := ⟨by rw [← hq_]; exact (qB BK159.out)⟩; replace BK166 : Aside0 (wr.heap[gb166]? = some (.cells #[.int .i64 t160, .int .i64 t161, .int .i64 t162, u167003] 24 (0, 0))) := ⟨by rw [← hq_]; exact (qB BK166.out)⟩; replace HB : Aside0 (Below w.heap.size w wr) := ⟨by rw [← hq_]; exact (qW HB.out)⟩; clear hq_)); have hnb42 := NB159_166.out; have hnc42 := NB166_159.out; obtain ⟨hcz43_0, hcz43_1, hcz43_2, hcz43_3⟩ := cz4 BK159.out; obtain ⟨hfz43_0, hfz43_1, hfz43_2, hfz43_3⟩ := fz4 BK159.out))
    refine bodyPost_ret (results_ct rfl _ _ gb159 24 #[.int .i64 0, .int .i64 0, .int .i64 0, .slice none 0 0] (0, 0) _ rfl (by refine qB ?_; refine blk_put (cs := #[.int .i64 0, .int .i64 0, .int .i64 0, .slice none 0 0]) ?_ 3 _ rfl; refine qB ?_; refine blk_put (cs := #[.int .i64 0, .int .i64 0, .int .i64 x160002_1, .slice none 0 0]) ?_ 2 _ rfl; refine qB ?_; refine blk_put (cs := #[.int .i64 0, .int .i64 x160001_1, .int .i64 x160002_1, .slice none 0 0]) ?_ 1 _ rfl; refine qB ?_; refine blk_put (cs := #[.int .i64 x160000_1, .int .i64 x160001_1, .int .i64 x160002_1, .slice none 0 0]) ?_ 0 _ rfl; refine qB ?_; exact BK159.out) Try.underlying24 rfl (by kernel_rfl)) rfl ?_
    exact ⟨_, by first | rfl | (simp [errW_none, errW_some] <;> rfl) | (simp only [← hji6, ← hji18]; first | rfl | (simp [errW_none, errW_some] <;> rfl)) | (simp [*, errW_none, errW_some] <;> rfl), qN, by exact qW HB.out⟩
   subst c22
   have H1 : (if 0 ≤ (wrap64 ((ji18) + 1)) then (if (wrap64 ((ji18) + 1)) ≤ (wrap64 ((wrap64 ((ji18) + 1)) + ji6)) then (if (wrap64 ((wrap64 ((ji18) + 1)) + ji6)) ≤ (l3.length : Int) then ((spec_unfilterRow.f k1 (rd l3 (ji18)) ((l3.take ((wrap64 ((wrap64 ((ji18) + 1)) + ji6)) : Int).toNat).drop ((wrap64 ((ji18) + 1)) : Int).toNat) x12_1 a2).bind fun t174 => (spec_unfilterImage.l1 k1 a1 a2 l3 ji6 x13_1 t174 0 t160 t161 t162 x167003_1)) else (none)) else (none)) else (none)) = some (r1, r2, r3, r4, r5) := by rw [if_pos rfl] at H; exact H
   clear H
   have H := H1
   clear H1
   obtain ⟨ji23, hji23⟩ : ∃ j_ : Int, (wrap64 ((ji18) + 1)) = j_ := ⟨_, rfl⟩
   replace H : (if 0 ≤ (ji23) then (if (ji23) ≤ (wrap64 ((ji23) + ji6)) then (if (wrap64 ((ji23) + ji6)) ≤ (l3.length : Int) then ((spec_unfilterRow.f k1 (rd l3 (ji18)) ((l3.take ((wrap64 ((ji23) + ji6)) : Int).toNat).drop ((ji23) : Int).toNat) x12_1 a2).bind fun t174 => (spec_unfilterImage.l1 k1 a1 a2 l3 ji6 x13_1 t174 0 t160 t161 t162 x167003_1)) else (none)) else (none)) else (none)) = some (r1, r2, r3, r4, r5) := by first | (rw [hji23] at H; exact H) | (simp only [hji23] at H ⊢; exact H)
   (try rw [hji23] at A21)
   have hji23w : (IntKind.i64.wrap ((ji18) + 1)) = ji23 := (i64_w _).trans hji23
   by_cases c24 : 0 ≤ (ji23)
   rotate_left
   ·
    rw [if_neg c24] at H
    exact absurd H (by simp)
   rw [if_pos c24] at H
   have c24b0 := eq_true c24
   have c24b1 : decide (0 ≤ (ji23)) = true := decide_eq_true c24
   clear c24
   by_cases c25 : (ji23) ≤ (wrap64 ((ji23) + ji6))
   rotate_left
   ·
    rw [if_neg c25] at H
    exact absurd H (by simp)
   rw [if_pos c25] at H
   have c25b0 := eq_true c25
   have c25b1 : decide ((ji23) ≤ (wrap64 ((ji23) + ji6))) = true := decide_eq_true c25
   by_cases c26 : (wrap64 ((ji23) + ji6)) ≤ (l3.length : Int)
   rotate_left
   ·
    rw [if_neg c26] at H
    exact absurd H (by simp)
   rw [if_pos c26] at H
   have c26b0 := eq_true c26
   have c26b1 : decide ((wrap64 ((ji23) + ji6)) ≤ (l3.length : Int)) = true := decide_eq_true c26
   replace H := Option.bind_eq_some_iff.mp H
   obtain ⟨t174, A270, H⟩ := H
   replace H : (spec_unfilterImage.l1 k1 a1 a2 l3 ji6 x13_1 t174 0 t160 t161 t162 x167003_1) = some (r1, r2, r3, r4, r5) := H
   have A27 := aM A270
   clear A270
   have H' := aM H
   clear H
   have p170 : 0 ≤ ((ji18) : Int) := oD
   have q170 : (ji18) < (l3.length : Int) := oD
   obtain ⟨ad170, e170, hx170_0⟩ := Kd.at_int HR3.out (ji18) p170 q170
   cases e170
   replace hx170_0 := bD HB hx170_0
   replace p170 := eq_true p170
   replace q170 := eq_true q170
   try go_wp2_with (first | ((with_reducible refine gate_callee (f := 59) rfl ?_); refine goesL_ (some 39) rfl rfl Try.func59 (by kernel_rfl) rfl #[.int .i64 (rd l3 (ji18)), .int .i64 0, .int .i64 4] rfl (by (try simp only [List.map_toArray, List.map_cons, List.map_nil]); first | done | (simp only [hji18]; rfl) | rfl | (simp only [List.length_drop, List.length_take]; rfl)) ?_; (with_reducible refine (spec_inRange.calls (rd l3 (ji18)) 0 4 true _ A21.out).mono ?_); rintro e w' ⟨rfl, ⟨nd, rfl⟩⟩; refine ⟨_, rfl, ?_⟩))
   (try (rw [drewN_self wr]; generalize hq_ : World.drewN wr _ = wr; replace HO_12 : Aside0 (Kd.R (Kd.int .i64) 3 wr w.heap.size (fun k_ => some k_ ≠ (u167003 : Value).ownBlock) u12 x12_1) := ⟨by rw [← hq_]; exact (qR HO_12.out)⟩; replace HO_167003 : Aside0 (Kd.R (Kd.int .i64) 3 wr w.heap.size (fun k_ => some k_ ≠ (u12 : Value).ownBlock) u167003 x167003_1) := ⟨by rw [← hq_]; exact (qR HO_167003.out)⟩; replace BK159 : Aside0 (wr.heap[gb159]? = some (.cells #[.int .i64 x160000_1, .int .i64 x160001_1, .int .i64 x160002_1, .slice none 0 0] 24 (0, 0))) := ⟨by rw [← hq_]; exact (qB BK159.out)⟩; replace BK166 : Aside0 (wr.heap[gb166]? = some (.cells #[.int .i64 t160, .int .i64 t161, .int .i64 t162, u167003] 24 (0, 0))) := ⟨by rw [← hq_]; exact (qB BK166.out)⟩; replace HB : Aside0 (Below w.heap.size w wr) := ⟨by rw [← hq_]; exact (qW HB.out)⟩; clear hq_))
   replace HO_12 := aM (Kd.R_drew HO_12.out)
   replace HO_167003 := aM (Kd.R_drew HO_167003.out)
   replace BK159 := aM (blk_drew BK159.out)
   replace BK166 := aM (blk_drew BK166.out)
   replace HB := aM (below_drew1 HB.out)
   have p172 : 0 ≤ ((ji18) : Int) := oD
   have q172 : (ji18) < (l3.length : Int) := oD
   obtain ⟨ad172, e172, hx172_0⟩ := Kd.at_int HR3.out (ji18) p172 q172
   have hw172_0 := hx172_0
   obtain rfl : ad170 = ad172 := (by injection e172)
   replace hx172_0 := bD HB hx172_0
   replace p172 := eq_true p172
   replace q172 := eq_true q172
   obtain ⟨i029, hi029, _, hsz29, _⟩ := info_parts info3
   obtain ⟨A29, hcut29, hA29, hC29⟩ := print_mid_of (P := Try.prog) (Value.int .i64) 0 22 3 .i64 .i64 Try.underlying22 hi029 hsz29 (some ad170) c3 l3 (ji23) (wrap64 ((ji23) + ji6)) oD (by first | omega | exact oD) oD HC3.out
   have HR173 := aM (Kd.C_of_reads (h1 := fun _ => rfl) (hA29 _ (Kd.reads_of_C HR3.out)))
   have HC173 := aM hC29
   clear hA29 hC29 hi029 hsz29
   obtain ⟨Ao30, co30, eo30⟩ := Kd.R_slice HO_12.out
   (first | subst eo30 | (injection eo30 with f1_ f2_ f3_; have f4_ := f1_.symm; have f5_ := f3_.symm; clear f1_ f2_ f3_; subst f4_; subst f5_))
   refine start_ (n := 16) (S := fun w' => w'.cell? (ad170.add ((ji18)).toNat) = some (.int .i64 (rd l3 (ji18)))) (ds := []) (bA 16 0) (by kernel_rfl) rfl rfl ((bC HB hw172_0)) (fun hHeld => ?_); refine with_tabW spec_unfilterImage.tab10 spec_unfilterImage.bits10 (fun HT_ HW_ => ?_)
   generalize wr.drew = w28 at HO_12 HO_167003 BK159 BK166 HB HR173 hx172_0 hHeld ⊢
   refine pureQ (i := 0) (N := some 42) HT_ (bA 16 1) ?_
   refine pureQ (i := 1) (N := some 43) HT_ (bA 16 3) ?_
   refine pureQ (i := 2) (N := some 44) HT_ (bA 16 7) ?_
   refine pureQ (i := 4) (N := some 46) HT_ (bA 16 23) ?_
   refine pureQ (i := 5) (N := some 47) HT_ (bA 16 55) ?_
   refine pureQ (i := 6) (N := some 48) HT_ (bA 16 119) ?_
   refine pureQ (i := 7) (N := some 49) HT_ (bA 16 247) ?_
   refine pureQ (i := 8) (N := some 50) HT_ (bA 16 503) ?_
   refine pureQ (i := 9) (N := some 51) HT_ (bA 16 1015) ?_
   refine pureQ (i := 10) (N := some 52) HT_ (bA 16 2039) ?_
   refine pureQ (i := 11) (N := some 53) HT_ (bA 16 4087) ?_
   refine pureQ (i := 12) (N := some 54) HT_ (bA 16 8183) ?_
   refine pureQ (i := 13) (N := some 55) HT_ (bA 16 16375) ?_
   refine take_ (i := 3) (N := some 45) (v := ?_) (a' := ?_) (bA 16 16383) rfl rfl (take_ofW HT_.out HW_.out (by kernel_rfl)) (fun _ _ _ h => h) (Or.inl ⟨by rfl, ?_⟩) hHeld ?_ ?_
   rotate_left
   ·
    intro w' s0
    go_simp
    with_reducible rfl
   rotate_left
   ·
    simp only [Act.put, List.setIfInBounds_toArray, List.set_cons_zero, List.set_cons_succ, i64_w, i32_w]
    rfl
   refine one_ (i := 14) (N := some 56) (bA 16 32767) rfl rfl (one_of HT_.out (by kernel_rfl)) (by decide) (fun K hK => ?_)
   refine goes_ Try.func62 (by kernel_rfl) rfl #[.int .i64 (rd l3 (ji18)), .slice A29 ((l3.take ((wrap64 ((ji23) + ji6)) : Int).toNat).drop ((ji23) : Int).toNat).length (c3 - (ji23).toNat), .slice Ao30 x12_1.length co30, .int .i64 a2] (by rfl) rfl rfl (by (try simp only [List.map_toArray, List.map_cons, List.map_nil]); first | done | (rw [show ((l3.take ((wrap64 ((ji23) + ji6)) : Int).toNat).drop ((ji23) : Int).toNat).length = ((wrap64 ((ji23) + ji6)).toNat - (ji23).toNat) from (by rw [List.length_drop, List.length_take]; have h_ : ((wrap64 ((ji23) + ji6)) : Int) ≤ (l3.length : Int) := oD; omega)] <;> rfl) | (simp only [hji18, hji23, hji6]; rfl) | rfl | (simp only [List.length_drop, List.length_take]; rfl)) ?_
   with_reducible refine (spec_unfilterRow.calls k1 (rd l3 (ji18)) _ _ ((l3.take ((wrap64 ((ji23) + ji6)) : Int).toNat).drop ((ji23) : Int).toNat) _ _ x12_1 a2 t174 _ ?side1 ?side2 ?side3 ?side4 A27.out).mono ?_
   (case side1 => exact qC (Kd.C_below HR173.out HB.out))
   (case side2 => exact HC173.out)
   (case side3 => exact qC (Kd.R_reads' HO_12.out).2.2)
   (case side4 => exact (Kd.R_reads' HO_12.out).2.1)
   rintro e w31 ⟨v175, rfl, ho0, hb⟩
   refine ⟨_, rfl, ?_⟩
   have HO176 := aM (Kd.R_lower (Kd.R_new' (Kd.R_new' ho0 (Kd.R_lt (qR HO_12.out))) (Kd.R_lt (qR HO_167003.out))) (below_size (qW HB.out)))
   replace HO_12 := aM (Kd.R_elder' (qR HO_12.out) (Kd.R_base ho0) hb)
   replace HO_167003 := aM (Kd.R_elder' (qR HO_167003.out) (Kd.R_base ho0) hb)
   replace BK159 := bB BK159 hb
   replace BK166 := bB BK166 hb
   replace HB := aM (below_step (qW HB.out) hb)
   (try clear hb)
   (try clear hb2)
   (try clear hk)
   (try clear hi)
   (try clear ho0)
   refine hK.out _ _ ((bC HB hw172_0)) (fun hHeld => ?_)
   clear hK K
   refine norm_ (a' := ?_) ?_ ?_
   rotate_left
   ·
    show Act.put _ (some 56) _ = _
    simp only [Act.put, List.setIfInBounds_toArray, List.set_cons_zero, List.set_cons_succ, i64_w, i32_w]
    rfl
   refine pureQ (i := 15) (N := some 15) HT_ (bA 16 65535) ?_
   refine done_ (done_of HT_.out (by kernel_rfl)) ?_
   try go_wp2
   go_loopg [16] k1 (fun kq v16 w' => ∃ (x15_2 : List Int) (x16_2 : Int) (x167003_2 : List Int) (u167003 : Value), v16 = .int .i64 x16_2 ∧ Aside0 (spec_unfilterImage.l1 kq a1 a2 l3 ji6 x13_1 x15_2 x16_2 t160 t161 t162 x167003_2 = some (r1, r2, r3, r4, r5)) ∧ Aside0 (kq ≤ k1) ∧ Aside0 (Kd.R (Kd.int .i64) 3 w' w.heap.size (fun k_ => some k_ ≠ (u167003 : Value).ownBlock) v175 x15_2) ∧ Aside0 (Kd.R (Kd.int .i64) 3 w' w.heap.size (fun k_ => some k_ ≠ (v175 : Value).ownBlock) u167003 x167003_2) ∧ Aside0 (w'.heap[gb159]? = some (.cells #[.int .i64 x160000_1, .int .i64 x160001_1, .int .i64 x160002_1, (.slice none 0 0)] 24 (0, 0))) ∧ Aside0 (w'.heap[gb166]? = some (.cells #[.int .i64 t160, .int .i64 t161, .int .i64 t162, u167003] 24 (0, 0))) ∧ Aside0 (Below w.heap.size w w'))
   case atStart => exact ⟨(t174), (0), (x167003_1), (u167003), qE, H', ⟨Nat.le_refl _⟩, ⟨by refine qR ?_; exact Kd.R_mono HO176.out (fun _ hk => hk.2)⟩, ⟨by refine qR ?_; exact Kd.R_mono HO_167003.out (fun _ hk => hk.2)⟩, ⟨by refine qB ?_; exact BK159.out⟩, ⟨by refine qB ?_; exact BK166.out⟩, ⟨by exact qW HB.out⟩⟩
   case round =>
    clear H'
    try clear c1
    try clear p1
    try clear q1
    try clear hx1
    try clear c2
    try clear p2
    try clear c3
    try clear c4
    try clear c5
    try clear c6
    try clear p6
    try clear c7
    try clear c7b0
    try clear c7b1
    try clear c8
    try clear c8b0
    try clear c8b1
    try clear c12
    try clear c17
    try clear c17b0
    try clear p17
    try clear q17
    try clear hx17
    try clear c19
    try clear c19b0
    try clear c20
    try clear c20b0
    try clear c22
    try clear c24
    try clear c24b0
    try clear c24b1
    try clear c25
    try clear c25b0
    try clear c25b1
    try clear c26
    try clear c26b0
    try clear c26b1
    try clear hcz13_0 hcz13_1 hcz13_2 hcz13_3 hfz13_0 hfz13_1 hfz13_2 hfz13_3
    try clear hx170_0
    try clear hx172_0
    try clear p170
    try clear p172
    try clear p2
    try clear p6
    try clear q170
    try clear q172
    obtain ⟨x15_2, x16_2, x167003_2, u167003, rfl, HA, HK2, HO_15, HO_167003, BK159, BK166, HB⟩ := hrel
    cases gk with
    | zero => exact absurd HA.out (by simp [spec_unfilterImage.l1])
    | succ k2 =>
     have H := HA.out
     clear HA
     simp only [spec_unfilterImage.l1] at H
     by_cases c32 : x16_2 < ji6
     rotate_left
     ·
      rw [if_neg c32] at H
      have c32b0 : decide (x16_2 < ji6) = false := decide_eq_false c32
      clear c32
      have H' := aM H
      clear H
      go_wp2
      go_roundg k2
      case measure => have := HK1.out; have := HK2.out; omega
      case rel => exact ⟨(x15_2), (wrap64 (x13_1 + 1)), (x160000_1), (x160001_1), (x160002_1), (x167003_2), (u167003), qE, H', ⟨by have := HK1.out; have := HK2.out; omega⟩, ⟨by refine qR ?_; exact HO_15.out⟩, ⟨by refine qR ?_; exact HO_167003.out⟩, ⟨by refine qB ?_; exact BK159.out⟩, ⟨by refine qB ?_; exact BK166.out⟩, ⟨by exact qW HB.out⟩⟩
     rw [if_pos c32] at H
     have c32b0 : decide (x16_2 < ji6) = true := decide_eq_true c32
     clear c32
     by_cases c33 : 0 ≤ x16_2
     rotate_left
     ·
      rw [if_neg c33] at H
      exact absurd H (by simp)
     rw [if_pos c33] at H
     have c33b0 : decide (0 ≤ x16_2) = true := decide_eq_true c33
     clear c33
     by_cases c34 : x16_2 < (x15_2.length : Int)
     rotate_left
     ·
      rw [if_neg c34] at H
      exact absurd H (by simp)
     rw [if_pos c34] at H
     have c34b0 : decide (x16_2 < (x15_2.length : Int)) = true := decide_eq_true c34
     clear c34
     obtain ⟨ji35, hji35⟩ : ∃ j_ : Int, (wrap64 ((wrap64 (x13_1 * ji6)) + x16_2)) = j_ := ⟨_, rfl⟩
     replace H : (if 0 ≤ (ji35) then (if (ji35) < (x167003_2.length : Int) then (spec_unfilterImage.l1 k2 a1 a2 l3 ji6 x13_1 x15_2 (wrap64 (x16_2 + 1)) t160 t161 t162 (x167003_2.set ((ji35) : Int).toNat (rd x15_2 x16_2))) else (none)) else (none)) = some (r1, r2, r3, r4, r5) := by first | (rw [hji35] at H; exact H) | (simp only [hji35] at H ⊢; exact H)
     have hji35w : (IntKind.i64.wrap ((wrap64 (x13_1 * ji6)) + x16_2)) = ji35 := (i64_w _).trans hji35
     by_cases c36 : 0 ≤ (ji35)
     rotate_left
     ·
      rw [if_neg c36] at H
      exact absurd H (by simp)
     rw [if_pos c36] at H
     have c36b0 : decide (0 ≤ (ji35)) = true := decide_eq_true c36
     clear c36
     by_cases c37 : (ji35) < (x167003_2.length : Int)
     rotate_left
     ·
      rw [if_neg c37] at H
      exact absurd H (by simp)
     rw [if_pos c37] at H
     have c37b0 : decide ((ji35) < (x167003_2.length : Int)) = true := decide_eq_true c37
     clear c37
     obtain ⟨y178, hy178⟩ : ∃ y_ : List Int, y_ = (x167003_2.set ((ji35) : Int).toNat (rd x15_2 x16_2)) := ⟨_, rfl⟩
     replace H : (spec_unfilterImage.l1 k2 a1 a2 l3 ji6 x13_1 x15_2 (wrap64 (x16_2 + 1)) t160 t161 t162 y178) = some (r1, r2, r3, r4, r5) := rY hy178 H
     have Ny178 := aM hy178
     clear hy178
     have H' := aM H
     clear H
     try go_wp2
     replace HO_15 := aM (Kd.R_drew HO_15.out)
     replace HO_167003 := aM (Kd.R_drew HO_167003.out)
     replace BK159 := aM (blk_drew BK159.out)
     replace BK166 := aM (blk_drew BK166.out)
     replace HB := aM (below_drew1 HB.out)
     obtain ⟨Ao40, co40, eo40⟩ := Kd.R_slice HO_15.out
     (first | subst eo40 | (injection eo40 with f1_ f2_ f3_; have f4_ := f1_.symm; have f5_ := f3_.symm; clear f1_ f2_ f3_; subst f4_; subst f5_))
     have p177 : 0 ≤ (x16_2 : Int) := oD
     have q177 : x16_2 < (x15_2.length : Int) := oD
     obtain ⟨ad177, e177, hx177_0⟩ := Kd.at_int (Kd.R_reads' HO_15.out).2.2 x16_2 p177 q177
     cases e177
     replace p177 := eq_true p177
     replace q177 := eq_true q177
     have p38 : 0 ≤ ((ji35) : Int) := oD
     have q38 : ((ji35) : Int) < ((x167003_2.length : Int) : Int) := oD
     obtain ⟨go38, co38, eo38, gb38, gl38, cl38, HG38⟩ := Kd.R_form HO_167003.out (by omega)
     (first | cases eo38 | (injection eo38 with ea_ en_ ec_; (first | subst ea_ | (injection ea_ with ea_; subst ea_)); subst ec_; clear en_))
     have GB38 := aM gb38
     have GG38 := aM HG38
     clear gb38 gl38 HG38
     obtain ⟨hx38_0, hf38_0⟩ := Kd.R_celln 0 HO_167003.out ((ji35) : Int) p38 q38
     replace p38 := eq_true p38
     replace q38 := eq_true q38
     have HP41 := Kd.R_putn HO_167003.out ((ji35) : Int) (rd x15_2 x16_2)
     rw [← Ny178.out] at HP41
     have HQ41 := aM HP41
     clear HP41
     refine start_ (n := 13) (S := fun w' => w'.cell? ⟨gb166, 0, none⟩ = some (.int .i64 t160) ∧ w'.cell? ⟨gb166, 1, none⟩ = some (.int .i64 t161) ∧ w'.cell? ⟨gb166, 2, none⟩ = some (.int .i64 t162) ∧ w'.cell? ⟨gb166, 3, none⟩ = some (.slice (some ⟨go38, 0, none⟩) x167003_2.length co38) ∧ w'.cell? (ad177.add (x16_2).toNat) = some (.int .i64 (rd x15_2 x16_2))) (ds := [12]) (bA 13 0) (by kernel_rfl) rfl rfl ⟨(blk_cell BK166.out 0).trans rfl, (blk_cell BK166.out 1).trans rfl, (blk_cell BK166.out 2).trans rfl, (blk_cell BK166.out 3).trans rfl, hx177_0⟩ (fun hHeld => ?_); refine with_tabW spec_unfilterImage.tab14 spec_unfilterImage.bits14 (fun HT_ HW_ => ?_)
     generalize wr.drew = w39 at HO_15 HO_167003 BK159 BK166 HB GG38 HQ41 hf38_0 hx177_0 hx38_0 hHeld ⊢
     refine pureQ (i := 0) (N := some 62) HT_ (bA 13 1) ?_
     refine pureQ (i := 2) (N := some 64) HT_ (bA 13 5) ?_
     refine pureQ (i := 3) (N := some 65) HT_ (bA 13 13) ?_
     refine pureQ (i := 4) (N := some 66) HT_ (bA 13 29) ?_
     refine pureQ (i := 5) (N := some 67) HT_ (bA 13 61) ?_
     refine pureQ (i := 6) (N := some 68) HT_ (bA 13 125) ?_
     refine pureQ (i := 7) (N := some 69) HT_ (bA 13 253) ?_
     refine pureQ (i := 8) (N := some 70) HT_ (bA 13 509) ?_
     refine pureQ (i := 9) (N := some 71) HT_ (bA 13 1021) ?_
     refine take_ (i := 1) (N := some 63) (v := ?_) (a' := ?_) (bA 13 1023) rfl rfl (take_ofW HT_.out HW_.out (by kernel_rfl)) (fun _ _ _ h => h) (Or.inl ⟨by rfl, ?_⟩) hHeld ?_ ?_
     rotate_left
     ·
      rintro w' ⟨s0, s1, s2, s3, s4⟩
      go_simp
      with_reducible rfl
     rotate_left
     ·
      simp only [Act.put, List.setIfInBounds_toArray, List.set_cons_zero, List.set_cons_succ, i64_w, i32_w]
      rfl
     refine take_ (i := 10) (N := some 72) (v := ?_) (a' := ?_) (bA 13 2047) rfl rfl (take_ofW HT_.out HW_.out (by kernel_rfl)) (fun _ _ _ h => h) (Or.inl ⟨by rfl, ?_⟩) hHeld ?_ ?_
     rotate_left
     ·
      rintro w' ⟨s0, s1, s2, s3, s4⟩
      go_simp
      with_reducible rfl
     rotate_left
     ·
      simp only [Act.put, List.setIfInBounds_toArray, List.set_cons_zero, List.set_cons_succ, i64_w, i32_w]
      rfl
     refine pureQ (i := 11) (N := some 73) HT_ (bA 13 4095) ?_
     refine last_ (i := 12) (N := none) (bA 13 8191) rfl rfl (one_of HT_.out (by kernel_rfl)) (by decide) (fun K hK => ?_)
     refine skip_ (w1 := ?_) (by rfl) rfl ?_ ?_
     rotate_left
     ·
      go_simp
      rfl
     refine hK.out _ _ ?_
     clear hK K
     refine done_ (done_of HT_.out (by kernel_rfl)) ?_
     try go_wp2
     go_roundg k2
     case measure => have := HK1.out; have := HK2.out; omega
     case rel => exact ⟨(x15_2), (wrap64 (x16_2 + 1)), (y178), (.slice (some ⟨go38, 0, none⟩) x167003_2.length co38), qE, H', ⟨by have := HK1.out; have := HK2.out; omega⟩, ⟨by refine qR ?_; exact Kd.R_mono (Kd.R_far (p := ⟨go38, ((ji35) : Int).toNat, none⟩) (Kd.R_mono HO_15.out (fun k_ hk => (⟨hk, fun e_ => hk (by rw [e_]; rfl)⟩ : _ ∧ k_ ≠ go38))) (fun _ hk => hk.2) (.int .i64 (rd x15_2 x16_2))) (fun _ hk => hk.1)⟩, ⟨by refine qR ?_; exact HQ41.out⟩, ⟨by refine qB ?_; refine blk_far ?_ (by have h_ := Kd.R_ne HO_167003.out BK159.out (by decide); intro e_; exact h_ (by rw [e_]; rfl)) _; refine qB ?_; exact BK159.out⟩, ⟨by refine qB ?_; refine blk_far ?_ (by have h_ := Kd.R_ne HO_167003.out BK166.out (by decide); intro e_; exact h_ (by rw [e_]; rfl)) _; refine qB ?_; exact BK166.out⟩, ⟨by exact qW HB.out⟩⟩

/-! ### impl_unfilterImage: function 45 -/
mutual
def impl_unfilterImage.j0 : Nat → Int → Int → Int → List Int → Bool → Option (Int × Int × Int × List Int × Bool)
 | 0, _, _, _, _, _ => none
 | k + 1, x0, x1, x2, x3, x35 => if x35 = true then (some (0, 0, 0, ([] : List Int), false)) else (if 0 ≤ (wrap64 (x0 * x2)) then (if (wrap64 (x0 * x2) : Int).toNat ≤ 35184372088832 then (impl_unfilterImage.l0 k x2 x3 (wrap64 (x0 * x2)) (List.replicate (wrap64 (x0 * x2) : Int).toNat 0) x1 0 x0 x1 x2 ([] : List Int)) else (none)) else (none))
def impl_unfilterImage.l0 : Nat → Int → List Int → Int → List Int → Int → Int → Int → Int → Int → List Int → Option (Int × Int × Int × List Int × Bool)
 | 0, _, _, _, _, _, _, _, _, _, _ => none
 | k + 1, x2, x3, x11, x12, x46, x47, x380000, x380001, x380002, x380003 => if x47 < x46 then (if 0 ≤ (wrap64 (x47 * (wrap64 (1 + x11)))) then (if (wrap64 (x47 * (wrap64 (1 + x11)))) ≤ (wrap64 ((wrap64 (x47 + 1)) * (wrap64 (1 + x11)))) then (if (wrap64 ((wrap64 (x47 + 1)) * (wrap64 (1 + x11)))) ≤ (x3.length : Int) then (if 0 < (((x3.take ((wrap64 ((wrap64 (x47 + 1)) * (wrap64 (1 + x11)))) : Int).toNat).drop ((wrap64 (x47 * (wrap64 (1 + x11)))) : Int).toNat).length : Int) then (if (rd ((x3.take ((wrap64 ((wrap64 (x47 + 1)) * (wrap64 (1 + x11)))) : Int).toNat).drop ((wrap64 (x47 * (wrap64 (1 + x11)))) : Int).toNat) 0) > 4 then (some (0, 0, 0, ([] : List Int), false)) else (if 1 ≤ (((x3.take ((wrap64 ((wrap64 (x47 + 1)) * (wrap64 (1 + x11)))) : Int).toNat).drop ((wrap64 (x47 * (wrap64 (1 + x11)))) : Int).toNat).length : Int) then ((impl_unfilterRow.f k (rd ((x3.take ((wrap64 ((wrap64 (x47 + 1)) * (wrap64 (1 + x11)))) : Int).toNat).drop ((wrap64 (x47 * (wrap64 (1 + x11)))) : Int).toNat) 0) (((x3.take ((wrap64 ((wrap64 (x47 + 1)) * (wrap64 (1 + x11)))) : Int).toNat).drop ((wrap64 (x47 * (wrap64 (1 + x11)))) : Int).toNat).drop 1) x12 x2).bind fun t387 => (if x380003.length + t387.length < 17592186044416 then (impl_unfilterImage.l0 k x2 x3 x11 t387 x46 (wrap64 (x47 + 1)) x380000 x380001 x380002 (x380003 ++ t387)) else (none))) else (none))) else (none)) else (none)) else (none)) else (none)) else (some (x380000, x380001, x380002, x380003, true))
end
def impl_unfilterImage.f (k : Nat) (a0 : Int) (a1 : Int) (a2 : Int) (l3 : List Int) : Option (Int × Int × Int × List Int × Bool) := (impl_isShape.f a0 a1 a2).bind fun t377 => (if t377 = true then ((impl_areBytes.f l3).bind fun t378 => (if t378 = true then (impl_unfilterImage.j0 k a0 a1 a2 l3 ((l3.length : Int) != (wrap64 (a1 * (wrap64 (1 + (wrap64 (a0 * a2)))))))) else (impl_unfilterImage.j0 k a0 a1 a2 l3 true))) else (impl_unfilterImage.j0 k a0 a1 a2 l3 true))
theorem impl_unfilterImage.mono_l : ∀ k, (∀ y0 y1 y2 y3 y4, LeO (impl_unfilterImage.j0 k y0 y1 y2 y3 y4) (impl_unfilterImage.j0 (k + 1) y0 y1 y2 y3 y4)) ∧ (∀ y0 y1 y2 y3 y4 y5 y6 y7 y8 y9, LeO (impl_unfilterImage.l0 k y0 y1 y2 y3 y4 y5 y6 y7 y8 y9) (impl_unfilterImage.l0 (k + 1) y0 y1 y2 y3 y4 y5 y6 y7 y8 y9))
 | 0 => ⟨fun _ _ _ _ _ r h => by simp [impl_unfilterImage.j0] at h, fun _ _ _ _ _ _ _ _ _ _ r h => by simp [impl_unfilterImage.l0] at h⟩
 | k + 1 => by
  obtain ⟨ih0, ih1⟩ := impl_unfilterImage.mono_l k
  refine ⟨?_, ?_⟩
  ·
   intro y0 y1 y2 y3 y4
   unfold impl_unfilterImage.j0
   repeat' first
   | (with_reducible exact ih0 _ _ _ _ _)
   | (with_reducible exact ih1 _ _ _ _ _ _ _ _ _ _)
   | (with_reducible exact impl_unfilterRow.mono _ _ _ _ _)
   | (with_reducible exact LeO.refl _)
   | (with_reducible exact LeO.none _)
   | (with_reducible refine LeO.ite ?_ ?_)
   | (with_reducible refine LeO.bind ?_ (fun _ => ?_))
   | exact ih0 _ _ _ _ _
   | exact ih1 _ _ _ _ _ _ _ _ _ _
   | exact impl_unfilterRow.mono _ _ _ _ _
   | exact LeO.none _
   | refine LeO.ite ?_ ?_
   | refine LeO.bind ?_ (fun _ => ?_)
  ·
   intro y0 y1 y2 y3 y4 y5 y6 y7 y8 y9
   unfold impl_unfilterImage.l0
   repeat' first
   | (with_reducible exact ih0 _ _ _ _ _)
   | (with_reducible exact ih1 _ _ _ _ _ _ _ _ _ _)
   | (with_reducible exact impl_unfilterRow.mono _ _ _ _ _)
   | (with_reducible exact LeO.refl _)
   | (with_reducible exact LeO.none _)
   | (with_reducible refine LeO.ite ?_ ?_)
   | (with_reducible refine LeO.bind ?_ (fun _ => ?_))
   | exact ih0 _ _ _ _ _
   | exact ih1 _ _ _ _ _ _ _ _ _ _
   | exact impl_unfilterRow.mono _ _ _ _ _
   | exact LeO.none _
   | refine LeO.ite ?_ ?_
   | refine LeO.bind ?_ (fun _ => ?_)
theorem impl_unfilterImage.mono : ∀ a0 a1 a2 a3 k, LeO (impl_unfilterImage.f k a0 a1 a2 a3) (impl_unfilterImage.f (k + 1) a0 a1 a2 a3) := by
 intro a0 a1 a2 a3 k
 obtain ⟨ih0, ih1⟩ := impl_unfilterImage.mono_l k
 unfold impl_unfilterImage.f
 repeat' first
   | (with_reducible exact ih0 _ _ _ _ _)
   | (with_reducible exact ih1 _ _ _ _ _ _ _ _ _ _)
   | (with_reducible exact impl_unfilterRow.mono _ _ _ _ _)
   | (with_reducible exact LeO.refl _)
   | (with_reducible exact LeO.none _)
   | (with_reducible refine LeO.ite ?_ ?_)
   | (with_reducible refine LeO.bind ?_ (fun _ => ?_))
   | exact ih0 _ _ _ _ _
   | exact ih1 _ _ _ _ _ _ _ _ _ _
   | exact impl_unfilterRow.mono _ _ _ _ _
   | exact LeO.none _
   | refine LeO.ite ?_ ?_
   | refine LeO.bind ?_ (fun _ => ?_)
def impl_unfilterImage.T12 : Bool × List (List Nat × List Nat) := (true, [([], []), ([0], [0]), ([1], [1]), ([], []), ([3], [3]), ([], []), ([], []), ([2, 4, 5, 6], [2, 4, 5, 6]), ([7, 7, 0, 1, 2, 3, 4, 5, 6, 7], [5, 7])])
def impl_unfilterImage.B12 : List Nat := [0, 1, 3, 0, 8, 0, 0, 127, 255]
theorem impl_unfilterImage.tab12 : rtab .any (opsOf Try.f45 12) = impl_unfilterImage.T12 := by kernel_rfl
theorem impl_unfilterImage.bits12 : waitsOk impl_unfilterImage.T12.2 impl_unfilterImage.B12 = true := by kernel_rfl
set_option maxHeartbeats 8000000 in
set_option maxRecDepth 100000 in
theorem impl_unfilterImage.calls (k : Nat) (a0 : Int) (a1 : Int) (a2 : Int) (A3 : Option Addr) (c3 : Nat) (l3 : List Int) (r1 : Int) (r2 : Int) (r3 : Int) (r4 : List Int) (r5 : Bool) (w : World) (hr3 : Kd.C (Kd.int .i64) w A3 l3.length l3) (hc3 : l3.length ≤ c3) (h : impl_unfilterImage.f k a0 a1 a2 l3 = some (r1, r2, r3, r4, r5)) :
  Calls Try.prog 45 #[.int .i64 a0, .int .i64 a1, .int .i64 a2, .slice A3 l3.length c3] w fun e w' => ∃ v3_ : Value, e = .returned (.tuple #[.agg #[.int .i64 r1, .int .i64 r2, .int .i64 r3, v3_], .bool r5]) ∧ Kd.R (Kd.int .i64) 3 w' w.heap.size (fun _ => True) v3_ r4 ∧ Below w.heap.size w w' := by
 have hu24 := Try.underlying24
 have HR3 := aM hr3
 have HC3 := aM hc3
 clear hr3 hc3
 have HB := aM (Below.refl w.heap.size w)
 have H : ((impl_isShape.f a0 a1 a2).bind fun t377 => (if t377 = true then ((impl_areBytes.f l3).bind fun t378 => (if t378 = true then (impl_unfilterImage.j0 k a0 a1 a2 l3 ((l3.length : Int) != (wrap64 (a1 * (wrap64 (1 + (wrap64 (a0 * a2)))))))) else (impl_unfilterImage.j0 k a0 a1 a2 l3 true))) else (impl_unfilterImage.j0 k a0 a1 a2 l3 true))) = some (r1, r2, r3, r4, r5) := h
 clear h
 have HC5 := aM H
 clear H
 go_enter Try.func45, Try.ntmps45
 go_upto_region 1 with (first | ((with_reducible refine gate_dst (N := 8) rfl ?_); (try (refine gate_guard (by rfl) ?_; dsimp only)); refine box_event ?hg (N := 8) ?hd (cs := #[.int .i64 0, .int .i64 0, .int .i64 0, .slice none 0 0]) (t := 24) ?hr ?_; (case hd => rfl); (case hg => rfl); (case hr => first | (go_simp; done) | (go_simp; rfl)); intro gb376 hg w6 hbox hb; have BK376 := aM (hbox); have GW376 := aM ((by rw [hg]; exact (below_size (qW HB.out)) : w.heap.size ≤ gb376)); have GE376 := aM ((by rw [hg]; exact (below_size (qW HB.out)) : w.heap.size ≤ gb376)); replace HB := aM (below_step (qW HB.out) hb); clear hb hbox hg))
 (try simp only [Act.put, List.setIfInBounds_toArray, List.set_cons_zero, List.set_cons_succ])
 go_cut [35] (fun v35 wc => ∃ (kq : Nat) (x35_4 : Bool), v35 = .bool x35_4 ∧ Aside0 (impl_unfilterImage.j0 kq a0 a1 a2 l3 x35_4 = some (r1, r2, r3, r4, r5)) ∧ Aside0 (kq ≤ k) ∧ Aside0 (wc.heap[gb376]? = some (.cells #[.int .i64 0, .int .i64 0, .int .i64 0, (.slice none 0 0)] 24 (0, 0))) ∧ Aside0 (Below w.heap.size w wc))
 case first =>
  have H := HC5.out
  clear HC5
  replace H := Option.bind_eq_some_iff.mp H
  obtain ⟨t377, A70, H⟩ := H
  replace H : (if t377 = true then ((impl_areBytes.f l3).bind fun t378 => (if t378 = true then (impl_unfilterImage.j0 k a0 a1 a2 l3 ((l3.length : Int) != (wrap64 (a1 * (wrap64 (1 + (wrap64 (a0 * a2)))))))) else (impl_unfilterImage.j0 k a0 a1 a2 l3 true))) else (impl_unfilterImage.j0 k a0 a1 a2 l3 true)) = some (r1, r2, r3, r4, r5) := H
  have A7 := aM A70
  clear A70
  by_cases c8 : t377 = true
  rotate_left
  ·
   replace c8 := Bool.eq_false_iff.mpr c8
   subst c8
   have H1 : (impl_unfilterImage.j0 k a0 a1 a2 l3 true) = some (r1, r2, r3, r4, r5) := by rw [if_neg (show ¬ (false = true) by decide)] at H; exact H
   clear H
   have H := H1
   clear H1
   have H' := aM H
   clear H
   go_wp2_with (first | ((with_reducible refine gate_callee (f := 67) rfl ?_); refine goesL_ (some 18) rfl rfl Try.func67 (by kernel_rfl) rfl #[.int .i64 a0, .int .i64 a1, .int .i64 a2] rfl qM ?_; (with_reducible refine (impl_isShape.calls a0 a1 a2 false _ A7.out).mono ?_); rintro e w' ⟨rfl, ⟨nd, rfl⟩⟩; refine ⟨_, rfl, ?_⟩))
   go_meet
   case rel => exact ⟨_, (true), qE, H', ⟨by first | omega | exact Nat.le_refl _⟩, ⟨by refine qB ?_; exact BK376.out⟩, ⟨by exact qW HB.out⟩⟩
  subst c8
  have H1 : ((impl_areBytes.f l3).bind fun t378 => (if t378 = true then (impl_unfilterImage.j0 k a0 a1 a2 l3 ((l3.length : Int) != (wrap64 (a1 * (wrap64 (1 + (wrap64 (a0 * a2)))))))) else (impl_unfilterImage.j0 k a0 a1 a2 l3 true))) = some (r1, r2, r3, r4, r5) := by rw [if_pos rfl] at H; exact H
  clear H
  have H := H1
  clear H1
  replace H := Option.bind_eq_some_iff.mp H
  obtain ⟨t378, A90, H⟩ := H
  replace H : (if t378 = true then (impl_unfilterImage.j0 k a0 a1 a2 l3 ((l3.length : Int) != (wrap64 (a1 * (wrap64 (1 + (wrap64 (a0 * a2)))))))) else (impl_unfilterImage.j0 k a0 a1 a2 l3 true)) = some (r1, r2, r3, r4, r5) := H
  have A9 := aM A90
  clear A90
  by_cases c10 : t378 = true
  rotate_left
  ·
   replace c10 := Bool.eq_false_iff.mpr c10
   subst c10
   have H1 : (impl_unfilterImage.j0 k a0 a1 a2 l3 true) = some (r1, r2, r3, r4, r5) := by rw [if_neg (show ¬ (false = true) by decide)] at H; exact H
   clear H
   have H := H1
   clear H1
   have H' := aM H
   clear H
   go_wp2_with (first | ((with_reducible refine gate_callee (f := 67) rfl ?_); refine goesL_ (some 18) rfl rfl Try.func67 (by kernel_rfl) rfl #[.int .i64 a0, .int .i64 a1, .int .i64 a2] rfl qM ?_; (with_reducible refine (impl_isShape.calls a0 a1 a2 true _ A7.out).mono ?_); rintro e w' ⟨rfl, ⟨nd, rfl⟩⟩; refine ⟨_, rfl, ?_⟩) | (go_at_call 66; (with_reducible refine (impl_areBytes.calls _ _ l3 false _ ?side1 ?side2 A9.out).mono ?_); (case side1 => exact qC (Kd.C_below HR3.out (qW HB.out))); (case side2 => exact HC3.out); rintro e w' ⟨rfl, ⟨nd, rfl⟩⟩))
   go_meet
   case rel => exact ⟨_, (true), qE, H', ⟨by first | omega | exact Nat.le_refl _⟩, ⟨by refine qB ?_; exact BK376.out⟩, ⟨by exact qW HB.out⟩⟩
  subst c10
  have H1 : (impl_unfilterImage.j0 k a0 a1 a2 l3 ((l3.length : Int) != (wrap64 (a1 * (wrap64 (1 + (wrap64 (a0 * a2)))))))) = some (r1, r2, r3, r4, r5) := by rw [if_pos rfl] at H; exact H
  clear H
  have H := H1
  clear H1
  have H' := aM H
  clear H
  go_wp2_with (first | ((with_reducible refine gate_callee (f := 67) rfl ?_); refine goesL_ (some 18) rfl rfl Try.func67 (by kernel_rfl) rfl #[.int .i64 a0, .int .i64 a1, .int .i64 a2] rfl qM ?_; (with_reducible refine (impl_isShape.calls a0 a1 a2 true _ A7.out).mono ?_); rintro e w' ⟨rfl, ⟨nd, rfl⟩⟩; refine ⟨_, rfl, ?_⟩) | (go_at_call 66; (with_reducible refine (impl_areBytes.calls _ _ l3 true _ ?side1 ?side2 A9.out).mono ?_); (case side1 => exact qC (Kd.C_below HR3.out (qW HB.out))); (case side2 => exact HC3.out); rintro e w' ⟨rfl, ⟨nd, rfl⟩⟩))
  go_meet
  case rel => exact ⟨_, (((l3.length : Int) != (wrap64 (a1 * (wrap64 (1 + (wrap64 (a0 * a2)))))))), qE, H', ⟨by first | omega | exact Nat.le_refl _⟩, ⟨by refine qB ?_; exact BK376.out⟩, ⟨by exact qW HB.out⟩⟩
 case rest =>
  clear HC5
  try clear c1
  try clear p2
  try clear c3
  try clear c4
  try clear c6
  try clear p6
  try clear c8
  try clear c10
  obtain ⟨kq, x35_4, rfl, HA, HJ4, BK376, HB⟩ := hcut
  cases kq with
  | zero => exact absurd HA.out (by simp [impl_unfilterImage.j0])
  | succ kj4 =>
   have H := HA.out
   clear HA
   simp only [impl_unfilterImage.j0] at H
   by_cases c11 : x35_4 = true
   ·
    subst c11
    have H1 : (some (0, 0, 0, ([] : List Int), false)) = some (r1, r2, r3, r4, r5) := by rw [if_pos rfl] at H; exact H
    clear H
    have H := H1
    clear H1
    simp only [Option.some.injEq, Prod.mk.injEq] at H
    obtain ⟨rfl, rfl, rfl, rfl, rfl⟩ := H
    obtain ⟨hcz12_0, hcz12_1, hcz12_2, hcz12_3⟩ := cz4 BK376.out
    obtain ⟨hfz12_0, hfz12_1, hfz12_2, hfz12_3⟩ := fz4 BK376.out
    go_wp2
    refine bodyPost_ret (results_ct rfl _ _ gb376 24 #[.int .i64 0, .int .i64 0, .int .i64 0, .slice none 0 0] (0, 0) _ rfl (by refine qB ?_; refine blk_put (cs := #[.int .i64 0, .int .i64 0, .int .i64 0, .slice none 0 0]) ?_ 3 _ rfl; refine qB ?_; refine blk_put (cs := #[.int .i64 0, .int .i64 0, .int .i64 0, .slice none 0 0]) ?_ 2 _ rfl; refine qB ?_; refine blk_put (cs := #[.int .i64 0, .int .i64 0, .int .i64 0, .slice none 0 0]) ?_ 1 _ rfl; refine qB ?_; refine blk_put (cs := #[.int .i64 0, .int .i64 0, .int .i64 0, .slice none 0 0]) ?_ 0 _ rfl; refine qB ?_; exact BK376.out) Try.underlying24 rfl (by kernel_rfl)) rfl ?_
    exact ⟨_, qX, qN, by exact qW HB.out⟩
   replace c11 := Bool.eq_false_iff.mpr c11
   subst c11
   have H1 : (if 0 ≤ (wrap64 (a0 * a2)) then (if (wrap64 (a0 * a2) : Int).toNat ≤ 35184372088832 then (impl_unfilterImage.l0 kj4 a2 l3 (wrap64 (a0 * a2)) (List.replicate (wrap64 (a0 * a2) : Int).toNat 0) a1 0 a0 a1 a2 ([] : List Int)) else (none)) else (none)) = some (r1, r2, r3, r4, r5) := by rw [if_neg (show ¬ (false = true) by decide)] at H; exact H
   clear H
   have H := H1
   clear H1
   obtain ⟨ji13, hji13⟩ : ∃ j_ : Int, (wrap64 (a0 * a2)) = j_ := ⟨_, rfl⟩
   replace H : (if 0 ≤ (ji13) then (if (ji13 : Int).toNat ≤ 35184372088832 then (impl_unfilterImage.l0 kj4 a2 l3 ji13 (List.replicate (ji13 : Int).toNat 0) a1 0 a0 a1 a2 ([] : List Int)) else (none)) else (none)) = some (r1, r2, r3, r4, r5) := by first | (rw [hji13] at H; exact H) | (simp only [hji13] at H ⊢; exact H)
   have hji13w : (IntKind.i64.wrap (a0 * a2)) = ji13 := (i64_w _).trans hji13
   by_cases c14 : 0 ≤ (ji13)
   rotate_left
   ·
    rw [if_neg c14] at H
    exact absurd H (by simp)
   rw [if_pos c14] at H
   have c14b0 := eq_true c14
   have c14b1 : decide (0 ≤ (ji13)) = true := decide_eq_true c14
   clear c14
   by_cases c15 : (ji13 : Int).toNat ≤ 35184372088832
   rotate_left
   ·
    rw [if_neg c15] at H
    exact absurd H (by simp)
   rw [if_pos c15] at H
   have c15b0 := eq_true c15
   have c15b1 : decide ((ji13 : Int).toNat ≤ 35184372088832) = true := decide_eq_true c15
   clear c15
   obtain ⟨y380, hy380⟩ : ∃ y_ : List Int, y_ = (List.replicate (ji13 : Int).toNat 0) := ⟨_, rfl⟩
   replace H : (impl_unfilterImage.l0 kj4 a2 l3 ji13 y380 a1 0 a0 a1 a2 ([] : List Int)) = some (r1, r2, r3, r4, r5) := rY hy380 H
   have Ny380 := aM hy380
   clear hy380
   have H' := aM H
   clear H
   go_wp2_with (first | ((with_reducible refine gate_dst (N := 10) rfl ?_); (try (refine gate_guard (by rfl) ?_; dsimp only)); refine box_event ?hg (N := 10) ?hd (cs := #[.int .i64 0, .int .i64 0, .int .i64 0, .slice none 0 0]) (t := 24) ?hr ?_; (case hd => rfl); (case hg => rfl); (case hr => first | (go_simp; done) | (go_simp; rfl)); intro gb379 hg w16 hbox hb; have BK379 := aM (hbox); have GW379 := aM ((by rw [hg]; exact (below_size (qW HB.out)) : w.heap.size ≤ gb379)); have GE379 := aM ((by rw [hg]; exact (below_size (qW HB.out)) : w.heap.size ≤ gb379)); replace HB := aM (below_step (qW HB.out) hb); have NB376_379 := aM ((by rw [hg]; exact Nat.ne_of_lt (blk_lt (g := gb376) (o := .cells #[.int .i64 0, .int .i64 0, .int .i64 0, .slice none 0 0] 24 (0, 0)) (qB BK376.out)) : gb376 ≠ gb379)); have NB379_376 := aM ((by rw [hg]; exact Nat.ne_of_gt (blk_lt (g := gb376) (o := .cells #[.int .i64 0, .int .i64 0, .int .i64 0, .slice none 0 0] 24 (0, 0)) (qB BK376.out)) : gb379 ≠ gb376)); replace BK376 := bB BK376 hb; clear hb hbox hg; have hnb17 := NB379_376.out; have hnc17 := NB376_379.out; obtain ⟨hcz18_0, hcz18_1, hcz18_2, hcz18_3⟩ := cz4 BK379.out; obtain ⟨hfz18_0, hfz18_1, hfz18_2, hfz18_3⟩ := fz4 BK379.out) | ((with_reducible refine gate_dst (N := 45) rfl ?_); (try (refine gate_guard (by rfl) ?_; dsimp only)); refine Kd.R_make (Kd.int .i64) _ 3 rfl (N := 45) rfl 22 _ _ rfl ji13 rfl rfl Try.underlying22 (.int .i64 0) 8 info3 rfl (by decide) (by omega) 0 (ok := fun _ => True) (okp := fun _ => True) rfl (fun _ hk => hk) trivial oD (Nat.le_trans (Nat.mul_le_mul_right _ (oD : ji13.toNat ≤ 35184372088832)) (by omega)) (Below.refl _ _) (Nat.le_refl _) ?_; intro v381 w19 ho20 hb hg_ hnew_; clear hg_ hnew_; (first | rw [← Ny380.out] at ho20 | (simp only [Int.reduceToNat] at ho20; rw [← Ny380.out] at ho20)); have HO382 := aM (Kd.R_lower ho20 (below_size (qW HB.out))); replace BK376 := aM (blk_below (g := gb376) (o := .cells #[.int .i64 0, .int .i64 0, .int .i64 0, .slice none 0 0] 24 (0, 0)) (by refine qB ?_; refine blk_far ?_ NB376_379.out _; refine qB ?_; refine blk_far ?_ NB376_379.out _; refine qB ?_; refine blk_far ?_ NB376_379.out _; refine qB ?_; refine blk_far ?_ NB376_379.out _; refine qB ?_; exact BK376.out) hb); replace BK379 := aM (blk_below (g := gb379) (o := .cells #[.int .i64 a0, .int .i64 a1, .int .i64 a2, .slice none 0 0] 24 (0, 0)) (by refine qB ?_; refine blk_put (cs := #[.int .i64 a0, .int .i64 a1, .int .i64 a2, .slice none 0 0]) ?_ 3 _ rfl; refine qB ?_; refine blk_put (cs := #[.int .i64 a0, .int .i64 a1, .int .i64 0, .slice none 0 0]) ?_ 2 _ rfl; refine qB ?_; refine blk_put (cs := #[.int .i64 a0, .int .i64 0, .int .i64 0, .slice none 0 0]) ?_ 1 _ rfl; refine qB ?_; refine blk_put (cs := #[.int .i64 0, .int .i64 0, .int .i64 0, .slice none 0 0]) ?_ 0 _ rfl; refine qB ?_; exact BK379.out) hb); replace HB := aM (below_step (qW HB.out) hb); clear hb ho20))
   go_loopg [12, 47] kj4 (fun kq v12 v47 w' => ∃ (x12_2 : List Int) (x47_2 : Int) (x377000_2 : Int) (x377001_2 : Int) (x377002_2 : Int) (x380003_2 : List Int) (u380003 : Value), v47 = .int .i64 x47_2 ∧ Aside0 (impl_unfilterImage.l0 kq a2 l3 ji13 x12_2 a1 x47_2 a0 a1 a2 x380003_2 = some (r1, r2, r3, r4, r5)) ∧ Aside0 (kq ≤ kj4) ∧ Aside0 (Kd.R (Kd.int .i64) 3 w' w.heap.size (fun k_ => some k_ ≠ (u380003 : Value).ownBlock) v12 x12_2) ∧ Aside0 (Kd.R (Kd.int .i64) 3 w' w.heap.size (fun k_ => some k_ ≠ (v12 : Value).ownBlock) u380003 x380003_2) ∧ Aside0 (w'.heap[gb376]? = some (.cells #[.int .i64 x377000_2, .int .i64 x377001_2, .int .i64 x377002_2, (.slice none 0 0)] 24 (0, 0))) ∧ Aside0 (w'.heap[gb379]? = some (.cells #[.int .i64 a0, .int .i64 a1, .int .i64 a2, u380003] 24 (0, 0))) ∧ Aside0 (Below w.heap.size w w'))
   case atStart => exact ⟨(y380), (0), (0), (0), (0), (([] : List Int)), (.slice none 0 0), qE, H', ⟨Nat.le_refl _⟩, ⟨by refine qR ?_; exact Kd.R_mono HO382.out (fun _ hk => (by simp [Value.ownBlock]))⟩, ⟨qN⟩, ⟨by refine qB ?_; exact BK376.out⟩, ⟨by refine qB ?_; exact BK379.out⟩, ⟨by exact qW HB.out⟩⟩
   case round =>
    clear H'
    try clear c1
    try clear p2
    try clear c3
    try clear c4
    try clear c6
    try clear p6
    try clear c8
    try clear c10
    try clear c11
    try clear c14
    try clear c14b0
    try clear c14b1
    try clear c15
    try clear c15b0
    try clear c15b1
    try clear c17
    try clear hcz12_0 hcz12_1 hcz12_2 hcz12_3 hfz12_0 hfz12_1 hfz12_2 hfz12_3
    try clear hcz18_0 hcz18_1 hcz18_2 hcz18_3 hfz18_0 hfz18_1 hfz18_2 hfz18_3
    try clear p2
    try clear p6
    obtain ⟨x12_2, x47_2, x377000_2, x377001_2, x377002_2, x380003_2, u380003, rfl, HA, HK2, HO_12, HO_380003, BK376, BK379, HB⟩ := hrel
    cases gk with
    | zero => exact absurd HA.out (by simp [impl_unfilterImage.l0])
    | succ k2 =>
     have H := HA.out
     clear HA
     simp only [impl_unfilterImage.l0] at H
     by_cases c21 : x47_2 < a1
     rotate_left
     ·
      rw [if_neg c21] at H
      have c21b0 : decide (x47_2 < a1) = false := decide_eq_false c21
      clear c21
      simp only [Option.some.injEq, Prod.mk.injEq] at H
      obtain ⟨rfl, rfl, rfl, rfl, rfl⟩ := H
      have hnb45 := NB379_376.out
      have hnc45 := NB376_379.out
      obtain ⟨hcz46_0, hcz46_1, hcz46_2, hcz46_3⟩ := cz4 BK379.out
      obtain ⟨hfz46_0, hfz46_1, hfz46_2, hfz46_3⟩ := fz4 BK379.out
      obtain ⟨hcz47_0, hcz47_1, hcz47_2, hcz47_3⟩ := cz4 BK376.out
      obtain ⟨hfz47_0, hfz47_1, hfz47_2, hfz47_3⟩ := fz4 BK376.out
      obtain ⟨Ao48, co48, eo48⟩ := Kd.R_slice HO_380003.out
      subst eo48
      go_wp2
      refine bodyPost_ret (results_ct rfl _ _ gb376 24 #[.int .i64 a0, .int .i64 a1, .int .i64 a2, .slice Ao48 x380003_2.length co48] (0, 0) _ rfl (by refine qB ?_; refine blk_put (cs := #[.int .i64 a0, .int .i64 a1, .int .i64 a2, .slice none 0 0]) ?_ 3 _ rfl; refine qB ?_; refine blk_put (cs := #[.int .i64 a0, .int .i64 a1, .int .i64 x377002_2, .slice none 0 0]) ?_ 2 _ rfl; refine qB ?_; refine blk_put (cs := #[.int .i64 a0, .int .i64 x377001_2, .int .i64 x377002_2, .slice none 0 0]) ?_ 1 _ rfl; refine qB ?_; refine blk_put (cs := #[.int .i64 x377000_2, .int .i64 x377001_2, .int .i64 x377002_2, .slice none 0 0]) ?_ 0 _ rfl; refine qB ?_; exact BK376.out) Try.underlying24 rfl (by kernel_rfl)) rfl ?_
      exact ⟨_, by first | rfl | (simp [errW_none, errW_some] <;> rfl) | (simp only [← hji13]; first | rfl | (simp [errW_none, errW_some] <;> rfl)) | (simp [*, errW_none, errW_some] <;> rfl), by refine qR ?_; exact Kd.R_mono (Kd.R_far (p := ⟨gb376, 3, none⟩) (Kd.R_far (p := ⟨gb376, 2, none⟩) (Kd.R_far (p := ⟨gb376, 1, none⟩) (Kd.R_far (p := ⟨gb376, 0, none⟩) (Kd.R_types HO_380003.out BK376.out (by decide)) (fun _ hk => hk.2) (.int .i64 a0)) (fun _ hk => hk.2) (.int .i64 a1)) (fun _ hk => hk.2) (.int .i64 a2)) (fun _ hk => hk.2) (.slice Ao48 x380003_2.length co48)) (fun _ hk => trivial), by exact qW HB.out⟩
     rw [if_pos c21] at H
     have c21b0 : decide (x47_2 < a1) = true := decide_eq_true c21
     clear c21
     obtain ⟨ji22, hji22⟩ : ∃ j_ : Int, (wrap64 (x47_2 * (wrap64 (1 + ji13)))) = j_ := ⟨_, rfl⟩
     replace H : (if 0 ≤ (ji22) then (if (ji22) ≤ (wrap64 ((wrap64 (x47_2 + 1)) * (wrap64 (1 + ji13)))) then (if (wrap64 ((wrap64 (x47_2 + 1)) * (wrap64 (1 + ji13)))) ≤ (l3.length : Int) then (if 0 < (((l3.take ((wrap64 ((wrap64 (x47_2 + 1)) * (wrap64 (1 + ji13)))) : Int).toNat).drop ((ji22) : Int).toNat).length : Int) then (if (rd ((l3.take ((wrap64 ((wrap64 (x47_2 + 1)) * (wrap64 (1 + ji13)))) : Int).toNat).drop ((ji22) : Int).toNat) 0) > 4 then (some (0, 0, 0, ([] : List Int), false)) else (if 1 ≤ (((l3.take ((wrap64 ((wrap64 (x47_2 + 1)) * (wrap64 (1 + ji13)))) : Int).toNat).drop ((ji22) : Int).toNat).length : Int) then ((impl_unfilterRow.f k2 (rd ((l3.take ((wrap64 ((wrap64 (x47_2 + 1)) * (wrap64 (1 + ji13)))) : Int).toNat).drop ((ji22) : Int).toNat) 0) (((l3.take ((wrap64 ((wrap64 (x47_2 + 1)) * (wrap64 (1 + ji13)))) : Int).toNat).drop ((ji22) : Int).toNat).drop 1) x12_2 a2).bind fun t387 => (if x380003_2.length + t387.length < 17592186044416 then (impl_unfilterImage.l0 k2 a2 l3 ji13 t387 a1 (wrap64 (x47_2 + 1)) a0 a1 a2 (x380003_2 ++ t387)) else (none))) else (none))) else (none)) else (none)) else (none)) else (none)) = some (r1, r2, r3, r4, r5) := by first | (rw [hji22] at H; exact H) | (simp only [hji22] at H ⊢; exact H)
     have hji22w : (IntKind.i64.wrap (x47_2 * (wrap64 (1 + ji13)))) = ji22 := (i64_w _).trans hji22
     by_cases c23 : 0 ≤ (ji22)
     rotate_left
     ·
      rw [if_neg c23] at H
      exact absurd H (by simp)
     rw [if_pos c23] at H
     have c23b0 := eq_true c23
     have c23b1 : decide (0 ≤ (ji22)) = true := decide_eq_true c23
     clear c23
     by_cases c24 : (ji22) ≤ (wrap64 ((wrap64 (x47_2 + 1)) * (wrap64 (1 + ji13))))
     rotate_left
     ·
      rw [if_neg c24] at H
      exact absurd H (by simp)
     rw [if_pos c24] at H
     have c24b0 := eq_true c24
     have c24b1 : decide ((ji22) ≤ (wrap64 ((wrap64 (x47_2 + 1)) * (wrap64 (1 + ji13))))) = true := decide_eq_true c24
     by_cases c25 : (wrap64 ((wrap64 (x47_2 + 1)) * (wrap64 (1 + ji13)))) ≤ (l3.length : Int)
     rotate_left
     ·
      rw [if_neg c25] at H
      exact absurd H (by simp)
     rw [if_pos c25] at H
     have c25b0 := eq_true c25
     have c25b1 : decide ((wrap64 ((wrap64 (x47_2 + 1)) * (wrap64 (1 + ji13)))) ≤ (l3.length : Int)) = true := decide_eq_true c25
     by_cases c26 : 0 < (((l3.take ((wrap64 ((wrap64 (x47_2 + 1)) * (wrap64 (1 + ji13)))) : Int).toNat).drop ((ji22) : Int).toNat).length : Int)
     rotate_left
     ·
      rw [if_neg c26] at H
      exact absurd H (by simp)
     rw [if_pos c26] at H
     have c26b0 : decide (0 < (((l3.take ((wrap64 ((wrap64 (x47_2 + 1)) * (wrap64 (1 + ji13)))) : Int).toNat).drop ((ji22) : Int).toNat).length : Int)) = true := decide_eq_true c26
     have c26b1 : decide (0 < ((l3.take ((wrap64 ((wrap64 (x47_2 + 1)) * (wrap64 (1 + ji13)))) : Int).toNat).drop ((ji22) : Int).toNat).length) = true := decide_eq_true (by omega)
     clear c26
     by_cases c27 : (rd ((l3.take ((wrap64 ((wrap64 (x47_2 + 1)) * (wrap64 (1 + ji13)))) : Int).toNat).drop ((ji22) : Int).toNat) 0) > 4
     ·
      rw [if_pos c27] at H
      have c27b0 : decide (4 < (rd ((l3.take ((wrap64 ((wrap64 (x47_2 + 1)) * (wrap64 (1 + ji13)))) : Int).toNat).drop ((ji22) : Int).toNat) 0)) = true := decide_eq_true c27
      clear c27
      simp only [Option.some.injEq, Prod.mk.injEq] at H
      obtain ⟨rfl, rfl, rfl, rfl, rfl⟩ := H
      obtain ⟨i028, hi028, _, hsz28, _⟩ := info_parts info3
      obtain ⟨A28, hcut28, hA28, hC28⟩ := print_mid_of (P := Try.prog) (Value.int .i64) 0 22 3 .i64 .i64 Try.underlying22 hi028 hsz28 A3 c3 l3 (ji22) (wrap64 ((wrap64 (x47_2 + 1)) * (wrap64 (1 + ji13)))) oD (by first | omega | exact oD) oD HC3.out
      have HR383 := aM (Kd.C_of_reads (h1 := fun _ => rfl) (hA28 _ (Kd.reads_of_C HR3.out)))
      have HC383 := aM hC28
      clear hA28 hC28 hi028 hsz28
      have p384 : 0 ≤ (0 : Int) := (by omega)
      have q384 : 0 < (((l3.take ((wrap64 ((wrap64 (x47_2 + 1)) * (wrap64 (1 + ji13)))) : Int).toNat).drop ((ji22) : Int).toNat).length : Int) := oD
      obtain ⟨ad384, e384, hx384_0⟩ := Kd.at_int HR383.out 0 p384 q384
      cases e384
      have qi384 : (0 < ((l3.take ((wrap64 ((wrap64 (x47_2 + 1)) * (wrap64 (1 + ji13)))) : Int).toNat).drop ((ji22) : Int).toNat).length) = True := eq_true (by omega)
      have qj384 : (0 < ((wrap64 ((wrap64 (x47_2 + 1)) * (wrap64 (1 + ji13)))) : Int).toNat - ((ji22) : Int).toNat) = True := eq_true (by have h_ := of_eq_true qi384; rw [List.length_drop, List.length_take] at h_; omega)
      (try rw [show ((0 : Int)).toNat = 0 from rfl] at hx384_0)
      (try rw [Addr.add_zero'] at hx384_0)
      replace hx384_0 := bD HB hx384_0
      replace p384 := eq_true p384
      replace q384 := eq_true q384
      have hnb29 := NB376_379.out
      have hnc29 := NB379_376.out
      obtain ⟨hcz30_0, hcz30_1, hcz30_2, hcz30_3⟩ := cz4 BK376.out
      obtain ⟨hfz30_0, hfz30_1, hfz30_2, hfz30_3⟩ := fz4 BK376.out
      go_wp2
      refine bodyPost_ret (results_ct rfl _ _ gb376 24 #[.int .i64 0, .int .i64 0, .int .i64 0, .slice none 0 0] (0, 0) _ rfl (by refine qB ?_; refine blk_put (cs := #[.int .i64 0, .int .i64 0, .int .i64 0, .slice none 0 0]) ?_ 3 _ rfl; refine qB ?_; refine blk_put (cs := #[.int .i64 0, .int .i64 0, .int .i64 x377002_2, .slice none 0 0]) ?_ 2 _ rfl; refine qB ?_; refine blk_put (cs := #[.int .i64 0, .int .i64 x377001_2, .int .i64 x377002_2, .slice none 0 0]) ?_ 1 _ rfl; refine qB ?_; refine blk_put (cs := #[.int .i64 x377000_2, .int .i64 x377001_2, .int .i64 x377002_2, .slice none 0 0]) ?_ 0 _ rfl; refine qB ?_; exact BK376.out) Try.underlying24 rfl (by kernel_rfl)) rfl ?_
      exact ⟨_, by first | rfl | (simp [errW_none, errW_some] <;> rfl) | (simp only [← hji13, ← hji22]; first | rfl | (simp [errW_none, errW_some] <;> rfl)) | (simp [*, errW_none, errW_some] <;> rfl), qN, by exact qW HB.out⟩
     rw [if_neg c27] at H
     have c27b0 : decide (4 < (rd ((l3.take ((wrap64 ((wrap64 (x47_2 + 1)) * (wrap64 (1 + ji13)))) : Int).toNat).drop ((ji22) : Int).toNat) 0)) = false := decide_eq_false c27
     clear c27
     by_cases c31 : 1 ≤ (((l3.take ((wrap64 ((wrap64 (x47_2 + 1)) * (wrap64 (1 + ji13)))) : Int).toNat).drop ((ji22) : Int).toNat).length : Int)
     rotate_left
     ·
      rw [if_neg c31] at H
      exact absurd H (by simp)
     rw [if_pos c31] at H
     have c31b0 := eq_true c31
     have c31b1 : decide (1 ≤ (((l3.take ((wrap64 ((wrap64 (x47_2 + 1)) * (wrap64 (1 + ji13)))) : Int).toNat).drop ((ji22) : Int).toNat).length : Int)) = true := decide_eq_true c31
     replace H := Option.bind_eq_some_iff.mp H
     obtain ⟨t387, A320, H⟩ := H
     replace H : (if x380003_2.length + t387.length < 17592186044416 then (impl_unfilterImage.l0 k2 a2 l3 ji13 t387 a1 (wrap64 (x47_2 + 1)) a0 a1 a2 (x380003_2 ++ t387)) else (none)) = some (r1, r2, r3, r4, r5) := H
     have A32 := aM A320
     clear A320
     by_cases c33 : x380003_2.length + t387.length < 17592186044416
     rotate_left
     ·
      rw [if_neg c33] at H
      exact absurd H (by simp)
     rw [if_pos c33] at H
     have LMc33 := aM c33
     clear c33
     obtain ⟨y390, hy390⟩ : ∃ y_ : List Int, y_ = (x380003_2 ++ t387) := ⟨_, rfl⟩
     replace H : (impl_unfilterImage.l0 k2 a2 l3 ji13 t387 a1 (wrap64 (x47_2 + 1)) a0 a1 a2 y390) = some (r1, r2, r3, r4, r5) := rY hy390 H
     have Ny390 := aM hy390
     clear hy390
     have H' := aM H
     clear H
     obtain ⟨i034, hi034, _, hsz34, _⟩ := info_parts info3
     obtain ⟨A34, hcut34, hA34, hC34⟩ := print_mid_of (P := Try.prog) (Value.int .i64) 0 22 3 .i64 .i64 Try.underlying22 hi034 hsz34 A3 c3 l3 (ji22) (wrap64 ((wrap64 (x47_2 + 1)) * (wrap64 (1 + ji13)))) oD (by first | omega | exact oD) oD HC3.out
     have HR383 := aM (Kd.C_of_reads (h1 := fun _ => rfl) (hA34 _ (Kd.reads_of_C HR3.out)))
     have HC383 := aM hC34
     clear hA34 hC34 hi034 hsz34
     have p384 : 0 ≤ (0 : Int) := (by omega)
     have q384 : 0 < (((l3.take ((wrap64 ((wrap64 (x47_2 + 1)) * (wrap64 (1 + ji13)))) : Int).toNat).drop ((ji22) : Int).toNat).length : Int) := oD
     obtain ⟨ad384, e384, hx384_0⟩ := Kd.at_int HR383.out 0 p384 q384
     cases e384
     have qi384 : (0 < ((l3.take ((wrap64 ((wrap64 (x47_2 + 1)) * (wrap64 (1 + ji13)))) : Int).toNat).drop ((ji22) : Int).toNat).length) = True := eq_true (by omega)
     have qj384 : (0 < ((wrap64 ((wrap64 (x47_2 + 1)) * (wrap64 (1 + ji13)))) : Int).toNat - ((ji22) : Int).toNat) = True := eq_true (by have h_ := of_eq_true qi384; rw [List.length_drop, List.length_take] at h_; omega)
     (try rw [show ((0 : Int)).toNat = 0 from rfl] at hx384_0)
     (try rw [Addr.add_zero'] at hx384_0)
     replace hx384_0 := bD HB hx384_0
     replace p384 := eq_true p384
     replace q384 := eq_true q384
     try go_wp2
     replace HO_12 := aM (Kd.R_drew HO_12.out)
     replace HO_380003 := aM (Kd.R_drew HO_380003.out)
     replace BK376 := aM (blk_drew BK376.out)
     replace BK379 := aM (blk_drew BK379.out)
     replace HB := aM (below_drew1 HB.out)
     have p385 : 0 ≤ (0 : Int) := (by omega)
     have q385 : 0 < (((l3.take ((wrap64 ((wrap64 (x47_2 + 1)) * (wrap64 (1 + ji13)))) : Int).toNat).drop ((ji22) : Int).toNat).length : Int) := oD
     obtain ⟨ad385, e385, hx385_0⟩ := Kd.at_int HR383.out 0 p385 q385
     have hw385_0 := hx385_0
     (try rw [show ((0 : Int)).toNat = 0 from rfl] at hw385_0)
     (try rw [show 0 * 1 = 0 from rfl] at hw385_0)
     (try rw [Addr.add_zero'] at hw385_0)
     obtain rfl : ad384 = ad385 := (by injection e385)
     have qi385 : (0 < ((l3.take ((wrap64 ((wrap64 (x47_2 + 1)) * (wrap64 (1 + ji13)))) : Int).toNat).drop ((ji22) : Int).toNat).length) = True := eq_true (by omega)
     have qj385 : (0 < ((wrap64 ((wrap64 (x47_2 + 1)) * (wrap64 (1 + ji13)))) : Int).toNat - ((ji22) : Int).toNat) = True := eq_true (by have h_ := of_eq_true qi385; rw [List.length_drop, List.length_take] at h_; omega)
     (try rw [show ((0 : Int)).toNat = 0 from rfl] at hx385_0)
     (try rw [Addr.add_zero'] at hx385_0)
     replace hx385_0 := bD HB hx385_0
     replace p385 := eq_true p385
     replace q385 := eq_true q385
     obtain ⟨i036, hi036, _, hsz36, _⟩ := info_parts info3
     obtain ⟨A36, hcut36, hA36, hC36⟩ := print_drop_of (P := Try.prog) (Value.int .i64) 0 22 3 .i64 Try.underlying22 hi036 hsz36 (some ad384) (c3 - (ji22).toNat) ((l3.take ((wrap64 ((wrap64 (x47_2 + 1)) * (wrap64 (1 + ji13)))) : Int).toNat).drop ((ji22) : Int).toNat) 1 (by omega) oD HC383.out
     have hx36 : ((wrap64 ((wrap64 (x47_2 + 1)) * (wrap64 (1 + ji13)))) : Int).toNat ≤ l3.length := (by have h_ : ((wrap64 ((wrap64 (x47_2 + 1)) * (wrap64 (1 + ji13)))) : Int) ≤ (l3.length : Int) := oD; omega)
     have hcutb36 := hcut36
     simp only [List.length_drop, List.length_take, Nat.min_eq_left hx36, show (1 : Int).toNat = 1 from rfl] at hcutb36
     have HR386 := aM (Kd.C_of_reads (h1 := fun _ => rfl) (hA36 _ (Kd.reads_of_C HR383.out)))
     have HC386 := aM hC36
     clear hA36 hC36 hi036 hsz36
     obtain ⟨Ao37, co37, eo37⟩ := Kd.R_slice HO_12.out
     (first | subst eo37 | (injection eo37 with f1_ f2_ f3_; have f4_ := f1_.symm; have f5_ := f3_.symm; clear f1_ f2_ f3_; subst f4_; subst f5_))
     refine start_ (n := 9) (S := fun w' => w'.cell? ad384 = some (.int .i64 (rd ((l3.take ((wrap64 ((wrap64 (x47_2 + 1)) * (wrap64 (1 + ji13)))) : Int).toNat).drop ((ji22) : Int).toNat) 0))) (ds := []) (bA 9 0) (by kernel_rfl) rfl rfl ((bC HB hw385_0)) (fun hHeld => ?_); refine with_tabW impl_unfilterImage.tab12 impl_unfilterImage.bits12 (fun HT_ HW_ => ?_)
     generalize wr.drew = w35 at HO_12 HO_380003 BK376 BK379 HB HR386 hx385_0 hHeld ⊢
     refine pureQ (i := 0) (N := some 66) HT_ (bA 9 1) ?_
     refine pureQ (i := 1) (N := some 67) HT_ (bA 9 3) ?_
     refine pureQ (i := 3) (N := some 69) HT_ (bA 9 11) ?_
     refine pureQ (i := 4) (N := some 70) HT_ (bA 9 27) ?_
     refine pureQ (i := 5) (N := some 71) HT_ (bA 9 59) ?_
     refine pureQ (i := 6) (N := some 72) HT_ (bA 9 123) ?_
     refine take_ (i := 2) (N := some 68) (v := ?_) (a' := ?_) (bA 9 127) rfl rfl (take_ofW HT_.out HW_.out (by kernel_rfl)) (fun _ _ _ h => h) (Or.inl ⟨by rfl, ?_⟩) hHeld ?_ ?_
     rotate_left
     ·
      intro w' s0
      go_simp
      with_reducible rfl
     rotate_left
     ·
      simp only [Act.put, List.setIfInBounds_toArray, List.set_cons_zero, List.set_cons_succ, i64_w, i32_w]
      rfl
     refine one_ (i := 7) (N := some 73) (bA 9 255) rfl rfl (one_of HT_.out (by kernel_rfl)) (by decide) (fun K hK => ?_)
     refine goes_ Try.func68 (by kernel_rfl) rfl #[.int .i64 (rd ((l3.take ((wrap64 ((wrap64 (x47_2 + 1)) * (wrap64 (1 + ji13)))) : Int).toNat).drop ((ji22) : Int).toNat) 0), .slice A36 (((l3.take ((wrap64 ((wrap64 (x47_2 + 1)) * (wrap64 (1 + ji13)))) : Int).toNat).drop ((ji22) : Int).toNat).drop 1).length ((c3 - (ji22).toNat) - 1), .slice Ao37 x12_2.length co37, .int .i64 a2] (by rfl) rfl rfl (by (try simp only [List.map_toArray, List.map_cons, List.map_nil]); first | done | (rw [show (((l3.take ((wrap64 ((wrap64 (x47_2 + 1)) * (wrap64 (1 + ji13)))) : Int).toNat).drop ((ji22) : Int).toNat).drop 1).length = (((l3.take ((wrap64 ((wrap64 (x47_2 + 1)) * (wrap64 (1 + ji13)))) : Int).toNat).drop ((ji22) : Int).toNat).length - 1) from List.length_drop] <;> rfl) | (simp only [hji13, hji22]; rfl) | rfl | (simp only [List.length_drop, List.length_take]; rfl) | (simp only [List.length_drop, List.length_take, Nat.min_eq_left hx36]; rfl)) ?_
     with_reducible refine (impl_unfilterRow.calls k2 (rd ((l3.take ((wrap64 ((wrap64 (x47_2 + 1)) * (wrap64 (1 + ji13)))) : Int).toNat).drop ((ji22) : Int).toNat) 0) _ _ (((l3.take ((wrap64 ((wrap64 (x47_2 + 1)) * (wrap64 (1 + ji13)))) : Int).toNat).drop ((ji22) : Int).toNat).drop 1) _ _ x12_2 a2 t387 _ ?side1 ?side2 ?side3 ?side4 A32.out).mono ?_
     (case side1 => exact qC (Kd.C_below HR386.out HB.out))
     (case side2 => exact HC386.out)
     (case side3 => exact qC (Kd.R_reads' HO_12.out).2.2)
     (case side4 => exact (Kd.R_reads' HO_12.out).2.1)
     rintro e w38 ⟨v388, rfl, ho0, hb⟩
     refine ⟨_, rfl, ?_⟩
     have HO389 := aM (Kd.R_lower (Kd.R_new' (Kd.R_new' ho0 (Kd.R_lt (qR HO_12.out))) (Kd.R_lt (qR HO_380003.out))) (below_size (qW HB.out)))
     replace HO_12 := aM (Kd.R_elder' (qR HO_12.out) (Kd.R_base ho0) hb)
     replace HO_380003 := aM (Kd.R_elder' (qR HO_380003.out) (Kd.R_base ho0) hb)
     replace BK376 := bB BK376 hb
     replace BK379 := bB BK379 hb
     replace HB := aM (below_step (qW HB.out) hb)
     (try clear hb)
     (try clear hb2)
     (try clear hk)
     (try clear hi)
     (try clear ho0)
     refine hK.out _ _ ((bC HB hw385_0)) (fun hHeld => ?_)
     clear hK K
     refine norm_ (a' := ?_) ?_ ?_
     rotate_left
     ·
      show Act.put _ (some 73) _ = _
      simp only [Act.put, List.setIfInBounds_toArray, List.set_cons_zero, List.set_cons_succ, i64_w, i32_w]
      rfl
     refine pureQ (i := 8) (N := some 12) HT_ (bA 9 511) ?_
     refine done_ (done_of HT_.out (by kernel_rfl)) ?_
     have hnb39 := NB379_376.out
     have hnc39 := NB376_379.out
     obtain ⟨hcz40_0, hcz40_1, hcz40_2, hcz40_3⟩ := cz4 BK379.out
     obtain ⟨hfz40_0, hfz40_1, hfz40_2, hfz40_3⟩ := fz4 BK379.out
     obtain ⟨Ao42, co42, eo42⟩ := Kd.R_slice HO389.out
     subst eo42
     try go_wp2_with (first | ((with_reducible refine gate_builtin (b := .append) (xs := #[.tmp 75, .tmp 76]) rfl ?_); (try (refine gate_guard (by rfl) ?_; dsimp only)); at_builtin; refine Kd.R_append_rows (Kd.int .i64) (w0 := w) w.heap.size rfl (.tmp 75) (.tmp 76) 22 3 (.int .i64 0) 8 rfl Try.underlying22 info3 rfl (by decide) (by omega) u380003 x380003_2 t387 _ _ _ (fun k_ => some k_ ≠ (.slice Ao37 x12_2.length co37 : Value).ownBlock ∧ some k_ ≠ (.slice Ao42 t387.length co42 : Value).ownBlock) (fun _ => False) rfl rfl ?aO ?aR (fun _ _ h => h) (fun _ h => h.elim) ?aF ?aB ?aS ?aL ?_; (case aR => exact qC (Kd.R_reads' HO389.out).2.2); (case aB => exact (qW HB.out)); (case aF => exact (fun k_ hk => ⟨Kd.fresh' (Kd.R_lt (qR HO_12.out)) k_ hk, Kd.fresh' (Kd.R_lt (qR HO389.out)) k_ hk⟩)); (case aO => exact (qR HO_380003.out)); (case aS => exact (below_size (qW HB.out))); (case aL => have := LMc33.out; omega); intro v391 w41 ho hb hg hat; rw [← Ny390.out] at ho; replace HO_12 := aM (Kd.R_after (ok := (fun k_ => some k_ ≠ (.slice Ao42 t387.length co42 : Value).ownBlock)) (by refine qR ?_; exact Kd.R_mono HO_12.out (fun _ hk => ⟨hk.2, hk.1⟩)) hg hat); replace BK376 := aM (blk_grown (g := gb376) (o := .cells #[.int .i64 x377000_2, .int .i64 x377001_2, .int .i64 x377002_2, .slice none 0 0] 24 (0, 0)) (qB BK376.out) hg (Kd.R_ne HO_380003.out BK376.out (by decide))); replace BK379 := aM (blk_grown (g := gb379) (o := .cells #[.int .i64 a0, .int .i64 a1, .int .i64 a2, u380003] 24 (0, 0)) (qB BK379.out) hg (Kd.R_ne HO_380003.out BK379.out (by decide))); replace HO389 := aM (Kd.R_after (ok := (fun k_ => some k_ ≠ (.slice Ao37 x12_2.length co37 : Value).ownBlock)) (by refine qR ?_; exact Kd.R_mono HO389.out (fun _ hk => ⟨hk.1.2, hk.2⟩)) hg hat); replace HB := aM (hb); have HO392 := aM (ho); clear HO_380003; clear ho hb hg hat; obtain ⟨Ao43, co43, eo43⟩ := Kd.R_slice HO392.out; subst eo43; obtain ⟨hcz44_0, hcz44_1, hcz44_2, hcz44_3⟩ := cz4 BK379.out; obtain ⟨hfz44_0, hfz44_1, hfz44_2, hfz44_3⟩ := fz4 BK379.out))
     go_roundg k2
     case measure => have := HJ4.out; have := HK2.out; omega
     case rel => exact ⟨(t387), (wrap64 (x47_2 + 1)), (x377000_2), (x377001_2), (x377002_2), (y390), (.slice Ao43 y390.length co43), qE, H', ⟨by have := HJ4.out; have := HK2.out; omega⟩, ⟨by refine qR ?_; exact Kd.R_mono (Kd.R_far (p := ⟨gb379, 3, none⟩) (Kd.R_types HO389.out BK379.out (by decide)) (fun _ hk => hk.2) (.slice Ao43 y390.length co43)) (fun _ hk => hk.1.2)⟩, ⟨by refine qR ?_; exact Kd.R_mono (Kd.R_far (p := ⟨gb379, 3, none⟩) (Kd.R_types HO392.out BK379.out (by decide)) (fun _ hk => hk.2) (.slice Ao43 y390.length co43)) (fun _ hk => hk.1.2)⟩, ⟨by refine qB ?_; refine blk_far ?_ NB376_379.out _; refine qB ?_; exact BK376.out⟩, ⟨by refine qB ?_; refine blk_put (cs := #[.int .i64 a0, .int .i64 a1, .int .i64 a2, u380003]) ?_ 3 _ rfl; refine qB ?_; exact BK379.out⟩, ⟨by exact qW HB.out⟩⟩

/-! ### impl_UnfilterImage: function 30 -/
def impl_UnfilterImage.f (k : Nat) (a0 : Int) (a1 : Int) (a2 : Int) (l3 : List Int) : Option (Int × Int × Int × List Int × Bool) := (impl_unfilterImage.f k a0 a1 a2 l3).bind fun bt904 => (some (bt904.1, bt904.2.1, bt904.2.2.1, bt904.2.2.2.1, bt904.2.2.2.2))
theorem impl_UnfilterImage.mono : ∀ a0 a1 a2 a3 k, LeO (impl_UnfilterImage.f k a0 a1 a2 a3) (impl_UnfilterImage.f (k + 1) a0 a1 a2 a3) := by
 intro a0 a1 a2 a3 k
 unfold impl_UnfilterImage.f
 repeat' first
   | (with_reducible exact impl_unfilterImage.mono _ _ _ _ _)
   | (with_reducible exact LeO.refl _)
   | (with_reducible exact LeO.none _)
   | (with_reducible refine LeO.ite ?_ ?_)
   | (with_reducible refine LeO.bind ?_ (fun _ => ?_))
   | exact impl_unfilterImage.mono _ _ _ _ _
   | exact LeO.none _
   | refine LeO.ite ?_ ?_
   | refine LeO.bind ?_ (fun _ => ?_)
set_option maxHeartbeats 8000000 in
set_option maxRecDepth 100000 in
theorem impl_UnfilterImage.calls (k : Nat) (a0 : Int) (a1 : Int) (a2 : Int) (A3 : Option Addr) (c3 : Nat) (l3 : List Int) (r1 : Int) (r2 : Int) (r3 : Int) (r4 : List Int) (r5 : Bool) (w : World) (hr3 : Kd.C (Kd.int .i64) w A3 l3.length l3) (hc3 : l3.length ≤ c3) (h : impl_UnfilterImage.f k a0 a1 a2 l3 = some (r1, r2, r3, r4, r5)) :
  Calls Try.prog 30 #[.int .i64 a0, .int .i64 a1, .int .i64 a2, .slice A3 l3.length c3] w fun e w' => ∃ v3_ : Value, e = .returned (.tuple #[.agg #[.int .i64 r1, .int .i64 r2, .int .i64 r3, v3_], .bool r5]) ∧ Kd.R (Kd.int .i64) 3 w' w.heap.size (fun _ => True) v3_ r4 ∧ Below w.heap.size w w' := by
 have hu24 := Try.underlying24
 have HR3 := aM hr3
 have HC3 := aM hc3
 clear hr3 hc3
 have HB := aM (Below.refl w.heap.size w)
 have H : ((impl_unfilterImage.f k a0 a1 a2 l3).bind fun bt904 => (some (bt904.1, bt904.2.1, bt904.2.2.1, bt904.2.2.2.1, bt904.2.2.2.2))) = some (r1, r2, r3, r4, r5) := h
 clear h
 replace H := Option.bind_eq_some_iff.mp H
 obtain ⟨⟨t904, t905, t906, t907, t910⟩, A50, H⟩ := H
 replace H : (some (t904, t905, t906, t907, t910)) = some (r1, r2, r3, r4, r5) := H
 have A5 := aM A50
 clear A50
 simp only [Option.some.injEq, Prod.mk.injEq] at H
 obtain ⟨rfl, rfl, rfl, rfl, rfl⟩ := H
 go_enter Try.func30, Try.ntmps30
 go_wp2_with (first | ((with_reducible refine gate_dst (N := 8) rfl ?_); refine box_event ?hg (N := 8) ?hd (cs := #[.int .i64 0, .int .i64 0, .int .i64 0, .slice none 0 0]) (t := 24) ?hr ?_; (case hd => rfl); (case hg => rfl); (case hr => first | (go_simp; done) | (go_simp; rfl)); intro gb903 hg w6 hbox hb; have BK903 := aM (hbox); have GW903 := aM ((by rw [hg]; exact (below_size (qW HB.out)) : w.heap.size ≤ gb903)); have GE903 := aM ((by rw [hg]; exact (below_size (qW HB.out)) : w.heap.size ≤ gb903)); replace HB := aM (below_step (qW HB.out) hb); clear hb hbox hg) | ((with_reducible refine gate_callee (f := 45) rfl ?_); refine goesL_ (some 14) rfl rfl Try.func45 (by kernel_rfl) rfl #[.int .i64 a0, .int .i64 a1, .int .i64 a2, .slice A3 l3.length c3] rfl qM ?_; (with_reducible refine (impl_unfilterImage.calls k a0 a1 a2 _ _ l3 t904 t905 t906 t907 t910 _ ?side1 ?side2 A5.out).mono ?_); (case side1 => exact qC (Kd.C_below HR3.out HB.out)); (case side2 => exact HC3.out); rintro e w7 ⟨v908, rfl, ho0, hb⟩; refine ⟨_, rfl, ?_⟩; have HO909 := aM (Kd.R_lower ho0 (below_size (qW HB.out))); replace BK903 := bB BK903 hb; replace HB := aM (below_step (qW HB.out) hb); (try clear hb); (try clear hb2); (try clear hk); (try clear hi); (try clear ho0); obtain ⟨hcz8_0, hcz8_1, hcz8_2, hcz8_3⟩ := cz4 BK903.out; obtain ⟨hfz8_0, hfz8_1, hfz8_2, hfz8_3⟩ := fz4 BK903.out; obtain ⟨Ao9, co9, eo9⟩ := Kd.R_slice HO909.out; subst eo9))
 refine bodyPost_ret (results_ct rfl _ _ gb903 24 #[.int .i64 t904, .int .i64 t905, .int .i64 t906, .slice Ao9 t907.length co9] (0, 0) _ rfl (by refine qB ?_; refine blk_put (cs := #[.int .i64 t904, .int .i64 t905, .int .i64 t906, .slice none 0 0]) ?_ 3 _ rfl; refine qB ?_; refine blk_put (cs := #[.int .i64 t904, .int .i64 t905, .int .i64 0, .slice none 0 0]) ?_ 2 _ rfl; refine qB ?_; refine blk_put (cs := #[.int .i64 t904, .int .i64 0, .int .i64 0, .slice none 0 0]) ?_ 1 _ rfl; refine qB ?_; refine blk_put (cs := #[.int .i64 0, .int .i64 0, .int .i64 0, .slice none 0 0]) ?_ 0 _ rfl; refine qB ?_; exact BK903.out) Try.underlying24 rfl (by kernel_rfl)) rfl ?_
 exact ⟨_, qX, by refine qR ?_; exact Kd.R_mono (Kd.R_far (p := ⟨gb903, 3, none⟩) (Kd.R_far (p := ⟨gb903, 2, none⟩) (Kd.R_far (p := ⟨gb903, 1, none⟩) (Kd.R_far (p := ⟨gb903, 0, none⟩) (Kd.R_types HO909.out BK903.out (by decide)) (fun _ hk => hk.2) (.int .i64 t904)) (fun _ hk => hk.2) (.int .i64 t905)) (fun _ hk => hk.2) (.int .i64 t906)) (fun _ hk => hk.2) (.slice Ao9 t907.length co9)) (fun _ hk => trivial), by exact qW HB.out⟩

/-! ### spec_UnfilterImage: function 31 -/
def spec_UnfilterImage.f (k : Nat) (a0 : Int) (a1 : Int) (a2 : Int) (l3 : List Int) : Option (Int × Int × Int × List Int × Bool) := (spec_validShape.f a0 a1 a2).bind fun t939 => (if t939 = true then (if (l3.length : Int) = (wrap64 (a1 * (wrap64 ((wrap64 (a0 * a2)) + 1)))) then ((spec_allIn.f k l3 0 255).bind fun t940 => (if t940 = true then ((spec_unfilterImage.f k a0 a1 a2 l3).bind fun bt941 => (some (bt941.1, bt941.2.1, bt941.2.2.1, bt941.2.2.2.1, bt941.2.2.2.2))) else (some (0, 0, 0, ([] : List Int), false)))) else (some (0, 0, 0, ([] : List Int), false))) else (some (0, 0, 0, ([] : List Int), false)))
theorem spec_UnfilterImage.mono : ∀ a0 a1 a2 a3 k, LeO (spec_UnfilterImage.f k a0 a1 a2 a3) (spec_UnfilterImage.f (k + 1) a0 a1 a2 a3) := by
 intro a0 a1 a2 a3 k
 unfold spec_UnfilterImage.f
 repeat' first
   | (with_reducible exact spec_allIn.mono _ _ _ _)
   | (with_reducible exact spec_unfilterImage.mono _ _ _ _ _)
   | (with_reducible exact LeO.refl _)
   | (with_reducible exact LeO.none _)
   | (with_reducible refine LeO.ite ?_ ?_)
   | (with_reducible refine LeO.bind ?_ (fun _ => ?_))
   | exact spec_allIn.mono _ _ _ _
   | exact spec_unfilterImage.mono _ _ _ _ _
   | exact LeO.none _
   | refine LeO.ite ?_ ?_
   | refine LeO.bind ?_ (fun _ => ?_)
set_option maxHeartbeats 8000000 in
set_option maxRecDepth 100000 in
theorem spec_UnfilterImage.calls (k : Nat) (a0 : Int) (a1 : Int) (a2 : Int) (A3 : Option Addr) (c3 : Nat) (l3 : List Int) (r1 : Int) (r2 : Int) (r3 : Int) (r4 : List Int) (r5 : Bool) (w : World) (hr3 : Kd.C (Kd.int .i64) w A3 l3.length l3) (hc3 : l3.length ≤ c3) (h : spec_UnfilterImage.f k a0 a1 a2 l3 = some (r1, r2, r3, r4, r5)) :
  Calls Try.prog 31 #[.int .i64 a0, .int .i64 a1, .int .i64 a2, .slice A3 l3.length c3] w fun e w' => ∃ v3_ : Value, e = .returned (.tuple #[.agg #[.int .i64 r1, .int .i64 r2, .int .i64 r3, v3_], .bool r5]) ∧ Kd.R (Kd.int .i64) 3 w' w.heap.size (fun _ => True) v3_ r4 ∧ Below w.heap.size w w' := by
 have hu24 := Try.underlying24
 have HR3 := aM hr3
 have HC3 := aM hc3
 clear hr3 hc3
 have HB := aM (Below.refl w.heap.size w)
 have H : ((spec_validShape.f a0 a1 a2).bind fun t939 => (if t939 = true then (if (l3.length : Int) = (wrap64 (a1 * (wrap64 ((wrap64 (a0 * a2)) + 1)))) then ((spec_allIn.f k l3 0 255).bind fun t940 => (if t940 = true then ((spec_unfilterImage.f k a0 a1 a2 l3).bind fun bt941 => (some (bt941.1, bt941.2.1, bt941.2.2.1, bt941.2.2.2.1, bt941.2.2.2.2))) else (some (0, 0, 0, ([] : List Int), false)))) else (some (0, 0, 0, ([] : List Int), false))) else (some (0, 0, 0, ([] : List Int), false)))) = some (r1, r2, r3, r4, r5) := h
 clear h
 replace H := Option.bind_eq_some_iff.mp H
 obtain ⟨t939, A50, H⟩ := H
 replace H : (if t939 = true then (if (l3.length : Int) = (wrap64 (a1 * (wrap64 ((wrap64 (a0 * a2)) + 1)))) then ((spec_allIn.f k l3 0 255).bind fun t940 => (if t940 = true then ((spec_unfilterImage.f k a0 a1 a2 l3).bind fun bt941 => (some (bt941.1, bt941.2.1, bt941.2.2.1, bt941.2.2.2.1, bt941.2.2.2.2))) else (some (0, 0, 0, ([] : List Int), false)))) else (some (0, 0, 0, ([] : List Int), false))) else (some (0, 0, 0, ([] : List Int), false))) = some (r1, r2, r3, r4, r5) := H
 have A5 := aM A50
 clear A50
 by_cases c6 : t939 = true
 rotate_left
 ·
  replace c6 := Bool.eq_false_iff.mpr c6
  subst c6
  have H1 : (some (0, 0, 0, ([] : List Int), false)) = some (r1, r2, r3, r4, r5) := by rw [if_neg (show ¬ (false = true) by decide)] at H; exact H
  clear H
  have H := H1
  clear H1
  simp only [Option.some.injEq, Prod.mk.injEq] at H
  obtain ⟨rfl, rfl, rfl, rfl, rfl⟩ := H
  go_enter Try.func31, Try.ntmps31
  go_wp2_with (first | ((with_reducible refine gate_dst (N := 8) rfl ?_); (try (refine gate_guard (by rfl) ?_; dsimp only)); refine box_event ?hg (N := 8) ?hd (cs := #[.int .i64 0, .int .i64 0, .int .i64 0, .slice none 0 0]) (t := 24) ?hr ?_; (case hd => rfl); (case hg => rfl); (case hr => first | (go_simp; done) | (go_simp; rfl)); intro gb938 hg w19 hbox hb; have BK938 := aM (hbox); have GW938 := aM ((by rw [hg]; exact (below_size (qW HB.out)) : w.heap.size ≤ gb938)); have GE938 := aM ((by rw [hg]; exact (below_size (qW HB.out)) : w.heap.size ≤ gb938)); replace HB := aM (below_step (qW HB.out) hb); clear hb hbox hg) | ((with_reducible refine gate_callee (f := 37) rfl ?_); refine goesL_ (some 13) rfl rfl Try.func37 (by kernel_rfl) rfl #[.int .i64 a0, .int .i64 a1, .int .i64 a2] rfl qM ?_; (with_reducible refine (spec_validShape.calls a0 a1 a2 false _ A5.out).mono ?_); rintro e w' ⟨rfl, ⟨nd, rfl⟩⟩; refine ⟨_, rfl, ?_⟩; (try (rw [drewN_self w19]; generalize hq_ : World.drewN w19 _ = w19; replace BK938 : Aside0 (w19.heap[gb938]? = some (.cells #[.int .i64 0, .int .i64 0, .int .i64 0, .slice none 0 0] 24 (0, 0))) := ⟨by rw [← hq_]; exact (qB BK938.out)⟩; replace HB : Aside0 (Below w.heap.size w w19) := ⟨by rw [← hq_]; exact (qW HB.out)⟩; clear hq_)); obtain ⟨hcz20_0, hcz20_1, hcz20_2, hcz20_3⟩ := cz4 BK938.out; obtain ⟨hfz20_0, hfz20_1, hfz20_2, hfz20_3⟩ := fz4 BK938.out))
  refine bodyPost_ret (results_ct rfl _ _ gb938 24 #[.int .i64 0, .int .i64 0, .int .i64 0, .slice none 0 0] (0, 0) _ rfl (by refine qB ?_; refine blk_put (cs := #[.int .i64 0, .int .i64 0, .int .i64 0, .slice none 0 0]) ?_ 3 _ rfl; refine qB ?_; refine blk_put (cs := #[.int .i64 0, .int .i64 0, .int .i64 0, .slice none 0 0]) ?_ 2 _ rfl; refine qB ?_; refine blk_put (cs := #[.int .i64 0, .int .i64 0, .int .i64 0, .slice none 0 0]) ?_ 1 _ rfl; refine qB ?_; refine blk_put (cs := #[.int .i64 0, .int .i64 0, .int .i64 0, .slice none 0 0]) ?_ 0 _ rfl; refine qB ?_; exact BK938.out) Try.underlying24 rfl (by kernel_rfl)) rfl ?_
  exact ⟨_, qX, qN, by exact qW HB.out⟩
 subst c6
 have H1 : (if (l3.length : Int) = (wrap64 (a1 * (wrap64 ((wrap64 (a0 * a2)) + 1)))) then ((spec_allIn.f k l3 0 255).bind fun t940 => (if t940 = true then ((spec_unfilterImage.f k a0 a1 a2 l3).bind fun bt941 => (some (bt941.1, bt941.2.1, bt941.2.2.1, bt941.2.2.2.1, bt941.2.2.2.2))) else (some (0, 0, 0, ([] : List Int), false)))) else (some (0, 0, 0, ([] : List Int), false))) = some (r1, r2, r3, r4, r5) := by rw [if_pos rfl] at H; exact H
 clear H
 have H := H1
 clear H1
 by_cases c7 : (l3.length : Int) = (wrap64 (a1 * (wrap64 ((wrap64 (a0 * a2)) + 1))))
 rotate_left
 ·
  rw [if_neg c7] at H
  have c7b0 : ((l3.length : Int) == (wrap64 (a1 * (wrap64 ((wrap64 (a0 * a2)) + 1))))) = false := beq_eq_false_iff_ne.mpr c7
  have c7b1 : ((l3.length : Int) != (wrap64 (a1 * (wrap64 ((wrap64 (a0 * a2)) + 1))))) = true := bne_iff_ne.mpr c7
  simp only [Option.some.injEq, Prod.mk.injEq] at H
  obtain ⟨rfl, rfl, rfl, rfl, rfl⟩ := H
  go_enter Try.func31, Try.ntmps31
  go_wp2_with (first | ((with_reducible refine gate_dst (N := 8) rfl ?_); (try (refine gate_guard (by rfl) ?_; dsimp only)); refine box_event ?hg (N := 8) ?hd (cs := #[.int .i64 0, .int .i64 0, .int .i64 0, .slice none 0 0]) (t := 24) ?hr ?_; (case hd => rfl); (case hg => rfl); (case hr => first | (go_simp; done) | (go_simp; rfl)); intro gb938 hg w17 hbox hb; have BK938 := aM (hbox); have GW938 := aM ((by rw [hg]; exact (below_size (qW HB.out)) : w.heap.size ≤ gb938)); have GE938 := aM ((by rw [hg]; exact (below_size (qW HB.out)) : w.heap.size ≤ gb938)); replace HB := aM (below_step (qW HB.out) hb); clear hb hbox hg) | ((with_reducible refine gate_callee (f := 37) rfl ?_); refine goesL_ (some 13) rfl rfl Try.func37 (by kernel_rfl) rfl #[.int .i64 a0, .int .i64 a1, .int .i64 a2] rfl qM ?_; (with_reducible refine (spec_validShape.calls a0 a1 a2 true _ A5.out).mono ?_); rintro e w' ⟨rfl, ⟨nd, rfl⟩⟩; refine ⟨_, rfl, ?_⟩; (try (rw [drewN_self w17]; generalize hq_ : World.drewN w17 _ = w17; replace BK938 : Aside0 (w17.heap[gb938]? = some (.cells #[.int .i64 0, .int .i64 0, .int .i64 0, .slice none 0 0] 24 (0, 0))) := ⟨by rw [← hq_]; exact (qB BK938.out)⟩; replace HB : Aside0 (Below w.heap.size w w17) := ⟨by rw [← hq_]; exact (qW HB.out)⟩; clear hq_)); obtain ⟨hcz18_0, hcz18_1, hcz18_2, hcz18_3⟩ := cz4 BK938.out; obtain ⟨hfz18_0, hfz18_1, hfz18_2, hfz18_3⟩ := fz4 BK938.out))
  refine bodyPost_ret (results_ct rfl _ _ gb938 24 #[.int .i64 0, .int .i64 0, .int .i64 0, .slice none 0 0] (0, 0) _ rfl (by refine qB ?_; refine blk_put (cs := #[.int .i64 0, .int .i64 0, .int .i64 0, .slice none 0 0]) ?_ 3 _ rfl; refine qB ?_; refine blk_put (cs := #[.int .i64 0, .int .i64 0, .int .i64 0, .slice none 0 0]) ?_ 2 _ rfl; refine qB ?_; refine blk_put (cs := #[.int .i64 0, .int .i64 0, .int .i64 0, .slice none 0 0]) ?_ 1 _ rfl; refine qB ?_; refine blk_put (cs := #[.int .i64 0, .int .i64 0, .int .i64 0, .slice none 0 0]) ?_ 0 _ rfl; refine qB ?_; exact BK938.out) Try.underlying24 rfl (by kernel_rfl)) rfl ?_
  exact ⟨_, qX, qN, by exact qW HB.out⟩
 rw [if_pos c7] at H
 have c7b0 : ((l3.length : Int) == (wrap64 (a1 * (wrap64 ((wrap64 (a0 * a2)) + 1))))) = true := beq_iff_eq.mpr c7
 have c7b1 : ((l3.length : Int) != (wrap64 (a1 * (wrap64 ((wrap64 (a0 * a2)) + 1))))) = false := bne_eq_false_iff_eq.mpr c7
 clear c7
 replace H := Option.bind_eq_some_iff.mp H
 obtain ⟨t940, A80, H⟩ := H
 replace H : (if t940 = true then ((spec_unfilterImage.f k a0 a1 a2 l3).bind fun bt941 => (some (bt941.1, bt941.2.1, bt941.2.2.1, bt941.2.2.2.1, bt941.2.2.2.2))) else (some (0, 0, 0, ([] : List Int), false))) = some (r1, r2, r3, r4, r5) := H
 have A8 := aM A80
 clear A80
 by_cases c9 : t940 = true
 rotate_left
 ·
  replace c9 := Bool.eq_false_iff.mpr c9
  subst c9
  have H1 : (some (0, 0, 0, ([] : List Int), false)) = some (r1, r2, r3, r4, r5) := by rw [if_neg (show ¬ (false = true) by decide)] at H; exact H
  clear H
  have H := H1
  clear H1
  simp only [Option.some.injEq, Prod.mk.injEq] at H
  obtain ⟨rfl, rfl, rfl, rfl, rfl⟩ := H
  go_enter Try.func31, Try.ntmps31
  go_wp2_with (first | ((with_reducible refine gate_dst (N := 8) rfl ?_); (try (refine gate_guard (by rfl) ?_; dsimp only)); refine box_event ?hg (N := 8) ?hd (cs := #[.int .i64 0, .int .i64 0, .int .i64 0, .slice none 0 0]) (t := 24) ?hr ?_; (case hd => rfl); (case hg => rfl); (case hr => first | (go_simp; done) | (go_simp; rfl)); intro gb938 hg w15 hbox hb; have BK938 := aM (hbox); have GW938 := aM ((by rw [hg]; exact (below_size (qW HB.out)) : w.heap.size ≤ gb938)); have GE938 := aM ((by rw [hg]; exact (below_size (qW HB.out)) : w.heap.size ≤ gb938)); replace HB := aM (below_step (qW HB.out) hb); clear hb hbox hg) | ((with_reducible refine gate_callee (f := 37) rfl ?_); refine goesL_ (some 13) rfl rfl Try.func37 (by kernel_rfl) rfl #[.int .i64 a0, .int .i64 a1, .int .i64 a2] rfl qM ?_; (with_reducible refine (spec_validShape.calls a0 a1 a2 true _ A5.out).mono ?_); rintro e w' ⟨rfl, ⟨nd, rfl⟩⟩; refine ⟨_, rfl, ?_⟩; (try (rw [drewN_self w15]; generalize hq_ : World.drewN w15 _ = w15; replace BK938 : Aside0 (w15.heap[gb938]? = some (.cells #[.int .i64 0, .int .i64 0, .int .i64 0, .slice none 0 0] 24 (0, 0))) := ⟨by rw [← hq_]; exact (qB BK938.out)⟩; replace HB : Aside0 (Below w.heap.size w w15) := ⟨by rw [← hq_]; exact (qW HB.out)⟩; clear hq_))) | (go_at_call 57; (with_reducible refine (spec_allIn.calls k _ _ l3 0 255 false _ ?side1 ?side2 A8.out).mono ?_); (case side1 => exact qC (Kd.C_below HR3.out HB.out)); (case side2 => exact HC3.out); rintro e w' ⟨rfl, ⟨nd, rfl⟩⟩; (try (rw [drewN_self w15]; generalize hq_ : World.drewN w15 _ = w15; replace BK938 : Aside0 (w15.heap[gb938]? = some (.cells #[.int .i64 0, .int .i64 0, .int .i64 0, .slice none 0 0] 24 (0, 0))) := ⟨by rw [← hq_]; exact (qB BK938.out)⟩; replace HB : Aside0 (Below w.heap.size w w15) := ⟨by rw [← hq_]; exact (qW HB.out)⟩; clear hq_)); obtain ⟨hcz16_0, hcz16_1, hcz16_2, hcz16_3⟩ := cz4 BK938.out; obtain ⟨hfz16_0, hfz16_1, hfz16_2, hfz16_3⟩ := fz4 BK938.out))
  refine bodyPost_ret (results_ct rfl _ _ gb938 24 #[.int .i64 0, .int .i64 0, .int .i64 0, .slice none 0 0] (0, 0) _ rfl (by refine qB ?_; refine blk_put (cs := #[.int .i64 0, .int .i64 0, .int .i64 0, .slice none 0 0]) ?_ 3 _ rfl; refine qB ?_; refine blk_put (cs := #[.int .i64 0, .int .i64 0, .int .i64 0, .slice none 0 0]) ?_ 2 _ rfl; refine qB ?_; refine blk_put (cs := #[.int .i64 0, .int .i64 0, .int .i64 0, .slice none 0 0]) ?_ 1 _ rfl; refine qB ?_; refine blk_put (cs := #[.int .i64 0, .int .i64 0, .int .i64 0, .slice none 0 0]) ?_ 0 _ rfl; refine qB ?_; exact BK938.out) Try.underlying24 rfl (by kernel_rfl)) rfl ?_
  exact ⟨_, qX, qN, by exact qW HB.out⟩
 subst c9
 have H1 : ((spec_unfilterImage.f k a0 a1 a2 l3).bind fun bt941 => (some (bt941.1, bt941.2.1, bt941.2.2.1, bt941.2.2.2.1, bt941.2.2.2.2))) = some (r1, r2, r3, r4, r5) := by rw [if_pos rfl] at H; exact H
 clear H
 have H := H1
 clear H1
 replace H := Option.bind_eq_some_iff.mp H
 obtain ⟨⟨t941, t942, t943, t944, t947⟩, A100, H⟩ := H
 replace H : (some (t941, t942, t943, t944, t947)) = some (r1, r2, r3, r4, r5) := H
 have A10 := aM A100
 clear A100
 simp only [Option.some.injEq, Prod.mk.injEq] at H
 obtain ⟨rfl, rfl, rfl, rfl, rfl⟩ := H
 go_enter Try.func31, Try.ntmps31
 go_wp2_with (first | ((with_reducible refine gate_dst (N := 8) rfl ?_); (try (refine gate_guard (by rfl) ?_; dsimp only)); refine box_event ?hg (N := 8) ?hd (cs := #[.int .i64 0, .int .i64 0, .int .i64 0, .slice none 0 0]) (t := 24) ?hr ?_; (case hd => rfl); (case hg => rfl); (case hr => first | (go_simp; done) | (go_simp; rfl)); intro gb938 hg w11 hbox hb; have BK938 := aM (hbox); have GW938 := aM ((by rw [hg]; exact (below_size (qW HB.out)) : w.heap.size ≤ gb938)); have GE938 := aM ((by rw [hg]; exact (below_size (qW HB.out)) : w.heap.size ≤ gb938)); replace HB := aM (below_step (qW HB.out) hb); clear hb hbox hg) | ((with_reducible refine gate_callee (f := 37) rfl ?_); refine goesL_ (some 13) rfl rfl Try.func37 (by kernel_rfl) rfl #[.int .i64 a0, .int .i64 a1, .int .i64 a2] rfl qM ?_; (with_reducible refine (spec_validShape.calls a0 a1 a2 true _ A5.out).mono ?_); rintro e w' ⟨rfl, ⟨nd, rfl⟩⟩; refine ⟨_, rfl, ?_⟩; (try (rw [drewN_self w11]; generalize hq_ : World.drewN w11 _ = w11; replace BK938 : Aside0 (w11.heap[gb938]? = some (.cells #[.int .i64 0, .int .i64 0, .int .i64 0, .slice none 0 0] 24 (0, 0))) := ⟨by rw [← hq_]; exact (qB BK938.out)⟩; replace HB : Aside0 (Below w.heap.size w w11) := ⟨by rw [← hq_]; exact (qW HB.out)⟩; clear hq_))) | (go_at_call 57; (with_reducible refine (spec_allIn.calls k _ _ l3 0 255 true _ ?side1 ?side2 A8.out).mono ?_); (case side1 => exact qC (Kd.C_below HR3.out HB.out)); (case side2 => exact HC3.out); rintro e w' ⟨rfl, ⟨nd, rfl⟩⟩; (try (rw [drewN_self w11]; generalize hq_ : World.drewN w11 _ = w11; replace BK938 : Aside0 (w11.heap[gb938]? = some (.cells #[.int .i64 0, .int .i64 0, .int .i64 0, .slice none 0 0] 24 (0, 0))) := ⟨by rw [← hq_]; exact (qB BK938.out)⟩; replace HB : Aside0 (Below w.heap.size w w11) := ⟨by rw [← hq_]; exact (qW HB.out)⟩; clear hq_))) | ((with_reducible refine gate_callee (f := 40) rfl ?_); refine goesL_ (some 36) rfl rfl Try.func40 (by kernel_rfl) rfl #[.int .i64 a0, .int .i64 a1, .int .i64 a2, .slice A3 l3.length c3] rfl qM ?_; (with_reducible refine (spec_unfilterImage.calls k a0 a1 a2 _ _ l3 t941 t942 t943 t944 t947 _ ?side1 ?side2 A10.out).mono ?_); (case side1 => exact qC (Kd.C_below HR3.out HB.out)); (case side2 => exact HC3.out); rintro e w12 ⟨v945, rfl, ho0, hb⟩; refine ⟨_, rfl, ?_⟩; have HO946 := aM (Kd.R_lower ho0 (below_size (qW HB.out))); replace BK938 := bB BK938 hb; replace HB := aM (below_step (qW HB.out) hb); (try clear hb); (try clear hb2); (try clear hk); (try clear hi); (try clear ho0); obtain ⟨hcz13_0, hcz13_1, hcz13_2, hcz13_3⟩ := cz4 BK938.out; obtain ⟨hfz13_0, hfz13_1, hfz13_2, hfz13_3⟩ := fz4 BK938.out; obtain ⟨Ao14, co14, eo14⟩ := Kd.R_slice HO946.out; subst eo14))
 refine bodyPost_ret (results_ct rfl _ _ gb938 24 #[.int .i64 t941, .int .i64 t942, .int .i64 t943, .slice Ao14 t944.length co14] (0, 0) _ rfl (by refine qB ?_; refine blk_put (cs := #[.int .i64 t941, .int .i64 t942, .int .i64 t943, .slice none 0 0]) ?_ 3 _ rfl; refine qB ?_; refine blk_put (cs := #[.int .i64 t941, .int .i64 t942, .int .i64 0, .slice none 0 0]) ?_ 2 _ rfl; refine qB ?_; refine blk_put (cs := #[.int .i64 t941, .int .i64 0, .int .i64 0, .slice none 0 0]) ?_ 1 _ rfl; refine qB ?_; refine blk_put (cs := #[.int .i64 0, .int .i64 0, .int .i64 0, .slice none 0 0]) ?_ 0 _ rfl; refine qB ?_; exact BK938.out) Try.underlying24 rfl (by kernel_rfl)) rfl ?_
 exact ⟨_, qX, by refine qR ?_; exact Kd.R_mono (Kd.R_far (p := ⟨gb938, 3, none⟩) (Kd.R_far (p := ⟨gb938, 2, none⟩) (Kd.R_far (p := ⟨gb938, 1, none⟩) (Kd.R_far (p := ⟨gb938, 0, none⟩) (Kd.R_types HO946.out BK938.out (by decide)) (fun _ hk => hk.2) (.int .i64 t941)) (fun _ hk => hk.2) (.int .i64 t942)) (fun _ hk => hk.2) (.int .i64 t943)) (fun _ hk => hk.2) (.slice Ao14 t944.length co14)) (fun _ hk => trivial), by exact qW HB.out⟩

/-! ### spec_writeImage: function 42 -/
def spec_writeImage.f (k : Nat) (a0_0 : Int) (a0_1 : Int) (a0_2 : Int) (l0_3 : List Int) : Option (List Int) := (spec_filterImage.f k a0_0 a0_1 a0_2 l0_3).bind fun t285 => ((spec_bestTokens.f k t285).bind fun t288 => ((spec_packTokens.f k t288).bind fun t291 => ((some (([112, 120, a0_0, a0_1, a0_2] : List Int) : List Int)).bind fun y294 => (if y294.length + t291.length < 17592186044416 then ((some (y294 ++ t291 : List Int)).bind fun y297 => ((spec_adler.f k y297).bind fun t300 => ((some (([wrap64 (Int.tdiv t300 256), Int.tmod t300 256] : List Int) : List Int)).bind fun y301 => (if y297.length + y301.length < 17592186044416 then (some (y297 ++ y301)) else (none))))) else (none)))))
theorem spec_writeImage.mono : ∀ a0 a1 a2 a3 k, LeO (spec_writeImage.f k a0 a1 a2 a3) (spec_writeImage.f (k + 1) a0 a1 a2 a3) := by
 intro a0 a1 a2 a3 k
 unfold spec_writeImage.f
 repeat' first
   | (with_reducible exact spec_adler.mono _ _)
   | (with_reducible exact spec_bestTokens.mono _ _)
   | (with_reducible exact spec_filterImage.mono _ _ _ _ _)
   | (with_reducible exact spec_packTokens.mono _ _)
   | (with_reducible exact LeO.refl _)
   | (with_reducible exact LeO.none _)
   | (with_reducible refine LeO.ite ?_ ?_)
   | (with_reducible refine LeO.bind ?_ (fun _ => ?_))
   | exact spec_adler.mono _ _
   | exact spec_bestTokens.mono _ _
   | exact spec_filterImage.mono _ _ _ _ _
   | exact spec_packTokens.mono _ _
   | exact LeO.none _
   | refine LeO.ite ?_ ?_
   | refine LeO.bind ?_ (fun _ => ?_)
set_option maxHeartbeats 8000000 in
set_option maxRecDepth 100000 in
theorem spec_writeImage.calls (k : Nat) (a0_0 : Int) (a0_1 : Int) (a0_2 : Int) (A0_3 : Option Addr) (c0_3 : Nat) (l0_3 : List Int) (r : List Int) (w : World) (hr0_3 : Kd.C (Kd.int .i64) w A0_3 l0_3.length l0_3) (hc0_3 : l0_3.length ≤ c0_3) (h : spec_writeImage.f k a0_0 a0_1 a0_2 l0_3 = some r) :
  Calls Try.prog 42 #[.agg #[.int .i64 a0_0, .int .i64 a0_1, .int .i64 a0_2, .slice A0_3 l0_3.length c0_3]] w fun e w' => ∃ v0_ : Value, e = .returned (v0_) ∧ Kd.R (Kd.int .i64) 3 w' w.heap.size (fun _ => True) v0_ r ∧ Below w.heap.size w w' := by
 have hu24 := Try.underlying24
 have HR0_3 := aM hr0_3
 have HC0_3 := aM hc0_3
 clear hr0_3 hc0_3
 have HB := aM (Below.refl w.heap.size w)
 have H : ((spec_filterImage.f k a0_0 a0_1 a0_2 l0_3).bind fun t285 => ((spec_bestTokens.f k t285).bind fun t288 => ((spec_packTokens.f k t288).bind fun t291 => ((some (([112, 120, a0_0, a0_1, a0_2] : List Int) : List Int)).bind fun y294 => (if y294.length + t291.length < 17592186044416 then ((some (y294 ++ t291 : List Int)).bind fun y297 => ((spec_adler.f k y297).bind fun t300 => ((some (([wrap64 (Int.tdiv t300 256), Int.tmod t300 256] : List Int) : List Int)).bind fun y301 => (if y297.length + y301.length < 17592186044416 then (some (y297 ++ y301)) else (none))))) else (none)))))) = some r := h
 clear h
 replace H := Option.bind_eq_some_iff.mp H
 obtain ⟨t285, A20, H⟩ := H
 replace H : ((spec_bestTokens.f k t285).bind fun t288 => ((spec_packTokens.f k t288).bind fun t291 => ((some (([112, 120, a0_0, a0_1, a0_2] : List Int) : List Int)).bind fun y294 => (if y294.length + t291.length < 17592186044416 then ((some (y294 ++ t291 : List Int)).bind fun y297 => ((spec_adler.f k y297).bind fun t300 => ((some (([wrap64 (Int.tdiv t300 256), Int.tmod t300 256] : List Int) : List Int)).bind fun y301 => (if y297.length + y301.length < 17592186044416 then (some (y297 ++ y301)) else (none))))) else (none))))) = some r := H
 have A2 := aM A20
 clear A20
 replace H := Option.bind_eq_some_iff.mp H
 obtain ⟨t288, A30, H⟩ := H
 replace H : ((spec_packTokens.f k t288).bind fun t291 => ((some (([112, 120, a0_0, a0_1, a0_2] : List Int) : List Int)).bind fun y294 => (if y294.length + t291.length < 17592186044416 then ((some (y294 ++ t291 : List Int)).bind fun y297 => ((spec_adler.f k y297).bind fun t300 => ((some (([wrap64 (Int.tdiv t300 256), Int.tmod t300 256] : List Int) : List Int)).bind fun y301 => (if y297.length + y301.length < 17592186044416 then (some (y297 ++ y301)) else (none))))) else (none)))) = some r := H
 have A3 := aM A30
 clear A30
 replace H := Option.bind_eq_some_iff.mp H
 obtain ⟨t291, A40, H⟩ := H
 replace H : ((some (([112, 120, a0_0, a0_1, a0_2] : List Int) : List Int)).bind fun y294 => (if y294.length + t291.length < 17592186044416 then ((some (y294 ++ t291 : List Int)).bind fun y297 => ((spec_adler.f k y297).bind fun t300 => ((some (([wrap64 (Int.tdiv t300 256), Int.tmod t300 256] : List Int) : List Int)).bind fun y301 => (if y297.length + y301.length < 17592186044416 then (some (y297 ++ y301)) else (none))))) else (none))) = some r := H
 have A4 := aM A40
 clear A40
 obtain ⟨y294, hy294⟩ : ∃ y_ : List Int, y_ = (([112, 120, a0_0, a0_1, a0_2] : List Int)) := ⟨_, rfl⟩
 replace H : (if y294.length + t291.length < 17592186044416 then ((some (y294 ++ t291 : List Int)).bind fun y297 => ((spec_adler.f k y297).bind fun t300 => ((some (([wrap64 (Int.tdiv t300 256), Int.tmod t300 256] : List Int) : List Int)).bind fun y301 => (if y297.length + y301.length < 17592186044416 then (some (y297 ++ y301)) else (none))))) else (none)) = some r := rY hy294 H
 have Ny294 := aM hy294
 clear hy294
 by_cases c5 : y294.length + t291.length < 17592186044416
 rotate_left
 ·
  rw [if_neg c5] at H
  exact absurd H (by simp)
 rw [if_pos c5] at H
 have LMc5 := aM c5
 clear c5
 obtain ⟨y297, hy297⟩ : ∃ y_ : List Int, y_ = (y294 ++ t291) := ⟨_, rfl⟩
 replace H : ((spec_adler.f k y297).bind fun t300 => ((some (([wrap64 (Int.tdiv t300 256), Int.tmod t300 256] : List Int) : List Int)).bind fun y301 => (if y297.length + y301.length < 17592186044416 then (some (y297 ++ y301)) else (none)))) = some r := rY hy297 H
 have Ny297 := aM hy297
 clear hy297
 replace H := Option.bind_eq_some_iff.mp H
 obtain ⟨t300, A60, H⟩ := H
 replace H : ((some (([wrap64 (Int.tdiv t300 256), Int.tmod t300 256] : List Int) : List Int)).bind fun y301 => (if y297.length + y301.length < 17592186044416 then (some (y297 ++ y301)) else (none))) = some r := H
 have A6 := aM A60
 clear A60
 obtain ⟨y301, hy301⟩ : ∃ y_ : List Int, y_ = (([wrap64 (Int.tdiv t300 256), Int.tmod t300 256] : List Int)) := ⟨_, rfl⟩
 replace H : (if y297.length + y301.length < 17592186044416 then (some (y297 ++ y301)) else (none)) = some r := rY hy301 H
 have Ny301 := aM hy301
 clear hy301
 by_cases c7 : y297.length + y301.length < 17592186044416
 rotate_left
 ·
  rw [if_neg c7] at H
  exact absurd H (by simp)
 rw [if_pos c7] at H
 have LMc7 := aM c7
 clear c7
 obtain ⟨y304, hy304⟩ : ∃ y_ : List Int, y_ = (y297 ++ y301) := ⟨_, rfl⟩
 replace H : (some y304) = some r := rY hy304 H
 have Ny304 := aM hy304
 clear hy304
 obtain rfl := Option.some.inj H
 go_enter Try.func42, Try.ntmps42
 go_wp2_with (first | ((with_reducible refine gate_dst (N := 1) rfl ?_); refine box_event ?hg (N := 1) ?hd (cs := #[.int .i64 a0_0, .int .i64 a0_1, .int .i64 a0_2, .slice A0_3 l0_3.length c0_3]) (t := 24) ?hr ?_; (case hd => rfl); (case hg => rfl); (case hr => first | (go_simp; done) | (go_simp; rfl)); intro gb284 hg w8 hbox hb; have BK284 := aM (hbox); have GW284 := aM ((by rw [hg]; exact (below_size (qW HB.out)) : w.heap.size ≤ gb284)); have GE284 := aM ((by rw [hg]; exact (below_size (qW HB.out)) : w.heap.size ≤ gb284)); replace HB := aM (below_step (qW HB.out) hb); clear hb hbox hg; obtain ⟨hcz9_0, hcz9_1, hcz9_2, hcz9_3⟩ := cz4 BK284.out; obtain ⟨hfz9_0, hfz9_1, hfz9_2, hfz9_3⟩ := fz4 BK284.out) | ((with_reducible refine gate_callee (f := 55) rfl ?_); refine goesL_ (some 7) rfl rfl Try.func55 (by kernel_rfl) rfl #[.agg #[.int .i64 a0_0, .int .i64 a0_1, .int .i64 a0_2, .slice A0_3 l0_3.length c0_3]] rfl qM ?_; (with_reducible refine (spec_filterImage.calls k a0_0 a0_1 a0_2 _ _ l0_3 t285 _ ?side1 ?side2 A2.out).mono ?_); (case side1 => exact qC (Kd.C_below HR0_3.out HB.out)); (case side2 => exact HC0_3.out); rintro e w10 ⟨v286, rfl, ho0, hb⟩; refine ⟨_, rfl, ?_⟩; have HO287 := aM (Kd.R_lower ho0 (below_size (qW HB.out))); replace BK284 := bB BK284 hb; replace HB := aM (below_step (qW HB.out) hb); (try clear hb); (try clear hb2); (try clear hk); (try clear hi); (try clear ho0); obtain ⟨Ao11, co11, eo11⟩ := Kd.R_slice HO287.out; subst eo11) | ((with_reducible refine gate_callee (f := 64) rfl ?_); refine goesL_ (some 8) rfl rfl Try.func64 (by kernel_rfl) rfl #[.slice Ao11 t285.length co11] rfl qM ?_; (with_reducible refine (spec_bestTokens.calls k _ _ t285 t288 _ ?side1 ?side2 A3.out).mono ?_); (case side1 => exact qC (Kd.R_reads' HO287.out).2.2); (case side2 => exact (Kd.R_reads' HO287.out).2.1); rintro e w12 ⟨v289, rfl, ho0, hb⟩; refine ⟨_, rfl, ?_⟩; replace HO287 := aM (Kd.R_below (qR HO287.out) hb); have HO290 := aM (Kd.R_lower ho0 (below_size (qW HB.out))); replace BK284 := bB BK284 hb; replace HB := aM (below_step (qW HB.out) hb); (try clear hb); (try clear hb2); (try clear hk); (try clear hi); (try clear ho0); obtain ⟨Ao13, co13, eo13⟩ := Kd.R_slice HO290.out; subst eo13) | ((with_reducible refine gate_callee (f := 63) rfl ?_); refine goesL_ (some 9) rfl rfl Try.func63 (by kernel_rfl) rfl #[.slice Ao13 t288.length co13] rfl qM ?_; (with_reducible refine (spec_packTokens.calls k _ _ t288 t291 _ ?side1 ?side2 A4.out).mono ?_); (case side1 => exact qC (Kd.R_reads' HO290.out).2.2); (case side2 => exact (Kd.R_reads' HO290.out).2.1); rintro e w14 ⟨v292, rfl, ho0, hb⟩; refine ⟨_, rfl, ?_⟩; replace HO290 := aM (Kd.R_below (qR HO290.out) hb); have HO293 := aM (Kd.R_lower (Kd.R_new' ho0 (Kd.R_lt (qR HO287.out))) (below_size (qW HB.out))); replace HO287 := aM (Kd.R_elder' (qR HO287.out) (Kd.R_base ho0) hb); replace BK284 := bB BK284 hb; replace HB := aM (below_step (qW HB.out) hb); (try clear hb); (try clear hb2); (try clear hk); (try clear hi); (try clear ho0); obtain ⟨hcz15_0, hcz15_1, hcz15_2, hcz15_3⟩ := cz4 BK284.out; obtain ⟨hfz15_0, hfz15_1, hfz15_2, hfz15_3⟩ := fz4 BK284.out) | ((with_reducible refine gate_dst (N := 16) rfl ?_); refine Kd.R_lit (Kd.int .i64) _ 3 ?hg (N := 16) ?hd (xs := ([112, 120, a0_0, a0_1, a0_2] : List Int)) (inner := [.int .i64 112, .int .i64 120, .int .i64 a0_0, .int .i64 a0_1, .int .i64 a0_2]) (ok := fun _ => True) (okp := fun _ => True) ?hr ?hp (fun _ hk => hk) trivial (Below.refl _ _) (Nat.le_refl _) (by simp) ?_; (case hd => rfl); (case hg => rfl); (case hr => first | (go_simp; done) | (go_simp; rfl)); (case hp => exact (Reps.one (show Kd.M (Kd.int .i64) _ _ _ 112 [.int .i64 112] from rfl) (Reps.one (show Kd.M (Kd.int .i64) _ _ _ 120 [.int .i64 120] from rfl) (Reps.one (show Kd.M (Kd.int .i64) _ _ _ a0_0 [.int .i64 a0_0] from rfl) (Reps.one (show Kd.M (Kd.int .i64) _ _ _ a0_1 [.int .i64 a0_1] from rfl) (Reps.one (show Kd.M (Kd.int .i64) _ _ _ a0_2 [.int .i64 a0_2] from rfl) (Reps.none _ _))))))); intro v295 w16 ho17 hb hg_ hnew_; clear hg_ hnew_; (first | rw [← Ny294.out] at ho17 | (simp only [Int.reduceToNat] at ho17; rw [← Ny294.out] at ho17)); replace HO290 := aM (Kd.R_below (qR HO290.out) hb); have HO296 := aM (Kd.R_lower (Kd.R_new' (Kd.R_new' ho17 (Kd.R_lt (qR HO287.out))) (Kd.R_lt (qR HO293.out))) (below_size (qW HB.out))); replace HO287 := aM (Kd.R_elder' (qR HO287.out) (Kd.R_base ho17) hb); replace HO293 := aM (Kd.R_elder' (qR HO293.out) (Kd.R_base ho17) hb); replace BK284 := bB BK284 hb; replace HB := aM (below_step (qW HB.out) hb); clear hb ho17; obtain ⟨Ao19, co19, eo19⟩ := Kd.R_slice HO293.out; subst eo19) | ((with_reducible refine gate_builtin (b := .append) (xs := #[.tmp 16, .tmp 17]) rfl ?_); at_builtin; refine Kd.R_append_rows (Kd.int .i64) (w0 := w) w.heap.size rfl (.tmp 16) (.tmp 17) 22 3 (.int .i64 0) 8 rfl Try.underlying22 info3 rfl (by decide) (by omega) v295 y294 t291 _ _ _ (fun k_ => some k_ ≠ (.slice Ao11 t285.length co11 : Value).ownBlock ∧ some k_ ≠ (.slice Ao19 t291.length co19 : Value).ownBlock) (fun _ => False) rfl rfl ?aO ?aR (fun _ _ h => h) (fun _ h => h.elim) ?aF ?aB ?aS ?aL ?_; (case aR => exact qC (Kd.R_reads' HO293.out).2.2); (case aB => exact (qW HB.out)); (case aF => exact (fun k_ hk => ⟨Kd.fresh' (Kd.R_lt (qR HO287.out)) k_ hk, Kd.fresh' (Kd.R_lt (qR HO293.out)) k_ hk⟩)); (case aO => exact (by refine qR ?_; exact Kd.R_mono HO296.out (fun _ hk => ⟨hk.1.2, hk.2⟩))); (case aS => exact (below_size (qW HB.out))); (case aL => have := LMc5.out; omega); intro v298 w18 ho hb hg hat; rw [← Ny297.out] at ho; replace BK284 := aM (blk_grown (g := gb284) (o := .cells #[.int .i64 a0_0, .int .i64 a0_1, .int .i64 a0_2, .slice A0_3 l0_3.length c0_3] 24 (0, 0)) (qB BK284.out) hg (Kd.R_ne HO296.out BK284.out (by decide))); replace HO287 := aM (Kd.R_after (ok := (fun k_ => some k_ ≠ (.slice Ao19 t291.length co19 : Value).ownBlock)) (by refine qR ?_; exact Kd.R_mono HO287.out (fun _ hk => ⟨hk.1.2, hk.2⟩)) hg hat); replace HO290 := aM (Kd.R_over' (qR HO290.out) (Kd.R_typed (qR HO296.out)) (by decide) hg); replace HO293 := aM (Kd.R_after (ok := (fun k_ => some k_ ≠ (.slice Ao11 t285.length co11 : Value).ownBlock)) (by refine qR ?_; exact Kd.R_mono HO293.out (fun _ hk => ⟨hk.1.2, hk.2⟩)) hg hat); replace HB := aM (hb); have HO299 := aM (ho); clear HO296; clear ho hb hg hat; obtain ⟨Ao20, co20, eo20⟩ := Kd.R_slice HO299.out; subst eo20) | ((with_reducible refine gate_callee (f := 65) rfl ?_); refine goesL_ (some 20) rfl rfl Try.func65 (by kernel_rfl) rfl #[.slice Ao20 y297.length co20] rfl qM ?_; (with_reducible refine (spec_adler.calls k _ _ y297 t300 _ ?side1 ?side2 A6.out).mono ?_); (case side1 => exact qC (Kd.R_reads' HO299.out).2.2); (case side2 => exact (Kd.R_reads' HO299.out).2.1); rintro e w' ⟨rfl, ⟨nd, rfl⟩⟩; refine ⟨_, rfl, ?_⟩) | ((with_reducible refine gate_dst (N := 26) rfl ?_); refine Kd.R_lit (Kd.int .i64) _ 3 ?hg (N := 26) ?hd (xs := ([wrap64 (Int.tdiv t300 256), Int.tmod t300 256] : List Int)) (inner := [.int .i64 (wrap64 (Int.tdiv t300 256)), .int .i64 (Int.tmod t300 256)]) (ok := fun _ => True) (okp := fun _ => True) ?hr ?hp (fun _ hk => hk) trivial (Below.refl _ _) (Nat.le_refl _) (by simp) ?_; (case hd => rfl); (case hg => rfl); (case hr => first | (go_simp; done) | (go_simp; rfl)); (case hp => exact (Reps.one (show Kd.M (Kd.int .i64) _ _ _ (wrap64 (Int.tdiv t300 256)) [.int .i64 (wrap64 (Int.tdiv t300 256))] from rfl) (Reps.one (show Kd.M (Kd.int .i64) _ _ _ (Int.tmod t300 256) [.int .i64 (Int.tmod t300 256)] from rfl) (Reps.none _ _)))); intro v302 w21 ho22 hb hg_ hnew_; clear hg_ hnew_; (first | rw [← Ny301.out] at ho22 | (simp only [Int.reduceToNat] at ho22; rw [← Ny301.out] at ho22)); replace HO290 := aM (Kd.R_below (qR HO290.out) hb); have HO303 := aM (Kd.R_lower (Kd.R_new' (Kd.R_new' (Kd.R_new' ho22 (Kd.R_lt (qR HO287.out))) (Kd.R_lt (qR HO293.out))) (Kd.R_lt (qR HO299.out))) (below_size (qW HB.out))); replace HO287 := aM (Kd.R_elder' (qR HO287.out) (Kd.R_base ho22) hb); replace HO293 := aM (Kd.R_elder' (qR HO293.out) (Kd.R_base ho22) hb); replace HO299 := aM (Kd.R_elder' (qR HO299.out) (Kd.R_base ho22) hb); replace BK284 := bB BK284 hb; replace HB := aM (below_step (qW HB.out) hb); clear hb ho22; obtain ⟨Ao24, co24, eo24⟩ := Kd.R_slice HO303.out; subst eo24) | ((with_reducible refine gate_builtin (b := .append) (xs := #[.tmp 21, .tmp 26]) rfl ?_); at_builtin; refine Kd.R_append_rows (Kd.int .i64) (w0 := w) w.heap.size rfl (.tmp 21) (.tmp 26) 22 3 (.int .i64 0) 8 rfl Try.underlying22 info3 rfl (by decide) (by omega) (.slice Ao20 y297.length co20) y297 y301 _ _ _ (fun k_ => some k_ ≠ (.slice Ao11 t285.length co11 : Value).ownBlock ∧ some k_ ≠ (.slice Ao19 t291.length co19 : Value).ownBlock ∧ some k_ ≠ (.slice Ao24 y301.length co24 : Value).ownBlock) (fun _ => False) rfl rfl ?aO ?aR (fun _ _ h => h) (fun _ h => h.elim) ?aF ?aB ?aS ?aL ?_; (case aR => exact qC (Kd.R_reads' HO303.out).2.2); (case aB => exact (qW HB.out)); (case aF => exact (fun k_ hk => ⟨Kd.fresh' (Kd.R_lt (qR HO287.out)) k_ hk, Kd.fresh' (Kd.R_lt (qR HO293.out)) k_ hk, Kd.fresh' (Kd.R_lt (qR HO303.out)) k_ hk⟩)); (case aO => exact (by refine qR ?_; exact Kd.R_mono HO299.out (fun _ hk => ⟨hk.1.1, ⟨hk.1.2, hk.2⟩⟩))); (case aS => exact (below_size (qW HB.out))); (case aL => have := LMc7.out; omega); intro v305 w23 ho hb hg hat; rw [← Ny304.out] at ho; replace BK284 := aM (blk_grown (g := gb284) (o := .cells #[.int .i64 a0_0, .int .i64 a0_1, .int .i64 a0_2, .slice A0_3 l0_3.length c0_3] 24 (0, 0)) (qB BK284.out) hg (Kd.R_ne HO299.out BK284.out (by decide))); replace HO287 := aM (Kd.R_after (ok := (fun k_ => some k_ ≠ (.slice Ao19 t291.length co19 : Value).ownBlock ∧ some k_ ≠ (.slice Ao24 y301.length co24 : Value).ownBlock)) (by refine qR ?_; exact Kd.R_mono HO287.out (fun _ hk => ⟨⟨hk.1.1, hk.2⟩, hk.1.2⟩)) hg hat); replace HO290 := aM (Kd.R_over' (qR HO290.out) (Kd.R_typed (qR HO299.out)) (by decide) hg); replace HO293 := aM (Kd.R_after (ok := (fun k_ => some k_ ≠ (.slice Ao11 t285.length co11 : Value).ownBlock ∧ some k_ ≠ (.slice Ao24 y301.length co24 : Value).ownBlock)) (by refine qR ?_; exact Kd.R_mono HO293.out (fun _ hk => ⟨⟨hk.1.1, hk.2⟩, hk.1.2⟩)) hg hat); replace HO303 := aM (Kd.R_after (ok := (fun k_ => some k_ ≠ (.slice Ao11 t285.length co11 : Value).ownBlock ∧ some k_ ≠ (.slice Ao19 t291.length co19 : Value).ownBlock)) (by refine qR ?_; exact Kd.R_mono HO303.out (fun _ hk => ⟨⟨hk.1.1.2, hk.1.2⟩, hk.2⟩)) hg hat); replace HB := aM (hb); have HO306 := aM (ho); clear HO299; clear ho hb hg hat))
 go_ret
 exact ⟨_, qX, by refine qR ?_; exact Kd.R_mono HO306.out (fun _ hk => trivial), by exact qW HB.out⟩

/-! ### impl_writeImage: function 46 -/
def impl_writeImage.l0 : Nat → List Int → List (S54) → Int → Int → Option (List Int × Bool)
 | 0, _, _, _, _ => none
 | k + 1, x4, x17, x18, x19 => if x19 < x18 then (if 0 ≤ x19 then (if x19 < (x17.length : Int) then (if ((rd_T54 x17 x19).f1) = 0 then ((some (([0, (rd_T54 x17 x19).f0] : List Int) : List Int)).bind fun y464 => (if x4.length + y464.length < 17592186044416 then (impl_writeImage.l0 k (x4 ++ y464) x17 x18 (wrap64 (x19 + 1))) else (none))) else ((some (([(rd_T54 x17 x19).f1, (rd_T54 x17 x19).f2] : List Int) : List Int)).bind fun y470 => (if x4.length + y470.length < 17592186044416 then (impl_writeImage.l0 k (x4 ++ y470) x17 x18 (wrap64 (x19 + 1))) else (none)))) else (none)) else (none)) else ((impl_checkOf.f k x4).bind fun t476 => ((some (([wrap64 (Int.tdiv t476 256), Int.tmod t476 256] : List Int) : List Int)).bind fun y477 => (if x4.length + y477.length < 17592186044416 then ((some (x4 ++ y477 : List Int)).bind fun y480 => (if (y480.length : Int) > 1200 then (some (([] : List Int), false)) else (some (y480, true)))) else (none))))
def impl_writeImage.f (k : Nat) (a0_0 : Int) (a0_1 : Int) (a0_2 : Int) (l0_3 : List Int) : Option (List Int × Bool) := (impl_filterImage.f k a0_0 a0_1 a0_2 l0_3).bind fun t456 => ((impl_bestTokens.f k t456).bind fun t459 => (impl_writeImage.l0 k (([112, 120, a0_0, a0_1, a0_2] : List Int)) t459 (t459.length : Int) 0))
theorem impl_writeImage.mono_l : ∀ k, (∀ y0 y1 y2 y3, LeO (impl_writeImage.l0 k y0 y1 y2 y3) (impl_writeImage.l0 (k + 1) y0 y1 y2 y3))
 | 0 => fun _ _ _ _ r h => by simp [impl_writeImage.l0] at h
 | k + 1 => by
  have ih0 := impl_writeImage.mono_l k
  ·
   intro y0 y1 y2 y3
   unfold impl_writeImage.l0
   repeat' first
   | (with_reducible exact ih0 _ _ _ _)
   | (with_reducible exact impl_bestTokens.mono _ _)
   | (with_reducible exact impl_checkOf.mono _ _)
   | (with_reducible exact impl_filterImage.mono _ _ _ _ _)
   | (with_reducible exact LeO.refl _)
   | (with_reducible exact LeO.none _)
   | (with_reducible refine LeO.ite ?_ ?_)
   | (with_reducible refine LeO.bind ?_ (fun _ => ?_))
   | exact ih0 _ _ _ _
   | exact impl_bestTokens.mono _ _
   | exact impl_checkOf.mono _ _
   | exact impl_filterImage.mono _ _ _ _ _
   | exact LeO.none _
   | refine LeO.ite ?_ ?_
   | refine LeO.bind ?_ (fun _ => ?_)
theorem impl_writeImage.mono : ∀ a0 a1 a2 a3 k, LeO (impl_writeImage.f k a0 a1 a2 a3) (impl_writeImage.f (k + 1) a0 a1 a2 a3) := by
 intro a0 a1 a2 a3 k
 have ih0 := impl_writeImage.mono_l k
 unfold impl_writeImage.f
 repeat' first
   | (with_reducible exact ih0 _ _ _ _)
   | (with_reducible exact impl_bestTokens.mono _ _)
   | (with_reducible exact impl_checkOf.mono _ _)
   | (with_reducible exact impl_filterImage.mono _ _ _ _ _)
   | (with_reducible exact LeO.refl _)
   | (with_reducible exact LeO.none _)
   | (with_reducible refine LeO.ite ?_ ?_)
   | (with_reducible refine LeO.bind ?_ (fun _ => ?_))
   | exact ih0 _ _ _ _
   | exact impl_bestTokens.mono _ _
   | exact impl_checkOf.mono _ _
   | exact impl_filterImage.mono _ _ _ _ _
   | exact LeO.none _
   | refine LeO.ite ?_ ?_
   | refine LeO.bind ?_ (fun _ => ?_)
set_option maxHeartbeats 8000000 in
set_option maxRecDepth 100000 in
theorem impl_writeImage.calls (k : Nat) (a0_0 : Int) (a0_1 : Int) (a0_2 : Int) (A0_3 : Option Addr) (c0_3 : Nat) (l0_3 : List Int) (r1 : List Int) (r2 : Bool) (w : World) (hr0_3 : Kd.C (Kd.int .i64) w A0_3 l0_3.length l0_3) (hc0_3 : l0_3.length ≤ c0_3) (h : impl_writeImage.f k a0_0 a0_1 a0_2 l0_3 = some (r1, r2)) :
  Calls Try.prog 46 #[.agg #[.int .i64 a0_0, .int .i64 a0_1, .int .i64 a0_2, .slice A0_3 l0_3.length c0_3]] w fun e w' => ∃ v0_ : Value, e = .returned (.tuple #[v0_, .bool r2]) ∧ Kd.R (Kd.int .i64) 3 w' w.heap.size (fun _ => True) v0_ r1 ∧ Below w.heap.size w w' := by
 have hu24 := Try.underlying24
 have hu54 := Try.underlying54
 have HR0_3 := aM hr0_3
 have HC0_3 := aM hc0_3
 clear hr0_3 hc0_3
 have HB := aM (Below.refl w.heap.size w)
 have H : ((impl_filterImage.f k a0_0 a0_1 a0_2 l0_3).bind fun t456 => ((impl_bestTokens.f k t456).bind fun t459 => (impl_writeImage.l0 k (([112, 120, a0_0, a0_1, a0_2] : List Int)) t459 (t459.length : Int) 0))) = some (r1, r2) := h
 clear h
 obtain ⟨y453, hy453⟩ : ∃ y_ : List Int, y_ = (([112, 120, a0_0, a0_1, a0_2] : List Int)) := ⟨_, rfl⟩
 replace H : ((impl_filterImage.f k a0_0 a0_1 a0_2 l0_3).bind fun t456 => ((impl_bestTokens.f k t456).bind fun t459 => (impl_writeImage.l0 k y453 t459 (t459.length : Int) 0))) = some (r1, r2) := rY hy453 H
 have Ny453 := aM hy453
 clear hy453
 replace H := Option.bind_eq_some_iff.mp H
 obtain ⟨t456, A20, H⟩ := H
 replace H : ((impl_bestTokens.f k t456).bind fun t459 => (impl_writeImage.l0 k y453 t459 (t459.length : Int) 0)) = some (r1, r2) := H
 have A2 := aM A20
 clear A20
 replace H := Option.bind_eq_some_iff.mp H
 obtain ⟨t459, A30, H⟩ := H
 replace H : (impl_writeImage.l0 k y453 t459 (t459.length : Int) 0) = some (r1, r2) := H
 have A3 := aM A30
 clear A30
 have H' := aM H
 clear H
 go_enter Try.func46, Try.ntmps46
 go_wp2_with (first | ((with_reducible refine gate_dst (N := 1) rfl ?_); refine box_event ?hg (N := 1) ?hd (cs := #[.int .i64 a0_0, .int .i64 a0_1, .int .i64 a0_2, .slice A0_3 l0_3.length c0_3]) (t := 24) ?hr ?_; (case hd => rfl); (case hg => rfl); (case hr => first | (go_simp; done) | (go_simp; rfl)); intro gb452 hg w4 hbox hb; have BK452 := aM (hbox); have GW452 := aM ((by rw [hg]; exact (below_size (qW HB.out)) : w.heap.size ≤ gb452)); have GE452 := aM ((by rw [hg]; exact (below_size (qW HB.out)) : w.heap.size ≤ gb452)); replace HB := aM (below_step (qW HB.out) hb); clear hb hbox hg; obtain ⟨hcz5_0, hcz5_1, hcz5_2, hcz5_3⟩ := cz4 BK452.out; obtain ⟨hfz5_0, hfz5_1, hfz5_2, hfz5_3⟩ := fz4 BK452.out) | ((with_reducible refine gate_dst (N := 14) rfl ?_); refine Kd.R_lit (Kd.int .i64) _ 3 ?hg (N := 14) ?hd (xs := ([112, 120, a0_0, a0_1, a0_2] : List Int)) (inner := [.int .i64 112, .int .i64 120, .int .i64 a0_0, .int .i64 a0_1, .int .i64 a0_2]) (ok := fun _ => True) (okp := fun _ => True) ?hr ?hp (fun _ hk => hk) trivial (Below.refl _ _) (Nat.le_refl _) (by simp) ?_; (case hd => rfl); (case hg => rfl); (case hr => first | (go_simp; done) | (go_simp; rfl)); (case hp => exact (Reps.one (show Kd.M (Kd.int .i64) _ _ _ 112 [.int .i64 112] from rfl) (Reps.one (show Kd.M (Kd.int .i64) _ _ _ 120 [.int .i64 120] from rfl) (Reps.one (show Kd.M (Kd.int .i64) _ _ _ a0_0 [.int .i64 a0_0] from rfl) (Reps.one (show Kd.M (Kd.int .i64) _ _ _ a0_1 [.int .i64 a0_1] from rfl) (Reps.one (show Kd.M (Kd.int .i64) _ _ _ a0_2 [.int .i64 a0_2] from rfl) (Reps.none _ _))))))); intro v454 w6 ho7 hb hg_ hnew_; clear hg_ hnew_; (first | rw [← Ny453.out] at ho7 | (simp only [Int.reduceToNat] at ho7; rw [← Ny453.out] at ho7)); have HO455 := aM (Kd.R_lower ho7 (below_size (qW HB.out))); replace BK452 := bB BK452 hb; replace HB := aM (below_step (qW HB.out) hb); clear hb ho7; obtain ⟨hcz8_0, hcz8_1, hcz8_2, hcz8_3⟩ := cz4 BK452.out; obtain ⟨hfz8_0, hfz8_1, hfz8_2, hfz8_3⟩ := fz4 BK452.out) | ((with_reducible refine gate_callee (f := 56) rfl ?_); refine goesL_ (some 16) rfl rfl Try.func56 (by kernel_rfl) rfl #[.agg #[.int .i64 a0_0, .int .i64 a0_1, .int .i64 a0_2, .slice A0_3 l0_3.length c0_3]] rfl qM ?_; (with_reducible refine (impl_filterImage.calls k a0_0 a0_1 a0_2 (fun k_ => k_ < w.heap.size) _ _ l0_3 t456 _ ?side1 A2.out).mono ?_); (case side1 => exact Kd.V_mk HC0_3.out (Kd.F_below (Kd.C_F (Kd.heap_int .i64) HR0_3.out) (qW HB.out))); rintro e w9 ⟨v457, rfl, ho0, hb⟩; refine ⟨_, rfl, ?_⟩; have HO458 := aM (Kd.R_lower (Kd.R_new' (Kd.R_mono (ok' := fun k_ => True) ho0 (fun _ hk_ => trivial)) (Kd.R_lt (qR HO455.out))) (below_size (qW HB.out))); replace HO455 := aM (Kd.R_elder' (qR HO455.out) (Kd.R_base ho0) hb); replace BK452 := bB BK452 hb; replace HB := aM (below_step (qW HB.out) hb); (try clear hb); (try clear hb2); (try clear hk); (try clear hi); (try clear ho0); obtain ⟨Ao10, co10, eo10⟩ := Kd.R_slice HO458.out; subst eo10) | ((with_reducible refine gate_callee (f := 69) rfl ?_); refine goesL_ (some 17) rfl rfl Try.func69 (by kernel_rfl) rfl #[.slice Ao10 t456.length co10] rfl qM ?_; (with_reducible refine (impl_bestTokens.calls k _ _ t456 t459 _ ?side1 ?side2 A3.out).mono ?_); (case side1 => exact qC (Kd.R_reads' HO458.out).2.2); (case side2 => exact (Kd.R_reads' HO458.out).2.1); rintro e w11 ⟨v460, rfl, ho0, hb⟩; refine ⟨_, rfl, ?_⟩; replace HO455 := aM (Kd.R_below (qR HO455.out) hb); replace HO458 := aM (Kd.R_below (qR HO458.out) hb); have HO461 := aM (Kd.R_lower ho0 (below_size (qW HB.out))); replace BK452 := bB BK452 hb; replace HB := aM (below_step (qW HB.out) hb); (try clear hb); (try clear hb2); (try clear hk); (try clear hi); (try clear ho0); obtain ⟨Ao12, co12, eo12⟩ := Kd.R_slice HO461.out; subst eo12))
 go_loopg [4, 19] k (fun kq v4 v19 w' => ∃ (x4_1 : List Int) (x19_1 : Int), v19 = .int .i64 x19_1 ∧ Aside0 (impl_writeImage.l0 kq x4_1 t459 (t459.length : Int) x19_1 = some (r1, r2)) ∧ Aside0 (kq ≤ k) ∧ Aside0 (Kd.R (Kd.int .i64) 3 w' w.heap.size (fun _ => True) v4 x4_1) ∧ Aside0 (Kd.R k54 54 w' w.heap.size (fun _ => True) (.slice Ao12 t459.length co12) t459) ∧ Aside0 (w'.heap[gb452]? = some (.cells #[.int .i64 a0_0, .int .i64 a0_1, .int .i64 a0_2, (.slice A0_3 l0_3.length c0_3)] 24 (0, 0))) ∧ Aside0 (Below w.heap.size w w'))
 case atStart => exact ⟨(y453), (0), qE, H', ⟨Nat.le_refl _⟩, ⟨by refine qR ?_; exact Kd.R_mono HO455.out (fun _ hk => trivial)⟩, ⟨by refine qR ?_; exact HO461.out⟩, ⟨by refine qB ?_; exact BK452.out⟩, ⟨by exact qW HB.out⟩⟩
 case round =>
  clear H'
  try clear p2
  try clear c4
  try clear c5
  try clear c6
  try clear hcz5_0 hcz5_1 hcz5_2 hcz5_3 hfz5_0 hfz5_1 hfz5_2 hfz5_3
  try clear hcz8_0 hcz8_1 hcz8_2 hcz8_3 hfz8_0 hfz8_1 hfz8_2 hfz8_3
  obtain ⟨x4_1, x19_1, rfl, HA, HK1, HO_4, HO_17, BK452, HB⟩ := hrel
  cases gk with
  | zero => exact absurd HA.out (by simp [impl_writeImage.l0])
  | succ k1 =>
   have H := HA.out
   clear HA
   simp only [impl_writeImage.l0] at H
   by_cases c13 : x19_1 < (t459.length : Int)
   rotate_left
   ·
    rw [if_neg c13] at H
    have c13b0 : decide (x19_1 < (t459.length : Int)) = false := decide_eq_false c13
    clear c13
    replace H := Option.bind_eq_some_iff.mp H
    obtain ⟨t476, A330, H⟩ := H
    replace H : ((some (([wrap64 (Int.tdiv t476 256), Int.tmod t476 256] : List Int) : List Int)).bind fun y477 => (if x4_1.length + y477.length < 17592186044416 then ((some (x4_1 ++ y477 : List Int)).bind fun y480 => (if (y480.length : Int) > 1200 then (some (([] : List Int), false)) else (some (y480, true)))) else (none))) = some (r1, r2) := H
    have A33 := aM A330
    clear A330
    obtain ⟨y477, hy477⟩ : ∃ y_ : List Int, y_ = (([wrap64 (Int.tdiv t476 256), Int.tmod t476 256] : List Int)) := ⟨_, rfl⟩
    replace H : (if x4_1.length + y477.length < 17592186044416 then ((some (x4_1 ++ y477 : List Int)).bind fun y480 => (if (y480.length : Int) > 1200 then (some (([] : List Int), false)) else (some (y480, true)))) else (none)) = some (r1, r2) := rY hy477 H
    have Ny477 := aM hy477
    clear hy477
    by_cases c34 : x4_1.length + y477.length < 17592186044416
    rotate_left
    ·
     rw [if_neg c34] at H
     exact absurd H (by simp)
    rw [if_pos c34] at H
    have LMc34 := aM c34
    clear c34
    obtain ⟨y480, hy480⟩ : ∃ y_ : List Int, y_ = (x4_1 ++ y477) := ⟨_, rfl⟩
    replace H : (if (y480.length : Int) > 1200 then (some (([] : List Int), false)) else (some (y480, true))) = some (r1, r2) := rY hy480 H
    have Ny480 := aM hy480
    clear hy480
    by_cases c35 : (y480.length : Int) > 1200
    rotate_left
    ·
     rw [if_neg c35] at H
     have c35b0 : decide (1200 < (y480.length : Int)) = false := decide_eq_false c35
     have c35b1 : decide (1200 < y480.length) = false := decide_eq_false (by omega)
     clear c35
     simp only [Option.some.injEq, Prod.mk.injEq] at H
     obtain ⟨rfl, rfl⟩ := H
     obtain ⟨Ao42, co42, eo42⟩ := Kd.R_slice HO_4.out
     subst eo42
     go_wp2_with (first | ((with_reducible refine gate_callee (f := 70) rfl ?_); refine goesL_ (some 40) rfl rfl Try.func70 (by kernel_rfl) rfl #[.slice Ao42 x4_1.length co42] rfl qM ?_; (with_reducible refine (impl_checkOf.calls k1 _ _ x4_1 t476 _ ?side1 ?side2 A33.out).mono ?_); (case side1 => exact qC (Kd.R_reads' HO_4.out).2.2); (case side2 => exact (Kd.R_reads' HO_4.out).2.1); rintro e w' ⟨rfl, ⟨nd, rfl⟩⟩; refine ⟨_, rfl, ?_⟩) | ((with_reducible refine gate_dst (N := 46) rfl ?_); refine Kd.R_lit (Kd.int .i64) _ 3 ?hg (N := 46) ?hd (xs := ([wrap64 (Int.tdiv t476 256), Int.tmod t476 256] : List Int)) (inner := [.int .i64 (wrap64 (Int.tdiv t476 256)), .int .i64 (Int.tmod t476 256)]) (ok := fun _ => True) (okp := fun _ => True) ?hr ?hp (fun _ hk => hk) trivial (Below.refl _ _) (Nat.le_refl _) (by simp) ?_; (case hd => rfl); (case hg => rfl); (case hr => first | (go_simp; done) | (go_simp; rfl)); (case hp => exact (Reps.one (show Kd.M (Kd.int .i64) _ _ _ (wrap64 (Int.tdiv t476 256)) [.int .i64 (wrap64 (Int.tdiv t476 256))] from rfl) (Reps.one (show Kd.M (Kd.int .i64) _ _ _ (Int.tmod t476 256) [.int .i64 (Int.tmod t476 256)] from rfl) (Reps.none _ _)))); intro v478 w43 ho44 hb hg_ hnew_; clear hg_ hnew_; (first | rw [← Ny477.out] at ho44 | (simp only [Int.reduceToNat] at ho44; rw [← Ny477.out] at ho44)); replace HO_17 := aM (Kd.R_below (qR HO_17.out) hb); have HO479 := aM (Kd.R_lower (Kd.R_new' ho44 (Kd.R_lt (qR HO_4.out))) (below_size (qW HB.out))); replace HO_4 := aM (Kd.R_elder' (qR HO_4.out) (Kd.R_base ho44) hb); replace BK452 := bB BK452 hb; replace HB := aM (below_step (qW HB.out) hb); clear hb ho44; obtain ⟨Ao46, co46, eo46⟩ := Kd.R_slice HO479.out; subst eo46) | ((with_reducible refine gate_builtin (b := .append) (xs := #[.tmp 41, .tmp 46]) rfl ?_); at_builtin; refine Kd.R_append_rows (Kd.int .i64) (w0 := w) w.heap.size rfl (.tmp 41) (.tmp 46) 22 3 (.int .i64 0) 8 rfl Try.underlying22 info3 rfl (by decide) (by omega) (.slice Ao42 x4_1.length co42) x4_1 y477 _ _ _ (fun k_ => some k_ ≠ (.slice Ao46 y477.length co46 : Value).ownBlock) (fun _ => False) rfl rfl ?aO ?aR (fun _ _ h => h) (fun _ h => h.elim) ?aF ?aB ?aS ?aL ?_; (case aR => exact qC (Kd.R_reads' HO479.out).2.2); (case aB => exact (qW HB.out)); (case aF => exact (fun k_ hk => Kd.fresh' (Kd.R_lt (qR HO479.out)) k_ hk)); (case aO => exact (by refine qR ?_; exact Kd.R_mono HO_4.out (fun _ hk => hk.2))); (case aS => exact (below_size (qW HB.out))); (case aL => have := LMc34.out; omega); intro v481 w45 ho hb hg hat; rw [← Ny480.out] at ho; replace HO_17 := aM (Kd.R_over' (qR HO_17.out) (Kd.R_typed (qR HO_4.out)) (by decide) hg); replace BK452 := aM (blk_grown (g := gb452) (o := .cells #[.int .i64 a0_0, .int .i64 a0_1, .int .i64 a0_2, .slice A0_3 l0_3.length c0_3] 24 (0, 0)) (qB BK452.out) hg (Kd.R_ne HO_4.out BK452.out (by decide))); replace HO479 := aM (Kd.R_after (ok := (fun _ => True)) (qR HO479.out) hg hat); replace HB := aM (hb); have HO482 := aM (ho); clear HO_4; clear ho hb hg hat; obtain ⟨Ao47, co47, eo47⟩ := Kd.R_slice HO482.out; subst eo47))
     go_ret2
     exact ⟨_, qX, by refine qR ?_; exact Kd.R_mono HO482.out (fun _ hk => trivial), by exact qW HB.out⟩
    rw [if_pos c35] at H
    have c35b0 : decide (1200 < (y480.length : Int)) = true := decide_eq_true c35
    have c35b1 : decide (1200 < y480.length) = true := decide_eq_true (by omega)
    clear c35
    simp only [Option.some.injEq, Prod.mk.injEq] at H
    obtain ⟨rfl, rfl⟩ := H
    obtain ⟨Ao36, co36, eo36⟩ := Kd.R_slice HO_4.out
    subst eo36
    go_wp2_with (first | ((with_reducible refine gate_callee (f := 70) rfl ?_); refine goesL_ (some 40) rfl rfl Try.func70 (by kernel_rfl) rfl #[.slice Ao36 x4_1.length co36] rfl qM ?_; (with_reducible refine (impl_checkOf.calls k1 _ _ x4_1 t476 _ ?side1 ?side2 A33.out).mono ?_); (case side1 => exact qC (Kd.R_reads' HO_4.out).2.2); (case side2 => exact (Kd.R_reads' HO_4.out).2.1); rintro e w' ⟨rfl, ⟨nd, rfl⟩⟩; refine ⟨_, rfl, ?_⟩) | ((with_reducible refine gate_dst (N := 46) rfl ?_); refine Kd.R_lit (Kd.int .i64) _ 3 ?hg (N := 46) ?hd (xs := ([wrap64 (Int.tdiv t476 256), Int.tmod t476 256] : List Int)) (inner := [.int .i64 (wrap64 (Int.tdiv t476 256)), .int .i64 (Int.tmod t476 256)]) (ok := fun _ => True) (okp := fun _ => True) ?hr ?hp (fun _ hk => hk) trivial (Below.refl _ _) (Nat.le_refl _) (by simp) ?_; (case hd => rfl); (case hg => rfl); (case hr => first | (go_simp; done) | (go_simp; rfl)); (case hp => exact (Reps.one (show Kd.M (Kd.int .i64) _ _ _ (wrap64 (Int.tdiv t476 256)) [.int .i64 (wrap64 (Int.tdiv t476 256))] from rfl) (Reps.one (show Kd.M (Kd.int .i64) _ _ _ (Int.tmod t476 256) [.int .i64 (Int.tmod t476 256)] from rfl) (Reps.none _ _)))); intro v478 w37 ho38 hb hg_ hnew_; clear hg_ hnew_; (first | rw [← Ny477.out] at ho38 | (simp only [Int.reduceToNat] at ho38; rw [← Ny477.out] at ho38)); replace HO_17 := aM (Kd.R_below (qR HO_17.out) hb); have HO479 := aM (Kd.R_lower (Kd.R_new' ho38 (Kd.R_lt (qR HO_4.out))) (below_size (qW HB.out))); replace HO_4 := aM (Kd.R_elder' (qR HO_4.out) (Kd.R_base ho38) hb); replace BK452 := bB BK452 hb; replace HB := aM (below_step (qW HB.out) hb); clear hb ho38; obtain ⟨Ao40, co40, eo40⟩ := Kd.R_slice HO479.out; subst eo40) | ((with_reducible refine gate_builtin (b := .append) (xs := #[.tmp 41, .tmp 46]) rfl ?_); at_builtin; refine Kd.R_append_rows (Kd.int .i64) (w0 := w) w.heap.size rfl (.tmp 41) (.tmp 46) 22 3 (.int .i64 0) 8 rfl Try.underlying22 info3 rfl (by decide) (by omega) (.slice Ao36 x4_1.length co36) x4_1 y477 _ _ _ (fun k_ => some k_ ≠ (.slice Ao40 y477.length co40 : Value).ownBlock) (fun _ => False) rfl rfl ?aO ?aR (fun _ _ h => h) (fun _ h => h.elim) ?aF ?aB ?aS ?aL ?_; (case aR => exact qC (Kd.R_reads' HO479.out).2.2); (case aB => exact (qW HB.out)); (case aF => exact (fun k_ hk => Kd.fresh' (Kd.R_lt (qR HO479.out)) k_ hk)); (case aO => exact (by refine qR ?_; exact Kd.R_mono HO_4.out (fun _ hk => hk.2))); (case aS => exact (below_size (qW HB.out))); (case aL => have := LMc34.out; omega); intro v481 w39 ho hb hg hat; rw [← Ny480.out] at ho; replace HO_17 := aM (Kd.R_over' (qR HO_17.out) (Kd.R_typed (qR HO_4.out)) (by decide) hg); replace BK452 := aM (blk_grown (g := gb452) (o := .cells #[.int .i64 a0_0, .int .i64 a0_1, .int .i64 a0_2, .slice A0_3 l0_3.length c0_3] 24 (0, 0)) (qB BK452.out) hg (Kd.R_ne HO_4.out BK452.out (by decide))); replace HO479 := aM (Kd.R_after (ok := (fun _ => True)) (qR HO479.out) hg hat); replace HB := aM (hb); have HO482 := aM (ho); clear HO_4; clear ho hb hg hat; obtain ⟨Ao41, co41, eo41⟩ := Kd.R_slice HO482.out; subst eo41))
    go_ret2
    exact ⟨_, qX, qN, by exact qW HB.out⟩
   rw [if_pos c13] at H
   have c13b0 : decide (x19_1 < (t459.length : Int)) = true := decide_eq_true c13
   clear c13
   by_cases c14 : 0 ≤ x19_1
   rotate_left
   ·
    rw [if_neg c14] at H
    exact absurd H (by simp)
   rw [if_pos c14] at H
   have c14b0 : decide (0 ≤ x19_1) = true := decide_eq_true c14
   clear c14
   by_cases c15 : x19_1 < (t459.length : Int)
   rotate_left
   ·
    rw [if_neg c15] at H
    exact absurd H (by simp)
   rw [if_pos c15] at H
   have c15b0 : decide (x19_1 < (t459.length : Int)) = true := decide_eq_true c15
   clear c15
   by_cases c16 : ((rd_T54 t459 x19_1).f1) = 0
   ·
    rw [if_pos c16] at H
    have c16b0 : (((rd_T54 t459 x19_1).f1) == 0) = true := beq_iff_eq.mpr c16
    have c16b1 : (((rd_T54 t459 x19_1).f1) != 0) = false := bne_eq_false_iff_eq.mpr c16
    clear c16
    obtain ⟨y464, hy464⟩ : ∃ y_ : List Int, y_ = (([0, (rd_T54 t459 x19_1).f0] : List Int)) := ⟨_, rfl⟩
    replace H : (if x4_1.length + y464.length < 17592186044416 then (impl_writeImage.l0 k1 (x4_1 ++ y464) t459 (t459.length : Int) (wrap64 (x19_1 + 1))) else (none)) = some (r1, r2) := rY hy464 H
    have Ny464 := aM hy464
    clear hy464
    by_cases c17 : x4_1.length + y464.length < 17592186044416
    rotate_left
    ·
     rw [if_neg c17] at H
     exact absurd H (by simp)
    rw [if_pos c17] at H
    have LMc17 := aM c17
    clear c17
    obtain ⟨y467, hy467⟩ : ∃ y_ : List Int, y_ = (x4_1 ++ y464) := ⟨_, rfl⟩
    replace H : (impl_writeImage.l0 k1 y467 t459 (t459.length : Int) (wrap64 (x19_1 + 1))) = some (r1, r2) := rY hy467 H
    have Ny467 := aM hy467
    clear hy467
    have H' := aM H
    clear H
    have p462 : 0 ≤ (x19_1 : Int) := oD
    have q462 : x19_1 < (t459.length : Int) := oD
    obtain ⟨ad462, e462, hx462_0, hx462_1, hx462_2⟩ := at_T54 (Kd.R_reads' HO_17.out).2.2 x19_1 p462 q462
    cases e462
    replace p462 := eq_true p462
    replace q462 := eq_true q462
    go_wp2_with (first | ((with_reducible refine gate_dst (N := 6) rfl ?_); refine box_event ?hg (N := 6) ?hd (cs := #[.int .i64 0, .int .i64 0, .int .i64 0]) (t := 54) ?hr ?_; (case hd => rfl); (case hg => rfl); (case hr => first | (go_simp; done) | (go_simp; rfl)); intro gb463 hg w18 hbox hb; replace HO_4 := aM (Kd.R_below (qR HO_4.out) hb); replace HO_17 := aM (Kd.R_below (Kd.R_elderB (qR HO_17.out) gb463 (Nat.le_of_eq hg.symm)) hb); have BK463 := aM (hbox); have GW463 := aM ((by rw [hg]; exact (below_size (qW HB.out)) : w.heap.size ≤ gb463)); have GE463 := aM ((by rw [hg]; exact (below_size (qW HB.out)) : w.heap.size ≤ gb463)); replace HB := aM (below_step (qW HB.out) hb); have NB452_463 := aM ((by rw [hg]; exact Nat.ne_of_lt (blk_lt (g := gb452) (o := .cells #[.int .i64 a0_0, .int .i64 a0_1, .int .i64 a0_2, .slice A0_3 l0_3.length c0_3] 24 (0, 0)) (qB BK452.out)) : gb452 ≠ gb463)); have NB463_452 := aM ((by rw [hg]; exact Nat.ne_of_gt (blk_lt (g := gb452) (o := .cells #[.int .i64 a0_0, .int .i64 a0_1, .int .i64 a0_2, .slice A0_3 l0_3.length c0_3] 24 (0, 0)) (qB BK452.out)) : gb463 ≠ gb452)); replace BK452 := bB BK452 hb; clear hb hbox hg; have hnb19 := NB463_452.out; have hnc19 := NB452_463.out; obtain ⟨hcz20_0, hcz20_1, hcz20_2⟩ := cz3 BK463.out; obtain ⟨hfz20_0, hfz20_1, hfz20_2⟩ := fz3 BK463.out) | ((with_reducible refine gate_dst (N := 29) rfl ?_); refine Kd.R_lit (Kd.int .i64) _ 3 ?hg (N := 29) ?hd (xs := ([0, (rd_T54 t459 x19_1).f0] : List Int)) (inner := [.int .i64 0, .int .i64 ((rd_T54 t459 x19_1).f0)]) (ok := fun _ => True) (okp := fun _ => True) ?hr ?hp (fun _ hk => hk) trivial (Below.refl _ _) (Nat.le_refl _) (by simp) ?_; (case hd => rfl); (case hg => rfl); (case hr => first | (go_simp; done) | (go_simp; rfl)); (case hp => exact (Reps.one (show Kd.M (Kd.int .i64) _ _ _ 0 [.int .i64 0] from rfl) (Reps.one (show Kd.M (Kd.int .i64) _ _ _ ((rd_T54 t459 x19_1).f0) [.int .i64 ((rd_T54 t459 x19_1).f0)] from rfl) (Reps.none _ _)))); intro v465 w21 ho22 hb hg_ hnew_; clear hg_ hnew_; (first | rw [← Ny464.out] at ho22 | (simp only [Int.reduceToNat] at ho22; rw [← Ny464.out] at ho22)); replace HO_17 := aM (Kd.R_below (by refine qR ?_; exact (Kd.R_mono (Kd.R_far (p := ⟨gb463, 2, none⟩) (Kd.R_far (p := ⟨gb463, 1, none⟩) (Kd.R_far (p := ⟨gb463, 0, none⟩) (Kd.R_mono HO_17.out (fun k_ hk => (⟨hk, hk.2⟩ : _ ∧ k_ ≠ gb463))) (fun _ hk => hk.2) (.int .i64 ((rd_T54 t459 x19_1).f0))) (fun _ hk => hk.2) (.int .i64 ((rd_T54 t459 x19_1).f1))) (fun _ hk => hk.2) (.int .i64 ((rd_T54 t459 x19_1).f2))) (fun _ h_ => h_.1))) hb); have HO466 := aM (Kd.R_lower (Kd.R_new' ho22 (Kd.R_lt (by refine qR ?_; exact (Kd.R_mono (Kd.R_far (p := ⟨gb463, 2, none⟩) (Kd.R_far (p := ⟨gb463, 1, none⟩) (Kd.R_far (p := ⟨gb463, 0, none⟩) (Kd.R_types HO_4.out BK463.out (by decide)) (fun _ hk => hk.2) (.int .i64 ((rd_T54 t459 x19_1).f0))) (fun _ hk => hk.2) (.int .i64 ((rd_T54 t459 x19_1).f1))) (fun _ hk => hk.2) (.int .i64 ((rd_T54 t459 x19_1).f2))) (fun _ h_ => h_.1))))) (below_size (qW HB.out))); replace HO_4 := aM (Kd.R_elder' (by refine qR ?_; exact (Kd.R_mono (Kd.R_far (p := ⟨gb463, 2, none⟩) (Kd.R_far (p := ⟨gb463, 1, none⟩) (Kd.R_far (p := ⟨gb463, 0, none⟩) (Kd.R_types HO_4.out BK463.out (by decide)) (fun _ hk => hk.2) (.int .i64 ((rd_T54 t459 x19_1).f0))) (fun _ hk => hk.2) (.int .i64 ((rd_T54 t459 x19_1).f1))) (fun _ hk => hk.2) (.int .i64 ((rd_T54 t459 x19_1).f2))) (fun _ h_ => h_.1))) (Kd.R_base ho22) hb); replace BK452 := aM (blk_below (g := gb452) (o := .cells #[.int .i64 a0_0, .int .i64 a0_1, .int .i64 a0_2, .slice A0_3 l0_3.length c0_3] 24 (0, 0)) (by refine qB ?_; refine blk_far ?_ NB452_463.out _; refine qB ?_; refine blk_far ?_ NB452_463.out _; refine qB ?_; refine blk_far ?_ NB452_463.out _; refine qB ?_; exact BK452.out) hb); replace BK463 := aM (blk_below (g := gb463) (o := .cells #[.int .i64 ((rd_T54 t459 x19_1).f0), .int .i64 ((rd_T54 t459 x19_1).f1), .int .i64 ((rd_T54 t459 x19_1).f2)] 54 (0, 0)) (by refine qB ?_; refine blk_put (cs := #[.int .i64 ((rd_T54 t459 x19_1).f0), .int .i64 ((rd_T54 t459 x19_1).f1), .int .i64 0]) ?_ 2 _ rfl; refine qB ?_; refine blk_put (cs := #[.int .i64 ((rd_T54 t459 x19_1).f0), .int .i64 0, .int .i64 0]) ?_ 1 _ rfl; refine qB ?_; refine blk_put (cs := #[.int .i64 0, .int .i64 0, .int .i64 0]) ?_ 0 _ rfl; refine qB ?_; exact BK463.out) hb); replace HB := aM (below_step (qW HB.out) hb); clear hb ho22; obtain ⟨Ao24, co24, eo24⟩ := Kd.R_slice HO466.out; subst eo24) | ((with_reducible refine gate_builtin (b := .append) (xs := #[.tmp 26, .tmp 29]) rfl ?_); at_builtin; refine Kd.R_append_rows (Kd.int .i64) (w0 := w) w.heap.size rfl (.tmp 26) (.tmp 29) 22 3 (.int .i64 0) 8 rfl Try.underlying22 info3 rfl (by decide) (by omega) u4 x4_1 y464 _ _ _ (fun k_ => some k_ ≠ (.slice Ao24 y464.length co24 : Value).ownBlock) (fun _ => False) rfl rfl ?aO ?aR (fun _ _ h => h) (fun _ h => h.elim) ?aF ?aB ?aS ?aL ?_; (case aR => exact qC (Kd.R_reads' HO466.out).2.2); (case aB => exact (qW HB.out)); (case aF => exact (fun k_ hk => Kd.fresh' (Kd.R_lt (qR HO466.out)) k_ hk)); (case aO => exact (by refine qR ?_; exact Kd.R_mono HO_4.out (fun _ hk => hk.2))); (case aS => exact (below_size (qW HB.out))); (case aL => have := LMc17.out; omega); intro v468 w23 ho hb hg hat; rw [← Ny467.out] at ho; replace HO_17 := aM (Kd.R_over' (qR HO_17.out) (Kd.R_typed (qR HO_4.out)) (by decide) hg); replace BK452 := aM (blk_grown (g := gb452) (o := .cells #[.int .i64 a0_0, .int .i64 a0_1, .int .i64 a0_2, .slice A0_3 l0_3.length c0_3] 24 (0, 0)) (qB BK452.out) hg (Kd.R_ne HO_4.out BK452.out (by decide))); replace BK463 := aM (blk_grown (g := gb463) (o := .cells #[.int .i64 ((rd_T54 t459 x19_1).f0), .int .i64 ((rd_T54 t459 x19_1).f1), .int .i64 ((rd_T54 t459 x19_1).f2)] 54 (0, 0)) (qB BK463.out) hg (Kd.R_ne HO_4.out BK463.out (by decide))); replace HO466 := aM (Kd.R_after (ok := (fun _ => True)) (qR HO466.out) hg hat); replace HB := aM (hb); have HO469 := aM (ho); clear HO_4; clear ho hb hg hat))
    go_roundg k1
    case measure => have := HK1.out; omega
    case rel => exact ⟨(y467), (wrap64 (x19_1 + 1)), qE, H', ⟨by have := HK1.out; omega⟩, ⟨by refine qR ?_; exact Kd.R_mono HO469.out (fun _ hk => trivial)⟩, ⟨by refine qR ?_; exact Kd.R_mono HO_17.out (fun _ hk => trivial)⟩, ⟨by refine qB ?_; exact BK452.out⟩, ⟨by exact qW HB.out⟩⟩
   rw [if_neg c16] at H
   have c16b0 : (((rd_T54 t459 x19_1).f1) == 0) = false := beq_eq_false_iff_ne.mpr c16
   have c16b1 : (((rd_T54 t459 x19_1).f1) != 0) = true := bne_iff_ne.mpr c16
   obtain ⟨y470, hy470⟩ : ∃ y_ : List Int, y_ = (([(rd_T54 t459 x19_1).f1, (rd_T54 t459 x19_1).f2] : List Int)) := ⟨_, rfl⟩
   replace H : (if x4_1.length + y470.length < 17592186044416 then (impl_writeImage.l0 k1 (x4_1 ++ y470) t459 (t459.length : Int) (wrap64 (x19_1 + 1))) else (none)) = some (r1, r2) := rY hy470 H
   have Ny470 := aM hy470
   clear hy470
   by_cases c25 : x4_1.length + y470.length < 17592186044416
   rotate_left
   ·
    rw [if_neg c25] at H
    exact absurd H (by simp)
   rw [if_pos c25] at H
   have LMc25 := aM c25
   clear c25
   obtain ⟨y473, hy473⟩ : ∃ y_ : List Int, y_ = (x4_1 ++ y470) := ⟨_, rfl⟩
   replace H : (impl_writeImage.l0 k1 y473 t459 (t459.length : Int) (wrap64 (x19_1 + 1))) = some (r1, r2) := rY hy473 H
   have Ny473 := aM hy473
   clear hy473
   have H' := aM H
   clear H
   have p462 : 0 ≤ (x19_1 : Int) := oD
   have q462 : x19_1 < (t459.length : Int) := oD
   obtain ⟨ad462, e462, hx462_0, hx462_1, hx462_2⟩ := at_T54 (Kd.R_reads' HO_17.out).2.2 x19_1 p462 q462
   cases e462
   replace p462 := eq_true p462
   replace q462 := eq_true q462
   go_wp2_with (first | ((with_reducible refine gate_dst (N := 6) rfl ?_); refine box_event ?hg (N := 6) ?hd (cs := #[.int .i64 0, .int .i64 0, .int .i64 0]) (t := 54) ?hr ?_; (case hd => rfl); (case hg => rfl); (case hr => first | (go_simp; done) | (go_simp; rfl)); intro gb463 hg w26 hbox hb; replace HO_4 := aM (Kd.R_below (qR HO_4.out) hb); replace HO_17 := aM (Kd.R_below (Kd.R_elderB (qR HO_17.out) gb463 (Nat.le_of_eq hg.symm)) hb); have BK463 := aM (hbox); have GW463 := aM ((by rw [hg]; exact (below_size (qW HB.out)) : w.heap.size ≤ gb463)); have GE463 := aM ((by rw [hg]; exact (below_size (qW HB.out)) : w.heap.size ≤ gb463)); replace HB := aM (below_step (qW HB.out) hb); have NB452_463 := aM ((by rw [hg]; exact Nat.ne_of_lt (blk_lt (g := gb452) (o := .cells #[.int .i64 a0_0, .int .i64 a0_1, .int .i64 a0_2, .slice A0_3 l0_3.length c0_3] 24 (0, 0)) (qB BK452.out)) : gb452 ≠ gb463)); have NB463_452 := aM ((by rw [hg]; exact Nat.ne_of_gt (blk_lt (g := gb452) (o := .cells #[.int .i64 a0_0, .int .i64 a0_1, .int .i64 a0_2, .slice A0_3 l0_3.length c0_3] 24 (0, 0)) (qB BK452.out)) : gb463 ≠ gb452)); replace BK452 := bB BK452 hb; clear hb hbox hg; have hnb27 := NB463_452.out; have hnc27 := NB452_463.out; obtain ⟨hcz28_0, hcz28_1, hcz28_2⟩ := cz3 BK463.out; obtain ⟨hfz28_0, hfz28_1, hfz28_2⟩ := fz3 BK463.out) | ((with_reducible refine gate_dst (N := 36) rfl ?_); refine Kd.R_lit (Kd.int .i64) _ 3 ?hg (N := 36) ?hd (xs := ([(rd_T54 t459 x19_1).f1, (rd_T54 t459 x19_1).f2] : List Int)) (inner := [.int .i64 ((rd_T54 t459 x19_1).f1), .int .i64 ((rd_T54 t459 x19_1).f2)]) (ok := fun _ => True) (okp := fun _ => True) ?hr ?hp (fun _ hk => hk) trivial (Below.refl _ _) (Nat.le_refl _) (by simp) ?_; (case hd => rfl); (case hg => rfl); (case hr => first | (go_simp; done) | (go_simp; rfl)); (case hp => exact (Reps.one (show Kd.M (Kd.int .i64) _ _ _ ((rd_T54 t459 x19_1).f1) [.int .i64 ((rd_T54 t459 x19_1).f1)] from rfl) (Reps.one (show Kd.M (Kd.int .i64) _ _ _ ((rd_T54 t459 x19_1).f2) [.int .i64 ((rd_T54 t459 x19_1).f2)] from rfl) (Reps.none _ _)))); intro v471 w29 ho30 hb hg_ hnew_; clear hg_ hnew_; (first | rw [← Ny470.out] at ho30 | (simp only [Int.reduceToNat] at ho30; rw [← Ny470.out] at ho30)); replace HO_17 := aM (Kd.R_below (by refine qR ?_; exact (Kd.R_mono (Kd.R_far (p := ⟨gb463, 2, none⟩) (Kd.R_far (p := ⟨gb463, 1, none⟩) (Kd.R_far (p := ⟨gb463, 0, none⟩) (Kd.R_mono HO_17.out (fun k_ hk => (⟨hk, hk.2⟩ : _ ∧ k_ ≠ gb463))) (fun _ hk => hk.2) (.int .i64 ((rd_T54 t459 x19_1).f0))) (fun _ hk => hk.2) (.int .i64 ((rd_T54 t459 x19_1).f1))) (fun _ hk => hk.2) (.int .i64 ((rd_T54 t459 x19_1).f2))) (fun _ h_ => h_.1))) hb); have HO472 := aM (Kd.R_lower (Kd.R_new' ho30 (Kd.R_lt (by refine qR ?_; exact (Kd.R_mono (Kd.R_far (p := ⟨gb463, 2, none⟩) (Kd.R_far (p := ⟨gb463, 1, none⟩) (Kd.R_far (p := ⟨gb463, 0, none⟩) (Kd.R_types HO_4.out BK463.out (by decide)) (fun _ hk => hk.2) (.int .i64 ((rd_T54 t459 x19_1).f0))) (fun _ hk => hk.2) (.int .i64 ((rd_T54 t459 x19_1).f1))) (fun _ hk => hk.2) (.int .i64 ((rd_T54 t459 x19_1).f2))) (fun _ h_ => h_.1))))) (below_size (qW HB.out))); replace HO_4 := aM (Kd.R_elder' (by refine qR ?_; exact (Kd.R_mono (Kd.R_far (p := ⟨gb463, 2, none⟩) (Kd.R_far (p := ⟨gb463, 1, none⟩) (Kd.R_far (p := ⟨gb463, 0, none⟩) (Kd.R_types HO_4.out BK463.out (by decide)) (fun _ hk => hk.2) (.int .i64 ((rd_T54 t459 x19_1).f0))) (fun _ hk => hk.2) (.int .i64 ((rd_T54 t459 x19_1).f1))) (fun _ hk => hk.2) (.int .i64 ((rd_T54 t459 x19_1).f2))) (fun _ h_ => h_.1))) (Kd.R_base ho30) hb); replace BK452 := aM (blk_below (g := gb452) (o := .cells #[.int .i64 a0_0, .int .i64 a0_1, .int .i64 a0_2, .slice A0_3 l0_3.length c0_3] 24 (0, 0)) (by refine qB ?_; refine blk_far ?_ NB452_463.out _; refine qB ?_; refine blk_far ?_ NB452_463.out _; refine qB ?_; refine blk_far ?_ NB452_463.out _; refine qB ?_; exact BK452.out) hb); replace BK463 := aM (blk_below (g := gb463) (o := .cells #[.int .i64 ((rd_T54 t459 x19_1).f0), .int .i64 ((rd_T54 t459 x19_1).f1), .int .i64 ((rd_T54 t459 x19_1).f2)] 54 (0, 0)) (by refine qB ?_; refine blk_put (cs := #[.int .i64 ((rd_T54 t459 x19_1).f0), .int .i64 ((rd_T54 t459 x19_1).f1), .int .i64 0]) ?_ 2 _ rfl; refine qB ?_; refine blk_put (cs := #[.int .i64 ((rd_T54 t459 x19_1).f0), .int .i64 0, .int .i64 0]) ?_ 1 _ rfl; refine qB ?_; refine blk_put (cs := #[.int .i64 0, .int .i64 0, .int .i64 0]) ?_ 0 _ rfl; refine qB ?_; exact BK463.out) hb); replace HB := aM (below_step (qW HB.out) hb); clear hb ho30; obtain ⟨Ao32, co32, eo32⟩ := Kd.R_slice HO472.out; subst eo32) | ((with_reducible refine gate_builtin (b := .append) (xs := #[.tmp 31, .tmp 36]) rfl ?_); at_builtin; refine Kd.R_append_rows (Kd.int .i64) (w0 := w) w.heap.size rfl (.tmp 31) (.tmp 36) 22 3 (.int .i64 0) 8 rfl Try.underlying22 info3 rfl (by decide) (by omega) u4 x4_1 y470 _ _ _ (fun k_ => some k_ ≠ (.slice Ao32 y470.length co32 : Value).ownBlock) (fun _ => False) rfl rfl ?aO ?aR (fun _ _ h => h) (fun _ h => h.elim) ?aF ?aB ?aS ?aL ?_; (case aR => exact qC (Kd.R_reads' HO472.out).2.2); (case aB => exact (qW HB.out)); (case aF => exact (fun k_ hk => Kd.fresh' (Kd.R_lt (qR HO472.out)) k_ hk)); (case aO => exact (by refine qR ?_; exact Kd.R_mono HO_4.out (fun _ hk => hk.2))); (case aS => exact (below_size (qW HB.out))); (case aL => have := LMc25.out; omega); intro v474 w31 ho hb hg hat; rw [← Ny473.out] at ho; replace HO_17 := aM (Kd.R_over' (qR HO_17.out) (Kd.R_typed (qR HO_4.out)) (by decide) hg); replace BK452 := aM (blk_grown (g := gb452) (o := .cells #[.int .i64 a0_0, .int .i64 a0_1, .int .i64 a0_2, .slice A0_3 l0_3.length c0_3] 24 (0, 0)) (qB BK452.out) hg (Kd.R_ne HO_4.out BK452.out (by decide))); replace BK463 := aM (blk_grown (g := gb463) (o := .cells #[.int .i64 ((rd_T54 t459 x19_1).f0), .int .i64 ((rd_T54 t459 x19_1).f1), .int .i64 ((rd_T54 t459 x19_1).f2)] 54 (0, 0)) (qB BK463.out) hg (Kd.R_ne HO_4.out BK463.out (by decide))); replace HO472 := aM (Kd.R_after (ok := (fun _ => True)) (qR HO472.out) hg hat); replace HB := aM (hb); have HO475 := aM (ho); clear HO_4; clear ho hb hg hat))
   go_roundg k1
   case measure => have := HK1.out; omega
   case rel => exact ⟨(y473), (wrap64 (x19_1 + 1)), qE, H', ⟨by have := HK1.out; omega⟩, ⟨by refine qR ?_; exact Kd.R_mono HO475.out (fun _ hk => trivial)⟩, ⟨by refine qR ?_; exact Kd.R_mono HO_17.out (fun _ hk => trivial)⟩, ⟨by refine qB ?_; exact BK452.out⟩, ⟨by exact qW HB.out⟩⟩

/-! ### spec_WriteImage: function 34 -/
def spec_WriteImage.f (k : Nat) (a0_0 : Int) (a0_1 : Int) (a0_2 : Int) (l0_3 : List Int) : Option (List Int × Bool) := (spec_validImage.f k a0_0 a0_1 a0_2 l0_3).bind fun t582 => (if t582 = true then ((spec_filterImage.f k a0_0 a0_1 a0_2 l0_3).bind fun t583 => (if (t583.length : Int) > 1200 then (some (([] : List Int), false)) else ((spec_writeImage.f k a0_0 a0_1 a0_2 l0_3).bind fun t586 => (if (t586.length : Int) > 1200 then (some (([] : List Int), false)) else ((spec_writeImage.f k a0_0 a0_1 a0_2 l0_3).bind fun t589 => (some (t589, true))))))) else (some (([] : List Int), false)))
theorem spec_WriteImage.mono : ∀ a0 a1 a2 a3 k, LeO (spec_WriteImage.f k a0 a1 a2 a3) (spec_WriteImage.f (k + 1) a0 a1 a2 a3) := by
 intro a0 a1 a2 a3 k
 unfold spec_WriteImage.f
 repeat' first
   | (with_reducible exact spec_filterImage.mono _ _ _ _ _)
   | (with_reducible exact spec_validImage.mono _ _ _ _ _)
   | (with_reducible exact spec_writeImage.mono _ _ _ _ _)
   | (with_reducible exact LeO.refl _)
   | (with_reducible exact LeO.none _)
   | (with_reducible refine LeO.ite ?_ ?_)
   | (with_reducible refine LeO.bind ?_ (fun _ => ?_))
   | exact spec_filterImage.mono _ _ _ _ _
   | exact spec_validImage.mono _ _ _ _ _
   | exact spec_writeImage.mono _ _ _ _ _
   | exact LeO.none _
   | refine LeO.ite ?_ ?_
   | refine LeO.bind ?_ (fun _ => ?_)
set_option maxHeartbeats 8000000 in
set_option maxRecDepth 100000 in
theorem spec_WriteImage.calls (k : Nat) (a0_0 : Int) (a0_1 : Int) (a0_2 : Int) (A0_3 : Option Addr) (c0_3 : Nat) (l0_3 : List Int) (r1 : List Int) (r2 : Bool) (w : World) (hr0_3 : Kd.C (Kd.int .i64) w A0_3 l0_3.length l0_3) (hc0_3 : l0_3.length ≤ c0_3) (h : spec_WriteImage.f k a0_0 a0_1 a0_2 l0_3 = some (r1, r2)) :
  Calls Try.prog 34 #[.agg #[.int .i64 a0_0, .int .i64 a0_1, .int .i64 a0_2, .slice A0_3 l0_3.length c0_3]] w fun e w' => ∃ v0_ : Value, e = .returned (.tuple #[v0_, .bool r2]) ∧ Kd.R (Kd.int .i64) 3 w' w.heap.size (fun _ => True) v0_ r1 ∧ Below w.heap.size w w' := by
 have hu24 := Try.underlying24
 have HR0_3 := aM hr0_3
 have HC0_3 := aM hc0_3
 clear hr0_3 hc0_3
 have HB := aM (Below.refl w.heap.size w)
 have H : ((spec_validImage.f k a0_0 a0_1 a0_2 l0_3).bind fun t582 => (if t582 = true then ((spec_filterImage.f k a0_0 a0_1 a0_2 l0_3).bind fun t583 => (if (t583.length : Int) > 1200 then (some (([] : List Int), false)) else ((spec_writeImage.f k a0_0 a0_1 a0_2 l0_3).bind fun t586 => (if (t586.length : Int) > 1200 then (some (([] : List Int), false)) else ((spec_writeImage.f k a0_0 a0_1 a0_2 l0_3).bind fun t589 => (some (t589, true))))))) else (some (([] : List Int), false)))) = some (r1, r2) := h
 clear h
 replace H := Option.bind_eq_some_iff.mp H
 obtain ⟨t582, A20, H⟩ := H
 replace H : (if t582 = true then ((spec_filterImage.f k a0_0 a0_1 a0_2 l0_3).bind fun t583 => (if (t583.length : Int) > 1200 then (some (([] : List Int), false)) else ((spec_writeImage.f k a0_0 a0_1 a0_2 l0_3).bind fun t586 => (if (t586.length : Int) > 1200 then (some (([] : List Int), false)) else ((spec_writeImage.f k a0_0 a0_1 a0_2 l0_3).bind fun t589 => (some (t589, true))))))) else (some (([] : List Int), false))) = some (r1, r2) := H
 have A2 := aM A20
 clear A20
 by_cases c3 : t582 = true
 rotate_left
 ·
  replace c3 := Bool.eq_false_iff.mpr c3
  subst c3
  have H1 : (some (([] : List Int), false)) = some (r1, r2) := by rw [if_neg (show ¬ (false = true) by decide)] at H; exact H
  clear H
  have H := H1
  clear H1
  simp only [Option.some.injEq, Prod.mk.injEq] at H
  obtain ⟨rfl, rfl⟩ := H
  go_enter Try.func34, Try.ntmps34
  go_wp2_with (first | ((with_reducible refine gate_dst (N := 1) rfl ?_); (try (refine gate_guard (by rfl) ?_; dsimp only)); refine box_event ?hg (N := 1) ?hd (cs := #[.int .i64 a0_0, .int .i64 a0_1, .int .i64 a0_2, .slice A0_3 l0_3.length c0_3]) (t := 24) ?hr ?_; (case hd => rfl); (case hg => rfl); (case hr => first | (go_simp; done) | (go_simp; rfl)); intro gb581 hg w35 hbox hb; have BK581 := aM (hbox); have GW581 := aM ((by rw [hg]; exact (below_size (qW HB.out)) : w.heap.size ≤ gb581)); have GE581 := aM ((by rw [hg]; exact (below_size (qW HB.out)) : w.heap.size ≤ gb581)); replace HB := aM (below_step (qW HB.out) hb); clear hb hbox hg; obtain ⟨hcz36_0, hcz36_1, hcz36_2, hcz36_3⟩ := cz4 BK581.out; obtain ⟨hfz36_0, hfz36_1, hfz36_2, hfz36_3⟩ := fz4 BK581.out) | ((with_reducible refine gate_callee (f := 54) rfl ?_); refine goesL_ (some 5) rfl rfl Try.func54 (by kernel_rfl) rfl #[.agg #[.int .i64 a0_0, .int .i64 a0_1, .int .i64 a0_2, .slice A0_3 l0_3.length c0_3]] rfl qM ?_; (with_reducible refine (spec_validImage.calls k a0_0 a0_1 a0_2 _ _ l0_3 false _ ?side1 ?side2 A2.out).mono ?_); (case side1 => exact qC (Kd.C_below HR0_3.out HB.out)); (case side2 => exact HC0_3.out); rintro e w37 ⟨rfl, hb⟩; refine ⟨_, rfl, ?_⟩; replace BK581 := bB BK581 hb; replace HB := aM (below_step (qW HB.out) hb); (try clear hb); (try clear hb2); (try clear hk); (try clear hi)))
  go_ret2
  exact ⟨_, qX, qN, by exact qW HB.out⟩
 subst c3
 have H1 : ((spec_filterImage.f k a0_0 a0_1 a0_2 l0_3).bind fun t583 => (if (t583.length : Int) > 1200 then (some (([] : List Int), false)) else ((spec_writeImage.f k a0_0 a0_1 a0_2 l0_3).bind fun t586 => (if (t586.length : Int) > 1200 then (some (([] : List Int), false)) else ((spec_writeImage.f k a0_0 a0_1 a0_2 l0_3).bind fun t589 => (some (t589, true))))))) = some (r1, r2) := by rw [if_pos rfl] at H; exact H
 clear H
 have H := H1
 clear H1
 replace H := Option.bind_eq_some_iff.mp H
 obtain ⟨t583, A40, H⟩ := H
 replace H : (if (t583.length : Int) > 1200 then (some (([] : List Int), false)) else ((spec_writeImage.f k a0_0 a0_1 a0_2 l0_3).bind fun t586 => (if (t586.length : Int) > 1200 then (some (([] : List Int), false)) else ((spec_writeImage.f k a0_0 a0_1 a0_2 l0_3).bind fun t589 => (some (t589, true)))))) = some (r1, r2) := H
 have A4 := aM A40
 clear A40
 by_cases c5 : (t583.length : Int) > 1200
 ·
  rw [if_pos c5] at H
  have c5b0 : decide (1200 < (t583.length : Int)) = true := decide_eq_true c5
  have c5b1 : decide (1200 < t583.length) = true := decide_eq_true (by omega)
  clear c5
  simp only [Option.some.injEq, Prod.mk.injEq] at H
  obtain ⟨rfl, rfl⟩ := H
  go_enter Try.func34, Try.ntmps34
  go_wp2_with (first | ((with_reducible refine gate_dst (N := 1) rfl ?_); (try (refine gate_guard (by rfl) ?_; dsimp only)); refine box_event ?hg (N := 1) ?hd (cs := #[.int .i64 a0_0, .int .i64 a0_1, .int .i64 a0_2, .slice A0_3 l0_3.length c0_3]) (t := 24) ?hr ?_; (case hd => rfl); (case hg => rfl); (case hr => first | (go_simp; done) | (go_simp; rfl)); intro gb581 hg w6 hbox hb; have BK581 := aM (hbox); have GW581 := aM ((by rw [hg]; exact (below_size (qW HB.out)) : w.heap.size ≤ gb581)); have GE581 := aM ((by rw [hg]; exact (below_size (qW HB.out)) : w.heap.size ≤ gb581)); replace HB := aM (below_step (qW HB.out) hb); clear hb hbox hg; obtain ⟨hcz7_0, hcz7_1, hcz7_2, hcz7_3⟩ := cz4 BK581.out; obtain ⟨hfz7_0, hfz7_1, hfz7_2, hfz7_3⟩ := fz4 BK581.out) | ((with_reducible refine gate_callee (f := 54) rfl ?_); refine goesL_ (some 5) rfl rfl Try.func54 (by kernel_rfl) rfl #[.agg #[.int .i64 a0_0, .int .i64 a0_1, .int .i64 a0_2, .slice A0_3 l0_3.length c0_3]] rfl qM ?_; (with_reducible refine (spec_validImage.calls k a0_0 a0_1 a0_2 _ _ l0_3 true _ ?side1 ?side2 A2.out).mono ?_); (case side1 => exact qC (Kd.C_below HR0_3.out HB.out)); (case side2 => exact HC0_3.out); rintro e w8 ⟨rfl, hb⟩; refine ⟨_, rfl, ?_⟩; replace BK581 := bB BK581 hb; replace HB := aM (below_step (qW HB.out) hb); (try clear hb); (try clear hb2); (try clear hk); (try clear hi); obtain ⟨hcz9_0, hcz9_1, hcz9_2, hcz9_3⟩ := cz4 BK581.out; obtain ⟨hfz9_0, hfz9_1, hfz9_2, hfz9_3⟩ := fz4 BK581.out) | ((with_reducible refine gate_callee (f := 55) rfl ?_); refine goesL_ (some 8) rfl rfl Try.func55 (by kernel_rfl) rfl #[.agg #[.int .i64 a0_0, .int .i64 a0_1, .int .i64 a0_2, .slice A0_3 l0_3.length c0_3]] rfl qM ?_; (with_reducible refine (spec_filterImage.calls k a0_0 a0_1 a0_2 _ _ l0_3 t583 _ ?side1 ?side2 A4.out).mono ?_); (case side1 => exact qC (Kd.C_below HR0_3.out HB.out)); (case side2 => exact HC0_3.out); rintro e w10 ⟨v584, rfl, ho0, hb⟩; refine ⟨_, rfl, ?_⟩; have HO585 := aM (Kd.R_lower ho0 (below_size (qW HB.out))); replace BK581 := bB BK581 hb; replace HB := aM (below_step (qW HB.out) hb); (try clear hb); (try clear hb2); (try clear hk); (try clear hi); (try clear ho0); obtain ⟨Ao11, co11, eo11⟩ := Kd.R_slice HO585.out; subst eo11))
  go_ret2
  exact ⟨_, qX, qN, by exact qW HB.out⟩
 rw [if_neg c5] at H
 have c5b0 : decide (1200 < (t583.length : Int)) = false := decide_eq_false c5
 have c5b1 : decide (1200 < t583.length) = false := decide_eq_false (by omega)
 clear c5
 replace H := Option.bind_eq_some_iff.mp H
 obtain ⟨t586, A120, H⟩ := H
 replace H : (if (t586.length : Int) > 1200 then (some (([] : List Int), false)) else ((spec_writeImage.f k a0_0 a0_1 a0_2 l0_3).bind fun t589 => (some (t589, true)))) = some (r1, r2) := H
 have A12 := aM A120
 clear A120
 by_cases c13 : (t586.length : Int) > 1200
 ·
  rw [if_pos c13] at H
  have c13b0 : decide (1200 < (t586.length : Int)) = true := decide_eq_true c13
  have c13b1 : decide (1200 < t586.length) = true := decide_eq_true (by omega)
  clear c13
  simp only [Option.some.injEq, Prod.mk.injEq] at H
  obtain ⟨rfl, rfl⟩ := H
  go_enter Try.func34, Try.ntmps34
  go_wp2_with (first | ((with_reducible refine gate_dst (N := 1) rfl ?_); (try (refine gate_guard (by rfl) ?_; dsimp only)); refine box_event ?hg (N := 1) ?hd (cs := #[.int .i64 a0_0, .int .i64 a0_1, .int .i64 a0_2, .slice A0_3 l0_3.length c0_3]) (t := 24) ?hr ?_; (case hd => rfl); (case hg => rfl); (case hr => first | (go_simp; done) | (go_simp; rfl)); intro gb581 hg w14 hbox hb; have BK581 := aM (hbox); have GW581 := aM ((by rw [hg]; exact (below_size (qW HB.out)) : w.heap.size ≤ gb581)); have GE581 := aM ((by rw [hg]; exact (below_size (qW HB.out)) : w.heap.size ≤ gb581)); replace HB := aM (below_step (qW HB.out) hb); clear hb hbox hg; obtain ⟨hcz15_0, hcz15_1, hcz15_2, hcz15_3⟩ := cz4 BK581.out; obtain ⟨hfz15_0, hfz15_1, hfz15_2, hfz15_3⟩ := fz4 BK581.out) | ((with_reducible refine gate_callee (f := 54) rfl ?_); refine goesL_ (some 5) rfl rfl Try.func54 (by kernel_rfl) rfl #[.agg #[.int .i64 a0_0, .int .i64 a0_1, .int .i64 a0_2, .slice A0_3 l0_3.length c0_3]] rfl qM ?_; (with_reducible refine (spec_validImage.calls k a0_0 a0_1 a0_2 _ _ l0_3 true _ ?side1 ?side2 A2.out).mono ?_); (case side1 => exact qC (Kd.C_below HR0_3.out HB.out)); (case side2 => exact HC0_3.out); rintro e w16 ⟨rfl, hb⟩; refine ⟨_, rfl, ?_⟩; replace BK581 := bB BK581 hb; replace HB := aM (below_step (qW HB.out) hb); (try clear hb); (try clear hb2); (try clear hk); (try clear hi); obtain ⟨hcz17_0, hcz17_1, hcz17_2, hcz17_3⟩ := cz4 BK581.out; obtain ⟨hfz17_0, hfz17_1, hfz17_2, hfz17_3⟩ := fz4 BK581.out) | ((with_reducible refine gate_callee (f := 55) rfl ?_); refine goesL_ (some 8) rfl rfl Try.func55 (by kernel_rfl) rfl #[.agg #[.int .i64 a0_0, .int .i64 a0_1, .int .i64 a0_2, .slice A0_3 l0_3.length c0_3]] rfl qM ?_; (with_reducible refine (spec_filterImage.calls k a0_0 a0_1 a0_2 _ _ l0_3 t583 _ ?side1 ?side2 A4.out).mono ?_); (case side1 => exact qC (Kd.C_below HR0_3.out HB.out)); (case side2 => exact HC0_3.out); rintro e w18 ⟨v584, rfl, ho0, hb⟩; refine ⟨_, rfl, ?_⟩; have HO585 := aM (Kd.R_lower ho0 (below_size (qW HB.out))); replace BK581 := bB BK581 hb; replace HB := aM (below_step (qW HB.out) hb); (try clear hb); (try clear hb2); (try clear hk); (try clear hi); (try clear ho0); obtain ⟨Ao19, co19, eo19⟩ := Kd.R_slice HO585.out; subst eo19; obtain ⟨hcz20_0, hcz20_1, hcz20_2, hcz20_3⟩ := cz4 BK581.out; obtain ⟨hfz20_0, hfz20_1, hfz20_2, hfz20_3⟩ := fz4 BK581.out) | (go_at_call 42; (with_reducible refine (spec_writeImage.calls k a0_0 a0_1 a0_2 _ _ l0_3 t586 _ ?side1 ?side2 A12.out).mono ?_); (case side1 => exact qC (Kd.C_below HR0_3.out HB.out)); (case side2 => exact HC0_3.out); rintro e w21 ⟨v587, rfl, ho0, hb⟩; have HO588 := aM (Kd.R_lower (Kd.R_new' ho0 (Kd.R_lt (qR HO585.out))) (below_size (qW HB.out))); replace HO585 := aM (Kd.R_elder' (qR HO585.out) (Kd.R_base ho0) hb); replace BK581 := bB BK581 hb; replace HB := aM (below_step (qW HB.out) hb); (try clear hb); (try clear hb2); (try clear hk); (try clear hi); (try clear ho0); obtain ⟨Ao22, co22, eo22⟩ := Kd.R_slice HO588.out; subst eo22))
  go_ret2
  exact ⟨_, qX, qN, by exact qW HB.out⟩
 rw [if_neg c13] at H
 have c13b0 : decide (1200 < (t586.length : Int)) = false := decide_eq_false c13
 have c13b1 : decide (1200 < t586.length) = false := decide_eq_false (by omega)
 clear c13
 replace H := Option.bind_eq_some_iff.mp H
 obtain ⟨t589, A230, H⟩ := H
 replace H : (some (t589, true)) = some (r1, r2) := H
 have A23 := aM A230
 clear A230
 simp only [Option.some.injEq, Prod.mk.injEq] at H
 obtain ⟨rfl, rfl⟩ := H
 go_enter Try.func34, Try.ntmps34
 go_wp2_with (first | ((with_reducible refine gate_dst (N := 1) rfl ?_); (try (refine gate_guard (by rfl) ?_; dsimp only)); refine box_event ?hg (N := 1) ?hd (cs := #[.int .i64 a0_0, .int .i64 a0_1, .int .i64 a0_2, .slice A0_3 l0_3.length c0_3]) (t := 24) ?hr ?_; (case hd => rfl); (case hg => rfl); (case hr => first | (go_simp; done) | (go_simp; rfl)); intro gb581 hg w24 hbox hb; have BK581 := aM (hbox); have GW581 := aM ((by rw [hg]; exact (below_size (qW HB.out)) : w.heap.size ≤ gb581)); have GE581 := aM ((by rw [hg]; exact (below_size (qW HB.out)) : w.heap.size ≤ gb581)); replace HB := aM (below_step (qW HB.out) hb); clear hb hbox hg; obtain ⟨hcz25_0, hcz25_1, hcz25_2, hcz25_3⟩ := cz4 BK581.out; obtain ⟨hfz25_0, hfz25_1, hfz25_2, hfz25_3⟩ := fz4 BK581.out) | ((with_reducible refine gate_callee (f := 54) rfl ?_); refine goesL_ (some 5) rfl rfl Try.func54 (by kernel_rfl) rfl #[.agg #[.int .i64 a0_0, .int .i64 a0_1, .int .i64 a0_2, .slice A0_3 l0_3.length c0_3]] rfl qM ?_; (with_reducible refine (spec_validImage.calls k a0_0 a0_1 a0_2 _ _ l0_3 true _ ?side1 ?side2 A2.out).mono ?_); (case side1 => exact qC (Kd.C_below HR0_3.out HB.out)); (case side2 => exact HC0_3.out); rintro e w26 ⟨rfl, hb⟩; refine ⟨_, rfl, ?_⟩; replace BK581 := bB BK581 hb; replace HB := aM (below_step (qW HB.out) hb); (try clear hb); (try clear hb2); (try clear hk); (try clear hi); obtain ⟨hcz27_0, hcz27_1, hcz27_2, hcz27_3⟩ := cz4 BK581.out; obtain ⟨hfz27_0, hfz27_1, hfz27_2, hfz27_3⟩ := fz4 BK581.out) | ((with_reducible refine gate_callee (f := 55) rfl ?_); refine goesL_ (some 8) rfl rfl Try.func55 (by kernel_rfl) rfl #[.agg #[.int .i64 a0_0, .int .i64 a0_1, .int .i64 a0_2, .slice A0_3 l0_3.length c0_3]] rfl qM ?_; (with_reducible refine (spec_filterImage.calls k a0_0 a0_1 a0_2 _ _ l0_3 t583 _ ?side1 ?side2 A4.out).mono ?_); (case side1 => exact qC (Kd.C_below HR0_3.out HB.out)); (case side2 => exact HC0_3.out); rintro e w28 ⟨v584, rfl, ho0, hb⟩; refine ⟨_, rfl, ?_⟩; have HO585 := aM (Kd.R_lower ho0 (below_size (qW HB.out))); replace BK581 := bB BK581 hb; replace HB := aM (below_step (qW HB.out) hb); (try clear hb); (try clear hb2); (try clear hk); (try clear hi); (try clear ho0); obtain ⟨Ao29, co29, eo29⟩ := Kd.R_slice HO585.out; subst eo29; obtain ⟨hcz30_0, hcz30_1, hcz30_2, hcz30_3⟩ := cz4 BK581.out; obtain ⟨hfz30_0, hfz30_1, hfz30_2, hfz30_3⟩ := fz4 BK581.out) | (go_at_call 42; (with_reducible refine (spec_writeImage.calls k a0_0 a0_1 a0_2 _ _ l0_3 t586 _ ?side1 ?side2 A12.out).mono ?_); (case side1 => exact qC (Kd.C_below HR0_3.out HB.out)); (case side2 => exact HC0_3.out); rintro e w31 ⟨v587, rfl, ho0, hb⟩; have HO588 := aM (Kd.R_lower (Kd.R_new' ho0 (Kd.R_lt (qR HO585.out))) (below_size (qW HB.out))); replace HO585 := aM (Kd.R_elder' (qR HO585.out) (Kd.R_base ho0) hb); replace BK581 := bB BK581 hb; replace HB := aM (below_step (qW HB.out) hb); (try clear hb); (try clear hb2); (try clear hk); (try clear hi); (try clear ho0); obtain ⟨Ao32, co32, eo32⟩ := Kd.R_slice HO588.out; subst eo32; obtain ⟨hcz33_0, hcz33_1, hcz33_2, hcz33_3⟩ := cz4 BK581.out; obtain ⟨hfz33_0, hfz33_1, hfz33_2, hfz33_3⟩ := fz4 BK581.out) | ((with_reducible refine gate_callee (f := 42) rfl ?_); refine goesL_ (some 18) rfl rfl Try.func42 (by kernel_rfl) rfl #[.agg #[.int .i64 a0_0, .int .i64 a0_1, .int .i64 a0_2, .slice A0_3 l0_3.length c0_3]] rfl qM ?_; (with_reducible refine (spec_writeImage.calls k a0_0 a0_1 a0_2 _ _ l0_3 t589 _ ?side1 ?side2 A23.out).mono ?_); (case side1 => exact qC (Kd.C_below HR0_3.out HB.out)); (case side2 => exact HC0_3.out); rintro e w34 ⟨v590, rfl, ho0, hb⟩; refine ⟨_, rfl, ?_⟩; have HO591 := aM (Kd.R_lower (Kd.R_new' (Kd.R_new' ho0 (Kd.R_lt (qR HO585.out))) (Kd.R_lt (qR HO588.out))) (below_size (qW HB.out))); replace HO585 := aM (Kd.R_elder' (qR HO585.out) (Kd.R_base ho0) hb); replace HO588 := aM (Kd.R_elder' (qR HO588.out) (Kd.R_base ho0) hb); replace BK581 := bB BK581 hb; replace HB := aM (below_step (qW HB.out) hb); (try clear hb); (try clear hb2); (try clear hk); (try clear hi); (try clear ho0)))
 go_ret2
 exact ⟨_, qX, by refine qR ?_; exact Kd.R_mono HO591.out (fun _ hk => trivial), by exact qW HB.out⟩

/-! ### impl_WriteImage: function 22 -/
def impl_WriteImage.f (k : Nat) (a0_0 : Int) (a0_1 : Int) (a0_2 : Int) (l0_3 : List Int) : Option (List Int × Bool) := (impl_isImage.f a0_0 a0_1 a0_2 l0_3).bind fun t726 => (if t726 = true then ((impl_writeImage.f k a0_0 a0_1 a0_2 l0_3).bind fun bt727 => (some (bt727.1, bt727.2))) else (some (([] : List Int), false)))
theorem impl_WriteImage.mono : ∀ a0 a1 a2 a3 k, LeO (impl_WriteImage.f k a0 a1 a2 a3) (impl_WriteImage.f (k + 1) a0 a1 a2 a3) := by
 intro a0 a1 a2 a3 k
 unfold impl_WriteImage.f
 repeat' first
   | (with_reducible exact impl_writeImage.mono _ _ _ _ _)
   | (with_reducible exact LeO.refl _)
   | (with_reducible exact LeO.none _)
   | (with_reducible refine LeO.ite ?_ ?_)
   | (with_reducible refine LeO.bind ?_ (fun _ => ?_))
   | exact impl_writeImage.mono _ _ _ _ _
   | exact LeO.none _
   | refine LeO.ite ?_ ?_
   | refine LeO.bind ?_ (fun _ => ?_)
set_option maxHeartbeats 8000000 in
set_option maxRecDepth 100000 in
theorem impl_WriteImage.calls (k : Nat) (a0_0 : Int) (a0_1 : Int) (a0_2 : Int) (A0_3 : Option Addr) (c0_3 : Nat) (l0_3 : List Int) (r1 : List Int) (r2 : Bool) (w : World) (hr0_3 : Kd.C (Kd.int .i64) w A0_3 l0_3.length l0_3) (hc0_3 : l0_3.length ≤ c0_3) (h : impl_WriteImage.f k a0_0 a0_1 a0_2 l0_3 = some (r1, r2)) :
  Calls Try.prog 22 #[.agg #[.int .i64 a0_0, .int .i64 a0_1, .int .i64 a0_2, .slice A0_3 l0_3.length c0_3]] w fun e w' => ∃ v0_ : Value, e = .returned (.tuple #[v0_, .bool r2]) ∧ Kd.R (Kd.int .i64) 3 w' w.heap.size (fun _ => True) v0_ r1 ∧ Below w.heap.size w w' := by
 have hu24 := Try.underlying24
 have HR0_3 := aM hr0_3
 have HC0_3 := aM hc0_3
 clear hr0_3 hc0_3
 have HB := aM (Below.refl w.heap.size w)
 have H : ((impl_isImage.f a0_0 a0_1 a0_2 l0_3).bind fun t726 => (if t726 = true then ((impl_writeImage.f k a0_0 a0_1 a0_2 l0_3).bind fun bt727 => (some (bt727.1, bt727.2))) else (some (([] : List Int), false)))) = some (r1, r2) := h
 clear h
 replace H := Option.bind_eq_some_iff.mp H
 obtain ⟨t726, A20, H⟩ := H
 replace H : (if t726 = true then ((impl_writeImage.f k a0_0 a0_1 a0_2 l0_3).bind fun bt727 => (some (bt727.1, bt727.2))) else (some (([] : List Int), false))) = some (r1, r2) := H
 have A2 := aM A20
 clear A20
 by_cases c3 : t726 = true
 rotate_left
 ·
  replace c3 := Bool.eq_false_iff.mpr c3
  subst c3
  have H1 : (some (([] : List Int), false)) = some (r1, r2) := by rw [if_neg (show ¬ (false = true) by decide)] at H; exact H
  clear H
  have H := H1
  clear H1
  simp only [Option.some.injEq, Prod.mk.injEq] at H
  obtain ⟨rfl, rfl⟩ := H
  go_enter Try.func22, Try.ntmps22
  go_wp2_with (first | ((with_reducible refine gate_dst (N := 1) rfl ?_); refine box_event ?hg (N := 1) ?hd (cs := #[.int .i64 a0_0, .int .i64 a0_1, .int .i64 a0_2, .slice A0_3 l0_3.length c0_3]) (t := 24) ?hr ?_; (case hd => rfl); (case hg => rfl); (case hr => first | (go_simp; done) | (go_simp; rfl)); intro gb725 hg w10 hbox hb; have BK725 := aM (hbox); have GW725 := aM ((by rw [hg]; exact (below_size (qW HB.out)) : w.heap.size ≤ gb725)); have GE725 := aM ((by rw [hg]; exact (below_size (qW HB.out)) : w.heap.size ≤ gb725)); replace HB := aM (below_step (qW HB.out) hb); clear hb hbox hg; obtain ⟨hcz11_0, hcz11_1, hcz11_2, hcz11_3⟩ := cz4 BK725.out; obtain ⟨hfz11_0, hfz11_1, hfz11_2, hfz11_3⟩ := fz4 BK725.out) | ((with_reducible refine gate_callee (f := 52) rfl ?_); refine goesL_ (some 5) rfl rfl Try.func52 (by kernel_rfl) rfl #[.agg #[.int .i64 a0_0, .int .i64 a0_1, .int .i64 a0_2, .slice A0_3 l0_3.length c0_3]] rfl qM ?_; (with_reducible refine (impl_isImage.calls a0_0 a0_1 a0_2 _ _ l0_3 false _ ?side1 ?side2 A2.out).mono ?_); (case side1 => exact qC (Kd.C_below HR0_3.out HB.out)); (case side2 => exact HC0_3.out); rintro e w12 ⟨rfl, hb⟩; refine ⟨_, rfl, ?_⟩; replace BK725 := bB BK725 hb; replace HB := aM (below_step (qW HB.out) hb); (try clear hb); (try clear hb2); (try clear hk); (try clear hi)))
  go_ret2
  exact ⟨_, qX, qN, by exact qW HB.out⟩
 subst c3
 have H1 : ((impl_writeImage.f k a0_0 a0_1 a0_2 l0_3).bind fun bt727 => (some (bt727.1, bt727.2))) = some (r1, r2) := by rw [if_pos rfl] at H; exact H
 clear H
 have H := H1
 clear H1
 replace H := Option.bind_eq_some_iff.mp H
 obtain ⟨⟨t727, t730⟩, A40, H⟩ := H
 replace H : (some (t727, t730)) = some (r1, r2) := H
 have A4 := aM A40
 clear A40
 simp only [Option.some.injEq, Prod.mk.injEq] at H
 obtain ⟨rfl, rfl⟩ := H
 go_enter Try.func22, Try.ntmps22
 go_wp2_with (first | ((with_reducible refine gate_dst (N := 1) rfl ?_); refine box_event ?hg (N := 1) ?hd (cs := #[.int .i64 a0_0, .int .i64 a0_1, .int .i64 a0_2, .slice A0_3 l0_3.length c0_3]) (t := 24) ?hr ?_; (case hd => rfl); (case hg => rfl); (case hr => first | (go_simp; done) | (go_simp; rfl)); intro gb725 hg w5 hbox hb; have BK725 := aM (hbox); have GW725 := aM ((by rw [hg]; exact (below_size (qW HB.out)) : w.heap.size ≤ gb725)); have GE725 := aM ((by rw [hg]; exact (below_size (qW HB.out)) : w.heap.size ≤ gb725)); replace HB := aM (below_step (qW HB.out) hb); clear hb hbox hg; obtain ⟨hcz6_0, hcz6_1, hcz6_2, hcz6_3⟩ := cz4 BK725.out; obtain ⟨hfz6_0, hfz6_1, hfz6_2, hfz6_3⟩ := fz4 BK725.out) | ((with_reducible refine gate_callee (f := 52) rfl ?_); refine goesL_ (some 5) rfl rfl Try.func52 (by kernel_rfl) rfl #[.agg #[.int .i64 a0_0, .int .i64 a0_1, .int .i64 a0_2, .slice A0_3 l0_3.length c0_3]] rfl qM ?_; (with_reducible refine (impl_isImage.calls a0_0 a0_1 a0_2 _ _ l0_3 true _ ?side1 ?side2 A2.out).mono ?_); (case side1 => exact qC (Kd.C_below HR0_3.out HB.out)); (case side2 => exact HC0_3.out); rintro e w7 ⟨rfl, hb⟩; refine ⟨_, rfl, ?_⟩; replace BK725 := bB BK725 hb; replace HB := aM (below_step (qW HB.out) hb); (try clear hb); (try clear hb2); (try clear hk); (try clear hi); obtain ⟨hcz8_0, hcz8_1, hcz8_2, hcz8_3⟩ := cz4 BK725.out; obtain ⟨hfz8_0, hfz8_1, hfz8_2, hfz8_3⟩ := fz4 BK725.out) | ((with_reducible refine gate_callee (f := 46) rfl ?_); refine goesL_ (some 8) rfl rfl Try.func46 (by kernel_rfl) rfl #[.agg #[.int .i64 a0_0, .int .i64 a0_1, .int .i64 a0_2, .slice A0_3 l0_3.length c0_3]] rfl qM ?_; (with_reducible refine (impl_writeImage.calls k a0_0 a0_1 a0_2 _ _ l0_3 t727 t730 _ ?side1 ?side2 A4.out).mono ?_); (case side1 => exact qC (Kd.C_below HR0_3.out HB.out)); (case side2 => exact HC0_3.out); rintro e w9 ⟨v728, rfl, ho0, hb⟩; refine ⟨_, rfl, ?_⟩; have HO729 := aM (Kd.R_lower ho0 (below_size (qW HB.out))); replace BK725 := bB BK725 hb; replace HB := aM (below_step (qW HB.out) hb); (try clear hb); (try clear hb2); (try clear hk); (try clear hi); (try clear ho0)))
 go_ret2
 exact ⟨_, qX, by refine qR ?_; exact HO729.out, by exact qW HB.out⟩

/-! ### spec_validBytes: function 36 -/
def spec_validBytes.f (k : Nat) (l0 : List Int) : Option (Bool) := if (l0.length : Int) ≤ 1200 then ((spec_allIn.f k l0 0 255).bind fun t103 => (some t103)) else (some false)
theorem spec_validBytes.mono : ∀ a0 k, LeO (spec_validBytes.f k a0) (spec_validBytes.f (k + 1) a0) := by
 intro a0 k
 unfold spec_validBytes.f
 repeat' first
   | (with_reducible exact spec_allIn.mono _ _ _ _)
   | (with_reducible exact LeO.refl _)
   | (with_reducible exact LeO.none _)
   | (with_reducible refine LeO.ite ?_ ?_)
   | (with_reducible refine LeO.bind ?_ (fun _ => ?_))
   | exact spec_allIn.mono _ _ _ _
   | exact LeO.none _
   | refine LeO.ite ?_ ?_
   | refine LeO.bind ?_ (fun _ => ?_)
set_option maxHeartbeats 8000000 in
set_option maxRecDepth 100000 in
theorem spec_validBytes.calls (k : Nat) (A0 : Option Addr) (c0 : Nat) (l0 : List Int) (r : Bool) (w : World) (hr0 : Kd.C (Kd.int .i64) w A0 l0.length l0) (hc0 : l0.length ≤ c0) (h : spec_validBytes.f k l0 = some r) :
  Calls Try.prog 36 #[.slice A0 l0.length c0] w fun e w' => e = .returned (.bool r) ∧ Drawn0 w w' := by
 have HR0 := aM hr0
 have HC0 := aM hc0
 clear hr0 hc0
 have H : (if (l0.length : Int) ≤ 1200 then ((spec_allIn.f k l0 0 255).bind fun t103 => (some t103)) else (some false)) = some r := h
 clear h
 by_cases c2 : (l0.length : Int) ≤ 1200
 rotate_left
 ·
  rw [if_neg c2] at H
  have c2b0 : decide ((l0.length : Int) ≤ 1200) = false := decide_eq_false c2
  have c2b1 : decide (l0.length ≤ 1200) = false := decide_eq_false (by omega)
  clear c2
  obtain rfl := Option.some.inj H
  go_enter Try.func36, Try.ntmps36
  go_wp2
  go_ret
  exact ⟨by first | rfl | (simp; done) | (simp [*]; done), by repeat (first | exact Drawn0.refl _ | apply Drawn0.step)⟩
 rw [if_pos c2] at H
 have c2b0 : decide ((l0.length : Int) ≤ 1200) = true := decide_eq_true c2
 have c2b1 : decide (l0.length ≤ 1200) = true := decide_eq_true (by omega)
 clear c2
 replace H := Option.bind_eq_some_iff.mp H
 obtain ⟨t103, A30, H⟩ := H
 replace H : (some t103) = some r := H
 have A3 := aM A30
 clear A30
 obtain rfl := Option.some.inj H
 go_enter Try.func36, Try.ntmps36
 go_wp2_with (first | (go_at_call 57; (with_reducible refine (spec_allIn.calls k _ _ l0 0 255 t103 _ ?side1 ?side2 A3.out).mono ?_); (case side1 => exact qC HR0.out); (case side2 => exact HC0.out); rintro e w' ⟨rfl, ⟨nd, rfl⟩⟩))
 go_ret
 exact ⟨by first | rfl | (simp; done) | (simp [*]; done), by repeat (first | exact Drawn0.refl _ | apply Drawn0.step)⟩

/-! ### spec_unpackTokens: function 39 -/
def spec_unpackTokens.l0 : Nat → List Int → List (S54) → Int → Option ((List (S54)))
 | 0, _, _, _ => none
 | k + 1, x0, x3, x4 => if (wrap64 (x4 + 1)) < (x0.length : Int) then (if 0 ≤ x4 then (if x4 < (x0.length : Int) then (if (rd x0 x4) = 0 then (if 0 ≤ (wrap64 (x4 + 1)) then (if x3.length < 5864062014805 then (spec_unpackTokens.l0 k x0 (x3 ++ [(⟨rd x0 (wrap64 (x4 + 1)), 0, 0⟩ : S54)]) (wrap64 (x4 + 2))) else (none)) else (none)) else (if 0 ≤ (wrap64 (x4 + 1)) then (if x3.length < 5864062014805 then (spec_unpackTokens.l0 k x0 (x3 ++ [(⟨0, rd x0 x4, rd x0 (wrap64 (x4 + 1))⟩ : S54)]) (wrap64 (x4 + 2))) else (none)) else (none))) else (none)) else (none)) else (some x3)
def spec_unpackTokens.f (k : Nat) (l0 : List Int) : Option ((List (S54))) := spec_unpackTokens.l0 k l0 (([] : List (S54))) 0
theorem spec_unpackTokens.mono_l : ∀ k, (∀ y0 y1 y2, LeO (spec_unpackTokens.l0 k y0 y1 y2) (spec_unpackTokens.l0 (k + 1) y0 y1 y2))
 | 0 => fun _ _ _ r h => by simp [spec_unpackTokens.l0] at h
 | k + 1 => by
  have ih0 := spec_unpackTokens.mono_l k
  ·
   intro y0 y1 y2
   unfold spec_unpackTokens.l0
   repeat' first
   | (with_reducible exact ih0 _ _ _)
   | (with_reducible exact LeO.refl _)
   | (with_reducible exact LeO.none _)
   | (with_reducible refine LeO.ite ?_ ?_)
   | (with_reducible refine LeO.bind ?_ (fun _ => ?_))
   | exact ih0 _ _ _
   | exact LeO.none _
   | refine LeO.ite ?_ ?_
   | refine LeO.bind ?_ (fun _ => ?_)
theorem spec_unpackTokens.mono : ∀ a0 k, LeO (spec_unpackTokens.f k a0) (spec_unpackTokens.f (k + 1) a0) := by
 intro a0 k
 have ih0 := spec_unpackTokens.mono_l k
 unfold spec_unpackTokens.f
 repeat' first
   | (with_reducible exact ih0 _ _ _)
   | (with_reducible exact LeO.refl _)
   | (with_reducible exact LeO.none _)
   | (with_reducible refine LeO.ite ?_ ?_)
   | (with_reducible refine LeO.bind ?_ (fun _ => ?_))
   | exact ih0 _ _ _
   | exact LeO.none _
   | refine LeO.ite ?_ ?_
   | refine LeO.bind ?_ (fun _ => ?_)
def spec_unpackTokens.T7 : Bool × List (List Nat × List Nat) := (true, [([], []), ([], []), ([], []), ([1, 2], [1, 2]), ([3], [3]), ([], []), ([], []), ([6], [6]), ([5, 7], [5, 7]), ([8], [8]), ([4, 9], [4, 9]), ([10], [10]), ([0, 11], [0, 11]), ([12, 12, 0, 1, 2, 3, 4, 5, 6, 7, 8, 9, 10, 11, 12], [0, 12])])
def spec_unpackTokens.B7 : List Nat := [0, 0, 0, 6, 14, 0, 0, 64, 224, 480, 1022, 2046, 4095, 8191]
theorem spec_unpackTokens.tab7 : rtab .any (opsOf Try.f39 7) = spec_unpackTokens.T7 := by kernel_rfl
theorem spec_unpackTokens.bits7 : waitsOk spec_unpackTokens.T7.2 spec_unpackTokens.B7 = true := by kernel_rfl
set_option maxHeartbeats 8000000 in
set_option maxRecDepth 100000 in
theorem spec_unpackTokens.calls (k : Nat) (A0 : Option Addr) (c0 : Nat) (l0 : List Int) (r : List (S54)) (w : World) (hr0 : Kd.C (Kd.int .i64) w A0 l0.length l0) (hc0 : l0.length ≤ c0) (h : spec_unpackTokens.f k l0 = some r) :
  Calls Try.prog 39 #[.slice A0 l0.length c0] w fun e w' => ∃ v0_ : Value, e = .returned (v0_) ∧ Kd.R k54 54 w' w.heap.size (fun _ => True) v0_ r ∧ Below w.heap.size w w' := by
 have hu54 := Try.underlying54
 have HR0 := aM hr0
 have HC0 := aM hc0
 clear hr0 hc0
 have HB := aM (Below.refl w.heap.size w)
 have H : (spec_unpackTokens.l0 k l0 (([] : List (S54))) 0) = some r := h
 clear h
 obtain ⟨y127, hy127⟩ : ∃ y_ : List (S54), y_ = (([] : List (S54))) := ⟨_, rfl⟩
 replace H : (spec_unpackTokens.l0 k l0 y127 0) = some r := rY hy127 H
 have Ny127 := aM hy127
 clear hy127
 have H' := aM H
 clear H
 go_enter Try.func39, Try.ntmps39
 go_wp2_with (first | ((with_reducible refine gate_dst (N := 5) rfl ?_); refine Kd.R_lit k54 _ 54 ?hg (N := 5) ?hd (xs := ([] : List (S54))) (inner := []) (ok := fun _ => True) (okp := fun _ => True) ?hr ?hp (fun _ hk => hk) trivial (Below.refl _ _) (Nat.le_refl _) (by simp) ?_; (case hd => rfl); (case hg => rfl); (case hr => first | (go_simp; done) | (go_simp; rfl)); (case hp => exact (Reps.none _ _)); intro v128 w2 ho3 hb hg_ hnew_; clear hg_ hnew_; (first | rw [← Ny127.out] at ho3 | (simp only [Int.reduceToNat] at ho3; rw [← Ny127.out] at ho3)); have HO129 := aM (Kd.R_lower ho3 (below_size (qW HB.out))); replace HB := aM (below_step (qW HB.out) hb); clear hb ho3))
 go_loopg [3, 4] k (fun kq v3 v4 w' => ∃ (x3_1 : List (S54)) (x4_1 : Int), v4 = .int .i64 x4_1 ∧ Aside0 (spec_unpackTokens.l0 kq l0 x3_1 x4_1 = some r) ∧ Aside0 (kq ≤ k) ∧ Aside0 (Kd.R k54 54 w' w.heap.size (fun _ => True) v3 x3_1) ∧ Aside0 (Below w.heap.size w w'))
 case atStart => exact ⟨(y127), (0), qE, H', ⟨Nat.le_refl _⟩, ⟨by refine qR ?_; exact HO129.out⟩, ⟨by exact qW HB.out⟩⟩
 case round =>
  clear H'
  try clear p2
  try clear c3
  obtain ⟨x3_1, x4_1, rfl, HA, HK1, HO_3, HB⟩ := hrel
  cases gk with
  | zero => exact absurd HA.out (by simp [spec_unpackTokens.l0])
  | succ k1 =>
   have H := HA.out
   clear HA
   simp only [spec_unpackTokens.l0] at H
   by_cases c4 : (wrap64 (x4_1 + 1)) < (l0.length : Int)
   rotate_left
   ·
    rw [if_neg c4] at H
    have c4b0 : decide ((wrap64 (x4_1 + 1)) < (l0.length : Int)) = false := decide_eq_false c4
    clear c4
    obtain rfl := Option.some.inj H
    go_wp2
    go_ret
    exact ⟨_, qX, by refine qR ?_; exact HO_3.out, by exact qW HB.out⟩
   rw [if_pos c4] at H
   have c4b0 : decide ((wrap64 (x4_1 + 1)) < (l0.length : Int)) = true := decide_eq_true c4
   clear c4
   by_cases c5 : 0 ≤ x4_1
   rotate_left
   ·
    rw [if_neg c5] at H
    exact absurd H (by simp)
   rw [if_pos c5] at H
   have c5b0 : decide (0 ≤ x4_1) = true := decide_eq_true c5
   clear c5
   by_cases c6 : x4_1 < (l0.length : Int)
   rotate_left
   ·
    rw [if_neg c6] at H
    exact absurd H (by simp)
   rw [if_pos c6] at H
   have c6b0 : decide (x4_1 < (l0.length : Int)) = true := decide_eq_true c6
   clear c6
   by_cases c7 : (rd l0 x4_1) = 0
   ·
    rw [if_pos c7] at H
    have c7b0 : ((rd l0 x4_1) == 0) = true := beq_iff_eq.mpr c7
    have c7b1 : ((rd l0 x4_1) != 0) = false := bne_eq_false_iff_eq.mpr c7
    clear c7
    obtain ⟨ji8, hji8⟩ : ∃ j_ : Int, (wrap64 (x4_1 + 1)) = j_ := ⟨_, rfl⟩
    replace H : (if 0 ≤ (ji8) then (if x3_1.length < 5864062014805 then (spec_unpackTokens.l0 k1 l0 (x3_1 ++ [(⟨rd l0 (ji8), 0, 0⟩ : S54)]) (wrap64 (x4_1 + 2))) else (none)) else (none)) = some r := by first | (rw [hji8] at H; exact H) | (simp only [hji8] at H ⊢; exact H)
    (try rw [hji8] at c4b0)
    have hji8w : (IntKind.i64.wrap (x4_1 + 1)) = ji8 := (i64_w _).trans hji8
    by_cases c9 : 0 ≤ (ji8)
    rotate_left
    ·
     rw [if_neg c9] at H
     exact absurd H (by simp)
    rw [if_pos c9] at H
    have c9b0 : decide (0 ≤ (ji8)) = true := decide_eq_true c9
    clear c9
    by_cases c10 : x3_1.length < 5864062014805
    rotate_left
    ·
     rw [if_neg c10] at H
     exact absurd H (by simp)
    rw [if_pos c10] at H
    have LMc10 := aM c10
    clear c10
    obtain ⟨y132, hy132⟩ : ∃ y_ : List (S54), y_ = (x3_1 ++ [(⟨rd l0 (ji8), 0, 0⟩ : S54)]) := ⟨_, rfl⟩
    replace H : (spec_unpackTokens.l0 k1 l0 y132 (wrap64 (x4_1 + 2))) = some r := rY hy132 H
    have Ny132 := aM hy132
    clear hy132
    have H' := aM H
    clear H
    have p130 : 0 ≤ (x4_1 : Int) := oD
    have q130 : x4_1 < (l0.length : Int) := oD
    obtain ⟨ad130, e130, hx130_0⟩ := Kd.at_int HR0.out x4_1 p130 q130
    cases e130
    replace hx130_0 := bD HB hx130_0
    replace p130 := eq_true p130
    replace q130 := eq_true q130
    have p131 : 0 ≤ ((ji8) : Int) := oD
    have q131 : (ji8) < (l0.length : Int) := oD
    obtain ⟨ad131, e131, hx131_0⟩ := Kd.at_int HR0.out (ji8) p131 q131
    obtain rfl : ad130 = ad131 := (by injection e131)
    replace hx131_0 := bD HB hx131_0
    replace p131 := eq_true p131
    replace q131 := eq_true q131
    go_wp2_with (first | ((with_reducible refine gate_builtin (b := .append) (xs := #[.tmp 18, .tmp 25]) rfl ?_); at_builtin; refine Kd.R_append k54 (w0 := w) w.heap.size rfl (.tmp 18) (.tmp 25) 51 54 (.agg #[(.int .i64 0), (.int .i64 0), (.int .i64 0)]) 24 rfl Try.underlying51 info54 rfl (by decide) (by omega) u3 x3_1 (⟨rd l0 (ji8), 0, 0⟩ : S54) [.int .i64 (rd l0 (ji8)), .int .i64 0, .int .i64 0] (fun _ => True) (fun _ => False) rfl rfl ?aP (fun _ hk => hk.elim) ?aF ?aO ?aB ?aS ?aL ?_; (case aP => exact k54_mkM _ _ _ (⟨rd l0 (ji8), 0, 0⟩ : S54)); (case aB => exact (qW HB.out)); (case aF => exact (fun _ _ => trivial)); (case aO => exact (qR HO_3.out)); (case aS => exact (below_size (qW HB.out))); (case aL => have := LMc10.out; omega); intro v133 w11 ho hb hg hat; rw [← Ny132.out] at ho; replace HB := aM (hb); have HO134 := aM (ho); clear HO_3; clear ho hb hg hat))
    go_roundg k1
    case measure => have := HK1.out; omega
    case rel => exact ⟨(y132), (wrap64 (x4_1 + 2)), qE, H', ⟨by have := HK1.out; omega⟩, ⟨by refine qR ?_; exact HO134.out⟩, ⟨by exact qW HB.out⟩⟩
   rw [if_neg c7] at H
   have c7b0 : ((rd l0 x4_1) == 0) = false := beq_eq_false_iff_ne.mpr c7
   have c7b1 : ((rd l0 x4_1) != 0) = true := bne_iff_ne.mpr c7
   obtain ⟨ji12, hji12⟩ : ∃ j_ : Int, (wrap64 (x4_1 + 1)) = j_ := ⟨_, rfl⟩
   replace H : (if 0 ≤ (ji12) then (if x3_1.length < 5864062014805 then (spec_unpackTokens.l0 k1 l0 (x3_1 ++ [(⟨0, rd l0 x4_1, rd l0 (ji12)⟩ : S54)]) (wrap64 (x4_1 + 2))) else (none)) else (none)) = some r := by first | (rw [hji12] at H; exact H) | (simp only [hji12] at H ⊢; exact H)
   (try rw [hji12] at c4b0)
   have hji12w : (IntKind.i64.wrap (x4_1 + 1)) = ji12 := (i64_w _).trans hji12
   by_cases c13 : 0 ≤ (ji12)
   rotate_left
   ·
    rw [if_neg c13] at H
    exact absurd H (by simp)
   rw [if_pos c13] at H
   have c13b0 : decide (0 ≤ (ji12)) = true := decide_eq_true c13
   clear c13
   by_cases c14 : x3_1.length < 5864062014805
   rotate_left
   ·
    rw [if_neg c14] at H
    exact absurd H (by simp)
   rw [if_pos c14] at H
   have LMc14 := aM c14
   clear c14
   obtain ⟨y137, hy137⟩ : ∃ y_ : List (S54), y_ = (x3_1 ++ [(⟨0, rd l0 x4_1, rd l0 (ji12)⟩ : S54)]) := ⟨_, rfl⟩
   replace H : (spec_unpackTokens.l0 k1 l0 y137 (wrap64 (x4_1 + 2))) = some r := rY hy137 H
   have Ny137 := aM hy137
   clear hy137
   have H' := aM H
   clear H
   have p130 : 0 ≤ (x4_1 : Int) := oD
   have q130 : x4_1 < (l0.length : Int) := oD
   obtain ⟨ad130, e130, hx130_0⟩ := Kd.at_int HR0.out x4_1 p130 q130
   cases e130
   replace hx130_0 := bD HB hx130_0
   replace p130 := eq_true p130
   replace q130 := eq_true q130
   try go_wp2
   replace HO_3 := aM (Kd.R_drew HO_3.out)
   replace HB := aM (below_drew1 HB.out)
   have p135 : 0 ≤ (x4_1 : Int) := oD
   have q135 : x4_1 < (l0.length : Int) := oD
   obtain ⟨ad135, e135, hx135_0⟩ := Kd.at_int HR0.out x4_1 p135 q135
   have hw135_0 := hx135_0
   obtain rfl : ad130 = ad135 := (by injection e135)
   replace hx135_0 := bD HB hx135_0
   replace p135 := eq_true p135
   replace q135 := eq_true q135
   have p136 : 0 ≤ ((ji12) : Int) := oD
   have q136 : (ji12) < (l0.length : Int) := oD
   obtain ⟨ad136, e136, hx136_0⟩ := Kd.at_int HR0.out (ji12) p136 q136
   have hw136_0 := hx136_0
   obtain rfl : ad130 = ad136 := (by injection e136)
   replace hx136_0 := bD HB hx136_0
   replace p136 := eq_true p136
   replace q136 := eq_true q136
   refine start_ (n := 14) (S := fun w' => w'.cell? (ad130.add (x4_1).toNat) = some (.int .i64 (rd l0 x4_1)) ∧ w'.cell? (ad130.add ((ji12)).toNat) = some (.int .i64 (rd l0 (ji12)))) (ds := []) (bA 14 0) (by kernel_rfl) rfl rfl ⟨(bC HB hw135_0), (bC HB hw136_0)⟩ (fun hHeld => ?_); refine with_tabW spec_unpackTokens.tab7 spec_unpackTokens.bits7 (fun HT_ HW_ => ?_)
   generalize wr.drew = w15 at HO_3 HB hx135_0 hx136_0 hHeld ⊢
   refine pureQ (i := 0) (N := some 27) HT_ (bA 14 1) ?_
   refine pureQ (i := 1) (N := some 28) HT_ (bA 14 3) ?_
   refine pureQ (i := 2) (N := some 29) HT_ (bA 14 7) ?_
   refine pureQ (i := 3) (N := some 30) HT_ (bA 14 15) ?_
   refine pureQ (i := 5) (N := some 32) HT_ (bA 14 47) ?_
   refine pureQ (i := 6) (N := some 33) HT_ (bA 14 111) ?_
   refine pureQ (i := 7) (N := some 34) HT_ (bA 14 239) ?_
   refine pureQ (i := 8) (N := some 35) HT_ (bA 14 495) ?_
   refine take_ (i := 4) (N := some 31) (v := ?_) (a' := ?_) (bA 14 511) rfl rfl (take_ofW HT_.out HW_.out (by kernel_rfl)) (fun _ _ _ h => h) (Or.inl ⟨by rfl, ?_⟩) hHeld ?_ ?_
   rotate_left
   ·
    rintro w' ⟨s0, s1⟩
    go_simp
    with_reducible rfl
   rotate_left
   ·
    simp only [Act.put, List.setIfInBounds_toArray, List.set_cons_zero, List.set_cons_succ, i64_w, i32_w]
    rfl
   refine take_ (i := 9) (N := some 36) (v := ?_) (a' := ?_) (bA 14 1023) rfl rfl (take_ofW HT_.out HW_.out (by kernel_rfl)) (fun _ _ _ h => h) (Or.inl ⟨by rfl, ?_⟩) hHeld ?_ ?_
   rotate_left
   ·
    rintro w' ⟨s0, s1⟩
    go_simp
    with_reducible rfl
   rotate_left
   ·
    simp only [Act.put, List.setIfInBounds_toArray, List.set_cons_zero, List.set_cons_succ, i64_w, i32_w]
    rfl
   refine pureQ (i := 10) (N := some 37) HT_ (bA 14 2047) ?_
   refine one_ (i := 11) (N := some 38) (bA 14 4095) rfl rfl (one_of HT_.out (by kernel_rfl)) (by decide) (fun K hK => ?_)
   refine value_ (w1 := ?_) (v := ?_) (by rfl) rfl ?_ ?_
   rotate_left 2
   ·
    go_simp
    constructor
    rotate_left
    ·
     rfl
    rfl
   refine hK.out _ _ ⟨(World.cell?_alloc_lt _ _ _ (World.block_lt_of_cell? _ _ ((bC HB hw135_0)))).trans ((bC HB hw135_0)), (World.cell?_alloc_lt _ _ _ (World.block_lt_of_cell? _ _ ((bC HB hw136_0)))).trans ((bC HB hw136_0))⟩ (fun hHeld => ?_)
   clear hK K
   refine norm_ (a' := ?_) ?_ ?_
   rotate_left
   ·
    show Act.put _ (some 38) _ = _
    simp only [Act.put, List.setIfInBounds_toArray, List.set_cons_zero, List.set_cons_succ, i64_w, i32_w]
    rfl
   refine one_ (i := 12) (N := some 39) (bA 14 8191) rfl rfl (one_of HT_.out (by kernel_rfl)) (by decide) (fun K hK => ?_)
   refine Kd.R_append_step k54 (w0 := w) w.heap.size (by rfl) (.tmp 27) (.tmp 38) 51 54 (.agg #[(.int .i64 0), (.int .i64 0), (.int .i64 0)]) 24 rfl Try.underlying51 info54 rfl (by decide) (by omega) u3 x3_1 (⟨0, rd l0 x4_1, rd l0 (ji12)⟩ : S54) [.int .i64 0, .int .i64 (rd l0 x4_1), .int .i64 (rd l0 (ji12))] (fun _ => True) (fun _ => False) rfl rfl ?aP (fun _ hk => hk.elim) ?aF ?aO ?aB ?aS ?aL ?_
   (case aP => exact k54_mkM _ _ _ (⟨0, rd l0 x4_1, rd l0 (ji12)⟩ : S54))
   (case aB => exact (qW HB.out))
   (case aF => exact (fun _ _ => trivial))
   (case aO => exact (qR HO_3.out))
   (case aS => exact (below_size (qW HB.out)))
   (case aL => have := LMc14.out; omega)
   intro v138 w16 ho hb hg hat
   rw [← Ny137.out] at ho
   replace HB := aM (hb)
   have HO139 := aM (ho)
   clear HO_3
   clear ho hb hg hat
   refine hK.out _ _ ⟨(bC HB hw135_0), (bC HB hw136_0)⟩ (fun hHeld => ?_)
   clear hK K
   refine norm_ (a' := ?_) ?_ ?_
   rotate_left
   ·
    show Act.put _ (some 39) _ = _
    simp only [Act.put, List.setIfInBounds_toArray, List.set_cons_zero, List.set_cons_succ, i64_w, i32_w]
    rfl
   refine pureQ (i := 13) (N := some 3) HT_ (bA 14 16383) ?_
   refine done_ (done_of HT_.out (by kernel_rfl)) ?_
   try go_wp2
   go_roundg k1
   case measure => have := HK1.out; omega
   case rel => exact ⟨(y137), (wrap64 (x4_1 + 2)), qE, H', ⟨by have := HK1.out; omega⟩, ⟨by refine qR ?_; exact HO139.out⟩, ⟨by exact qW HB.out⟩⟩

/-! ### spec_equalInts: function 41 -/
def spec_equalInts.l0 : Nat → List Int → List Int → Int → Option (Bool)
 | 0, _, _, _ => none
 | k + 1, x0, x1, x5 => if x5 < (x0.length : Int) then (if 0 ≤ x5 then (if x5 < (x1.length : Int) then (if (rd x0 x5) = (rd x1 x5) then (spec_equalInts.l0 k x0 x1 (wrap64 (x5 + 1))) else (some false)) else (none)) else (none)) else (some true)
def spec_equalInts.f (k : Nat) (l0 : List Int) (l1 : List Int) : Option (Bool) := if (l0.length : Int) = (l1.length : Int) then (spec_equalInts.l0 k l0 l1 0) else (some false)
theorem spec_equalInts.mono_l : ∀ k, (∀ y0 y1 y2, LeO (spec_equalInts.l0 k y0 y1 y2) (spec_equalInts.l0 (k + 1) y0 y1 y2))
 | 0 => fun _ _ _ r h => by simp [spec_equalInts.l0] at h
 | k + 1 => by
  have ih0 := spec_equalInts.mono_l k
  ·
   intro y0 y1 y2
   unfold spec_equalInts.l0
   repeat' first
   | (with_reducible exact ih0 _ _ _)
   | (with_reducible exact LeO.refl _)
   | (with_reducible exact LeO.none _)
   | (with_reducible refine LeO.ite ?_ ?_)
   | (with_reducible refine LeO.bind ?_ (fun _ => ?_))
   | exact ih0 _ _ _
   | exact LeO.none _
   | refine LeO.ite ?_ ?_
   | refine LeO.bind ?_ (fun _ => ?_)
theorem spec_equalInts.mono : ∀ a0 a1 k, LeO (spec_equalInts.f k a0 a1) (spec_equalInts.f (k + 1) a0 a1) := by
 intro a0 a1 k
 have ih0 := spec_equalInts.mono_l k
 unfold spec_equalInts.f
 repeat' first
   | (with_reducible exact ih0 _ _ _)
   | (with_reducible exact LeO.refl _)
   | (with_reducible exact LeO.none _)
   | (with_reducible refine LeO.ite ?_ ?_)
   | (with_reducible refine LeO.bind ?_ (fun _ => ?_))
   | exact ih0 _ _ _
   | exact LeO.none _
   | refine LeO.ite ?_ ?_
   | refine LeO.bind ?_ (fun _ => ?_)
set_option maxHeartbeats 8000000 in
set_option maxRecDepth 100000 in
theorem spec_equalInts.calls (k : Nat) (A0 : Option Addr) (c0 : Nat) (l0 : List Int) (A1 : Option Addr) (c1 : Nat) (l1 : List Int) (r : Bool) (w : World) (hr0 : Kd.C (Kd.int .i64) w A0 l0.length l0) (hc0 : l0.length ≤ c0) (hr1 : Kd.C (Kd.int .i64) w A1 l1.length l1) (hc1 : l1.length ≤ c1) (h : spec_equalInts.f k l0 l1 = some r) :
  Calls Try.prog 41 #[.slice A0 l0.length c0, .slice A1 l1.length c1] w fun e w' => e = .returned (.bool r) ∧ Drawn0 w w' := by
 have HR0 := aM hr0
 have HC0 := aM hc0
 clear hr0 hc0
 have HR1 := aM hr1
 have HC1 := aM hc1
 clear hr1 hc1
 have H : (if (l0.length : Int) = (l1.length : Int) then (spec_equalInts.l0 k l0 l1 0) else (some false)) = some r := h
 clear h
 by_cases c3 : (l0.length : Int) = (l1.length : Int)
 rotate_left
 ·
  rw [if_neg c3] at H
  have c3b0 : ((l0.length : Int) == (l1.length : Int)) = false := beq_eq_false_iff_ne.mpr c3
  have c3b1 : ((l0.length : Int) != (l1.length : Int)) = true := bne_iff_ne.mpr c3
  have c3b2 : (l0.length == l1.length) = false := by first | simpa using c3 | (simp at c3 ⊢; omega)
  obtain rfl := Option.some.inj H
  go_enter Try.func41, Try.ntmps41
  go_wp2
  repeat (go_quiet (fail); try go_wp2)
  go_ret
  exact ⟨by first | rfl | (simp; done) | (simp [*]; done), by repeat (first | exact Drawn0.refl _ | apply Drawn0.step)⟩
 rw [if_pos c3] at H
 have c3b0 : ((l0.length : Int) == (l1.length : Int)) = true := beq_iff_eq.mpr c3
 have c3b1 : ((l0.length : Int) != (l1.length : Int)) = false := bne_eq_false_iff_eq.mpr c3
 have c3b2 : (l0.length == l1.length) = true := by first | simpa using c3 | (simp at c3 ⊢; omega)
 clear c3
 have H' := aM H
 clear H
 go_enter Try.func41, Try.ntmps41
 go_wp2
 repeat (go_quiet (fail); try go_wp2)
 go_loopg [5] k (fun kq v5 w' => ∃ (x5_1 : Int), v5 = .int .i64 x5_1 ∧ Aside0 (spec_equalInts.l0 kq l0 l1 x5_1 = some r) ∧ Aside0 (kq ≤ k) ∧ Drawn0 w w')
 case atStart => exact ⟨(0), qE, H', ⟨Nat.le_refl _⟩, by repeat (first | exact Drawn0.refl _ | apply Drawn0.step)⟩
 case round =>
  clear H'
  try clear c1
  try clear p2
  try clear c3
  try clear c3b0
  try clear c3b1
  try clear c3b2
  obtain ⟨x5_1, rfl, HA, HK1, ⟨m1, rfl⟩⟩ := hrel
  cases gk with
  | zero => exact absurd HA.out (by simp [spec_equalInts.l0])
  | succ k1 =>
   have H := HA.out
   clear HA
   simp only [spec_equalInts.l0] at H
   by_cases c4 : x5_1 < (l0.length : Int)
   rotate_left
   ·
    rw [if_neg c4] at H
    have c4b0 : decide (x5_1 < (l0.length : Int)) = false := decide_eq_false c4
    clear c4
    obtain rfl := Option.some.inj H
    go_wp2
    repeat (go_quiet (fail); try go_wp2)
    go_ret
    exact ⟨by first | rfl | (simp; done) | (simp [*]; done), by repeat (first | exact Drawn0.refl _ | apply Drawn0.step)⟩
   rw [if_pos c4] at H
   have c4b0 : decide (x5_1 < (l0.length : Int)) = true := decide_eq_true c4
   clear c4
   by_cases c5 : 0 ≤ x5_1
   rotate_left
   ·
    rw [if_neg c5] at H
    exact absurd H (by simp)
   rw [if_pos c5] at H
   have c5b0 : decide (0 ≤ x5_1) = true := decide_eq_true c5
   clear c5
   by_cases c6 : x5_1 < (l1.length : Int)
   rotate_left
   ·
    rw [if_neg c6] at H
    exact absurd H (by simp)
   rw [if_pos c6] at H
   have c6b0 : decide (x5_1 < (l1.length : Int)) = true := decide_eq_true c6
   clear c6
   by_cases c7 : (rd l0 x5_1) = (rd l1 x5_1)
   rotate_left
   ·
    rw [if_neg c7] at H
    have c7b0 : ((rd l0 x5_1) == (rd l1 x5_1)) = false := beq_eq_false_iff_ne.mpr c7
    have c7b1 : ((rd l0 x5_1) != (rd l1 x5_1)) = true := bne_iff_ne.mpr c7
    obtain rfl := Option.some.inj H
    have p179 : 0 ≤ (x5_1 : Int) := oD
    have q179 : x5_1 < (l0.length : Int) := oD
    obtain ⟨ad179, e179, hx179_0⟩ := Kd.at_int HR0.out x5_1 p179 q179
    cases e179
    replace p179 := eq_true p179
    replace q179 := eq_true q179
    have p180 : 0 ≤ (x5_1 : Int) := oD
    have q180 : x5_1 < (l1.length : Int) := oD
    obtain ⟨ad180, e180, hx180_0⟩ := Kd.at_int HR1.out x5_1 p180 q180
    cases e180
    replace p180 := eq_true p180
    replace q180 := eq_true q180
    go_wp2
    repeat (go_quiet (fail); try go_wp2)
    go_ret
    exact ⟨by first | rfl | (simp; done) | (simp [*]; done), by repeat (first | exact Drawn0.refl _ | apply Drawn0.step)⟩
   rw [if_pos c7] at H
   have c7b0 : ((rd l0 x5_1) == (rd l1 x5_1)) = true := beq_iff_eq.mpr c7
   have c7b1 : ((rd l0 x5_1) != (rd l1 x5_1)) = false := bne_eq_false_iff_eq.mpr c7
   clear c7
   have H' := aM H
   clear H
   have p179 : 0 ≤ (x5_1 : Int) := oD
   have q179 : x5_1 < (l0.length : Int) := oD
   obtain ⟨ad179, e179, hx179_0⟩ := Kd.at_int HR0.out x5_1 p179 q179
   cases e179
   replace p179 := eq_true p179
   replace q179 := eq_true q179
   have p180 : 0 ≤ (x5_1 : Int) := oD
   have q180 : x5_1 < (l1.length : Int) := oD
   obtain ⟨ad180, e180, hx180_0⟩ := Kd.at_int HR1.out x5_1 p180 q180
   cases e180
   replace p180 := eq_true p180
   replace q180 := eq_true q180
   go_wp2
   repeat (go_quiet (fail); try go_wp2)
   go_roundg k1
   case measure => have := HK1.out; omega
   case rel => exact ⟨(wrap64 (x5_1 + 1)), qE, H', ⟨by have := HK1.out; omega⟩, by repeat (first | exact Drawn0.refl _ | apply Drawn0.step)⟩

end Go.Proofs.Ytchahbdmdcllaaa.P
