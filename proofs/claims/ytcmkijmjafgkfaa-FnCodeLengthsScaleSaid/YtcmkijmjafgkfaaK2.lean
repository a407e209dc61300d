/- Contracts and row, written by a program of this place out of the translation: the call answers true and its argument reads as before, for every input; no condition. -/
import Derived.Test.YtcmkijmjafgkfaaK0
import Derived.Test.YtcmkijmjafgkfaaK1
namespace Go.Proofs.Ytcmkijmjafgkfaa.P
open Go.RowKit Go.Proofs.YtcmkijmjafgkfaaW.PrintWords Go.Proofs.YtcmkijmjafgkfaaW.PrintLast Go.Proofs.YtcmkijmjafgkfaaW.PrintMore
attribute [local go_sem] max2_int min2_int max_two min_two max_three min_three max_four min_four   -- for this text's walks alone
set_option linter.unusedVariables false
set_option linter.unusedSimpArgs false
mutual
def spec_codeLengths.l0 : Nat → List Int → List Int → List Int → List (List Int) → Int → Option (List Int)
 | 0, _, _, _, _, _ => none
 | k + 1, x0, x3, x4, x5, x6 => if x6 < (x0.length : Int) then (if 0 ≤ x6 then (if (rd x0 x6) > 0 then (if x4.length < 17592186044416 then (if x5.length < 5864062014805 then (spec_codeLengths.l0 k x0 x3 (x4 ++ [rd x0 x6]) (x5 ++ [(([x6] : List Int))]) (wrap64 (x6 + 1))) else (none)) else (none)) else (spec_codeLengths.l0 k x0 x3 x4 x5 (wrap64 (x6 + 1)))) else (none)) else (if (x4.length : Int) = 1 then (if 0 < (x5.length : Int) then (if 0 < ((rd_L3 x5 0).length : Int) then (if 0 ≤ (rd (rd_L3 x5 0) 0) then (if (rd (rd_L3 x5 0) 0) < (x3.length : Int) then (some (x3.set ((rd (rd_L3 x5 0) 0) : Int).toNat 1)) else (none)) else (none)) else (none)) else (none)) else (if 0 ≤ (x4.length : Int) then (if ((x4.length : Int) : Int).toNat ≤ 281474976710656 then (spec_codeLengths.l1 k x3 x4 x5 (List.replicate ((x4.length : Int) : Int).toNat false) (x4.length : Int)) else (none)) else (none)))
def spec_codeLengths.l1 : Nat → List Int → List Int → List (List Int) → List Bool → Int → Option (List Int)
 | 0, _, _, _, _, _ => none
 | k + 1, x3, x4, x5, x7, x8 => if x8 > 1 then ((spec_lightest.f k x4 x7).bind fun t276 => (if 0 ≤ t276 then (if t276 < (x7.length : Int) then ((some (x7.set (t276 : Int).toNat true : List Bool)).bind fun y277 => ((spec_lightest.f k x4 y277).bind fun t278 => (if 0 ≤ t278 then (if t278 < (x7.length : Int) then (if t276 < (x5.length : Int) then ((spec_copyInts.f (rd_L3 x5 t276)).bind fun t281 => (if t278 < (x5.length : Int) then (if t281.length + (rd_L3 x5 t278).length < 17592186044416 then (spec_codeLengths.l2 k x3 x4 x5 (y277.set (t278 : Int).toNat true) x8 t276 t278 (t281 ++ (rd_L3 x5 t278)) 0) else (none)) else (none))) else (none)) else (none)) else (none)))) else (none)) else (none))) else (some x3)
def spec_codeLengths.l2 : Nat → List Int → List Int → List (List Int) → List Bool → Int → Int → Int → List Int → Int → Option (List Int)
 | 0, _, _, _, _, _, _, _, _, _ => none
 | k + 1, x3, x4, x5, x7, x8, x9, x10, x11, x12 => if x12 < (x11.length : Int) then (if 0 ≤ x12 then (if 0 ≤ (rd x11 x12) then (if (rd x11 x12) < (x3.length : Int) then (spec_codeLengths.l2 k (x3.set ((rd x11 x12) : Int).toNat (wrap64 ((rd x3 (rd x11 x12)) + 1))) x4 x5 x7 x8 x9 x10 x11 (wrap64 (x12 + 1))) else (none)) else (none)) else (none)) else (if 0 ≤ x9 then (if x9 < (x4.length : Int) then (if 0 ≤ x10 then (if x10 < (x4.length : Int) then (if x4.length < 17592186044416 then (if x5.length < 5864062014805 then (if x7.length < 140737488355328 then (spec_codeLengths.l1 k x3 (x4 ++ [wrap64 ((rd x4 x9) + (rd x4 x10))]) (x5 ++ [x11]) (x7 ++ [false]) (wrap64 (x8 - 1))) else (none)) else (none)) else (none)) else (none)) else (none)) else (none)) else (none))
end
def spec_codeLengths.f (k : Nat) (l0 : List Int) : Option (List Int) := if 0 ≤ (l0.length : Int) then (if ((l0.length : Int) : Int).toNat ≤ 35184372088832 then (spec_codeLengths.l0 k l0 (List.replicate ((l0.length : Int) : Int).toNat 0) (([] : List Int)) (([] : List (List Int))) 0) else (none)) else (none)
theorem spec_codeLengths.mono_l : ∀ k, (∀ y0 y1 y2 y3 y4, LeO (spec_codeLengths.l0 k y0 y1 y2 y3 y4) (spec_codeLengths.l0 (k + 1) y0 y1 y2 y3 y4)) ∧ (∀ y0 y1 y2 y3 y4, LeO (spec_codeLengths.l1 k y0 y1 y2 y3 y4) (spec_codeLengths.l1 (k + 1) y0 y1 y2 y3 y4)) ∧ (∀ y0 y1 y2 y3 y4 y5 y6 y7 y8, LeO (spec_codeLengths.l2 k y0 y1 y2 y3 y4 y5 y6 y7 y8) (spec_codeLengths.l2 (k + 1) y0 y1 y2 y3 y4 y5 y6 y7 y8))
 | 0 => ⟨fun _ _ _ _ _ r h => by simp [spec_codeLengths.l0] at h, fun _ _ _ _ _ r h => by simp [spec_codeLengths.l1] at h, fun _ _ _ _ _ _ _ _ _ r h => by simp [spec_codeLengths.l2] at h⟩
 | k + 1 => by
  obtain ⟨ih0, ih1, ih2⟩ := spec_codeLengths.mono_l k
  refine ⟨?_, ?_, ?_⟩
  all_goals intros
  all_goals first | unfold spec_codeLengths.l0 | unfold spec_codeLengths.l1 | unfold spec_codeLengths.l2
  all_goals repeat' first | (with_reducible first | exact ih0 _ _ _ _ _ | exact ih1 _ _ _ _ _ | exact ih2 _ _ _ _ _ _ _ _ _ | exact spec_lightest.mono _ _ _ | exact lR | exact lN | refine lI ?_ ?_ | refine lB ?_ fun _ => ?_) | exact ih0 _ _ _ _ _ | exact ih1 _ _ _ _ _ | exact ih2 _ _ _ _ _ _ _ _ _ | exact spec_lightest.mono _ _ _ | exact lN | refine lI ?_ ?_ | refine lB ?_ fun _ => ?_
theorem spec_codeLengths.mono : ∀ a0 k, LeO (spec_codeLengths.f k a0) (spec_codeLengths.f (k + 1) a0) := by
 intro a0 k
 obtain ⟨ih0, ih1, ih2⟩ := spec_codeLengths.mono_l k
 unfold spec_codeLengths.f
 repeat' first | (with_reducible first | exact ih0 _ _ _ _ _ | exact ih1 _ _ _ _ _ | exact ih2 _ _ _ _ _ _ _ _ _ | exact spec_lightest.mono _ _ _ | exact lR | exact lN | refine lI ?_ ?_ | refine lB ?_ fun _ => ?_) | exact ih0 _ _ _ _ _ | exact ih1 _ _ _ _ _ | exact ih2 _ _ _ _ _ _ _ _ _ | exact spec_lightest.mono _ _ _ | exact lN | refine lI ?_ ?_ | refine lB ?_ fun _ => ?_
def spec_codeLengths.T21 : Bool × List (List Nat × List Nat) := (true, [([], []), ([], []), ([0, 1], [0, 1]), ([2], [2]), ([3], [3]), ([], []), ([], []), ([5, 6], [5, 6]), ([7], [7]), ([4, 8, 4], [4, 8]), ([9, 9, 0, 1, 2, 3, 4, 5, 6, 7, 8, 9], [9])])
def spec_codeLengths.B21 : List Nat := [0, 0, 3, 7, 15, 0, 0, 96, 224, 511, 1023]
theorem spec_codeLengths.tab21 : rtab .any (opsOf Try.f42 21) = spec_codeLengths.T21 := by kernel_rfl
theorem spec_codeLengths.bits21 : waitsOk spec_codeLengths.T21.2 spec_codeLengths.B21 = true := by kernel_rfl
def spec_codeLengths.T25 : Bool × List (List Nat × List Nat) := (true, [([], []), ([], []), ([], []), ([1, 2], [1, 2]), ([3], [3]), ([], []), ([], []), ([], []), ([6, 7], [6, 7]), ([8], [8]), ([5, 9], [5, 9]), ([10], [10]), ([11], [11]), ([0, 4, 0, 1, 2, 3, 4, 5, 6, 7, 8, 9, 10, 11, 12], [0, 4]), ([13, 12, 0, 1, 2, 3, 4, 5, 6, 7, 8, 9, 10, 11, 12], [12, 13])])
def spec_codeLengths.B25 : List Nat := [0, 0, 0, 6, 14, 0, 0, 0, 192, 448, 992, 2016, 4064, 8191, 16383]
theorem spec_codeLengths.tab25 : rtab .any (opsOf Try.f42 25) = spec_codeLengths.T25 := by kernel_rfl
theorem spec_codeLengths.bits25 : waitsOk spec_codeLengths.T25.2 spec_codeLengths.B25 = true := by kernel_rfl
def spec_codeLengths.T26 : Bool × List (List Nat × List Nat) := (true, [([], []), ([], []), ([], []), ([1, 2], [1, 2]), ([3], [3]), ([], []), ([], []), ([5, 6], [5, 6]), ([7], [7]), ([4, 8], [4, 8]), ([9], [9]), ([0, 10], [0, 10]), ([11, 11, 0, 1, 2, 3, 4, 5, 6, 7, 8, 9, 10, 11], [0, 1, 5, 11])])
def spec_codeLengths.B26 : List Nat := [0, 0, 0, 6, 14, 0, 0, 96, 224, 510, 1022, 2047, 4095]
theorem spec_codeLengths.tab26 : rtab .any (opsOf Try.f42 26) = spec_codeLengths.T26 := by kernel_rfl
theorem spec_codeLengths.bits26 : waitsOk spec_codeLengths.T26.2 spec_codeLengths.B26 = true := by kernel_rfl
set_option maxHeartbeats 8000000 in
set_option maxRecDepth 100000 in
theorem spec_codeLengths.calls (k : Nat) (A0 : Option Addr) (c0 : Nat) (l0 : List Int) (r : List Int) (w : World) (hr0 : Kd.C (Kd.int .i64) w A0 l0.length l0) (hc0 : l0.length ≤ c0) (h : spec_codeLengths.f k l0 = some r) :
  Calls Try.prog 42 #[.slice A0 l0.length c0] w fun e w' => ∃ v0_ : Value, e = .returned (v0_) ∧ Kd.R (Kd.int .i64) 3 w' w.heap.size (fun _ => True) v0_ r ∧ Below w.heap.size w w' := by
 have HR0 := aM hr0
 have HC0 := aM hc0
 clear hr0 hc0
 have HB := aM (Below.refl w.heap.size w)
 unfold spec_codeLengths.f at h
 have H := h
 clear h
 replace H := iS H
 obtain ⟨c2, H⟩ := H
 have c2b0 := eq_true c2
 have c2b1 : decide (0 ≤ (l0.length : Int)) = true := decide_eq_true c2
 clear c2
 replace H := iS H
 obtain ⟨c3, H⟩ := H
 have c3b0 := eq_true c3
 have c3b1 : decide (((l0.length : Int) : Int).toNat ≤ 35184372088832) = true := decide_eq_true c3
 clear c3
 obtain ⟨y250, hy250⟩ : ∃ y_ : List Int, y_ = (List.replicate ((l0.length : Int) : Int).toNat 0) := ⟨_, rfl⟩
 replace H : (spec_codeLengths.l0 k l0 y250 (([] : List Int)) (([] : List (List Int))) 0) = some r := rY hy250 H
 have Ny250 := aM hy250
 clear hy250
 obtain ⟨y253, hy253⟩ : ∃ y_ : List Int, y_ = (([] : List Int)) := ⟨_, rfl⟩
 replace H : (spec_codeLengths.l0 k l0 y250 y253 (([] : List (List Int))) 0) = some r := rY hy253 H
 have Ny253 := aM hy253
 clear hy253
 obtain ⟨y256, hy256⟩ : ∃ y_ : List (List Int), y_ = (([] : List (List Int))) := ⟨_, rfl⟩
 replace H : (spec_codeLengths.l0 k l0 y250 y253 y256 0) = some r := rY hy256 H
 have Ny256 := aM hy256
 clear hy256
 have H' := aM H
 clear H
 go_enter Try.func42, Try.ntmps42
 go_wp2_with (first | ((with_reducible refine gate_dst (N := 15) rfl ?_); refine Kd.R_make (Kd.int .i64) _ 3 rfl (N := 15) rfl 22 _ _ rfl (l0.length : Int) rfl rfl Try.underlying22 (.int .i64 0) 8 info3 rfl (by decide) (by omega) 0 (ok := fun _ => True) (okp := fun _ => True) rfl (fun _ hk => hk) trivial oD (Nat.le_trans (Nat.mul_le_mul_right _ (oD : (l0.length : Int).toNat ≤ 35184372088832)) (by omega)) (Below.refl _ _) (Nat.le_refl _) ?_; intro v251 w4 ho5 hb hg_ hnew_; clear hg_ hnew_; (first | rw [← Ny250.out] at ho5 | (simp only [Int.reduceToNat] at ho5; rw [← Ny250.out] at ho5)); have HO252 := oR ho5 HB; replace HB := bS HB hb; clear hb ho5) | ((with_reducible refine gate_dst (N := 16) rfl ?_); refine iL ([] : List Int) [] ?_; intro v254 w6 ho7 hb hg_ hnew_; clear hg_ hnew_; (first | rw [← Ny253.out] at ho7 | (simp only [Int.reduceToNat] at ho7; rw [← Ny253.out] at ho7)); have HO255 := nR ho7 HO252 HB; replace HO252 := aM (Kd.R_elder' (qR HO252.out) (Kd.R_base ho7) hb); replace HB := bS HB hb; clear hb ho7) | ((with_reducible refine gate_dst (N := 17) rfl ?_); refine Kd.S_lit (Kd.slice 3 (Kd.int .i64)) _ 22 ?hg (N := 17) ?hd (xs := ([] : List (List Int))) (inner := []) (ok := fun _ => True) (okp := fun _ => True) ?hr ?hp (fun _ hk => hk) trivial (Below.refl _ _) (Nat.le_refl _) (by simp) ?_; (case hd => rfl); (case hg => rfl); (case hr => first | (go_simp; done) | (go_simp; rfl)); (case hp => exact (Reps.none _ _)); intro v257 w8 ho9 hb hg_ hnew_; clear hg_ hnew_; (first | rw [← Ny256.out] at ho9 | (simp only [Int.reduceToNat] at ho9; rw [← Ny256.out] at ho9)); have HO258 := aM (Kd.S_lower (Kd.S_new' (Kd.S_new' ho9 (Kd.R_lt (qR HO252.out))) (Kd.R_lt (qR HO255.out))) (below_size (qW HB.out))); replace HO252 := aM (Kd.R_below (qR HO252.out) hb); replace HO255 := aM (Kd.R_below (qR HO255.out) hb); replace HB := bS HB hb; clear hb ho9))
 go_loopg [4, 5, 6] k (fun kq v4 v5 v6 w' => ∃ (x4_1 : List Int) (x5_1 : List (List Int)) (x6_1 : Int), v6 = .int .i64 x6_1 ∧ Aside0 (spec_codeLengths.l0 kq l0 y250 x4_1 x5_1 x6_1 = some r) ∧ Aside0 (kq ≤ k) ∧ Aside0 (Kd.R (Kd.int .i64) 3 w' w.heap.size (fun k_ => some k_ ≠ (v4 : Value).ownBlock) v251 y250) ∧ Aside0 (Kd.R (Kd.int .i64) 3 w' w.heap.size (fun k_ => some k_ ≠ (v251 : Value).ownBlock) v4 x4_1) ∧ Aside0 (Kd.S (Kd.slice 3 (Kd.int .i64)) 22 w' w.heap.size (fun k_ => some k_ ≠ (v251 : Value).ownBlock ∧ some k_ ≠ (v4 : Value).ownBlock) v5 x5_1) ∧ Aside0 (Below w.heap.size w w'))
 case atStart => exact ⟨(y253), (y256), (0), qE, H', ⟨Nat.le_refl _⟩, ⟨by refine qR ?_; exact Kd.R_mono HO252.out (fun _ hk => hk.2)⟩, ⟨by refine qR ?_; exact Kd.R_mono HO255.out (fun _ hk => hk.2)⟩, ⟨by (with_reducible repeat (first | apply Kd.S_alloc | apply Kd.S_drewN | apply Kd.S_drew)); exact Kd.S_mono HO258.out (fun _ hk => ⟨hk.1.2, hk.2⟩)⟩, ⟨by exact qW HB.out⟩⟩
 case round =>
  clear H'
  try clear c2
  try clear c2b0
  try clear c2b1
  try clear c3
  try clear c3b0
  try clear c3b1
  obtain ⟨x4_1, x5_1, x6_1, rfl, HA, HK1, HO_3, HO_4, HO_5, HB⟩ := hrel
  cases gk with
  | zero => exact absurd HA.out (by simp [spec_codeLengths.l0])
  | succ k1 =>
   have H := HA.out
   clear HA
   simp only [spec_codeLengths.l0] at H
   by_cases c10 : x6_1 < (l0.length : Int)
   ·rw [if_pos c10] at H
    have c10b0 : decide (x6_1 < (l0.length : Int)) = true := decide_eq_true c10
    clear c10
    replace H := iD H
    obtain ⟨c11b0, H⟩ := H
    by_cases c12 : (rd l0 x6_1) > 0
    rotate_left
    ·rw [if_neg c12] at H
     have c12b0 : decide (0 < (rd l0 x6_1)) = false := decide_eq_false c12
     clear c12
     have H' := aM H
     clear H
     obtain ⟨ad259, e259, hx259_0⟩ := Kd.at_int HR0.out x6_1 oD oD
     cases e259
     replace hx259_0 := bD HB hx259_0
     have p259 := eq_true (oD : 0 ≤ (x6_1 : Int))
     have q259 := eq_true (oD : x6_1 < (l0.length : Int))
     go_wp2
     go_roundg k1
     case measure => have := HK1.out; omega
     case rel => exact ⟨(x4_1), (x5_1), (wrap64 (x6_1 + 1)), qE, H', ⟨by have := HK1.out; omega⟩, ⟨by refine qR ?_; exact HO_3.out⟩, ⟨by refine qR ?_; exact HO_4.out⟩, ⟨by (with_reducible repeat (first | apply Kd.S_alloc | apply Kd.S_drewN | apply Kd.S_drew)); exact HO_5.out⟩, ⟨by exact qW HB.out⟩⟩
    rw [if_pos c12] at H
    have c12b0 : decide (0 < (rd l0 x6_1)) = true := decide_eq_true c12
    clear c12
    replace H := iS H
    obtain ⟨c13, H⟩ := H
    have LMc13 := aM c13
    clear c13
    obtain ⟨y261, hy261⟩ : ∃ y_ : List Int, y_ = (x4_1 ++ [rd l0 x6_1]) := ⟨_, rfl⟩
    replace H : (if x5_1.length < 5864062014805 then (spec_codeLengths.l0 k1 l0 y250 y261 (x5_1 ++ [(([x6_1] : List Int))]) (wrap64 (x6_1 + 1))) else (none)) = some r := rY hy261 H
    have Ny261 := aM hy261
    clear hy261
    obtain ⟨y264, hy264⟩ : ∃ y_ : List Int, y_ = (([x6_1] : List Int)) := ⟨_, rfl⟩
    replace H : (if x5_1.length < 5864062014805 then (spec_codeLengths.l0 k1 l0 y250 y261 (x5_1 ++ [y264]) (wrap64 (x6_1 + 1))) else (none)) = some r := rY hy264 H
    have Ny264 := aM hy264
    clear hy264
    replace H := iS H
    obtain ⟨c14, H⟩ := H
    have LMc14 := aM c14
    clear c14
    obtain ⟨y267, hy267⟩ : ∃ y_ : List (List Int), y_ = (x5_1 ++ [y264]) := ⟨_, rfl⟩
    replace H : (spec_codeLengths.l0 k1 l0 y250 y261 y267 (wrap64 (x6_1 + 1))) = some r := rY hy267 H
    have Ny267 := aM hy267
    clear hy267
    have H' := aM H
    clear H
    obtain ⟨ad259, e259, hx259_0⟩ := Kd.at_int HR0.out x6_1 oD oD
    cases e259
    replace hx259_0 := bD HB hx259_0
    have p259 := eq_true (oD : 0 ≤ (x6_1 : Int))
    have q259 := eq_true (oD : x6_1 < (l0.length : Int))
    obtain ⟨ad260, e260, hx260_0⟩ := Kd.at_int HR0.out x6_1 oD oD
    obtain rfl : ad259 = ad260 := (by injection e260)
    replace hx260_0 := bD HB hx260_0
    have p260 := eq_true (oD : 0 ≤ (x6_1 : Int))
    have q260 := eq_true (oD : x6_1 < (l0.length : Int))
    go_wp2_with (first | ((with_reducible refine gate_builtin (b := .append) (xs := #[.tmp 29, .tmp 34]) rfl ?_); at_builtin; refine Kd.R_append (Kd.int .i64) (w0 := w) w.heap.size rfl (.tmp 29) (.tmp 34) 22 3 (.int .i64 0) 8 rfl Try.underlying22 info3 rfl (by decide) (by omega) u4 x4_1 (rd l0 x6_1) [.int .i64 (rd l0 x6_1)] (fun k_ => some k_ ≠ (v251 : Value).ownBlock) (fun _ => False) rfl rfl ?aP (fun _ hk => hk.elim) ?aF ?aO ?aB ?aS ?aL ?_; (case aP => exact rfl); (case aB => exact (qW HB.out)); (case aF => exact (fun k_ hk => Kd.fresh' (Kd.R_lt (qR HO_3.out)) k_ hk)); (case aO => exact (qR HO_4.out)); (case aS => exact (below_size (qW HB.out))); (case aL => have := LMc13.out; omega); intro v262 w15 ho hb hg hat; rw [← Ny261.out] at ho; replace HO_3 := aM (Kd.R_after (ok := (fun _ => True)) (by refine qR ?_; exact Kd.R_mono HO_3.out (fun _ hk => ⟨trivial, hk⟩)) hg hat); replace HO_5 := aM (Kd.S_after (ok := (fun k_ => some k_ ≠ (v251 : Value).ownBlock)) (by (with_reducible repeat (first | apply Kd.S_alloc | apply Kd.S_drewN | apply Kd.S_drew)); exact HO_5.out) hg hat); replace HB := aM (hb); have HO263 := aM (ho); clear HO_4; clear ho hb hg hat) | ((with_reducible refine gate_dst (N := 38) rfl ?_); refine iL ([x6_1] : List Int) [.int .i64 x6_1] ?_; intro v265 w16 ho17 hb hg_ hnew_; clear hg_ hnew_; (first | rw [← Ny264.out] at ho17 | (simp only [Int.reduceToNat] at ho17; rw [← Ny264.out] at ho17)); replace HO_5 := aM (Kd.S_elder' (by (with_reducible repeat (first | apply Kd.S_alloc | apply Kd.S_drewN | apply Kd.S_drew)); exact HO_5.out) (Kd.R_base ho17) hb); have HO266 := aM (Kd.R_lower (Kd.R_new' (Kd.R_new' ho17 (Kd.R_lt (qR HO_3.out))) (Kd.R_lt (qR HO263.out))) (below_size (qW HB.out))); replace HO_3 := aM (Kd.R_elder' (qR HO_3.out) (Kd.R_base ho17) hb); replace HO263 := aM (Kd.R_elder' (qR HO263.out) (Kd.R_base ho17) hb); replace HB := bS HB hb; clear hb ho17; obtain ⟨Ao19, co19, rfl⟩ := sL HO266) | ((with_reducible refine gate_builtin (b := .append) (xs := #[.tmp 36, .tmp 39]) rfl ?_); at_builtin; refine Kd.S_append (Kd.slice 3 (Kd.int .i64)) (w0 := w) w.heap.size rfl (.tmp 36) (.tmp 39) 63 22 (.slice none 0 0) 24 rfl Try.underlying63 info22 rfl (by decide) (by omega) u5 x5_1 y264 [.slice Ao19 y264.length co19] (fun k_ => some k_ ≠ (v251 : Value).ownBlock ∧ some k_ ≠ (v262 : Value).ownBlock) (fun k_ => some k_ = (.slice Ao19 y264.length co19 : Value).ownBlock) rfl rfl ?aP (fun k_ hk_ => ((Kd.R_mono (ok' := fun k_ => ((fun k_ => some k_ ≠ (v251 : Value).ownBlock ∧ some k_ ≠ (v262 : Value).ownBlock)) k_ ∧ some k_ ≠ (u5 : Value).ownBlock) (Kd.R_apart' (HO266.out) (Kd.S_typed HO_5.out) (by decide)) (fun k_ hk => ⟨⟨hk.1.1.2, hk.1.2⟩, hk.2⟩))).1 k_ hk_.symm) ?aF ?aO ?aB ?aS ?aL ?_; (case aP => exact Kd.M_row (Kd.R_mono (Kd.R_tight rfl (Kd.R_mono (ok' := fun k_ => ((fun k_ => some k_ ≠ (v251 : Value).ownBlock ∧ some k_ ≠ (v262 : Value).ownBlock)) k_ ∧ some k_ ≠ (u5 : Value).ownBlock) (Kd.R_apart' (HO266.out) (Kd.S_typed HO_5.out) (by decide)) (fun k_ hk => ⟨⟨hk.1.1.2, hk.1.2⟩, hk.2⟩))) (fun _ h_ => h_))); (case aB => exact (qW HB.out)); (case aF => exact (fun k_ hk => ⟨Kd.fresh' (Kd.R_lt (qR HO_3.out)) k_ hk, Kd.fresh' (Kd.R_lt (qR HO263.out)) k_ hk⟩)); (case aO => exact (by (with_reducible repeat (first | apply Kd.S_alloc | apply Kd.S_drewN | apply Kd.S_drew)); exact Kd.S_mono HO_5.out (fun k_ hk => ⟨⟨hk.1.1, hk.1.2⟩, fun e_ => hk.2 e_⟩))); (case aS => exact (below_size (qW HB.out))); (case aL => have := LMc14.out; omega); intro v268 w18 ho hb hg hat; rw [← Ny267.out] at ho; replace HO_3 := aM (Kd.R_over' (qR HO_3.out) (Kd.S_typed (by (with_reducible repeat (first | apply Kd.S_alloc | apply Kd.S_drewN | apply Kd.S_drew)); exact HO_5.out)) (by decide) hg); replace HO263 := aM (Kd.R_over' (qR HO263.out) (Kd.S_typed (by (with_reducible repeat (first | apply Kd.S_alloc | apply Kd.S_drewN | apply Kd.S_drew)); exact HO_5.out)) (by decide) hg); replace HB := aM (hb); have HO269 := aM (ho); clear HO_5 HO266; clear ho hb hg hat))
    go_roundg k1
    case measure => have := HK1.out; omega
    case rel => exact ⟨(y261), (y267), (wrap64 (x6_1 + 1)), qE, H', ⟨by have := HK1.out; omega⟩, ⟨by refine qR ?_; exact Kd.R_mono HO_3.out (fun _ hk => hk.1.2)⟩, ⟨by refine qR ?_; exact Kd.R_mono HO263.out (fun _ hk => hk.1)⟩, ⟨by (with_reducible repeat (first | apply Kd.S_alloc | apply Kd.S_drewN | apply Kd.S_drew)); exact HO269.out⟩, ⟨by exact qW HB.out⟩⟩
   rw [if_neg c10] at H
   have c10b0 : decide (x6_1 < (l0.length : Int)) = false := decide_eq_false c10
   clear c10
   by_cases c20 : (x4_1.length : Int) = 1
   ·rw [if_pos c20] at H
    have c20b0 : ((x4_1.length : Int) == 1) = true := beq_iff_eq.mpr c20
    have c20b1 : ((x4_1.length : Int) != 1) = false := bne_eq_false_iff_eq.mpr c20
    clear c20
    replace H := iS H
    obtain ⟨c21, H⟩ := H
    have c21b0 : decide (0 < (x5_1.length : Int)) = true := decide_eq_true c21
    have c21b1 : decide (0 < x5_1.length) = true := decide_eq_true (by omega)
    clear c21
    replace H := iS H
    obtain ⟨c22, H⟩ := H
    have c22b0 : decide (0 < ((rd_L3 x5_1 0).length : Int)) = true := decide_eq_true c22
    have c22b1 : decide (0 < (rd_L3 x5_1 0).length) = true := decide_eq_true (by omega)
    clear c22
    replace H := iD H
    obtain ⟨c23b0, H⟩ := H
    replace H := iD H
    obtain ⟨c24b0, H⟩ := H
    obtain ⟨y272, hy272⟩ : ∃ y_ : List Int, y_ = (y250.set ((rd (rd_L3 x5_1 0) 0) : Int).toNat 1) := ⟨_, rfl⟩
    replace H : (some y272) = some r := rY hy272 H
    have Ny272 := aM hy272
    clear hy272
    obtain rfl := Option.some.inj H
    obtain ⟨Ao26, co26, rfl⟩ := sL HO_4
    obtain ⟨Ao27, co27, eo27⟩ := Kd.S_slice HO_5.out
    subst eo27
    have p270 : 0 ≤ (0 : Int) := (by omega)
    have q270 : 0 < (x5_1.length : Int) := oD
    obtain ⟨ad270, A270_0, c270_0, e270, hx270_0, hl270_0, hi270_0⟩ := at_L3 (Kd.S_reads' HO_5.out).2.2 0 p270 q270
    cases e270
    obtain ⟨ce270, hce270, hMe270, hcc270⟩ := Kd.S_get HO_5.out [] 0 p270 (by first | exact q270 | exact oD | (have e_ := (Kd.S_reads' HO_5.out).1; omega))
    obtain ⟨ve270_0, rfl, ge270_0⟩ := hMe270
    have hv270_0 := hcc270 0 _ rfl
    rw [Nat.add_zero, show ((Kd.slice 3 (Kd.int .i64))).sz = 1 from rfl, Nat.mul_one] at hv270_0
    replace hv270_0 := Option.some.inj (hv270_0.symm.trans hx270_0)
    rw [hv270_0] at ge270_0
    have HL270_0 := aM (show Kd.R (Kd.int .i64) 3 _ _ _ _ (rd_L3 x5_1 0) from ge270_0)
    clear hv270_0 ge270_0
    clear hcc270 hce270
    have qi270 : (0 < x5_1.length) = True := eq_true (by omega)
    (try rw [show ((0 : Int)).toNat = 0 from rfl] at hx270_0)
    (try rw [Addr.add_zero'] at hx270_0)
    have HR270_0 := aM hi270_0
    have HC270_0 := aM hl270_0
    clear hi270_0 hl270_0
    replace p270 := eq_true p270
    replace q270 := eq_true q270
    have p271 : 0 ≤ (0 : Int) := (by omega)
    have q271 : 0 < ((rd_L3 x5_1 0).length : Int) := oD
    obtain ⟨ad271, e271, hx271_0⟩ := Kd.at_int (by repeat (first | (with_reducible exact HR270_0.out) | (with_reducible refine Kd.C_alloc ?_ _) | (with_reducible refine Kd.C_drewN ?_ _) | (with_reducible refine Kd.C_drew ?_) | exact HR270_0.out)) 0 p271 q271
    cases e271
    have qi271 : (0 < (rd_L3 x5_1 0).length) = True := eq_true (by omega)
    (try rw [show ((0 : Int)).toNat = 0 from rfl] at hx271_0)
    (try rw [Addr.add_zero'] at hx271_0)
    replace p271 := eq_true p271
    replace q271 := eq_true q271
    have p25 : 0 ≤ ((rd (rd_L3 x5_1 0) 0) : Int) := oD
    have q25 : ((rd (rd_L3 x5_1 0) 0) : Int) < ((y250.length : Int) : Int) := oD
    obtain ⟨go25, co25, eo25, gb25, gl25, cl25, HG25⟩ := Kd.R_form HO_3.out (by omega)
    (first | cases eo25 | (injection eo25 with ea_ en_ ec_; (first | subst ea_ | (injection ea_ with ea_; subst ea_)); subst ec_; clear en_))
    have GB25 := aM gb25
    have GG25 := aM HG25
    clear gb25 gl25 HG25
    obtain ⟨hx25_0, hf25_0⟩ := Kd.R_celln 0 HO_3.out ((rd (rd_L3 x5_1 0) 0) : Int) p25 q25
    replace p25 := eq_true p25
    replace q25 := eq_true q25
    have HP28 := Kd.R_putg HO_3.out ((rd (rd_L3 x5_1 0) 0) : Int) 1
    go_wp2_with (first | ((with_reducible refine gate_store (t := 3) (p := 50) rfl ?_); refine store_event (t := 3) (p := 50) (v := ?vo_w29) (w1 := (wr.setCell ⟨go25, ((rd (rd_L3 x5_1 0) 0) : Int).toNat, none⟩ (.int .i64 1))) ?hg ?ho ?hn ?hr ?_; (case ho => rfl); (case hg => rfl); (case hn => rfl); (case hr => first | (go_simp; done) | (go_simp; rfl)); intro w29 hw; have hg : wr.grownBy w29 (some go25) := (by rw [hw]; exact HP28.2); have hp_ : Kd.R (Kd.int .i64) 3 w29 w.heap.size (fun k_ => some k_ ≠ (.slice Ao26 x4_1.length co26 : Value).ownBlock) (.slice (some ⟨go25, 0, none⟩) y250.length co25) y272 := (by rw [hw, Ny272.out]; exact HP28.1); clear HP28; replace HO_3 := aM (hp_); replace HO_4 := aM (Kd.R_after (v := (.slice (some ⟨go25, 0, none⟩) y250.length co25)) (v1 := (.slice (some ⟨go25, 0, none⟩) y250.length co25)) (ok := (fun _ => True)) (by refine qR ?_; exact Kd.R_mono HO_4.out (fun _ hk => ⟨trivial, hk⟩)) hg (.inl rfl)); replace HO_5 := aM (Kd.S_after (v := (.slice (some ⟨go25, 0, none⟩) y250.length co25)) (v1 := (.slice (some ⟨go25, 0, none⟩) y250.length co25)) (ok := (fun k_ => some k_ ≠ (.slice Ao26 x4_1.length co26 : Value).ownBlock)) (by (with_reducible repeat (first | apply Kd.S_alloc | apply Kd.S_drewN | apply Kd.S_drew)); exact Kd.S_mono HO_5.out (fun _ hk => ⟨hk.2, hk.1⟩)) hg (.inl rfl)); replace HL270_0 := aM (Kd.R_after (v := (.slice (some ⟨go25, 0, none⟩) y250.length co25)) (v1 := (.slice (some ⟨go25, 0, none⟩) y250.length co25)) (ok := (fun k_ => some k_ ≠ (.slice Ao26 x4_1.length co26 : Value).ownBlock ∧ some k_ ≠ (.slice (some ad270) x5_1.length co27 : Value).ownBlock)) (by refine qR ?_; exact Kd.R_mono HL270_0.out (fun _ hk => ⟨⟨hk.1.2, hk.2⟩, hk.1.1⟩)) hg (.inl rfl)); replace HB := aM ((by rw [hw]; exact below_set (HB.out) GB25.out : Below w.heap.size w w29)); clear hg hw hp_))
    go_ret
    exact ⟨_, qX, by refine qR ?_; exact Kd.R_mono HO_3.out (fun _ hk => trivial), by exact qW HB.out⟩
   rw [if_neg c20] at H
   have c20b0 : ((x4_1.length : Int) == 1) = false := beq_eq_false_iff_ne.mpr c20
   have c20b1 : ((x4_1.length : Int) != 1) = true := bne_iff_ne.mpr c20
   replace H := iS H
   obtain ⟨c30, H⟩ := H
   have c30b0 := eq_true c30
   have c30b1 : decide (0 ≤ (x4_1.length : Int)) = true := decide_eq_true c30
   clear c30
   replace H := iS H
   obtain ⟨c31, H⟩ := H
   have c31b0 := eq_true c31
   have c31b1 : decide (((x4_1.length : Int) : Int).toNat ≤ 281474976710656) = true := decide_eq_true c31
   clear c31
   obtain ⟨y273, hy273⟩ : ∃ y_ : List Bool, y_ = (List.replicate ((x4_1.length : Int) : Int).toNat false) := ⟨_, rfl⟩
   replace H : (spec_codeLengths.l1 k1 y250 x4_1 x5_1 y273 (x4_1.length : Int)) = some r := rY hy273 H
   have Ny273 := aM hy273
   clear hy273
   have H' := aM H
   clear H
   obtain ⟨Ao32, co32, rfl⟩ := sL HO_4
   go_wp2_with (first | ((with_reducible refine gate_dst (N := 54) rfl ?_); refine Kd.R_make Kd.bool _ 4 rfl (N := 54) rfl 64 _ _ rfl (x4_1.length : Int) rfl rfl Try.underlying64 (.bool false) 1 info4 rfl (by decide) (by omega) false (ok := fun _ => True) (okp := fun _ => True) rfl (fun _ hk => hk) trivial oD (Nat.le_trans (Nat.mul_le_mul_right _ (oD : (x4_1.length : Int).toNat ≤ 281474976710656)) (by omega)) (Below.refl _ _) (Nat.le_refl _) ?_; intro v274 w33 ho34 hb hg_ hnew_; clear hg_ hnew_; (first | rw [← Ny273.out] at ho34 | (simp only [Int.reduceToNat] at ho34; rw [← Ny273.out] at ho34)); replace HO_3 := aM (Kd.R_below (qR HO_3.out) hb); replace HO_4 := aM (Kd.R_below (qR HO_4.out) hb); replace HO_5 := aM (Kd.S_below (by (with_reducible repeat (first | apply Kd.S_alloc | apply Kd.S_drewN | apply Kd.S_drew)); exact HO_5.out) hb); have HO275 := oR ho34 HB; replace HB := bS HB hb; clear hb ho34))
   go_loopg [4, 5, 7, 8] k1 (fun kq v4 v5 v7 v8 w' => ∃ (x3_2 : List Int) (x4_2 : List Int) (x5_2 : List (List Int)) (x7_2 : List Bool) (x8_2 : Int), v8 = .int .i64 x8_2 ∧ Aside0 (spec_codeLengths.l1 kq x3_2 x4_2 x5_2 x7_2 x8_2 = some r) ∧ Aside0 (kq ≤ k1) ∧ Aside0 (Kd.R (Kd.int .i64) 3 w' w.heap.size (fun k_ => some k_ ≠ (v4 : Value).ownBlock) v251 x3_2) ∧ Aside0 (Kd.R (Kd.int .i64) 3 w' w.heap.size (fun k_ => some k_ ≠ (v251 : Value).ownBlock) v4 x4_2) ∧ Aside0 (Kd.S (Kd.slice 3 (Kd.int .i64)) 22 w' w.heap.size (fun k_ => some k_ ≠ (v251 : Value).ownBlock ∧ some k_ ≠ (v4 : Value).ownBlock) v5 x5_2) ∧ Aside0 (Kd.R Kd.bool 4 w' w.heap.size (fun _ => True) v7 x7_2) ∧ Aside0 (Below w.heap.size w w'))
   case atStart => exact ⟨(y250), (x4_1), (x5_1), (y273), ((x4_1.length : Int)), qE, H', ⟨Nat.le_refl _⟩, ⟨by refine qR ?_; exact HO_3.out⟩, ⟨by refine qR ?_; exact HO_4.out⟩, ⟨by (with_reducible repeat (first | apply Kd.S_alloc | apply Kd.S_drewN | apply Kd.S_drew)); exact HO_5.out⟩, ⟨by refine qR ?_; exact HO275.out⟩, ⟨by exact qW HB.out⟩⟩
   case round =>
    clear H'
    try clear c2
    try clear c2b0
    try clear c2b1
    try clear c3
    try clear c3b0
    try clear c3b1
    try clear c10
    try clear c10b0
    try clear c11b0
    try clear c12
    try clear c12b0
    try clear c13
    try clear c14
    try clear c20
    try clear c20b0
    try clear c20b1
    try clear c21
    try clear c21b0
    try clear c21b1
    try clear c22
    try clear c22b0
    try clear c22b1
    try clear c23b0
    try clear c24b0
    try clear p25
    try clear q25
    try clear c30
    try clear c30b0
    try clear c30b1
    try clear c31
    try clear c31b0
    try clear c31b1
    try clear hx259_0
    try clear hx25_0
    try clear hx260_0
    try clear hx270_0
    try clear hx271_0
    try clear p25
    try clear p259
    try clear p260
    try clear p270
    try clear p271
    try clear q25
    try clear q259
    try clear q260
    try clear q270
    try clear q271
    obtain ⟨x3_2, x4_2, x5_2, x7_2, x8_2, rfl, HA, HK2, HO_3, HO_4, HO_5, HO_7, HB⟩ := hrel
    cases gk with
    | zero => exact absurd HA.out (by simp [spec_codeLengths.l1])
    | succ k2 =>
     have H := HA.out
     clear HA
     simp only [spec_codeLengths.l1] at H
     by_cases c35 : x8_2 > 1
     rotate_left
     ·rw [if_neg c35] at H
      have c35b0 : decide (1 < x8_2) = false := decide_eq_false c35
      clear c35
      obtain rfl := Option.some.inj H
      go_wp2
      go_ret
      exact ⟨_, qX, by refine qR ?_; exact Kd.R_mono HO_3.out (fun _ hk => trivial), by exact qW HB.out⟩
     rw [if_pos c35] at H
     have c35b0 : decide (1 < x8_2) = true := decide_eq_true c35
     clear c35
     replace H := Option.bind_eq_some_iff.mp H
     obtain ⟨t276, A360, H⟩ := H
     replace H : (if 0 ≤ t276 then (if t276 < (x7_2.length : Int) then ((some (x7_2.set (t276 : Int).toNat true : List Bool)).bind fun y277 => ((spec_lightest.f k2 x4_2 y277).bind fun t278 => (if 0 ≤ t278 then (if t278 < (x7_2.length : Int) then (if t276 < (x5_2.length : Int) then ((spec_copyInts.f (rd_L3 x5_2 t276)).bind fun t281 => (if t278 < (x5_2.length : Int) then (if t281.length + (rd_L3 x5_2 t278).length < 17592186044416 then (spec_codeLengths.l2 k2 x3_2 x4_2 x5_2 (y277.set (t278 : Int).toNat true) x8_2 t276 t278 (t281 ++ (rd_L3 x5_2 t278)) 0) else (none)) else (none))) else (none)) else (none)) else (none)))) else (none)) else (none)) = some r := H
     have A36 := aM A360
     clear A360
     replace H := iD H
     obtain ⟨c37b0, H⟩ := H
     replace H := iD H
     obtain ⟨c38b0, H⟩ := H
     obtain ⟨y277, hy277⟩ : ∃ y_ : List Bool, y_ = (x7_2.set (t276 : Int).toNat true) := ⟨_, rfl⟩
     replace H : ((spec_lightest.f k2 x4_2 y277).bind fun t278 => (if 0 ≤ t278 then (if t278 < (x7_2.length : Int) then (if t276 < (x5_2.length : Int) then ((spec_copyInts.f (rd_L3 x5_2 t276)).bind fun t281 => (if t278 < (x5_2.length : Int) then (if t281.length + (rd_L3 x5_2 t278).length < 17592186044416 then (spec_codeLengths.l2 k2 x3_2 x4_2 x5_2 (y277.set (t278 : Int).toNat true) x8_2 t276 t278 (t281 ++ (rd_L3 x5_2 t278)) 0) else (none)) else (none))) else (none)) else (none)) else (none))) = some r := rY hy277 H
     have Ny277 := aM hy277
     clear hy277
     replace H := Option.bind_eq_some_iff.mp H
     obtain ⟨t278, A400, H⟩ := H
     replace H : (if 0 ≤ t278 then (if t278 < (x7_2.length : Int) then (if t276 < (x5_2.length : Int) then ((spec_copyInts.f (rd_L3 x5_2 t276)).bind fun t281 => (if t278 < (x5_2.length : Int) then (if t281.length + (rd_L3 x5_2 t278).length < 17592186044416 then (spec_codeLengths.l2 k2 x3_2 x4_2 x5_2 (y277.set (t278 : Int).toNat true) x8_2 t276 t278 (t281 ++ (rd_L3 x5_2 t278)) 0) else (none)) else (none))) else (none)) else (none)) else (none)) = some r := H
     have A40 := aM A400
     clear A400
     replace H := iD H
     obtain ⟨c41b0, H⟩ := H
     replace H := iD H
     obtain ⟨c42b0, H⟩ := H
     obtain ⟨y279, hy279⟩ : ∃ y_ : List Bool, y_ = (y277.set (t278 : Int).toNat true) := ⟨_, rfl⟩
     replace H : (if t276 < (x5_2.length : Int) then ((spec_copyInts.f (rd_L3 x5_2 t276)).bind fun t281 => (if t278 < (x5_2.length : Int) then (if t281.length + (rd_L3 x5_2 t278).length < 17592186044416 then (spec_codeLengths.l2 k2 x3_2 x4_2 x5_2 y279 x8_2 t276 t278 (t281 ++ (rd_L3 x5_2 t278)) 0) else (none)) else (none))) else (none)) = some r := rY hy279 H
     have Ny279 := aM hy279
     clear hy279
     replace H := iD H
     obtain ⟨c44b0, H⟩ := H
     replace H := Option.bind_eq_some_iff.mp H
     obtain ⟨t281, A450, H⟩ := H
     replace H : (if t278 < (x5_2.length : Int) then (if t281.length + (rd_L3 x5_2 t278).length < 17592186044416 then (spec_codeLengths.l2 k2 x3_2 x4_2 x5_2 y279 x8_2 t276 t278 (t281 ++ (rd_L3 x5_2 t278)) 0) else (none)) else (none)) = some r := H
     have A45 := aM A450
     clear A450
     replace H := iD H
     obtain ⟨c46b0, H⟩ := H
     replace H := iS H
     obtain ⟨c47, H⟩ := H
     have LMc47 := aM c47
     clear c47
     obtain ⟨y285, hy285⟩ : ∃ y_ : List Int, y_ = (t281 ++ (rd_L3 x5_2 t278)) := ⟨_, rfl⟩
     replace H : (spec_codeLengths.l2 k2 x3_2 x4_2 x5_2 y279 x8_2 t276 t278 y285 0) = some r := rY hy285 H
     have Ny285 := aM hy285
     clear hy285
     have H' := aM H
     clear H
     obtain ⟨Ao48, co48, rfl⟩ := sL HO_4
     obtain ⟨Ao49, co49, rfl⟩ := sL HO_7
     try go_wp2_with (first | ((with_reducible refine gate_callee (f := 54) rfl ?_); refine gL (some 63) Try.func54 #[.slice Ao48 x4_2.length co48, .slice Ao49 x7_2.length co49] ?_; (with_reducible refine (spec_lightest.calls k2 _ _ x4_2 _ _ x7_2 t276 _ ?side1 ?side2 ?side3 ?side4 A36.out).mono ?_); (case side1 => exact qC (Kd.R_reads' HO_4.out).2.2); (case side2 => exact (Kd.R_reads' HO_4.out).2.1); (case side3 => exact qC (Kd.R_reads' HO_7.out).2.2); (case side4 => exact (Kd.R_reads' HO_7.out).2.1); rintro e w' ⟨rfl, ⟨nd, rfl⟩⟩; refine ⟨_, rfl, ?_⟩; (try (rw [drewN_self wr]; generalize hq_ : World.drewN wr _ = wr; replace HO_3 : Aside0 (Kd.R (Kd.int .i64) 3 wr w.heap.size (fun k_ => some k_ ≠ (.slice Ao48 x4_2.length co48 : Value).ownBlock) v251 x3_2) := ⟨by rw [← hq_]; exact (qR HO_3.out)⟩; replace HO_4 : Aside0 (Kd.R (Kd.int .i64) 3 wr w.heap.size (fun k_ => some k_ ≠ (v251 : Value).ownBlock) (.slice Ao48 x4_2.length co48) x4_2) := ⟨by rw [← hq_]; exact (qR HO_4.out)⟩; replace HO_5 : Aside0 (Kd.S (Kd.slice 3 (Kd.int .i64)) 22 wr w.heap.size (fun k_ => some k_ ≠ (v251 : Value).ownBlock ∧ some k_ ≠ (.slice Ao48 x4_2.length co48 : Value).ownBlock) u5 x5_2) := ⟨by rw [← hq_]; exact (by (with_reducible repeat (first | apply Kd.S_alloc | apply Kd.S_drewN | apply Kd.S_drew)); exact HO_5.out)⟩; replace HO_7 : Aside0 (Kd.R Kd.bool 4 wr w.heap.size (fun _ => True) (.slice Ao49 x7_2.length co49) x7_2) := ⟨by rw [← hq_]; exact (qR HO_7.out)⟩; replace HB : Aside0 (Below w.heap.size w wr) := ⟨by rw [← hq_]; exact (qW HB.out)⟩; clear hq_)); have p39 : 0 ≤ (t276 : Int) := oD; have q39 : (t276 : Int) < ((x7_2.length : Int) : Int) := oD; obtain ⟨go39, co39, eo39, gb39, gl39, cl39, HG39⟩ := Kd.R_form HO_7.out (by omega); (first | cases eo39 | (injection eo39 with ea_ en_ ec_; (first | subst ea_ | (injection ea_ with ea_; subst ea_)); subst ec_; clear en_)); have GB39 := aM gb39; have GG39 := aM HG39; clear gb39 gl39 HG39; obtain ⟨hx39_0, hf39_0⟩ := Kd.R_celln false HO_7.out (t276 : Int) p39 q39; replace p39 := eq_true p39; replace q39 := eq_true q39; obtain ⟨hy50_, hz50_⟩ := Kd.R_celln false HO_7.out (t276 : Int) oD oD; have HP50 := Kd.R_putg HO_7.out (t276 : Int) true) | ((with_reducible refine gate_store (t := 4) (p := 66) rfl ?_); refine store_event (t := 4) (p := 66) (v := ?vo_w51) (w1 := (wr.setCell ⟨go39, (t276 : Int).toNat, none⟩ (.bool true))) ?hg ?ho ?hn ?hr ?_; (case ho => rfl); (case hg => rfl); (case hn => rfl); (case hr => first | (go_simp; done) | (go_simp; rfl)); intro w51 hw; have hg : wr.grownBy w51 (some go39) := (by rw [hw]; exact HP50.2); have hp_ : Kd.R Kd.bool 4 w51 w.heap.size (fun _ => True) (.slice (some ⟨go39, 0, none⟩) x7_2.length co49) y277 := (by rw [hw, Ny277.out]; exact HP50.1); clear HP50; replace HO_3 := aM (Kd.R_over' (v := (.slice (some ⟨go39, 0, none⟩) x7_2.length co49)) (qR HO_3.out) (Kd.R_typed HO_7.out) (by decide) hg); replace HO_4 := aM (Kd.R_over' (v := (.slice (some ⟨go39, 0, none⟩) x7_2.length co49)) (qR HO_4.out) (Kd.R_typed HO_7.out) (by decide) hg); replace HO_5 := aM (Kd.S_over' (v := (.slice (some ⟨go39, 0, none⟩) x7_2.length co49)) (by (with_reducible repeat (first | apply Kd.S_alloc | apply Kd.S_drewN | apply Kd.S_drew)); exact HO_5.out) (Kd.R_typed HO_7.out) (by decide) hg); replace HO_7 := aM (hp_); replace HB := aM ((by rw [hw]; exact below_set (HB.out) GB39.out : Below w.heap.size w w51)); clear hg hw hp_) | ((with_reducible refine gate_callee (f := 54) rfl ?_); refine goesL_ (some 69) rfl rfl Try.func54 (by kernel_rfl) rfl #[.slice Ao48 x4_2.length co48, .slice (some ⟨go39, 0, none⟩) y277.length co49] rfl (by (try simp only [List.map_toArray, List.map_cons, List.map_nil]); first | done | (rw [show y277.length = x7_2.length from (Kd.R_reads' HO_7.out).1.symm] <;> rfl) | rfl | (simp only [List.length_drop, List.length_take]; rfl)) ?_; (with_reducible refine (spec_lightest.calls k2 _ _ x4_2 _ _ y277 t278 _ ?side1 ?side2 ?side3 ?side4 A40.out).mono ?_); (case side1 => exact qC (Kd.R_reads' HO_4.out).2.2); (case side2 => exact (Kd.R_reads' HO_4.out).2.1); (case side3 => exact qC (Kd.R_reads' HO_7.out).2.2); (case side4 => rw [show y277.length = x7_2.length from (Kd.R_reads' HO_7.out).1.symm]; exact (Kd.R_reads' HO_7.out).2.1); rintro e w' ⟨rfl, ⟨nd, rfl⟩⟩; refine ⟨_, rfl, ?_⟩; (try (rw [drewN_self w51]; generalize hq_ : World.drewN w51 _ = w51; replace HO_3 : Aside0 (Kd.R (Kd.int .i64) 3 w51 w.heap.size (fun k_ => some k_ ≠ (.slice Ao48 x4_2.length co48 : Value).ownBlock) v251 x3_2) := ⟨by rw [← hq_]; exact (qR HO_3.out)⟩; replace HO_4 : Aside0 (Kd.R (Kd.int .i64) 3 w51 w.heap.size (fun k_ => some k_ ≠ (v251 : Value).ownBlock) (.slice Ao48 x4_2.length co48) x4_2) := ⟨by rw [← hq_]; exact (qR HO_4.out)⟩; replace HO_5 : Aside0 (Kd.S (Kd.slice 3 (Kd.int .i64)) 22 w51 w.heap.size (fun k_ => some k_ ≠ (v251 : Value).ownBlock ∧ some k_ ≠ (.slice Ao48 x4_2.length co48 : Value).ownBlock) u5 x5_2) := ⟨by rw [← hq_]; exact (by (with_reducible repeat (first | apply Kd.S_alloc | apply Kd.S_drewN | apply Kd.S_drew)); exact HO_5.out)⟩; replace HO_7 : Aside0 (Kd.R Kd.bool 4 w51 w.heap.size (fun _ => True) (.slice (some ⟨go39, 0, none⟩) x7_2.length co49) y277) := ⟨by rw [← hq_]; exact (qR HO_7.out)⟩; replace HB : Aside0 (Below w.heap.size w w51) := ⟨by rw [← hq_]; exact (qW HB.out)⟩; clear hq_)); have p43 : 0 ≤ (t278 : Int) := oD; have q43 : (t278 : Int) < ((x7_2.length : Int) : Int) := oD; obtain ⟨hx43_0, hf43_0⟩ := Kd.R_celln false HO_7.out (t278 : Int) p43 q43; replace p43 := eq_true p43; replace q43 := eq_true q43; obtain ⟨hy52_, hz52_⟩ := Kd.R_celln false HO_7.out (t278 : Int) oD oD; have HP52 := Kd.R_putg HO_7.out (t278 : Int) true) | ((with_reducible refine gate_store (t := 4) (p := 72) rfl ?_); refine store_event (t := 4) (p := 72) (v := ?vo_w53) (w1 := (w51.setCell ⟨go39, (t278 : Int).toNat, none⟩ (.bool true))) ?hg ?ho ?hn ?hr ?_; (case ho => rfl); (case hg => rfl); (case hn => rfl); (case hr => first | (go_simp; done) | (go_simp; rfl)); intro w53 hw; have hg : w51.grownBy w53 (some go39) := (by rw [hw]; exact HP52.2); have hp_ : Kd.R Kd.bool 4 w53 w.heap.size (fun _ => True) (.slice (some ⟨go39, 0, none⟩) x7_2.length co49) y279 := (by rw [hw, Ny279.out]; exact HP52.1); clear HP52; replace HO_3 := aM (Kd.R_over' (v := (.slice (some ⟨go39, 0, none⟩) x7_2.length co49)) (qR HO_3.out) (Kd.R_typed HO_7.out) (by decide) hg); replace HO_4 := aM (Kd.R_over' (v := (.slice (some ⟨go39, 0, none⟩) x7_2.length co49)) (qR HO_4.out) (Kd.R_typed HO_7.out) (by decide) hg); replace HO_5 := aM (Kd.S_over' (v := (.slice (some ⟨go39, 0, none⟩) x7_2.length co49)) (by (with_reducible repeat (first | apply Kd.S_alloc | apply Kd.S_drewN | apply Kd.S_drew)); exact HO_5.out) (Kd.R_typed HO_7.out) (by decide) hg); replace HO_7 := aM (hp_); replace HB := aM ((by rw [hw]; exact below_set (HB.out) GB39.out : Below w.heap.size w w53)); clear hg hw hp_))
     replace HO_3 := aM (Kd.R_drew HO_3.out)
     replace HO_4 := aM (Kd.R_drew HO_4.out)
     replace HO_5 := aM (Kd.S_drew HO_5.out)
     replace HO_7 := aM (Kd.R_drew HO_7.out)
     replace HB := aM (below_drew1 HB.out)
     obtain ⟨Ao55, co55, eo55⟩ := Kd.S_slice HO_5.out
     (first | subst eo55 | (injection eo55 with f1_ f2_ f3_; have f4_ := f1_.symm; have f5_ := f3_.symm; clear f1_ f2_ f3_; subst f4_; subst f5_))
     have p280 : 0 ≤ (t276 : Int) := oD
     have q280 : t276 < (x5_2.length : Int) := oD
     obtain ⟨ad280, A280_0, c280_0, e280, hx280_0, hl280_0, hi280_0⟩ := at_L3 (Kd.S_reads' HO_5.out).2.2 t276 p280 q280
     cases e280
     obtain ⟨ce280, hce280, hMe280, hcc280⟩ := Kd.S_get HO_5.out [] t276 p280 (by first | exact q280 | exact oD | (have e_ := (Kd.S_reads' HO_5.out).1; omega))
     obtain ⟨ve280_0, rfl, ge280_0⟩ := hMe280
     have hv280_0 := hcc280 0 _ rfl
     rw [Nat.add_zero, show ((Kd.slice 3 (Kd.int .i64))).sz = 1 from rfl, Nat.mul_one] at hv280_0
     replace hv280_0 := Option.some.inj (hv280_0.symm.trans hx280_0)
     rw [hv280_0] at ge280_0
     have HL280_0 := aM (show Kd.R (Kd.int .i64) 3 _ _ _ _ (rd_L3 x5_2 t276) from ge280_0)
     clear hv280_0 ge280_0
     clear hcc280 hce280
     have HR280_0 := aM hi280_0
     have HC280_0 := aM hl280_0
     clear hi280_0 hl280_0
     replace p280 := eq_true p280
     replace q280 := eq_true q280
     have p284 : 0 ≤ (t278 : Int) := oD
     have q284 : t278 < (x5_2.length : Int) := oD
     obtain ⟨ad284, A284_0, c284_0, e284, hx284_0, hl284_0, hi284_0⟩ := at_L3 (Kd.S_reads' HO_5.out).2.2 t278 p284 q284
     obtain rfl : ad280 = ad284 := (by injection e284)
     obtain ⟨ce284, hce284, hMe284, hcc284⟩ := Kd.S_get HO_5.out [] t278 p284 (by first | exact q284 | exact oD | (have e_ := (Kd.S_reads' HO_5.out).1; omega))
     obtain ⟨ve284_0, rfl, ge284_0⟩ := hMe284
     have hv284_0 := hcc284 0 _ rfl
     rw [Nat.add_zero, show ((Kd.slice 3 (Kd.int .i64))).sz = 1 from rfl, Nat.mul_one] at hv284_0
     replace hv284_0 := Option.some.inj (hv284_0.symm.trans hx284_0)
     rw [hv284_0] at ge284_0
     have HL284_0 := aM (show Kd.R (Kd.int .i64) 3 _ _ _ _ (rd_L3 x5_2 t278) from ge284_0)
     clear hv284_0 ge284_0
     clear hcc284 hce284
     have HR284_0 := aM hi284_0
     have HC284_0 := aM hl284_0
     clear hi284_0 hl284_0
     replace p284 := eq_true p284
     replace q284 := eq_true q284
     refine start_ (n := 11) (S := fun w' => w'.cell? (ad280.add (t276).toNat) = some (.slice A280_0 (rd_L3 x5_2 t276).length c280_0) ∧ w'.cell? (ad280.add (t278).toNat) = some (.slice A284_0 (rd_L3 x5_2 t278).length c284_0)) (ds := [9]) (bA 11 0) (by kernel_rfl) rfl rfl ⟨hx280_0, hx284_0⟩ (fun hHeld => ?_); refine with_tabW spec_codeLengths.tab21 spec_codeLengths.bits21 (fun HT_ HW_ => ?_)
     generalize w53.drew = w54 at HO_3 HO_4 HO_5 HO_7 HB HL280_0 HL284_0 HR280_0 HR284_0 hx280_0 hx284_0 hHeld ⊢
     refine pQ 0 73 HT_ (bA 11 1) ?_
     refine pQ 1 74 HT_ (bA 11 3) ?_
     refine pQ 2 75 HT_ (bA 11 7) ?_
     refine pQ 5 78 HT_ (bA 11 39) ?_
     refine pQ 6 79 HT_ (bA 11 103) ?_
     refine pQ 7 80 HT_ (bA 11 231) ?_
     refine take_ (i := 3) (N := some 76) (v := ?_) (a' := ?_) (bA 11 239) rfl rfl (take_ofW HT_.out HW_.out (by kernel_rfl)) (fun _ _ _ h => h) (Or.inl ⟨by rfl, ?_⟩) hHeld ?_ ?_
     rotate_left
     ·rintro w' ⟨s0, s1⟩
      go_simp
      with_reducible rfl
     rotate_left
     ·refine pZ ?_
      rfl
     refine take_ (i := 8) (N := some 81) (v := ?_) (a' := ?_) (bA 11 495) rfl rfl (take_ofW HT_.out HW_.out (by kernel_rfl)) (fun _ _ _ h => h) (Or.inl ⟨by rfl, ?_⟩) hHeld ?_ ?_
     rotate_left
     ·rintro w' ⟨s0, s1⟩
      go_simp
      with_reducible rfl
     rotate_left
     ·refine pZ ?_
      rfl
     refine one_ (i := 4) (N := some 77) (bA 11 511) rfl rfl (one_of HT_.out (by kernel_rfl)) (by decide) (fun K hK => ?_)
     refine goes_ Try.func52 (by kernel_rfl) rfl #[.slice A280_0 (rd_L3 x5_2 t276).length c280_0] (by rfl) rfl rfl qM ?_
     with_reducible refine (spec_copyInts.calls _ _ (rd_L3 x5_2 t276) t281 _ ?side1 ?side2 A45.out).mono ?_
     (case side1 => repeat (first | exact (by repeat (first | (with_reducible exact HR280_0.out) | (with_reducible refine Kd.C_alloc ?_ _) | (with_reducible refine Kd.C_drewN ?_ _) | (with_reducible refine Kd.C_drew ?_) | exact HR280_0.out)) | (with_reducible refine Kd.C_alloc ?_ _) | (with_reducible refine Kd.C_drewN ?_ _) | (with_reducible refine Kd.C_drew ?_)))
     (case side2 => exact HC280_0.out)
     rintro e w56 ⟨v282, rfl, ho0, hb⟩
     have HS0_ := (hb.cell (World.block_lt_of_cell? _ _ (hHeld.1))).trans (hHeld.1)
     have HS1_ := (hb.cell (World.block_lt_of_cell? _ _ (hHeld.2))).trans (hHeld.2)
     refine ⟨_, rfl, ?_⟩
     replace HO_5 := aM (Kd.S_elder' (by (with_reducible repeat (first | apply Kd.S_alloc | apply Kd.S_drewN | apply Kd.S_drew)); exact HO_5.out) (Kd.R_base ho0) hb)
     replace HO_7 := aM (Kd.R_below (qR HO_7.out) hb)
     have HO283 := aM (Kd.R_lower (Kd.R_new' (Kd.R_new' (Kd.R_new' (Kd.R_new' ho0 (Kd.R_lt (qR HO_3.out))) (Kd.R_lt (qR HO_4.out))) (Kd.R_lt (qR HL280_0.out))) (Kd.R_lt (qR HL284_0.out))) (below_size (qW HB.out)))
     replace HO_3 := aM (Kd.R_elder' (qR HO_3.out) (Kd.R_base ho0) hb)
     replace HO_4 := aM (Kd.R_elder' (qR HO_4.out) (Kd.R_base ho0) hb)
     replace HL280_0 := aM (Kd.R_elder' (qR HL280_0.out) (Kd.R_base ho0) hb)
     replace HL284_0 := aM (Kd.R_elder' (qR HL284_0.out) (Kd.R_base ho0) hb)
     replace HR280_0 := aM (Kd.C_below (by repeat (first | (with_reducible exact HR280_0.out) | (with_reducible refine Kd.C_alloc ?_ _) | (with_reducible refine Kd.C_drewN ?_ _) | (with_reducible refine Kd.C_drew ?_) | exact HR280_0.out)) hb)
     replace HR284_0 := aM (Kd.C_below (by repeat (first | (with_reducible exact HR284_0.out) | (with_reducible refine Kd.C_alloc ?_ _) | (with_reducible refine Kd.C_drewN ?_ _) | (with_reducible refine Kd.C_drew ?_) | exact HR284_0.out)) hb)
     replace HB := bS HB hb
     (try clear hb)
     (try clear hb2)
     (try clear hk)
     (try clear hi)
     (try clear ho0)
     refine hK.out _ _ ⟨HS0_, HS1_⟩ (fun hHeld => ?_)
     clear hK K
     refine norm_ (a' := ?_) ?_ ?_
     rotate_left
     ·show Act.put _ (some 77) _ = _
      refine pZ ?_
      rfl
     refine last_ (i := 9) (N := some 82) (bA 11 1023) rfl rfl (one_of HT_.out (by kernel_rfl)) (by decide) (fun K hK => ?_)
     refine Kd.R_append_rows_step (Kd.int .i64) (w0 := w) w.heap.size (by rfl) (.tmp 77) (.tmp 81) 22 3 (.int .i64 0) 8 rfl Try.underlying22 info3 rfl (by decide) (by omega) v282 t281 (rd_L3 x5_2 t278) _ _ _ (fun k_ => some k_ ≠ (v251 : Value).ownBlock ∧ some k_ ≠ (.slice Ao48 x4_2.length co48 : Value).ownBlock ∧ some k_ ≠ (.slice A280_0 (rd_L3 x5_2 t276).length c280_0 : Value).ownBlock ∧ some k_ ≠ (.slice A284_0 (rd_L3 x5_2 t278).length c284_0 : Value).ownBlock) (fun _ => False) rfl rfl ?aO ?aR (fun _ _ h => h) (fun _ h => h.elim) ?aF ?aB ?aS ?aL ?_
     (case aR => repeat (first | exact (by repeat (first | (with_reducible exact HR284_0.out) | (with_reducible refine Kd.C_alloc ?_ _) | (with_reducible refine Kd.C_drewN ?_ _) | (with_reducible refine Kd.C_drew ?_) | exact HR284_0.out)) | (with_reducible refine Kd.C_alloc ?_ _) | (with_reducible refine Kd.C_drewN ?_ _) | (with_reducible refine Kd.C_drew ?_)))
     (case aB => exact (qW HB.out))
     (case aF => exact (fun k_ hk => ⟨Kd.fresh' (Kd.R_lt (qR HO_3.out)) k_ hk, Kd.fresh' (Kd.R_lt (qR HO_4.out)) k_ hk, Kd.fresh' (Kd.R_lt (qR HL280_0.out)) k_ hk, Kd.fresh' (Kd.R_lt (qR HL284_0.out)) k_ hk⟩))
     (case aO => exact (by refine qR ?_; exact Kd.R_mono HO283.out (fun _ hk => ⟨hk.1.1.1.2, ⟨hk.1.1.2, ⟨hk.1.2, hk.2⟩⟩⟩)))
     (case aS => exact (below_size (qW HB.out)))
     (case aL => have := LMc47.out; omega)
     intro v286 w57 ho hb hg hat
     rw [← Ny285.out] at ho
     replace HO_3 := aM (Kd.R_after (ok := (fun k_ => some k_ ≠ (.slice Ao48 x4_2.length co48 : Value).ownBlock)) (qR HO_3.out) hg hat)
     replace HO_4 := aM (Kd.R_after (ok := (fun k_ => some k_ ≠ (v251 : Value).ownBlock)) (qR HO_4.out) hg hat)
     replace HO_5 := aM (Kd.S_after (ok := (fun k_ => some k_ ≠ (v251 : Value).ownBlock ∧ some k_ ≠ (.slice Ao48 x4_2.length co48 : Value).ownBlock)) (by (with_reducible repeat (first | apply Kd.S_alloc | apply Kd.S_drewN | apply Kd.S_drew)); exact HO_5.out) hg hat)
     replace HO_7 := aM (Kd.R_over' (qR HO_7.out) (Kd.R_typed (qR HO283.out)) (by decide) hg)
     replace HL280_0 := aM (Kd.R_after (ok := (fun k_ => some k_ ≠ (v251 : Value).ownBlock ∧ some k_ ≠ (.slice Ao48 x4_2.length co48 : Value).ownBlock ∧ some k_ ≠ (.slice (some ad280) x5_2.length co55 : Value).ownBlock)) (by refine qR ?_; exact Kd.R_mono HL280_0.out (fun _ hk => ⟨⟨hk.1.1.1, ⟨hk.1.1.2, hk.1.2⟩⟩, hk.2⟩)) hg hat)
     replace HL284_0 := aM (Kd.R_after (ok := (fun k_ => some k_ ≠ (v251 : Value).ownBlock ∧ some k_ ≠ (.slice Ao48 x4_2.length co48 : Value).ownBlock ∧ some k_ ≠ (.slice (some ad280) x5_2.length co55 : Value).ownBlock)) (by refine qR ?_; exact Kd.R_mono HL284_0.out (fun _ hk => ⟨⟨hk.1.1.1, ⟨hk.1.1.2, hk.1.2⟩⟩, hk.2⟩)) hg hat)
     replace HB := aM (hb)
     have HO287 := aM (ho)
     clear HO283
     clear ho hb hg hat
     refine hK.out _ _ ?_
     clear hK K
     refine norm_ (a' := ?_) ?_ ?_
     rotate_left
     ·show Act.put _ (some 82) _ = _
      refine pZ ?_
      rfl
     refine pQ 10 11 HT_ (bA 11 2047) ?_
     refine done_ (done_of HT_.out (by kernel_rfl)) ?_
     try go_wp2
     go_loopg [12] k2 (fun kq v12 w' => ∃ (x3_3 : List Int) (x12_3 : Int), v12 = .int .i64 x12_3 ∧ Aside0 (spec_codeLengths.l2 kq x3_3 x4_2 x5_2 y279 x8_2 t276 t278 y285 x12_3 = some r) ∧ Aside0 (kq ≤ k2) ∧ Aside0 (Kd.R (Kd.int .i64) 3 w' w.heap.size (fun k_ => some k_ ≠ ((.slice Ao48 x4_2.length co48) : Value).ownBlock ∧ some k_ ≠ (v286 : Value).ownBlock) v251 x3_3) ∧ Aside0 (Kd.R (Kd.int .i64) 3 w' w.heap.size (fun k_ => some k_ ≠ (v251 : Value).ownBlock ∧ some k_ ≠ (v286 : Value).ownBlock) (.slice Ao48 x4_2.length co48) x4_2) ∧ Aside0 (Kd.S (Kd.slice 3 (Kd.int .i64)) 22 w' w.heap.size (fun k_ => some k_ ≠ (v251 : Value).ownBlock ∧ some k_ ≠ ((.slice Ao48 x4_2.length co48) : Value).ownBlock ∧ some k_ ≠ (v286 : Value).ownBlock) (.slice (some ad280) x5_2.length co55) x5_2) ∧ Aside0 (Kd.R Kd.bool 4 w' w.heap.size (fun _ => True) (.slice (some ⟨go39, 0, none⟩) x7_2.length co49) y279) ∧ Aside0 (Kd.R (Kd.int .i64) 3 w' w.heap.size (fun k_ => some k_ ≠ (v251 : Value).ownBlock ∧ some k_ ≠ ((.slice Ao48 x4_2.length co48) : Value).ownBlock) v286 y285) ∧ Aside0 (Below w.heap.size w w'))
     case atStart => exact ⟨(x3_2), (0), qE, H', ⟨Nat.le_refl _⟩, ⟨by refine qR ?_; exact HO_3.out⟩, ⟨by refine qR ?_; exact HO_4.out⟩, ⟨by (with_reducible repeat (first | apply Kd.S_alloc | apply Kd.S_drewN | apply Kd.S_drew)); exact Kd.S_mono HO_5.out (fun _ hk => ⟨hk.1.1, ⟨hk.1.2, hk.2⟩⟩)⟩, ⟨by refine qR ?_; exact HO_7.out⟩, ⟨by refine qR ?_; exact Kd.R_mono HO287.out (fun _ hk => ⟨hk.1, hk.2.1⟩)⟩, ⟨by exact qW HB.out⟩⟩
     case round =>
      clear H'
      try clear c2
      try clear c2b0
      try clear c2b1
      try clear c3
      try clear c3b0
      try clear c3b1
      try clear c10
      try clear c10b0
      try clear c11b0
      try clear c12
      try clear c12b0
      try clear c13
      try clear c14
      try clear c20
      try clear c20b0
      try clear c20b1
      try clear c21
      try clear c21b0
      try clear c21b1
      try clear c22
      try clear c22b0
      try clear c22b1
      try clear c23b0
      try clear c24b0
      try clear p25
      try clear q25
      try clear c30
      try clear c30b0
      try clear c30b1
      try clear c31
      try clear c31b0
      try clear c31b1
      try clear c35
      try clear c35b0
      try clear c37b0
      try clear c38b0
      try clear p39
      try clear q39
      try clear c41b0
      try clear c42b0
      try clear p43
      try clear q43
      try clear c44b0
      try clear c46b0
      try clear c47
      try clear hx259_0
      try clear hx25_0
      try clear hx260_0
      try clear hx270_0
      try clear hx271_0
      try clear hx280_0
      try clear hx284_0
      try clear hx39_0
      try clear hx43_0
      try clear p25
      try clear p259
      try clear p260
      try clear p270
      try clear p271
      try clear p280
      try clear p284
      try clear p39
      try clear p43
      try clear q25
      try clear q259
      try clear q260
      try clear q270
      try clear q271
      try clear q280
      try clear q284
      try clear q39
      try clear q43
      obtain ⟨x3_3, x12_3, rfl, HA, HK3, HO_3, HO_4, HO_5, HO_7, HO_11, HB⟩ := hrel
      have hl7_3 := (Kd.R_reads' HO_7.out).1
      rw [hl7_3] at HO_7
      (try simp only [hl7_3])
      (try simp only [hl7_3] at HO_3)
      (try simp only [hl7_3] at HO_4)
      (try simp only [hl7_3] at HO_5)
      (try simp only [hl7_3] at HO_11)
      cases gk with
      | zero => exact absurd HA.out (by simp [spec_codeLengths.l2])
      | succ k3 =>
       have H := HA.out
       clear HA
       simp only [spec_codeLengths.l2] at H
       by_cases c58 : x12_3 < (y285.length : Int)
       ·rw [if_pos c58] at H
        have c58b0 : decide (x12_3 < (y285.length : Int)) = true := decide_eq_true c58
        clear c58
        replace H := iD H
        obtain ⟨c59b0, H⟩ := H
        replace H := iD H
        obtain ⟨c60b0, H⟩ := H
        replace H := iD H
        obtain ⟨c61b0, H⟩ := H
        obtain ⟨y291, hy291⟩ : ∃ y_ : List Int, y_ = (x3_3.set ((rd y285 x12_3) : Int).toNat (wrap64 ((rd x3_3 (rd y285 x12_3)) + 1))) := ⟨_, rfl⟩
        replace H : (spec_codeLengths.l2 k3 y291 x4_2 x5_2 y279 x8_2 t276 t278 y285 (wrap64 (x12_3 + 1))) = some r := rY hy291 H
        have Ny291 := aM hy291
        clear hy291
        have H' := aM H
        clear H
        obtain ⟨Ao63, co63, rfl⟩ := sL HO_11
        try go_wp2
        replace HO_3 := aM (Kd.R_drew HO_3.out)
        replace HO_4 := aM (Kd.R_drew HO_4.out)
        replace HO_5 := aM (Kd.S_drew HO_5.out)
        replace HO_7 := aM (Kd.R_drew HO_7.out)
        replace HO_11 := aM (Kd.R_drew HO_11.out)
        replace HB := aM (below_drew1 HB.out)
        obtain ⟨ad288, e288, hx288_0⟩ := Kd.at_int (Kd.R_reads' HO_11.out).2.2 x12_3 oD oD
        cases e288
        have p288 := eq_true (oD : 0 ≤ (x12_3 : Int))
        have q288 := eq_true (oD : x12_3 < (y285.length : Int))
        obtain ⟨ad289, e289, hx289_0⟩ := Kd.at_int (Kd.R_reads' HO_11.out).2.2 x12_3 oD oD
        obtain rfl : ad288 = ad289 := (by injection e289)
        have p289 := eq_true (oD : 0 ≤ (x12_3 : Int))
        have q289 := eq_true (oD : x12_3 < (y285.length : Int))
        obtain ⟨Ao65, co65, eo65⟩ := Kd.R_slice HO_3.out
        (first | subst eo65 | (injection eo65 with f1_ f2_ f3_; have f4_ := f1_.symm; have f5_ := f3_.symm; clear f1_ f2_ f3_; subst f4_; subst f5_))
        obtain ⟨ad290, e290, hx290_0⟩ := Kd.at_int (Kd.R_reads' HO_3.out).2.2 (rd y285 x12_3) oD oD
        cases e290
        have p290 := eq_true (oD : 0 ≤ ((rd y285 x12_3) : Int))
        have q290 := eq_true (oD : (rd y285 x12_3) < (x3_3.length : Int))
        have p62 : 0 ≤ ((rd y285 x12_3) : Int) := oD
        have q62 : ((rd y285 x12_3) : Int) < ((x3_3.length : Int) : Int) := oD
        obtain ⟨go62, co62, eo62, gb62, gl62, cl62, HG62⟩ := Kd.R_form HO_3.out (by omega)
        (first | cases eo62 | (injection eo62 with ea_ en_ ec_; (first | subst ea_ | (injection ea_ with ea_; subst ea_)); subst ec_; clear en_))
        have GB62 := aM gb62
        have GG62 := aM HG62
        clear gb62 gl62 HG62
        (first | simp only [add_plain] at hx290_0 | skip)
        obtain ⟨hx62_0, hf62_0⟩ := Kd.R_celln 0 HO_3.out ((rd y285 x12_3) : Int) p62 q62
        replace p62 := eq_true p62
        replace q62 := eq_true q62
        have HP66 := Kd.R_putn HO_3.out ((rd y285 x12_3) : Int) (wrap64 ((rd x3_3 (rd y285 x12_3)) + 1))
        rw [← Ny291.out] at HP66
        have HQ66 := aM HP66
        clear HP66
        refine start_ (n := 15) (S := fun w' => w'.cell? (ad288.add (x12_3).toNat) = some (.int .i64 (rd y285 x12_3)) ∧ w'.cell? (ad288.add (x12_3).toNat) = some (.int .i64 (rd y285 x12_3)) ∧ w'.cell? ⟨go62, ((rd y285 x12_3)).toNat, none⟩ = some (.int .i64 (rd x3_3 (rd y285 x12_3)))) (ds := [14]) (bA 15 0) (by kernel_rfl) rfl rfl ⟨hx288_0, hx289_0, hx290_0⟩ (fun hHeld => ?_); refine with_tabW spec_codeLengths.tab25 spec_codeLengths.bits25 (fun HT_ HW_ => ?_)
        generalize wr.drew = w64 at HO_3 HO_4 HO_5 HO_7 HO_11 HB GG62 HQ66 hf62_0 hx288_0 hx289_0 hx290_0 hx62_0 hHeld ⊢
        refine pQ 0 89 HT_ (bA 15 1) ?_
        refine pQ 1 90 HT_ (bA 15 3) ?_
        refine pQ 2 91 HT_ (bA 15 7) ?_
        refine pQ 3 92 HT_ (bA 15 15) ?_
        refine pQ 5 94 HT_ (bA 15 47) ?_
        refine pQ 6 95 HT_ (bA 15 111) ?_
        refine pQ 7 96 HT_ (bA 15 239) ?_
        refine pQ 8 97 HT_ (bA 15 495) ?_
        refine take_ (i := 4) (N := some 93) (v := ?_) (a' := ?_) (bA 15 511) rfl rfl (take_ofW HT_.out HW_.out (by kernel_rfl)) (fun _ _ _ h => h) (Or.inl ⟨by rfl, ?_⟩) hHeld ?_ ?_
        rotate_left
        ·rintro w' ⟨s0, s1, s2⟩
         go_simp
         with_reducible rfl
        rotate_left
        ·refine pZ ?_
         rfl
        refine take_ (i := 9) (N := some 98) (v := ?_) (a' := ?_) (bA 15 1023) rfl rfl (take_ofW HT_.out HW_.out (by kernel_rfl)) (fun _ _ _ h => h) (Or.inl ⟨by rfl, ?_⟩) hHeld ?_ ?_
        rotate_left
        ·rintro w' ⟨s0, s1, s2⟩
         go_simp
         with_reducible rfl
        rotate_left
        ·refine pZ ?_
         rfl
        refine pQ 10 99 HT_ (bA 15 2047) ?_
        refine take_ (i := 11) (N := some 100) (v := ?_) (a' := ?_) (bA 15 4095) rfl rfl (take_ofW HT_.out HW_.out (by kernel_rfl)) (fun _ _ _ h => h) (Or.inl ⟨by rfl, ?_⟩) hHeld ?_ ?_
        rotate_left
        ·rintro w' ⟨s0, s1, s2⟩
         go_simp
         with_reducible rfl
        rotate_left
        ·refine pZ ?_
         rfl
        refine pQ 12 101 HT_ (bA 15 8191) ?_
        refine pQ 13 102 HT_ (bA 15 16383) ?_
        refine last_ (i := 14) (N := none) (bA 15 32767) rfl rfl (one_of HT_.out (by kernel_rfl)) (by decide) (fun K hK => ?_)
        refine skip_ (w1 := ?_) (by rfl) rfl ?_ ?_
        rotate_left
        ·go_simp
         rfl
        refine hK.out _ _ ?_
        clear hK K
        refine done_ (done_of HT_.out (by kernel_rfl)) ?_
        try go_wp2
        (try simp only [← hl7_3])
        go_roundg k3
        case measure => have := HK1.out; have := HK2.out; have := HK3.out; omega
        case rel => exact ⟨(y291), (wrap64 (x12_3 + 1)), qE, H', ⟨by have := HK1.out; have := HK2.out; have := HK3.out; omega⟩, ⟨by (try simp only [hl7_3]); refine qR ?_; exact HQ66.out⟩, ⟨by (try simp only [hl7_3]); refine qR ?_; exact Kd.R_mono (Kd.R_far (p := ⟨go62, ((rd y285 x12_3) : Int).toNat, none⟩) (Kd.R_mono HO_4.out (fun k_ hk => (⟨hk, fun e_ => hk.1 (by rw [e_]; rfl)⟩ : _ ∧ k_ ≠ go62))) (fun _ hk => hk.2) (.int .i64 (wrap64 ((rd x3_3 (rd y285 x12_3)) + 1)))) (fun _ hk => ⟨hk.1.1, hk.1.2⟩)⟩, ⟨by (try simp only [hl7_3]); (with_reducible repeat (first | apply Kd.S_alloc | apply Kd.S_drewN | apply Kd.S_drew)); exact Kd.S_mono (Kd.S_far (p := ⟨go62, ((rd y285 x12_3) : Int).toNat, none⟩) (Kd.S_mono HO_5.out (fun k_ hk => (⟨hk, fun e_ => hk.1 (by rw [e_]; rfl)⟩ : _ ∧ k_ ≠ go62))) (fun _ hk => hk.2) (.int .i64 (wrap64 ((rd x3_3 (rd y285 x12_3)) + 1)))) (fun _ hk => ⟨hk.1.1, ⟨hk.1.2.1, hk.1.2.2⟩⟩)⟩, ⟨by (try simp only [hl7_3]); refine qR ?_; exact Kd.R_mono (Kd.R_far (p := ⟨go62, ((rd y285 x12_3) : Int).toNat, none⟩) (Kd.R_types HO_7.out GG62.out (by decide)) (fun _ hk => hk.2) (.int .i64 (wrap64 ((rd x3_3 (rd y285 x12_3)) + 1)))) (fun _ hk => trivial)⟩, ⟨by (try simp only [hl7_3]); refine qR ?_; exact Kd.R_mono (Kd.R_far (p := ⟨go62, ((rd y285 x12_3) : Int).toNat, none⟩) (Kd.R_mono HO_11.out (fun k_ hk => (⟨hk, fun e_ => hk.1 (by rw [e_]; rfl)⟩ : _ ∧ k_ ≠ go62))) (fun _ hk => hk.2) (.int .i64 (wrap64 ((rd x3_3 (rd y285 x12_3)) + 1)))) (fun _ hk => ⟨hk.1.1, hk.1.2⟩)⟩, ⟨by exact qW HB.out⟩⟩
       rw [if_neg c58] at H
       have c58b0 : decide (x12_3 < (y285.length : Int)) = false := decide_eq_false c58
       clear c58
       replace H := iD H
       obtain ⟨c67b0, H⟩ := H
       replace H := iD H
       obtain ⟨c68b0, H⟩ := H
       replace H := iD H
       obtain ⟨c69b0, H⟩ := H
       replace H := iD H
       obtain ⟨c70b0, H⟩ := H
       replace H := iS H
       obtain ⟨c71, H⟩ := H
       have LMc71 := aM c71
       clear c71
       obtain ⟨y294, hy294⟩ : ∃ y_ : List Int, y_ = (x4_2 ++ [wrap64 ((rd x4_2 t276) + (rd x4_2 t278))]) := ⟨_, rfl⟩
       replace H : (if x5_2.length < 5864062014805 then (if y279.length < 140737488355328 then (spec_codeLengths.l1 k3 x3_3 y294 (x5_2 ++ [y285]) (y279 ++ [false]) (wrap64 (x8_2 - 1))) else (none)) else (none)) = some r := rY hy294 H
       have Ny294 := aM hy294
       clear hy294
       replace H := iS H
       obtain ⟨c72, H⟩ := H
       have LMc72 := aM c72
       clear c72
       obtain ⟨y297, hy297⟩ : ∃ y_ : List (List Int), y_ = (x5_2 ++ [y285]) := ⟨_, rfl⟩
       replace H : (if y279.length < 140737488355328 then (spec_codeLengths.l1 k3 x3_3 y294 y297 (y279 ++ [false]) (wrap64 (x8_2 - 1))) else (none)) = some r := rY hy297 H
       have Ny297 := aM hy297
       clear hy297
       replace H := iS H
       obtain ⟨c73, H⟩ := H
       have LMc73 := aM c73
       clear c73
       obtain ⟨y300, hy300⟩ : ∃ y_ : List Bool, y_ = (y279 ++ [false]) := ⟨_, rfl⟩
       replace H : (spec_codeLengths.l1 k3 x3_3 y294 y297 y300 (wrap64 (x8_2 - 1))) = some r := rY hy300 H
       have Ny300 := aM hy300
       clear hy300
       have H' := aM H
       clear H
       obtain ⟨Ao74, co74, rfl⟩ := sL HO_11
       try go_wp2
       replace HO_3 := aM (Kd.R_drew HO_3.out)
       replace HO_4 := aM (Kd.R_drew HO_4.out)
       replace HO_5 := aM (Kd.S_drew HO_5.out)
       replace HO_7 := aM (Kd.R_drew HO_7.out)
       replace HO_11 := aM (Kd.R_drew HO_11.out)
       replace HB := aM (below_drew1 HB.out)
       obtain ⟨ad292, e292, hx292_0⟩ := Kd.at_int (Kd.R_reads' HO_4.out).2.2 t276 oD oD
       cases e292
       have p292 := eq_true (oD : 0 ≤ (t276 : Int))
       have q292 := eq_true (oD : t276 < (x4_2.length : Int))
       obtain ⟨ad293, e293, hx293_0⟩ := Kd.at_int (Kd.R_reads' HO_4.out).2.2 t278 oD oD
       obtain rfl : ad292 = ad293 := (by injection e293)
       have p293 := eq_true (oD : 0 ≤ (t278 : Int))
       have q293 := eq_true (oD : t278 < (x4_2.length : Int))
       refine start_ (n := 13) (S := fun w' => w'.cell? (ad292.add (t276).toNat) = some (.int .i64 (rd x4_2 t276)) ∧ w'.cell? (ad292.add (t278).toNat) = some (.int .i64 (rd x4_2 t278))) (ds := [10, 11]) (bA 13 0) (by kernel_rfl) rfl rfl ⟨hx292_0, hx293_0⟩ (fun hHeld => ?_); refine with_tabW spec_codeLengths.tab26 spec_codeLengths.bits26 (fun HT_ HW_ => ?_)
       generalize wr.drew = w75 at HO_3 HO_4 HO_5 HO_7 HO_11 HB hx292_0 hx293_0 hHeld ⊢
       refine pQ 0 103 HT_ (bA 13 1) ?_
       refine pQ 1 104 HT_ (bA 13 3) ?_
       refine pQ 2 105 HT_ (bA 13 7) ?_
       refine pQ 3 106 HT_ (bA 13 15) ?_
       refine pQ 5 108 HT_ (bA 13 47) ?_
       refine pQ 6 109 HT_ (bA 13 111) ?_
       refine pQ 7 110 HT_ (bA 13 239) ?_
       refine take_ (i := 4) (N := some 107) (v := ?_) (a' := ?_) (bA 13 255) rfl rfl (take_ofW HT_.out HW_.out (by kernel_rfl)) (fun _ _ _ h => h) (Or.inl ⟨by rfl, ?_⟩) hHeld ?_ ?_
       rotate_left
       ·rintro w' ⟨s0, s1⟩
        go_simp
        with_reducible rfl
       rotate_left
       ·refine pZ ?_
        rfl
       refine take_ (i := 8) (N := some 111) (v := ?_) (a' := ?_) (bA 13 511) rfl rfl (take_ofW HT_.out HW_.out (by kernel_rfl)) (fun _ _ _ h => h) (Or.inl ⟨by rfl, ?_⟩) hHeld ?_ ?_
       rotate_left
       ·rintro w' ⟨s0, s1⟩
        go_simp
        with_reducible rfl
       rotate_left
       ·refine pZ ?_
        rfl
       refine pQ 9 112 HT_ (bA 13 1023) ?_
       refine last_ (i := 10) (N := some 113) (bA 13 2047) rfl rfl (one_of HT_.out (by kernel_rfl)) (by decide) (fun K hK => ?_)
       refine value_ (w1 := ?_) (v := ?_) (by rfl) rfl ?_ ?_
       rotate_left 2
       ·go_simp
        constructor
        rotate_left
        ·rfl
        rfl
       refine hK.out _ _ ?_
       clear hK K
       refine norm_ (a' := ?_) ?_ ?_
       rotate_left
       ·show Act.put _ (some 113) _ = _
        refine pZ ?_
        rfl
       refine last_ (i := 11) (N := some 114) (bA 13 4095) rfl rfl (one_of HT_.out (by kernel_rfl)) (by decide) (fun K hK => ?_)
       refine Kd.R_append_step (Kd.int .i64) (w0 := w) w.heap.size (by rfl) (.tmp 103) (.tmp 113) 22 3 (.int .i64 0) 8 rfl Try.underlying22 info3 rfl (by decide) (by omega) (.slice (some ad292) x4_2.length co48) x4_2 (wrap64 ((rd x4_2 t276) + (rd x4_2 t278))) [.int .i64 (wrap64 ((rd x4_2 t276) + (rd x4_2 t278)))] (fun k_ => some k_ ≠ (v251 : Value).ownBlock ∧ some k_ ≠ (.slice Ao74 y285.length co74 : Value).ownBlock) (fun _ => False) rfl rfl ?aP (fun _ hk => hk.elim) ?aF ?aO ?aB ?aS ?aL ?_
       (case aP => exact rfl)
       (case aB => exact (qW HB.out))
       (case aF => exact (fun k_ hk => ⟨Kd.fresh' (Kd.R_lt (qR HO_3.out)) k_ hk, Kd.fresh' (Kd.R_lt (qR HO_11.out)) k_ hk⟩))
       (case aO => exact (qR HO_4.out))
       (case aS => exact (below_size (qW HB.out)))
       (case aL => have := LMc71.out; omega)
       intro v295 w76 ho hb hg hat
       rw [← Ny294.out] at ho
       replace HO_3 := aM (Kd.R_after (ok := (fun k_ => some k_ ≠ (.slice Ao74 y285.length co74 : Value).ownBlock)) (by refine qR ?_; exact Kd.R_mono HO_3.out (fun _ hk => ⟨hk.2, hk.1⟩)) hg hat)
       replace HO_5 := aM (Kd.S_after (ok := (fun k_ => some k_ ≠ (v251 : Value).ownBlock ∧ some k_ ≠ (.slice Ao74 y285.length co74 : Value).ownBlock)) (by (with_reducible repeat (first | apply Kd.S_alloc | apply Kd.S_drewN | apply Kd.S_drew)); exact Kd.S_mono HO_5.out (fun _ hk => ⟨⟨hk.1, hk.2.2⟩, hk.2.1⟩)) hg hat)
       replace HO_7 := aM (Kd.R_over' (qR HO_7.out) (Kd.R_typed (qR HO_4.out)) (by decide) hg)
       replace HO_11 := aM (Kd.R_after (ok := (fun k_ => some k_ ≠ (v251 : Value).ownBlock)) (qR HO_11.out) hg hat)
       replace HB := aM (hb)
       have HO296 := aM (ho)
       clear HO_4
       clear ho hb hg hat
       refine hK.out _ _ ?_
       clear hK K
       refine norm_ (a' := ?_) ?_ ?_
       rotate_left
       ·show Act.put _ (some 114) _ = _
        refine pZ ?_
        rfl
       refine pQ 12 4 HT_ (bA 13 8191) ?_
       refine done_ (done_of HT_.out (by kernel_rfl)) ?_
       try go_wp2_with (first | ((with_reducible refine gate_builtin (b := .append) (xs := #[.tmp 115, .tmp 117]) rfl ?_); at_builtin; refine Kd.S_append (Kd.slice 3 (Kd.int .i64)) (w0 := w) w.heap.size rfl (.tmp 115) (.tmp 117) 63 22 (.slice none 0 0) 24 rfl Try.underlying63 info22 rfl (by decide) (by omega) (.slice (some ad280) x5_2.length co55) x5_2 y285 [.slice Ao74 y285.length co74] (fun k_ => some k_ ≠ (v251 : Value).ownBlock ∧ some k_ ≠ (v295 : Value).ownBlock) (fun k_ => some k_ = (.slice Ao74 y285.length co74 : Value).ownBlock) rfl rfl ?aP (fun k_ hk_ => ((Kd.R_mono (ok' := fun k_ => ((fun k_ => some k_ ≠ (v251 : Value).ownBlock ∧ some k_ ≠ (v295 : Value).ownBlock)) k_ ∧ some k_ ≠ (.slice (some ad280) x5_2.length co55 : Value).ownBlock) (Kd.R_apart' (HO_11.out) (Kd.S_typed HO_5.out) (by decide)) (fun k_ hk => ⟨⟨hk.1.1, hk.1.2⟩, hk.2⟩))).1 k_ hk_.symm) ?aF ?aO ?aB ?aS ?aL ?_; (case aP => exact Kd.M_row (Kd.R_mono (Kd.R_tight rfl (Kd.R_mono (ok' := fun k_ => ((fun k_ => some k_ ≠ (v251 : Value).ownBlock ∧ some k_ ≠ (v295 : Value).ownBlock)) k_ ∧ some k_ ≠ (.slice (some ad280) x5_2.length co55 : Value).ownBlock) (Kd.R_apart' (HO_11.out) (Kd.S_typed HO_5.out) (by decide)) (fun k_ hk => ⟨⟨hk.1.1, hk.1.2⟩, hk.2⟩))) (fun _ h_ => h_))); (case aB => exact (qW HB.out)); (case aF => exact (fun k_ hk => ⟨Kd.fresh' (Kd.R_lt (qR HO_3.out)) k_ hk, Kd.fresh' (Kd.R_lt (qR HO296.out)) k_ hk⟩)); (case aO => exact (by (with_reducible repeat (first | apply Kd.S_alloc | apply Kd.S_drewN | apply Kd.S_drew)); exact Kd.S_mono HO_5.out (fun k_ hk => ⟨⟨hk.1.1, hk.2⟩, fun e_ => hk.1.2 e_⟩))); (case aS => exact (below_size (qW HB.out))); (case aL => have := LMc72.out; omega); intro v298 w77 ho hb hg hat; rw [← Ny297.out] at ho; replace HO_3 := aM (Kd.R_over' (qR HO_3.out) (Kd.S_typed (by (with_reducible repeat (first | apply Kd.S_alloc | apply Kd.S_drewN | apply Kd.S_drew)); exact HO_5.out)) (by decide) hg); replace HO_7 := aM (Kd.R_over' (qR HO_7.out) (Kd.S_typed (by (with_reducible repeat (first | apply Kd.S_alloc | apply Kd.S_drewN | apply Kd.S_drew)); exact HO_5.out)) (by decide) hg); replace HO296 := aM (Kd.R_over' (qR HO296.out) (Kd.S_typed (by (with_reducible repeat (first | apply Kd.S_alloc | apply Kd.S_drewN | apply Kd.S_drew)); exact HO_5.out)) (by decide) hg); replace HB := aM (hb); have HO299 := aM (ho); clear HO_5 HO_11; clear ho hb hg hat) | ((with_reducible refine gate_builtin (b := .append) (xs := #[.tmp 119, .tmp 120]) rfl ?_); at_builtin; refine Kd.R_append Kd.bool (w0 := w) w.heap.size rfl (.tmp 119) (.tmp 120) 64 4 (.bool false) 1 rfl Try.underlying64 info4 rfl (by decide) (by omega) (.slice (some ⟨go39, 0, none⟩) y279.length co49) y279 false [.bool false] (fun _ => True) (fun _ => False) rfl rfl ?aP (fun _ hk => hk.elim) ?aF ?aO ?aB ?aS ?aL ?_; (case aP => exact rfl); (case aB => exact (qW HB.out)); (case aF => exact (fun _ _ => trivial)); (case aO => exact (qR HO_7.out)); (case aS => exact (below_size (qW HB.out))); (case aL => have := LMc73.out; omega); intro v301 w78 ho hb hg hat; rw [← Ny300.out] at ho; replace HO_3 := aM (Kd.R_over' (qR HO_3.out) (Kd.R_typed (qR HO_7.out)) (by decide) hg); replace HO296 := aM (Kd.R_over' (qR HO296.out) (Kd.R_typed (qR HO_7.out)) (by decide) hg); replace HO299 := aM (Kd.S_over' (by (with_reducible repeat (first | apply Kd.S_alloc | apply Kd.S_drewN | apply Kd.S_drew)); exact HO299.out) (Kd.R_typed (qR HO_7.out)) (by decide) hg); replace HB := aM (hb); have HO302 := aM (ho); clear HO_7; clear ho hb hg hat))
       (try simp only [← hl7_3])
       go_roundg k3
       case measure => have := HK1.out; have := HK2.out; have := HK3.out; omega
       case rel => exact ⟨(x3_3), (y294), (y297), (y300), (wrap64 (x8_2 - 1)), qE, H', ⟨by have := HK1.out; have := HK2.out; have := HK3.out; omega⟩, ⟨by (try simp only [hl7_3]); refine qR ?_; exact Kd.R_mono HO_3.out (fun _ hk => hk.2)⟩, ⟨by (try simp only [hl7_3]); refine qR ?_; exact Kd.R_mono HO296.out (fun _ hk => hk.1)⟩, ⟨by (try simp only [hl7_3]); (with_reducible repeat (first | apply Kd.S_alloc | apply Kd.S_drewN | apply Kd.S_drew)); exact HO299.out⟩, ⟨by (try simp only [hl7_3]); refine qR ?_; exact HO302.out⟩, ⟨by exact qW HB.out⟩⟩
def spec_CodeLengths.f (k : Nat) (l0 : List Int) : Option (List Int) := (spec_validCounts.f k l0).bind fun t303 => (if t303 = true then ((spec_codeLengths.f k l0).bind fun t304 => (some t304)) else (some ([] : List Int)))
theorem spec_CodeLengths.mono : ∀ a0 k, LeO (spec_CodeLengths.f k a0) (spec_CodeLengths.f (k + 1) a0) := by
 intro a0 k
 unfold spec_CodeLengths.f
 repeat' first | (with_reducible first | exact spec_codeLengths.mono _ _ | exact spec_validCounts.mono _ _ | exact lR | exact lN | refine lI ?_ ?_ | refine lB ?_ fun _ => ?_) | exact spec_codeLengths.mono _ _ | exact spec_validCounts.mono _ _ | exact lN | refine lI ?_ ?_ | refine lB ?_ fun _ => ?_
set_option maxHeartbeats 8000000 in
set_option maxRecDepth 100000 in
theorem spec_CodeLengths.calls (k : Nat) (A0 : Option Addr) (c0 : Nat) (l0 : List Int) (r : List Int) (w : World) (hr0 : Kd.C (Kd.int .i64) w A0 l0.length l0) (hc0 : l0.length ≤ c0) (h : spec_CodeLengths.f k l0 = some r) :
  Calls Try.prog 24 #[.slice A0 l0.length c0] w fun e w' => ∃ v0_ : Value, e = .returned (v0_) ∧ Kd.R (Kd.int .i64) 3 w' w.heap.size (fun _ => True) v0_ r ∧ Below w.heap.size w w' := by
 have HR0 := aM hr0
 have HC0 := aM hc0
 clear hr0 hc0
 have HB := aM (Below.refl w.heap.size w)
 unfold spec_CodeLengths.f at h
 have H := h
 clear h
 replace H := Option.bind_eq_some_iff.mp H
 obtain ⟨t303, A20, H⟩ := H
 replace H : (if t303 = true then ((spec_codeLengths.f k l0).bind fun t304 => (some t304)) else (some ([] : List Int))) = some r := H
 have A2 := aM A20
 clear A20
 by_cases c3 : t303 = true
 rotate_left
 ·replace c3 := Bool.eq_false_iff.mpr c3
  subst c3
  have H1 : (some ([] : List Int)) = some r := by rw [if_neg (show ¬ (false = true) by decide)] at H; exact H
  clear H
  have H := H1
  clear H1
  obtain rfl := Option.some.inj H
  go_enter Try.func24, Try.ntmps24
  go_wp2_with (first | ((with_reducible refine gate_callee (f := 41) rfl ?_); refine gL (some 4) Try.func41 #[.slice A0 l0.length c0] ?_; (with_reducible refine (spec_validCounts.calls k _ _ l0 false _ ?side1 ?side2 A2.out).mono ?_); (case side1 => exact qC HR0.out); (case side2 => exact HC0.out); rintro e w' ⟨rfl, ⟨nd, rfl⟩⟩; refine ⟨_, rfl, ?_⟩))
  go_ret
  exact ⟨_, qX, qN, by exact qW HB.out⟩
 subst c3
 have H1 : ((spec_codeLengths.f k l0).bind fun t304 => (some t304)) = some r := by rw [if_pos rfl] at H; exact H
 clear H
 have H := H1
 clear H1
 replace H := Option.bind_eq_some_iff.mp H
 obtain ⟨t304, A40, H⟩ := H
 replace H : (some t304) = some r := H
 have A4 := aM A40
 clear A40
 obtain rfl := Option.some.inj H
 go_enter Try.func24, Try.ntmps24
 go_wp2_with (first | ((with_reducible refine gate_callee (f := 41) rfl ?_); refine gL (some 4) Try.func41 #[.slice A0 l0.length c0] ?_; (with_reducible refine (spec_validCounts.calls k _ _ l0 true _ ?side1 ?side2 A2.out).mono ?_); (case side1 => exact qC HR0.out); (case side2 => exact HC0.out); rintro e w' ⟨rfl, ⟨nd, rfl⟩⟩; refine ⟨_, rfl, ?_⟩) | ((with_reducible refine gate_callee (f := 42) rfl ?_); refine gL (some 7) Try.func42 #[.slice A0 l0.length c0] ?_; (with_reducible refine (spec_codeLengths.calls k _ _ l0 t304 _ ?side1 ?side2 A4.out).mono ?_); (case side1 => exact qC HR0.out); (case side2 => exact HC0.out); rintro e w5 ⟨v305, rfl, ho0, hb⟩; refine ⟨_, rfl, ?_⟩; have HO306 := oR ho0 HB; replace HB := bS HB hb; clear hb ho0))
 go_ret
 exact ⟨_, qX, by refine qR ?_; exact HO306.out, by exact qW HB.out⟩
def slices_Min_int_int.l0 : Nat → List Int → Int → Int → Option (Int)
 | 0, _, _, _ => none
 | k + 1, x0, x3, x4 => if x4 < (x0.length : Int) then (if 0 ≤ x4 then (slices_Min_int_int.l0 k x0 (mn x3 (rd x0 x4)) (wrap64 (x4 + 1))) else (none)) else (some x3)
def slices_Min_int_int.f (k : Nat) (l0 : List Int) : Option (Int) := if (l0.length : Int) < 1 then (none) else (if 0 < (l0.length : Int) then (slices_Min_int_int.l0 k l0 (rd l0 0) 1) else (none))
theorem slices_Min_int_int.mono_l : ∀ k, (∀ y0 y1 y2, LeO (slices_Min_int_int.l0 k y0 y1 y2) (slices_Min_int_int.l0 (k + 1) y0 y1 y2))
 | 0 => fun _ _ _ r h => by simp [slices_Min_int_int.l0] at h
 | k + 1 => by
  have ih0 := slices_Min_int_int.mono_l k
  ·intro y0 y1 y2
   unfold slices_Min_int_int.l0
   repeat' first | (with_reducible first | exact ih0 _ _ _ | exact lR | exact lN | refine lI ?_ ?_ | refine lB ?_ fun _ => ?_) | exact ih0 _ _ _ | exact lN | refine lI ?_ ?_ | refine lB ?_ fun _ => ?_
theorem slices_Min_int_int.mono : ∀ a0 k, LeO (slices_Min_int_int.f k a0) (slices_Min_int_int.f (k + 1) a0) := by
 intro a0 k
 have ih0 := slices_Min_int_int.mono_l k
 unfold slices_Min_int_int.f
 repeat' first | (with_reducible first | exact ih0 _ _ _ | exact lR | exact lN | refine lI ?_ ?_ | refine lB ?_ fun _ => ?_) | exact ih0 _ _ _ | exact lN | refine lI ?_ ?_ | refine lB ?_ fun _ => ?_
set_option maxHeartbeats 8000000 in
set_option maxRecDepth 100000 in
theorem slices_Min_int_int.calls (k : Nat) (A0 : Option Addr) (c0 : Nat) (l0 : List Int) (r : Int) (w : World) (hr0 : Kd.C (Kd.int .i64) w A0 l0.length l0) (hc0 : l0.length ≤ c0) (h : slices_Min_int_int.f k l0 = some r) :
  Calls Try.prog 43 #[.slice A0 l0.length c0] w fun e w' => e = .returned (.int .i64 r) ∧ Below w.heap.size w w' := by
 have HR0 := aM hr0
 have HC0 := aM hc0
 clear hr0 hc0
 have HB := aM (Below.refl w.heap.size w)
 unfold slices_Min_int_int.f at h
 have H := h
 clear h
 by_cases c2 : (l0.length : Int) < 1
 ·rw [if_pos c2] at H
  exact absurd H (by simp)
 rw [if_neg c2] at H
 have c2b0 : decide ((l0.length : Int) < 1) = false := decide_eq_false c2
 have c2b1 : decide (l0.length < 1) = false := decide_eq_false (by omega)
 clear c2
 replace H := iS H
 obtain ⟨c3, H⟩ := H
 have c3b0 : decide (0 < (l0.length : Int)) = true := decide_eq_true c3
 have c3b1 : decide (0 < l0.length) = true := decide_eq_true (by omega)
 clear c3
 have H' := aM H
 clear H
 have p139 : 0 ≤ (0 : Int) := (by omega)
 have q139 : 0 < (l0.length : Int) := oD
 obtain ⟨ad139, e139, hx139_0⟩ := Kd.at_int HR0.out 0 p139 q139
 cases e139
 have qi139 : (0 < l0.length) = True := eq_true (by omega)
 (try rw [show ((0 : Int)).toNat = 0 from rfl] at hx139_0)
 (try rw [Addr.add_zero'] at hx139_0)
 replace p139 := eq_true p139
 replace q139 := eq_true q139
 go_enter Try.func43, Try.ntmps43
 go_wp2
 go_loopg [3, 4] k (fun kq v3 v4 w' => ∃ (x3_1 : Int) (x4_1 : Int), v3 = .int .i64 x3_1 ∧ v4 = .int .i64 x4_1 ∧ Aside0 (slices_Min_int_int.l0 kq l0 x3_1 x4_1 = some r) ∧ Aside0 (kq ≤ k) ∧ Aside0 (Below w.heap.size w w'))
 case atStart => exact ⟨(rd l0 0), (1), qE, qE, H', ⟨Nat.le_refl _⟩, ⟨by exact qW HB.out⟩⟩
 case round =>
  clear H'
  try clear c2
  try clear c2b0
  try clear c2b1
  try clear c3
  try clear c3b0
  try clear c3b1
  try clear hx139_0
  try clear p139
  try clear q139
  obtain ⟨x3_1, x4_1, rfl, rfl, HA, HK1, HB⟩ := hrel
  cases gk with
  | zero => exact absurd HA.out (by simp [slices_Min_int_int.l0])
  | succ k1 =>
   have H := HA.out
   clear HA
   simp only [slices_Min_int_int.l0] at H
   by_cases c4 : x4_1 < (l0.length : Int)
   rotate_left
   ·rw [if_neg c4] at H
    have c4b0 : decide (x4_1 < (l0.length : Int)) = false := decide_eq_false c4
    clear c4
    obtain rfl := Option.some.inj H
    go_wp2
    go_ret
    exact ⟨qX, by exact qW HB.out⟩
   rw [if_pos c4] at H
   have c4b0 : decide (x4_1 < (l0.length : Int)) = true := decide_eq_true c4
   clear c4
   replace H := iD H
   obtain ⟨c5b0, H⟩ := H
   obtain ⟨ji6, hji6⟩ : ∃ j_ : Int, (mn x3_1 (rd l0 x4_1)) = j_ := ⟨_, rfl⟩
   replace H : (slices_Min_int_int.l0 k1 l0 ji6 (wrap64 (x4_1 + 1))) = some r := by first | (rw [hji6] at H; exact H) | (simp only [hji6] at H ⊢; exact H)
   have hji6_ : (if (rd l0 x4_1) < x3_1 then (rd l0 x4_1) else x3_1) = ji6 := hji6
   have H' := aM H
   clear H
   obtain ⟨ad140, e140, hx140_0⟩ := Kd.at_int HR0.out x4_1 oD oD
   obtain rfl : ad139 = ad140 := (by injection e140)
   replace hx140_0 := bD HB hx140_0
   have p140 := eq_true (oD : 0 ≤ (x4_1 : Int))
   have q140 := eq_true (oD : x4_1 < (l0.length : Int))
   go_wp2
   go_roundg k1
   case measure => have := HK1.out; omega
   case rel => exact ⟨(ji6), (wrap64 (x4_1 + 1)), (by first | rfl | (simp; done) | (simp only [← hji6] <;> (first | rfl | simp)) | (simp [*]; done)), qE, H', ⟨by have := HK1.out; omega⟩, ⟨by exact qW HB.out⟩⟩
def slices_Max_int_int.l0 : Nat → List Int → Int → Int → Option (Int)
 | 0, _, _, _ => none
 | k + 1, x0, x3, x4 => if x4 < (x0.length : Int) then (if 0 ≤ x4 then (slices_Max_int_int.l0 k x0 (mx x3 (rd x0 x4)) (wrap64 (x4 + 1))) else (none)) else (some x3)
def slices_Max_int_int.f (k : Nat) (l0 : List Int) : Option (Int) := if (l0.length : Int) < 1 then (none) else (if 0 < (l0.length : Int) then (slices_Max_int_int.l0 k l0 (rd l0 0) 1) else (none))
theorem slices_Max_int_int.mono_l : ∀ k, (∀ y0 y1 y2, LeO (slices_Max_int_int.l0 k y0 y1 y2) (slices_Max_int_int.l0 (k + 1) y0 y1 y2))
 | 0 => fun _ _ _ r h => by simp [slices_Max_int_int.l0] at h
 | k + 1 => by
  have ih0 := slices_Max_int_int.mono_l k
  ·intro y0 y1 y2
   unfold slices_Max_int_int.l0
   repeat' first | (with_reducible first | exact ih0 _ _ _ | exact lR | exact lN | refine lI ?_ ?_ | refine lB ?_ fun _ => ?_) | exact ih0 _ _ _ | exact lN | refine lI ?_ ?_ | refine lB ?_ fun _ => ?_
theorem slices_Max_int_int.mono : ∀ a0 k, LeO (slices_Max_int_int.f k a0) (slices_Max_int_int.f (k + 1) a0) := by
 intro a0 k
 have ih0 := slices_Max_int_int.mono_l k
 unfold slices_Max_int_int.f
 repeat' first | (with_reducible first | exact ih0 _ _ _ | exact lR | exact lN | refine lI ?_ ?_ | refine lB ?_ fun _ => ?_) | exact ih0 _ _ _ | exact lN | refine lI ?_ ?_ | refine lB ?_ fun _ => ?_
set_option maxHeartbeats 8000000 in
set_option maxRecDepth 100000 in
theorem slices_Max_int_int.calls (k : Nat) (A0 : Option Addr) (c0 : Nat) (l0 : List Int) (r : Int) (w : World) (hr0 : Kd.C (Kd.int .i64) w A0 l0.length l0) (hc0 : l0.length ≤ c0) (h : slices_Max_int_int.f k l0 = some r) :
  Calls Try.prog 44 #[.slice A0 l0.length c0] w fun e w' => e = .returned (.int .i64 r) ∧ Below w.heap.size w w' := by
 have HR0 := aM hr0
 have HC0 := aM hc0
 clear hr0 hc0
 have HB := aM (Below.refl w.heap.size w)
 unfold slices_Max_int_int.f at h
 have H := h
 clear h
 by_cases c2 : (l0.length : Int) < 1
 ·rw [if_pos c2] at H
  exact absurd H (by simp)
 rw [if_neg c2] at H
 have c2b0 : decide ((l0.length : Int) < 1) = false := decide_eq_false c2
 have c2b1 : decide (l0.length < 1) = false := decide_eq_false (by omega)
 clear c2
 replace H := iS H
 obtain ⟨c3, H⟩ := H
 have c3b0 : decide (0 < (l0.length : Int)) = true := decide_eq_true c3
 have c3b1 : decide (0 < l0.length) = true := decide_eq_true (by omega)
 clear c3
 have H' := aM H
 clear H
 have p141 : 0 ≤ (0 : Int) := (by omega)
 have q141 : 0 < (l0.length : Int) := oD
 obtain ⟨ad141, e141, hx141_0⟩ := Kd.at_int HR0.out 0 p141 q141
 cases e141
 have qi141 : (0 < l0.length) = True := eq_true (by omega)
 (try rw [show ((0 : Int)).toNat = 0 from rfl] at hx141_0)
 (try rw [Addr.add_zero'] at hx141_0)
 replace p141 := eq_true p141
 replace q141 := eq_true q141
 go_enter Try.func44, Try.ntmps44
 go_wp2
 go_loopg [3, 4] k (fun kq v3 v4 w' => ∃ (x3_1 : Int) (x4_1 : Int), v3 = .int .i64 x3_1 ∧ v4 = .int .i64 x4_1 ∧ Aside0 (slices_Max_int_int.l0 kq l0 x3_1 x4_1 = some r) ∧ Aside0 (kq ≤ k) ∧ Aside0 (Below w.heap.size w w'))
 case atStart => exact ⟨(rd l0 0), (1), qE, qE, H', ⟨Nat.le_refl _⟩, ⟨by exact qW HB.out⟩⟩
 case round =>
  clear H'
  try clear c2
  try clear c2b0
  try clear c2b1
  try clear c3
  try clear c3b0
  try clear c3b1
  try clear hx141_0
  try clear p141
  try clear q141
  obtain ⟨x3_1, x4_1, rfl, rfl, HA, HK1, HB⟩ := hrel
  cases gk with
  | zero => exact absurd HA.out (by simp [slices_Max_int_int.l0])
  | succ k1 =>
   have H := HA.out
   clear HA
   simp only [slices_Max_int_int.l0] at H
   by_cases c4 : x4_1 < (l0.length : Int)
   rotate_left
   ·rw [if_neg c4] at H
    have c4b0 : decide (x4_1 < (l0.length : Int)) = false := decide_eq_false c4
    clear c4
    obtain rfl := Option.some.inj H
    go_wp2
    go_ret
    exact ⟨qX, by exact qW HB.out⟩
   rw [if_pos c4] at H
   have c4b0 : decide (x4_1 < (l0.length : Int)) = true := decide_eq_true c4
   clear c4
   replace H := iD H
   obtain ⟨c5b0, H⟩ := H
   obtain ⟨ji6, hji6⟩ : ∃ j_ : Int, (mx x3_1 (rd l0 x4_1)) = j_ := ⟨_, rfl⟩
   replace H : (slices_Max_int_int.l0 k1 l0 ji6 (wrap64 (x4_1 + 1))) = some r := by first | (rw [hji6] at H; exact H) | (simp only [hji6] at H ⊢; exact H)
   have hji6_ : (if x3_1 < (rd l0 x4_1) then (rd l0 x4_1) else x3_1) = ji6 := hji6
   have H' := aM H
   clear H
   obtain ⟨ad142, e142, hx142_0⟩ := Kd.at_int HR0.out x4_1 oD oD
   obtain rfl : ad141 = ad142 := (by injection e142)
   replace hx142_0 := bD HB hx142_0
   have p142 := eq_true (oD : 0 ≤ (x4_1 : Int))
   have q142 := eq_true (oD : x4_1 < (l0.length : Int))
   go_wp2
   go_roundg k1
   case measure => have := HK1.out; omega
   case rel => exact ⟨(ji6), (wrap64 (x4_1 + 1)), (by first | rfl | (simp; done) | (simp only [← hji6] <;> (first | rfl | simp)) | (simp [*]; done)), qE, H', ⟨by have := HK1.out; omega⟩, ⟨by exact qW HB.out⟩⟩
theorem clear_two {P : Program} (w : World) (t e ty : TypeId) (z a b : Value) (ht : P.underlying t = some (.slice e)) (hv : ∀ w, (zeroValue e).run P w = .ok z w) (hz : z.cells = #[a, b]) (h1 : a.oneCell' = true) (h2 : b.oneCell' = true) (g o c : Nat)
  (hc : ∀ j, j < 2 → (w.cell? ⟨g, o + j, none⟩).isSome = true) (hf : ∀ j, j < 2 → w.frozen? ⟨g, o + j, none⟩ = false) :
  (Builtin.clear_ #[t] ty #[.slice (some ⟨g, o, none⟩) 1 c]).run P w = .ok (.tuple #[]) (w.setCells g o [a, b]) := by
 have hzc : (Builtin.zeroCells z.cells 1).toList = [a, b] := by
  rw [hz]
  simp [Builtin.zeroCells, Array.toList_map, Array.toList_range, List.range, List.range.loop]
 have hst := run_storeCells_cells (P := P) g o [a, b] 0 w (by simpa using hc) (by simpa using hf) (by intro v hv'; simp at hv'; rcases hv' with rfl | rfl <;> assumption)
 simp only [Nat.add_zero] at hst
 simp [Builtin.clear_, run_underlying ht, hv, hzc, hst]
theorem R_tail {α : Type} (d : Kd α) {W : World} {base e g n c : Nat} {ok : Nat → Prop} {xs : List α} (HO : d.R e W base ok (.slice (some ⟨g, 0, none⟩) n c) xs) (news : List Value) (o : Nat) (ho : n * d.sz ≤ o) (hfit : o + news.length ≤ c * d.sz) :
  d.R e (W.setCells g o news) base ok (.slice (some ⟨g, 0, none⟩) n c) xs ∧ W.grownBy (W.setCells g o news) (some g) := by
 obtain ⟨hn, hnc, _⟩ := Kd.R_reads' HO
 obtain ⟨hok, inner, hown, hr⟩ := HO
 rcases hown.2 with ⟨hv, _⟩ | ⟨g', cap', cur, hv, hb, hh, hl, hcm, hcs, htake⟩
 ·cases hv
 injection hv with ha _ hc
 injection ha with ha
 injection ha with hg
 subst hg; subst hc
 obtain ⟨cur', h3, h4, h5⟩ := setCells_row news o W cur hh (by omega)
 obtain ⟨s1, s2, s3, s4⟩ := setCells_same g news o W
 have hfar : ∀ k', k' ≠ g → (W.setCells g o news).heap[k']? = W.heap[k']? := fun k' hk' => setCells_far news _ k' hk'
 have hgo : some g = (Value.slice (some ⟨g, 0, none⟩) n c).ownBlock := by simp [Value.ownBlock]
 refine ⟨⟨hok, inner, ⟨hown.1, .inr ⟨g, c, cur', by rw [← hn], hb, h3, hl, hcm, by rw [h4, hcs], ?_⟩⟩, hr.imp_ fun p q hp => d.M_move (fun k' hk' => hfar k' (fun he => hk'.2 (by rw [← hgo, he]))) hp⟩, ⟨s1, s2, s3, by rw [s4]; exact Nat.le_refl _, fun k' _ hk' => hfar k' (fun he => hk' (by rw [he]))⟩⟩
 rw [h5, ← hn] at *
 rw [List.append_assoc, List.take_append_of_le_length (by rw [List.length_take, Array.length_toList]; omega), List.take_take, Nat.min_eq_left ho]
 exact htake
theorem S_tail {α : Type} (d : Kd α) {W : World} {base e g n c : Nat} {ok : Nat → Prop} {xs : List α} (HO : Kd.S d e W base ok (.slice (some ⟨g, 0, none⟩) n c) xs) (news : List Value) (o : Nat) (ho : n * d.sz ≤ o) (hfit : o + news.length ≤ c * d.sz) :
  Kd.S d e (W.setCells g o news) base ok (.slice (some ⟨g, 0, none⟩) n c) xs ∧ W.grownBy (W.setCells g o news) (some g) := by
 obtain ⟨f, h⟩ := HO
 have h2 := R_tail (Kd.tag f d) h news o ho hfit
 exact ⟨⟨f, h2.1⟩, h2.2⟩
theorem R_room {α : Type} (d : Kd α) {W : World} {base e g n c : Nat} {ok : Nat → Prop} {xs : List α} (HO : d.R e W base ok (.slice (some ⟨g, 0, none⟩) n c) xs) (j : Nat) (hj : j < c * d.sz) : (W.cell? ⟨g, j, none⟩).isSome = true ∧ W.frozen? ⟨g, j, none⟩ = false := by
 obtain ⟨hok, inner, hown, hr⟩ := HO
 rcases hown.2 with ⟨hv, _⟩ | ⟨g', cap', cur, hv, hb, hh, hl, hcm, hcs, htake⟩
 ·cases hv
 injection hv with ha _ hc
 injection ha with ha
 injection ha with hg
 subst hg; subst hc
 refine ⟨?_, blk_frozen hh j⟩
 rw [blk_cell hh j, Array.getElem?_eq_getElem (by omega)]
 rfl
theorem S_room {α : Type} (d : Kd α) {W : World} {base e g n c : Nat} {ok : Nat → Prop} {xs : List α} (HO : Kd.S d e W base ok (.slice (some ⟨g, 0, none⟩) n c) xs) (j : Nat) (hj : j < c * d.sz) : (W.cell? ⟨g, j, none⟩).isSome = true ∧ W.frozen? ⟨g, j, none⟩ = false := by
 obtain ⟨f, h⟩ := HO
 exact R_room (Kd.tag f d) h j hj
set_option maxHeartbeats 8000000 in
set_option maxRecDepth 100000 in
theorem slicesDelete.calls (k : Int) {j : Int} {g n c base : Nat} {ok : Nat → Prop} {xs : List S54} {w0 w : World} (hj : j = wrap64 (k + 1)) (h0 : 0 ≤ k) (h1 : k < n) (HO : Kd.S k54 54 w base ok (.slice (some ⟨g, 0, none⟩) n c) xs) (hB : Below base w0 w) (hbase : base ≤ w.heap.size) :
  Calls Try.prog 45 #[.slice (some ⟨g, 0, none⟩) n c, .int .i64 k, .int .i64 j] w fun e w' => e = .returned (.slice (some ⟨g, 0, none⟩) (n - 1) c) ∧ Kd.S k54 54 w' base ok (.slice (some ⟨g, 0, none⟩) (n - 1) c) (xs.eraseIdx k.toNat) ∧ Below base w0 w' ∧ (w.drewN 1).grownBy w' (some g) := by
 obtain ⟨k, rfl⟩ := Int.eq_ofNat_of_zero_le h0
 rw [Int.toNat_natCast]
 obtain ⟨hn, hnc, hbl⟩ := Kd.S_reads' HO
 have hcm : c ≤ maxLen := by
  obtain ⟨_, _, inner, hown, _⟩ := HO
  rcases hown.2 with ⟨hv, _⟩ | ⟨g', cap', cur, hv, hb, hh, hl, hcm, hcs, htake⟩
  ·cases hv
  injection hv with _ _ hc
  subst hc
  exact hcm
 unfold maxLen at hcm
 rw [show wrap64 ((k : Int) + 1) = (k : Int) + 1 by unfold wrap64; omega] at hj
 subst hj
 obtain ⟨m, em⟩ : ∃ m, n - 1 = m := ⟨_, rfl⟩
 have hkn : k < n := by omega
 have hnm : n = m + 1 := by omega
 obtain ⟨i1, hi1, hsz1⟩ := Option.map_eq_some_iff.1 (show (Try.prog.info? 54).map (·.size) = some 2 by kernel_rfl)
 have c1 := cut_to (P := Try.prog) 52 54 .i64 Try.underlying52 hi1 (some ⟨g, 0, none⟩) n c (k : Int) (by omega) (by omega) hnc
 have c2 := cut_from (P := Try.prog) 52 54 .i64 Try.underlying52 hi1 2 hsz1 (some ⟨g, 0, none⟩) n c ((k : Int) + 1) (by omega) (by omega)
 rw [Int.toNat_natCast] at c1
 rw [show ((k : Int) + 1).toNat = k + 1 by omega] at c2
 have c3 : ∀ W : World, (Instr.slice 52 (.slice (some ⟨g, 0, none⟩) m c) (some (.int .i64 (m : Int))) (some (.int .i64 (n : Int))) none).run Try.prog W = .ok (.slice (some ⟨g, m * 2, none⟩) 1 (c - m)) W := by
  intro W
  have hel : Try.prog.elem 52 = 54 := by simp [Program.elem, Try.underlying52]
  have hu : Try.prog.underlying 52 = some (.slice (Try.prog.elem 52)) := by rw [hel]; exact Try.underlying52
  rw [run_slice_lh W 52 (some ⟨g, 0, none⟩) m c hu .i64 .i64 (m : Int) (n : Int) (by omega) (by omega) (by omega), hel]
  simp only [Int.toNat_natCast]
  have e1 : (⟨g, 0, none⟩ : Addr).add (m * 2) = ⟨g, m * 2, none⟩ := by
   unfold Addr.add
   by_cases hz : m * 2 = 0
   rotate_left
   ·simp [hz]
   rw [if_pos hz, hz]
  simp [sizeOf, typeInfo, hi1, hsz1, sliced, Result.andThen, show ¬ c = m by omega, e1, show n - m = 1 by omega]
 have hA : ∃ A, A = if c = k + 1 then some (⟨g, 0, none⟩ : Addr) else (some (⟨g, 0, none⟩ : Addr)).map (·.add ((k + 1) * k54.sz)) := ⟨_, rfl⟩
 obtain ⟨A, hA⟩ := hA
 rw [show (if c = k + 1 then some (⟨g, 0, none⟩ : Addr) else (some (⟨g, 0, none⟩ : Addr)).map (·.add ((k + 1) * 2))) = A from hA.symm] at c2
 have hne : ((k : Int) == (k : Int) + 1) = false := beq_eq_false_iff_ne.2 (by omega)
 have HR := aM HO
 have HBz := aM hB
 have HAz := aM hA
 have HN := aM hnm
 have HE := aM em
 have HL := aM hn
 have b1 : (k : Int) ≤ (k : Int) + 1 := by omega
 have b2 : (k : Int) + 1 ≤ (n : Int) := by omega
 have b3 : (n : Int) ≤ (c : Int) := by omega
 have b4 : (c : Int) ≤ 9223372036854775807 := by omega
 have hv : ∀ w, (zeroValue 54).run Try.prog w = .ok (.agg #[.int .i64 0, .slice none 0 0]) w := by
  intro w
  obtain ⟨i2, hi2, hz2⟩ := Option.map_eq_some_iff.1 (show (Try.prog.info? 54).map (·.zero) = some (some (.agg #[.int .i64 0, .slice none 0 0])) by kernel_rfl)
  simp [zeroValue, typeInfo, hi2, hz2]
 have HV := aM hv
 clear hv HO hB hA hnm em hn hbl hi1 hsz1 hkn h1
 go_enter Try.func45, Try.ntmps45
 go_wp2
 refine start_ (n := 8) (S := fun w' => Below base w0 w') (ds := []) (bA 8 0) (by kernel_rfl) rfl rfl (below_drew1 HBz.out) (fun hHeld => ?_)
 have HB := aM hHeld
 clear hHeld
 have HS := aM (Kd.S_drew HR.out)
 have HG := aM (show ∀ w1, w.drew.grownBy w1 (some g) → (w.drewN 1).grownBy w1 (some g) from fun _ h => h)
 have HZ := aM (show base ≤ w.drew.heap.size from hbase)
 generalize w.drew = w2 at HB HS HG HZ ⊢
 refine pure_ (i := 0) (N := some 20) (v := ?_) (a' := ?_) (bA 8 1) rfl rfl (by kernel_rfl) (fun _ _ _ h => h) (Or.inl ⟨by rfl, ?_⟩) ?_ ?_
 rotate_left
 ·intro w'
  go_simp
  with_reducible rfl
 rotate_left
 ·refine pZ ?_
  rfl
 refine pure_ (i := 1) (N := some 21) (v := ?_) (a' := ?_) (bA 8 3) rfl rfl (by kernel_rfl) (fun _ _ _ h => h) (Or.inl ⟨by rfl, ?_⟩) ?_ ?_
 rotate_left
 ·intro w'
  go_simp
  with_reducible rfl
 rotate_left
 ·refine pZ ?_
  rfl
 refine pure_ (i := 2) (N := some 22) (v := ?_) (a' := ?_) (bA 8 7) rfl rfl (by kernel_rfl) (fun _ _ _ h => h) (Or.inl ⟨by rfl, ?_⟩) ?_ ?_
 rotate_left
 ·intro w'
  go_simp
  with_reducible rfl
 rotate_left
 ·refine pZ ?_
  rfl
 refine pure_ (i := 3) (N := some 23) (v := ?_) (a' := ?_) (bA 8 15) rfl rfl (by kernel_rfl) (fun _ _ _ h => h) (Or.inl ⟨by rfl, ?_⟩) ?_ ?_
 rotate_left
 ·intro w'
  go_simp
  with_reducible rfl
 rotate_left
 ·refine pZ ?_
  rfl
 refine pure_ (i := 4) (N := some 24) (v := ?_) (a' := ?_) (bA 8 31) rfl rfl (by kernel_rfl) (fun _ _ _ h => h) (Or.inl ⟨by rfl, ?_⟩) ?_ ?_
 rotate_left
 ·intro w'
  go_simp
  with_reducible rfl
 rotate_left
 ·refine pZ ?_
  rfl
 refine pure_ (i := 5) (N := some 25) (v := ?_) (a' := ?_) (bA 8 63) rfl rfl (by kernel_rfl) (fun _ _ _ h => h) (Or.inl ⟨by rfl, ?_⟩) ?_ ?_
 rotate_left
 ·intro w'
  go_simp
  with_reducible rfl
 rotate_left
 ·refine pZ ?_
  rfl
 refine one_ (i := 6) (N := some 26) (bA 8 127) rfl rfl (by kernel_rfl) (by decide) (fun K hK => ?_)
 refine Kd.S_delete_step k54 (w0 := w0) base (by rfl) (.tmp 22) (.tmp 25) 52 54 (by rfl) Try.underlying52 (by kernel_rfl) (g := g) (n := n) (c := c) (k := k) (by rfl) (by rfl) HAz.out rfl HS.out (by have := HN.out; omega) HB.out HZ.out ?_
 intro w3 hS3 hB3 hg3
 have HS3 := aM hS3
 have HB3 := aM hB3
 have HG3 := aM hg3
 clear hS3 hB3 hg3 HS HB
 refine hK.out _ _ HB3.out (fun hHeld => ?_)
 clear hK K hHeld
 refine norm_ (a' := ?_) ?_ ?_
 rotate_left
 ·show Act.put _ (some 26) _ = _
  refine pZ ?_
  rfl
 refine pure_ (i := 7) (N := some 0) (v := ?_) (a' := ?_) (bA 8 255) rfl rfl (by kernel_rfl) (fun _ _ _ h => h) (Or.inl ⟨by rfl, ?_⟩) ?_ ?_
 rotate_left
 ·intro w'
  go_simp
  with_reducible rfl
 rotate_left
 ·refine pZ ?_
  rfl
 have hcl : ∀ ty, (Builtin.clear_ #[52] ty #[.slice (some ⟨g, m * 2, none⟩) 1 (c - m)]).run Try.prog w3 = .ok (.tuple #[]) (w3.setCells g (m * 2) [.int .i64 0, .slice none 0 0]) := fun ty =>
  clear_two w3 52 54 ty _ _ _ Try.underlying52 HV.out rfl rfl rfl g (m * 2) (c - m) (fun j hj => (S_room k54 HS3.out _ (by rw [show k54.sz = 2 from rfl]; have := HN.out; omega)).1) (fun j hj => (S_room k54 HS3.out _ (by rw [show k54.sz = 2 from rfl]; have := HN.out; omega)).2)
 have h1 := S_tail k54 HS3.out [.int .i64 0, .slice none 0 0] (m * 2) (by rw [show k54.sz = 2 from rfl]; have := HE.out; omega) (by rw [show k54.sz = 2 from rfl]; have := HN.out; simp only [List.length_cons, List.length_nil]; omega)
 have HT := aM h1
 clear h1
 have em := HE.out
 refine done_ (by kernel_rfl) ?_
 try go_wp2
 go_ret
 exact ⟨rfl, HT.out.1, HB3.out.grown HT.out.2 (Nat.le_trans HZ.out HG3.out.size) (fun j hj => by cases hj; exact Kd.R_base (Kd.S_R HS3.out) g (by simp [Value.ownBlock])), HG.out _ (HG3.out.trans HT.out.2)⟩
end Go.Proofs.Ytcmkijmjafgkfaa.P
