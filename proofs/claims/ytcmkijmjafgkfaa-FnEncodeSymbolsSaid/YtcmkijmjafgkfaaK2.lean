/- Contracts and row, written by a program of this place out of the translation: the call answers true and its argument reads as before, for every input; no condition. -/
import Derived.Test.YtcmkijmjafgkfaaK0
import Derived.Test.YtcmkijmjafgkfaaK1
namespace Go.Proofs.Ytcmkijmjafgkfaa.P
open Go.RowKit Go.Proofs.YtcmkijmjafgkfaaW.PrintWords Go.Proofs.YtcmkijmjafgkfaaW.PrintLast Go.Proofs.YtcmkijmjafgkfaaW.PrintMore
attribute [local go_sem] max2_int min2_int max_two min_two max_three min_three max_four min_four   -- for this text's walks alone
set_option linter.unusedVariables false
set_option linter.unusedSimpArgs false
mutual
def spec_codeLengths.l0 : Nat → List Int → List Int → List Int → List (List Int) → Int → Option (List Int)
 | 0, _, _, _, _, _ => none
 | k + 1, x0, x3, x4, x5, x6 => if x6 < (x0.length : Int) then (if 0 ≤ x6 then (if (rd x0 x6) > 0 then (if x4.length < 17592186044416 then (if x5.length < 5864062014805 then (spec_codeLengths.l0 k x0 x3 (x4 ++ [rd x0 x6]) (x5 ++ [(([x6] : List Int))]) (wrap64 (x6 + 1))) else (none)) else (none)) else (spec_codeLengths.l0 k x0 x3 x4 x5 (wrap64 (x6 + 1)))) else (none)) else (if (x4.length : Int) = 1 then (if 0 < (x5.length : Int) then (if 0 < ((rd_L3 x5 0).length : Int) then (if 0 ≤ (rd (rd_L3 x5 0) 0) then (if (rd (rd_L3 x5 0) 0) < (x3.length : Int) then (some (x3.set ((rd (rd_L3 x5 0) 0) : Int).toNat 1)) else (none)) else (none)) else (none)) else (none)) else (if 0 ≤ (x4.length : Int) then (if ((x4.length : Int) : Int).toNat ≤ 281474976710656 then (spec_codeLengths.l1 k x3 x4 x5 (List.replicate ((x4.length : Int) : Int).toNat false) (x4.length : Int)) else (none)) else (none)))
def spec_codeLengths.l1 : Nat → List Int → List Int → List (List Int) → List Bool → Int → Option (List Int)
 | 0, _, _, _, _, _ => none
 | k + 1, x3, x4, x5, x7, x8 => if x8 > 1 then ((spec_lightest.f k x4 x7).bind fun t276 => (if 0 ≤ t276 then (if t276 < (x7.length : Int) then ((some (x7.set (t276 : Int).toNat true : List Bool)).bind fun y277 => ((spec_lightest.f k x4 y277).bind fun t278 => (if 0 ≤ t278 then (if t278 < (x7.length : Int) then (if t276 < (x5.length : Int) then ((spec_copyInts.f (rd_L3 x5 t276)).bind fun t281 => (if t278 < (x5.length : Int) then (if t281.length + (rd_L3 x5 t278).length < 17592186044416 then (spec_codeLengths.l2 k x3 x4 x5 (y277.set (t278 : Int).toNat true) x8 t276 t278 (t281 ++ (rd_L3 x5 t278)) 0) else (none)) else (none))) else (none)) else (none)) else (none)))) else (none)) else (none))) else (some x3)
def spec_codeLengths.l2 : Nat → List Int → List Int → List (List Int) → List Bool → Int → Int → Int → List Int → Int → Option (List Int)
 | 0, _, _, _, _, _, _, _, _, _ => none
 | k + 1, x3, x4, x5, x7, x8, x9, x10, x11, x12 => if x12 < (x11.length : Int) then (if 0 ≤ x12 then (if 0 ≤ (rd x11 x12) then (if (rd x11 x12) < (x3.length : Int) then (spec_codeLengths.l2 k (x3.set ((rd x11 x12) : Int).toNat (wrap64 ((rd x3 (rd x11 x12)) + 1))) x4 x5 x7 x8 x9 x10 x11 (wrap64 (x12 + 1))) else (none)) else (none)) else (none)) else (if 0 ≤ x9 then (if x9 < (x4.length : Int) then (if 0 ≤ x10 then (if x10 < (x4.length : Int) then (if x4.length < 17592186044416 then (if x5.length < 5864062014805 then (if x7.length < 140737488355328 then (spec_codeLengths.l1 k x3 (x4 ++ [wrap64 ((rd x4 x9) + (rd x4 x10))]) (x5 ++ [x11]) (x7 ++ [false]) (wrap64 (x8 - 1))) else (none)) else (none)) else (none)) else (none)) else (none)) else (none)) else (none))
end
def spec_codeLengths.f (k : Nat) (l0 : List Int) : Option (List Int) := if 0 ≤ (l0.length : Int) then (if ((l0.length : Int) : Int).toNat ≤ 35184372088832 then (spec_codeLengths.l0 k l0 (List.replicate ((l0.length : Int) : Int).toNat 0) (([] : List Int)) (([] : List (List Int))) 0) else (none)) else (none)
theorem spec_codeLengths.mono_l : ∀ k, (∀ y0 y1 y2 y3 y4, LeO (spec_codeLengths.l0 k y0 y1 y2 y3 y4) (spec_codeLengths.l0 (k + 1) y0 y1 y2 y3 y4)) ∧ (∀ y0 y1 y2 y3 y4, LeO (spec_codeLengths.l1 k y0 y1 y2 y3 y4) (spec_codeLengths.l1 (k + 1) y0 y1 y2 y3 y4)) ∧ (∀ y0 y1 y2 y3 y4 y5 y6 y7 y8, LeO (spec_codeLengths.l2 k y0 y1 y2 y3 y4 y5 y6 y7 y8) (spec_codeLengths.l2 (k + 1) y0 y1 y2 y3 y4 y5 y6 y7 y8))
 | 0 => ⟨fun _ _ _ _ _ r h => by simp [spec_codeLengths.l0] at h, fun _ _ _ _ _ r h => by simp [spec_codeLengths.l1] at h, fun _ _ _ _ _ _ _ _ _ r h => by simp [spec_codeLengths.l2] at h⟩
 | k + 1 => by
  obtain ⟨ih0, ih1, ih2⟩ := spec_codeLengths.mono_l k
  refine ⟨?_, ?_, ?_⟩
  all_goals intros
  all_goals first | unfold spec_codeLengths.l0 | unfold spec_codeLengths.l1 | unfold spec_codeLengths.l2
  all_goals repeat' first | (with_reducible first | exact ih0 _ _ _ _ _ | exact ih1 _ _ _ _ _ | exact ih2 _ _ _ _ _ _ _ _ _ | exact spec_lightest.mono _ _ _ | exact lR | exact lN | refine lI ?_ ?_ | refine lB ?_ fun _ => ?_) | exact ih0 _ _ _ _ _ | exact ih1 _ _ _ _ _ | exact ih2 _ _ _ _ _ _ _ _ _ | exact spec_lightest.mono _ _ _ | exact lN | refine lI ?_ ?_ | refine lB ?_ fun _ => ?_
theorem spec_codeLengths.mono : ∀ a0 k, LeO (spec_codeLengths.f k a0) (spec_codeLengths.f (k + 1) a0) := by
 intro a0 k
 obtain ⟨ih0, ih1, ih2⟩ := spec_codeLengths.mono_l k
 unfold spec_codeLengths.f
 repeat' first | (with_reducible first | exact ih0 _ _ _ _ _ | exact ih1 _ _ _ _ _ | exact ih2 _ _ _ _ _ _ _ _ _ | exact spec_lightest.mono _ _ _ | exact lR | exact lN | refine lI ?_ ?_ | refine lB ?_ fun _ => ?_) | exact ih0 _ _ _ _ _ | exact ih1 _ _ _ _ _ | exact ih2 _ _ _ _ _ _ _ _ _ | exact spec_lightest.mono _ _ _ | exact lN | refine lI ?_ ?_ | refine lB ?_ fun _ => ?_
def spec_codeLengths.T21 : Bool × List (List Nat × List Nat) := (true, [([], []), ([], []), ([0, 1], [0, 1]), ([2], [2]), ([3], [3]), ([], []), ([], []), ([5, 6], [5, 6]), ([7], [7]), ([4, 8, 4], [4, 8]), ([9, 9, 0, 1, 2, 3, 4, 5, 6, 7, 8, 9], [9])])
def spec_codeLengths.B21 : List Nat := [0, 0, 3, 7, 15, 0, 0, 96, 224, 511, 1023]
theorem spec_codeLengths.tab21 : rtab .any (opsOf Try.f42 21) = spec_codeLengths.T21 := by kernel_rfl
theorem spec_codeLengths.bits21 : waitsOk spec_codeLengths.T21.2 spec_codeLengths.B21 = true := by kernel_rfl
def spec_codeLengths.T25 : Bool × List (List Nat × List Nat) := (true, [([], []), ([], []), ([], []), ([1, 2], [1, 2]), ([3], [3]), ([], []), ([], []), ([], []), ([6, 7], [6, 7]), ([8], [8]), ([5, 9], [5, 9]), ([10], [10]), ([11], [11]), ([0, 4, 0, 1, 2, 3, 4, 5, 6, 7, 8, 9, 10, 11, 12], [0, 4]), ([13, 12, 0, 1, 2, 3, 4, 5, 6, 7, 8, 9, 10, 11, 12], [12, 13])])
def spec_codeLengths.B25 : List Nat := [0, 0, 0, 6, 14, 0, 0, 0, 192, 448, 992, 2016, 4064, 8191, 16383]
theorem spec_codeLengths.tab25 : rtab .any (opsOf Try.f42 25) = spec_codeLengths.T25 := by kernel_rfl
theorem spec_codeLengths.bits25 : waitsOk spec_codeLengths.T25.2 spec_codeLengths.B25 = true := by kernel_rfl
def spec_codeLengths.T26 : Bool × List (List Nat × List Nat) := (true, [([], []), ([], []), ([], []), ([1, 2], [1, 2]), ([3], [3]), ([], []), ([], []), ([5, 6], [5, 6]), ([7], [7]), ([4, 8], [4, 8]), ([9], [9]), ([0, 10], [0, 10]), ([11, 11, 0, 1, 2, 3, 4, 5, 6, 7, 8, 9, 10, 11], [0, 1, 5, 11])])
def spec_codeLengths.B26 : List Nat := [0, 0, 0, 6, 14, 0, 0, 96, 224, 510, 1022, 2047, 4095]
theorem spec_codeLengths.tab26 : rtab .any (opsOf Try.f42 26) = spec_codeLengths.T26 := by kernel_rfl
theorem spec_codeLengths.bits26 : waitsOk spec_codeLengths.T26.2 spec_codeLengths.B26 = true := by kernel_rfl
set_option maxHeartbeats 8000000 in
set_option maxRecDepth 100000 in
theorem spec_codeLengths.calls (k : Nat) (A0 : Option Addr) (c0 : Nat) (l0 : List Int) (r : List Int) (w : World) (hr0 : Kd.C (Kd.int .i64) w A0 l0.length l0) (hc0 : l0.length ≤ c0) (h : spec_codeLengths.f k l0 = some r) :
  Calls Try.prog 42 #[.slice A0 l0.length c0] w fun e w' => ∃ v0_ : Value, e = .returned (v0_) ∧ Kd.R (Kd.int .i64) 3 w' w.heap.size (fun _ => True) v0_ r ∧ Below w.heap.size w w' := by
 have HR0 := aM hr0
 have HC0 := aM hc0
 clear hr0 hc0
 have HB := aM (Below.refl w.heap.size w)
 unfold spec_codeLengths.f at h
 have H := h
 clear h
 replace H := iS H
 obtain ⟨c2, H⟩ := H
 have c2b0 := eq_true c2
 have c2b1 : decide (0 ≤ (l0.length : Int)) = true := decide_eq_true c2
 clear c2
 replace H := iS H
 obtain ⟨c3, H⟩ := H
 have c3b0 := eq_true c3
 have c3b1 : decide (((l0.length : Int) : Int).toNat ≤ 35184372088832) = true := decide_eq_true c3
 clear c3
 obtain ⟨y250, hy250⟩ : ∃ y_ : List Int, y_ = (List.replicate ((l0.length : Int) : Int).toNat 0) := ⟨_, rfl⟩
 replace H : (spec_codeLengths.l0 k l0 y250 (([] : List Int)) (([] : List (List Int))) 0) = some r := rY hy250 H
 have Ny250 := aM hy250
 clear hy250
 obtain ⟨y253, hy253⟩ : ∃ y_ : List Int, y_ = (([] : List Int)) := ⟨_, rfl⟩
 replace H : (spec_codeLengths.l0 k l0 y250 y253 (([] : List (List Int))) 0) = some r := rY hy253 H
 have Ny253 := aM hy253
 clear hy253
 obtain ⟨y256, hy256⟩ : ∃ y_ : List (List Int), y_ = (([] : List (List Int))) := ⟨_, rfl⟩
 replace H : (spec_codeLengths.l0 k l0 y250 y253 y256 0) = some r := rY hy256 H
 have Ny256 := aM hy256
 clear hy256
 have H' := aM H
 clear H
 go_enter Try.func42, Try.ntmps42
 go_wp2_with (first | ((with_reducible refine gate_dst (N := 15) rfl ?_); refine Kd.R_make (Kd.int .i64) _ 3 rfl (N := 15) rfl 22 _ _ rfl (l0.length : Int) rfl rfl Try.underlying22 (.int .i64 0) 8 info3 rfl (by decide) (by omega) 0 (ok := fun _ => True) (okp := fun _ => True) rfl (fun _ hk => hk) trivial oD (Nat.le_trans (Nat.mul_le_mul_right _ (oD : (l0.length : Int).toNat ≤ 35184372088832)) (by omega)) (Below.refl _ _) (Nat.le_refl _) ?_; intro v251 w4 ho5 hb hg_ hnew_; clear hg_ hnew_; (first | rw [← Ny250.out] at ho5 | (simp only [Int.reduceToNat] at ho5; rw [← Ny250.out] at ho5)); have HO252 := oR ho5 HB; replace HB := bS HB hb; clear hb ho5) | ((with_reducible refine gate_dst (N := 16) rfl ?_); refine iL ([] : List Int) [] ?_; intro v254 w6 ho7 hb hg_ hnew_; clear hg_ hnew_; (first | rw [← Ny253.out] at ho7 | (simp only [Int.reduceToNat] at ho7; rw [← Ny253.out] at ho7)); have HO255 := nR ho7 HO252 HB; replace HO252 := aM (Kd.R_elder' (qR HO252.out) (Kd.R_base ho7) hb); replace HB := bS HB hb; clear hb ho7) | ((with_reducible refine gate_dst (N := 17) rfl ?_); refine Kd.S_lit (Kd.slice 3 (Kd.int .i64)) _ 22 ?hg (N := 17) ?hd (xs := ([] : List (List Int))) (inner := []) (ok := fun _ => True) (okp := fun _ => True) ?hr ?hp (fun _ hk => hk) trivial (Below.refl _ _) (Nat.le_refl _) (by simp) ?_; (case hd => rfl); (case hg => rfl); (case hr => first | (go_simp; done) | (go_simp; rfl)); (case hp => exact (Reps.none _ _)); intro v257 w8 ho9 hb hg_ hnew_; clear hg_ hnew_; (first | rw [← Ny256.out] at ho9 | (simp only [Int.reduceToNat] at ho9; rw [← Ny256.out] at ho9)); have HO258 := aM (Kd.S_lower (Kd.S_new' (Kd.S_new' ho9 (Kd.R_lt (qR HO252.out))) (Kd.R_lt (qR HO255.out))) (below_size (qW HB.out))); replace HO252 := aM (Kd.R_below (qR HO252.out) hb); replace HO255 := aM (Kd.R_below (qR HO255.out) hb); replace HB := bS HB hb; clear hb ho9))
 go_loopg [4, 5, 6] k (fun kq v4 v5 v6 w' => ∃ (x4_1 : List Int) (x5_1 : List (List Int)) (x6_1 : Int), v6 = .int .i64 x6_1 ∧ Aside0 (spec_codeLengths.l0 kq l0 y250 x4_1 x5_1 x6_1 = some r) ∧ Aside0 (kq ≤ k) ∧ Aside0 (Kd.R (Kd.int .i64) 3 w' w.heap.size (fun k_ => some k_ ≠ (v4 : Value).ownBlock) v251 y250) ∧ Aside0 (Kd.R (Kd.int .i64) 3 w' w.heap.size (fun k_ => some k_ ≠ (v251 : Value).ownBlock) v4 x4_1) ∧ Aside0 (Kd.S (Kd.slice 3 (Kd.int .i64)) 22 w' w.heap.size (fun k_ => some k_ ≠ (v251 : Value).ownBlock ∧ some k_ ≠ (v4 : Value).ownBlock) v5 x5_1) ∧ Aside0 (Below w.heap.size w w'))
 case atStart => exact ⟨(y253), (y256), (0), qE, H', ⟨Nat.le_refl _⟩, ⟨by refine qR ?_; exact Kd.R_mono HO252.out (fun _ hk => hk.2)⟩, ⟨by refine qR ?_; exact Kd.R_mono HO255.out (fun _ hk => hk.2)⟩, ⟨by (with_reducible repeat (first | apply Kd.S_alloc | apply Kd.S_drewN | apply Kd.S_drew)); exact Kd.S_mono HO258.out (fun _ hk => ⟨hk.1.2, hk.2⟩)⟩, ⟨by exact qW HB.out⟩⟩
 case round =>
  clear H'
  try clear c2
  try clear c2b0
  try clear c2b1
  try clear c3
  try clear c3b0
  try clear c3b1
  obtain ⟨x4_1, x5_1, x6_1, rfl, HA, HK1, HO_3, HO_4, HO_5, HB⟩ := hrel
  cases gk with
  | zero => exact absurd HA.out (by simp [spec_codeLengths.l0])
  | succ k1 =>
   have H := HA.out
   clear HA
   simp only [spec_codeLengths.l0] at H
   by_cases c10 : x6_1 < (l0.length : Int)
   ·rw [if_pos c10] at H
    have c10b0 : decide (x6_1 < (l0.length : Int)) = true := decide_eq_true c10
    clear c10
    replace H := iD H
    obtain ⟨c11b0, H⟩ := H
    by_cases c12 : (rd l0 x6_1) > 0
    rotate_left
    ·rw [if_neg c12] at H
     have c12b0 : decide (0 < (rd l0 x6_1)) = false := decide_eq_false c12
     clear c12
     have H' := aM H
     clear H
     obtain ⟨ad259, e259, hx259_0⟩ := Kd.at_int HR0.out x6_1 oD oD
     cases e259
     replace hx259_0 := bD HB hx259_0
     have p259 := eq_true (oD : 0 ≤ (x6_1 : Int))
     have q259 := eq_true (oD : x6_1 < (l0.length : Int))
     go_wp2
     go_roundg k1
     case measure => have := HK1.out; omega
     case rel => exact ⟨(x4_1), (x5_1), (wrap64 (x6_1 + 1)), qE, H', ⟨by have := HK1.out; omega⟩, ⟨by refine qR ?_; exact HO_3.out⟩, ⟨by refine qR ?_; exact HO_4.out⟩, ⟨by (with_reducible repeat (first | apply Kd.S_alloc | apply Kd.S_drewN | apply Kd.S_drew)); exact HO_5.out⟩, ⟨by exact qW HB.out⟩⟩
    rw [if_pos c12] at H
    have c12b0 : decide (0 < (rd l0 x6_1)) = true := decide_eq_true c12
    clear c12
    replace H := iS H
    obtain ⟨c13, H⟩ := H
    have LMc13 := aM c13
    clear c13
    obtain ⟨y261, hy261⟩ : ∃ y_ : List Int, y_ = (x4_1 ++ [rd l0 x6_1]) := ⟨_, rfl⟩
    replace H : (if x5_1.length < 5864062014805 then (spec_codeLengths.l0 k1 l0 y250 y261 (x5_1 ++ [(([x6_1] : List Int))]) (wrap64 (x6_1 + 1))) else (none)) = some r := rY hy261 H
    have Ny261 := aM hy261
    clear hy261
    obtain ⟨y264, hy264⟩ : ∃ y_ : List Int, y_ = (([x6_1] : List Int)) := ⟨_, rfl⟩
    replace H : (if x5_1.length < 5864062014805 then (spec_codeLengths.l0 k1 l0 y250 y261 (x5_1 ++ [y264]) (wrap64 (x6_1 + 1))) else (none)) = some r := rY hy264 H
    have Ny264 := aM hy264
    clear hy264
    replace H := iS H
    obtain ⟨c14, H⟩ := H
    have LMc14 := aM c14
    clear c14
    obtain ⟨y267, hy267⟩ : ∃ y_ : List (List Int), y_ = (x5_1 ++ [y264]) := ⟨_, rfl⟩
    replace H : (spec_codeLengths.l0 k1 l0 y250 y261 y267 (wrap64 (x6_1 + 1))) = some r := rY hy267 H
    have Ny267 := aM hy267
    clear hy267
    have H' := aM H
    clear H
    obtain ⟨ad259, e259, hx259_0⟩ := Kd.at_int HR0.out x6_1 oD oD
    cases e259
    replace hx259_0 := bD HB hx259_0
    have p259 := eq_true (oD : 0 ≤ (x6_1 : Int))
    have q259 := eq_true (oD : x6_1 < (l0.length : Int))
    obtain ⟨ad260, e260, hx260_0⟩ := Kd.at_int HR0.out x6_1 oD oD
    obtain rfl : ad259 = ad260 := (by injection e260)
    replace hx260_0 := bD HB hx260_0
    have p260 := eq_true (oD : 0 ≤ (x6_1 : Int))
    have q260 := eq_true (oD : x6_1 < (l0.length : Int))
    go_wp2_with (first | ((with_reducible refine gate_builtin (b := .append) (xs := #[.tmp 29, .tmp 34]) rfl ?_); at_builtin; refine Kd.R_append (Kd.int .i64) (w0 := w) w.heap.size rfl (.tmp 29) (.tmp 34) 22 3 (.int .i64 0) 8 rfl Try.underlying22 info3 rfl (by decide) (by omega) u4 x4_1 (rd l0 x6_1) [.int .i64 (rd l0 x6_1)] (fun k_ => some k_ ≠ (v251 : Value).ownBlock) (fun _ => False) rfl rfl ?aP (fun _ hk => hk.elim) ?aF ?aO ?aB ?aS ?aL ?_; (case aP => exact rfl); (case aB => exact (qW HB.out)); (case aF => exact (fun k_ hk => Kd.fresh' (Kd.R_lt (qR HO_3.out)) k_ hk)); (case aO => exact (qR HO_4.out)); (case aS => exact (below_size (qW HB.out))); (case aL => have := LMc13.out; omega); intro v262 w15 ho hb hg hat; rw [← Ny261.out] at ho; replace HO_3 := aM (Kd.R_after (ok := (fun _ => True)) (by refine qR ?_; exact Kd.R_mono HO_3.out (fun _ hk => ⟨trivial, hk⟩)) hg hat); replace HO_5 := aM (Kd.S_after (ok := (fun k_ => some k_ ≠ (v251 : Value).ownBlock)) (by (with_reducible repeat (first | apply Kd.S_alloc | apply Kd.S_drewN | apply Kd.S_drew)); exact HO_5.out) hg hat); replace HB := aM (hb); have HO263 := aM (ho); clear HO_4; clear ho hb hg hat) | ((with_reducible refine gate_dst (N := 38) rfl ?_); refine iL ([x6_1] : List Int) [.int .i64 x6_1] ?_; intro v265 w16 ho17 hb hg_ hnew_; clear hg_ hnew_; (first | rw [← Ny264.out] at ho17 | (simp only [Int.reduceToNat] at ho17; rw [← Ny264.out] at ho17)); replace HO_5 := aM (Kd.S_elder' (by (with_reducible repeat (first | apply Kd.S_alloc | apply Kd.S_drewN | apply Kd.S_drew)); exact HO_5.out) (Kd.R_base ho17) hb); have HO266 := aM (Kd.R_lower (Kd.R_new' (Kd.R_new' ho17 (Kd.R_lt (qR HO_3.out))) (Kd.R_lt (qR HO263.out))) (below_size (qW HB.out))); replace HO_3 := aM (Kd.R_elder' (qR HO_3.out) (Kd.R_base ho17) hb); replace HO263 := aM (Kd.R_elder' (qR HO263.out) (Kd.R_base ho17) hb); replace HB := bS HB hb; clear hb ho17; obtain ⟨Ao19, co19, rfl⟩ := sL HO266) | ((with_reducible refine gate_builtin (b := .append) (xs := #[.tmp 36, .tmp 39]) rfl ?_); at_builtin; refine Kd.S_append (Kd.slice 3 (Kd.int .i64)) (w0 := w) w.heap.size rfl (.tmp 36) (.tmp 39) 63 22 (.slice none 0 0) 24 rfl Try.underlying63 info22 rfl (by decide) (by omega) u5 x5_1 y264 [.slice Ao19 y264.length co19] (fun k_ => some k_ ≠ (v251 : Value).ownBlock ∧ some k_ ≠ (v262 : Value).ownBlock) (fun k_ => some k_ = (.slice Ao19 y264.length co19 : Value).ownBlock) rfl rfl ?aP (fun k_ hk_ => ((Kd.R_mono (ok' := fun k_ => ((fun k_ => some k_ ≠ (v251 : Value).ownBlock ∧ some k_ ≠ (v262 : Value).ownBlock)) k_ ∧ some k_ ≠ (u5 : Value).ownBlock) (Kd.R_apart' (HO266.out) (Kd.S_typed HO_5.out) (by decide)) (fun k_ hk => ⟨⟨hk.1.1.2, hk.1.2⟩, hk.2⟩))).1 k_ hk_.symm) ?aF ?aO ?aB ?aS ?aL ?_; (case aP => exact Kd.M_row (Kd.R_mono (Kd.R_tight rfl (Kd.R_mono (ok' := fun k_ => ((fun k_ => some k_ ≠ (v251 : Value).ownBlock ∧ some k_ ≠ (v262 : Value).ownBlock)) k_ ∧ some k_ ≠ (u5 : Value).ownBlock) (Kd.R_apart' (HO266.out) (Kd.S_typed HO_5.out) (by decide)) (fun k_ hk => ⟨⟨hk.1.1.2, hk.1.2⟩, hk.2⟩))) (fun _ h_ => h_))); (case aB => exact (qW HB.out)); (case aF => exact (fun k_ hk => ⟨Kd.fresh' (Kd.R_lt (qR HO_3.out)) k_ hk, Kd.fresh' (Kd.R_lt (qR HO263.out)) k_ hk⟩)); (case aO => exact (by (with_reducible repeat (first | apply Kd.S_alloc | apply Kd.S_drewN | apply Kd.S_drew)); exact Kd.S_mono HO_5.out (fun k_ hk => ⟨⟨hk.1.1, hk.1.2⟩, fun e_ => hk.2 e_⟩))); (case aS => exact (below_size (qW HB.out))); (case aL => have := LMc14.out; omega); intro v268 w18 ho hb hg hat; rw [← Ny267.out] at ho; replace HO_3 := aM (Kd.R_over' (qR HO_3.out) (Kd.S_typed (by (with_reducible repeat (first | apply Kd.S_alloc | apply Kd.S_drewN | apply Kd.S_drew)); exact HO_5.out)) (by decide) hg); replace HO263 := aM (Kd.R_over' (qR HO263.out) (Kd.S_typed (by (with_reducible repeat (first | apply Kd.S_alloc | apply Kd.S_drewN | apply Kd.S_drew)); exact HO_5.out)) (by decide) hg); replace HB := aM (hb); have HO269 := aM (ho); clear HO_5 HO266; clear ho hb hg hat))
    go_roundg k1
    case measure => have := HK1.out; omega
    case rel => exact ⟨(y261), (y267), (wrap64 (x6_1 + 1)), qE, H', ⟨by have := HK1.out; omega⟩, ⟨by refine qR ?_; exact Kd.R_mono HO_3.out (fun _ hk => hk.1.2)⟩, ⟨by refine qR ?_; exact Kd.R_mono HO263.out (fun _ hk => hk.1)⟩, ⟨by (with_reducible repeat (first | apply Kd.S_alloc | apply Kd.S_drewN | apply Kd.S_drew)); exact HO269.out⟩, ⟨by exact qW HB.out⟩⟩
   rw [if_neg c10] at H
   have c10b0 : decide (x6_1 < (l0.length : Int)) = false := decide_eq_false c10
   clear c10
   by_cases c20 : (x4_1.length : Int) = 1
   ·rw [if_pos c20] at H
    have c20b0 : ((x4_1.length : Int) == 1) = true := beq_iff_eq.mpr c20
    have c20b1 : ((x4_1.length : Int) != 1) = false := bne_eq_false_iff_eq.mpr c20
    clear c20
    replace H := iS H
    obtain ⟨c21, H⟩ := H
    have c21b0 : decide (0 < (x5_1.length : Int)) = true := decide_eq_true c21
    have c21b1 : decide (0 < x5_1.length) = true := decide_eq_true (by omega)
    clear c21
    replace H := iS H
    obtain ⟨c22, H⟩ := H
    have c22b0 : decide (0 < ((rd_L3 x5_1 0).length : Int)) = true := decide_eq_true c22
    have c22b1 : decide (0 < (rd_L3 x5_1 0).length) = true := decide_eq_true (by omega)
    clear c22
    replace H := iD H
    obtain ⟨c23b0, H⟩ := H
    replace H := iD H
    obtain ⟨c24b0, H⟩ := H
    obtain ⟨y272, hy272⟩ : ∃ y_ : List Int, y_ = (y250.set ((rd (rd_L3 x5_1 0) 0) : Int).toNat 1) := ⟨_, rfl⟩
    replace H : (some y272) = some r := rY hy272 H
    have Ny272 := aM hy272
    clear hy272
    obtain rfl := Option.some.inj H
    obtain ⟨Ao26, co26, rfl⟩ := sL HO_4
    obtain ⟨Ao27, co27, eo27⟩ := Kd.S_slice HO_5.out
    subst eo27
    have p270 : 0 ≤ (0 : Int) := (by omega)
    have q270 : 0 < (x5_1.length : Int) := oD
    obtain ⟨ad270, A270_0, c270_0, e270, hx270_0, hl270_0, hi270_0⟩ := at_L3 (Kd.S_reads' HO_5.out).2.2 0 p270 q270
    cases e270
    obtain ⟨ce270, hce270, hMe270, hcc270⟩ := Kd.S_get HO_5.out [] 0 p270 (by first | exact q270 | exact oD | (have e_ := (Kd.S_reads' HO_5.out).1; omega))
    obtain ⟨ve270_0, rfl, ge270_0⟩ := hMe270
    have hv270_0 := hcc270 0 _ rfl
    rw [Nat.add_zero, show ((Kd.slice 3 (Kd.int .i64))).sz = 1 from rfl, Nat.mul_one] at hv270_0
    replace hv270_0 := Option.some.inj (hv270_0.symm.trans hx270_0)
    rw [hv270_0] at ge270_0
    have HL270_0 := aM (show Kd.R (Kd.int .i64) 3 _ _ _ _ (rd_L3 x5_1 0) from ge270_0)
    clear hv270_0 ge270_0
    clear hcc270 hce270
    have qi270 : (0 < x5_1.length) = True := eq_true (by omega)
    (try rw [show ((0 : Int)).toNat = 0 from rfl] at hx270_0)
    (try rw [Addr.add_zero'] at hx270_0)
    have HR270_0 := aM hi270_0
    have HC270_0 := aM hl270_0
    clear hi270_0 hl270_0
    replace p270 := eq_true p270
    replace q270 := eq_true q270
    have p271 : 0 ≤ (0 : Int) := (by omega)
    have q271 : 0 < ((rd_L3 x5_1 0).length : Int) := oD
    obtain ⟨ad271, e271, hx271_0⟩ := Kd.at_int (by repeat (first | (with_reducible exact HR270_0.out) | (with_reducible refine Kd.C_alloc ?_ _) | (with_reducible refine Kd.C_drewN ?_ _) | (with_reducible refine Kd.C_drew ?_) | exact HR270_0.out)) 0 p271 q271
    cases e271
    have qi271 : (0 < (rd_L3 x5_1 0).length) = True := eq_true (by omega)
    (try rw [show ((0 : Int)).toNat = 0 from rfl] at hx271_0)
    (try rw [Addr.add_zero'] at hx271_0)
    replace p271 := eq_true p271
    replace q271 := eq_true q271
    have p25 : 0 ≤ ((rd (rd_L3 x5_1 0) 0) : Int) := oD
    have q25 : ((rd (rd_L3 x5_1 0) 0) : Int) < ((y250.length : Int) : Int) := oD
    obtain ⟨go25, co25, eo25, gb25, gl25, cl25, HG25⟩ := Kd.R_form HO_3.out (by omega)
    (first | cases eo25 | (injection eo25 with ea_ en_ ec_; (first | subst ea_ | (injection ea_ with ea_; subst ea_)); subst ec_; clear en_))
    have GB25 := aM gb25
    have GG25 := aM HG25
    clear gb25 gl25 HG25
    obtain ⟨hx25_0, hf25_0⟩ := Kd.R_celln 0 HO_3.out ((rd (rd_L3 x5_1 0) 0) : Int) p25 q25
    replace p25 := eq_true p25
    replace q25 := eq_true q25
    have HP28 := Kd.R_putg HO_3.out ((rd (rd_L3 x5_1 0) 0) : Int) 1
    go_wp2_with (first | ((with_reducible refine gate_store (t := 3) (p := 50) rfl ?_); refine store_event (t := 3) (p := 50) (v := ?vo_w29) (w1 := (wr.setCell ⟨go25, ((rd (rd_L3 x5_1 0) 0) : Int).toNat, none⟩ (.int .i64 1))) ?hg ?ho ?hn ?hr ?_; (case ho => rfl); (case hg => rfl); (case hn => rfl); (case hr => first | (go_simp; done) | (go_simp; rfl)); intro w29 hw; have hg : wr.grownBy w29 (some go25) := (by rw [hw]; exact HP28.2); have hp_ : Kd.R (Kd.int .i64) 3 w29 w.heap.size (fun k_ => some k_ ≠ (.slice Ao26 x4_1.length co26 : Value).ownBlock) (.slice (some ⟨go25, 0, none⟩) y250.length co25) y272 := (by rw [hw, Ny272.out]; exact HP28.1); clear HP28; replace HO_3 := aM (hp_); replace HO_4 := aM (Kd.R_after (v := (.slice (some ⟨go25, 0, none⟩) y250.length co25)) (v1 := (.slice (some ⟨go25, 0, none⟩) y250.length co25)) (ok := (fun _ => True)) (by refine qR ?_; exact Kd.R_mono HO_4.out (fun _ hk => ⟨trivial, hk⟩)) hg (.inl rfl)); replace HO_5 := aM (Kd.S_after (v := (.slice (some ⟨go25, 0, none⟩) y250.length co25)) (v1 := (.slice (some ⟨go25, 0, none⟩) y250.length co25)) (ok := (fun k_ => some k_ ≠ (.slice Ao26 x4_1.length co26 : Value).ownBlock)) (by (with_reducible repeat (first | apply Kd.S_alloc | apply Kd.S_drewN | apply Kd.S_drew)); exact Kd.S_mono HO_5.out (fun _ hk => ⟨hk.2, hk.1⟩)) hg (.inl rfl)); replace HL270_0 := aM (Kd.R_after (v := (.slice (some ⟨go25, 0, none⟩) y250.length co25)) (v1 := (.slice (some ⟨go25, 0, none⟩) y250.length co25)) (ok := (fun k_ => some k_ ≠ (.slice Ao26 x4_1.length co26 : Value).ownBlock ∧ some k_ ≠ (.slice (some ad270) x5_1.length co27 : Value).ownBlock)) (by refine qR ?_; exact Kd.R_mono HL270_0.out (fun _ hk => ⟨⟨hk.1.2, hk.2⟩, hk.1.1⟩)) hg (.inl rfl)); replace HB := aM ((by rw [hw]; exact below_set (HB.out) GB25.out : Below w.heap.size w w29)); clear hg hw hp_))
    go_ret
    exact ⟨_, qX, by refine qR ?_; exact Kd.R_mono HO_3.out (fun _ hk => trivial), by exact qW HB.out⟩
   rw [if_neg c20] at H
   have c20b0 : ((x4_1.length : Int) == 1) = false := beq_eq_false_iff_ne.mpr c20
   have c20b1 : ((x4_1.length : Int) != 1) = true := bne_iff_ne.mpr c20
   replace H := iS H
   obtain ⟨c30, H⟩ := H
   have c30b0 := eq_true c30
   have c30b1 : decide (0 ≤ (x4_1.length : Int)) = true := decide_eq_true c30
   clear c30
   replace H := iS H
   obtain ⟨c31, H⟩ := H
   have c31b0 := eq_true c31
   have c31b1 : decide (((x4_1.length : Int) : Int).toNat ≤ 281474976710656) = true := decide_eq_true c31
   clear c31
   obtain ⟨y273, hy273⟩ : ∃ y_ : List Bool, y_ = (List.replicate ((x4_1.length : Int) : Int).toNat false) := ⟨_, rfl⟩
   replace H : (spec_codeLengths.l1 k1 y250 x4_1 x5_1 y273 (x4_1.length : Int)) = some r := rY hy273 H
   have Ny273 := aM hy273
   clear hy273
   have H' := aM H
   clear H
   obtain ⟨Ao32, co32, rfl⟩ := sL HO_4
   go_wp2_with (first | ((with_reducible refine gate_dst (N := 54) rfl ?_); refine Kd.R_make Kd.bool _ 4 rfl (N := 54) rfl 64 _ _ rfl (x4_1.length : Int) rfl rfl Try.underlying64 (.bool false) 1 info4 rfl (by decide) (by omega) false (ok := fun _ => True) (okp := fun _ => True) rfl (fun _ hk => hk) trivial oD (Nat.le_trans (Nat.mul_le_mul_right _ (oD : (x4_1.length : Int).toNat ≤ 281474976710656)) (by omega)) (Below.refl _ _) (Nat.le_refl _) ?_; intro v274 w33 ho34 hb hg_ hnew_; clear hg_ hnew_; (first | rw [← Ny273.out] at ho34 | (simp only [Int.reduceToNat] at ho34; rw [← Ny273.out] at ho34)); replace HO_3 := aM (Kd.R_below (qR HO_3.out) hb); replace HO_4 := aM (Kd.R_below (qR HO_4.out) hb); replace HO_5 := aM (Kd.S_below (by (with_reducible repeat (first | apply Kd.S_alloc | apply Kd.S_drewN | apply Kd.S_drew)); exact HO_5.out) hb); have HO275 := oR ho34 HB; replace HB := bS HB hb; clear hb ho34))
   go_loopg [4, 5, 7, 8] k1 (fun kq v4 v5 v7 v8 w' => ∃ (x3_2 : List Int) (x4_2 : List Int) (x5_2 : List (List Int)) (x7_2 : List Bool) (x8_2 : Int), v8 = .int .i64 x8_2 ∧ Aside0 (spec_codeLengths.l1 kq x3_2 x4_2 x5_2 x7_2 x8_2 = some r) ∧ Aside0 (kq ≤ k1) ∧ Aside0 (Kd.R (Kd.int .i64) 3 w' w.heap.size (fun k_ => some k_ ≠ (v4 : Value).ownBlock) v251 x3_2) ∧ Aside0 (Kd.R (Kd.int .i64) 3 w' w.heap.size (fun k_ => some k_ ≠ (v251 : Value).ownBlock) v4 x4_2) ∧ Aside0 (Kd.S (Kd.slice 3 (Kd.int .i64)) 22 w' w.heap.size (fun k_ => some k_ ≠ (v251 : Value).ownBlock ∧ some k_ ≠ (v4 : Value).ownBlock) v5 x5_2) ∧ Aside0 (Kd.R Kd.bool 4 w' w.heap.size (fun _ => True) v7 x7_2) ∧ Aside0 (Below w.heap.size w w'))
   case atStart => exact ⟨(y250), (x4_1), (x5_1), (y273), ((x4_1.length : Int)), qE, H', ⟨Nat.le_refl _⟩, ⟨by refine qR ?_; exact HO_3.out⟩, ⟨by refine qR ?_; exact HO_4.out⟩, ⟨by (with_reducible repeat (first | apply Kd.S_alloc | apply Kd.S_drewN | apply Kd.S_drew)); exact HO_5.out⟩, ⟨by refine qR ?_; exact HO275.out⟩, ⟨by exact qW HB.out⟩⟩
   case round =>
    clear H'
    try clear c2
    try clear c2b0
    try clear c2b1
    try clear c3
    try clear c3b0
    try clear c3b1
    try clear c10
    try clear c10b0
    try clear c11b0
    try clear c12
    try clear c12b0
    try clear c13
    try clear c14
    try clear c20
    try clear c20b0
    try clear c20b1
    try clear c21
    try clear c21b0
    try clear c21b1
    try clear c22
    try clear c22b0
    try clear c22b1
    try clear c23b0
    try clear c24b0
    try clear p25
    try clear q25
    try clear c30
    try clear c30b0
    try clear c30b1
    try clear c31
    try clear c31b0
    try clear c31b1
    try clear hx259_0
    try clear hx25_0
    try clear hx260_0
    try clear hx270_0
    try clear hx271_0
    try clear p25
    try clear p259
    try clear p260
    try clear p270
    try clear p271
    try clear q25
    try clear q259
    try clear q260
    try clear q270
    try clear q271
    obtain ⟨x3_2, x4_2, x5_2, x7_2, x8_2, rfl, HA, HK2, HO_3, HO_4, HO_5, HO_7, HB⟩ := hrel
    cases gk with
    | zero => exact absurd HA.out (by simp [spec_codeLengths.l1])
    | succ k2 =>
     have H := HA.out
     clear HA
     simp only [spec_codeLengths.l1] at H
     by_cases c35 : x8_2 > 1
     rotate_left
     ·rw [if_neg c35] at H
      have c35b0 : decide (1 < x8_2) = false := decide_eq_false c35
      clear c35
      obtain rfl := Option.some.inj H
      go_wp2
      go_ret
      exact ⟨_, qX, by refine qR ?_; exact Kd.R_mono HO_3.out (fun _ hk => trivial), by exact qW HB.out⟩
     rw [if_pos c35] at H
     have c35b0 : decide (1 < x8_2) = true := decide_eq_true c35
     clear c35
     replace H := Option.bind_eq_some_iff.mp H
     obtain ⟨t276, A360, H⟩ := H
     replace H : (if 0 ≤ t276 then (if t276 < (x7_2.length : Int) then ((some (x7_2.set (t276 : Int).toNat true : List Bool)).bind fun y277 => ((spec_lightest.f k2 x4_2 y277).bind fun t278 => (if 0 ≤ t278 then (if t278 < (x7_2.length : Int) then (if t276 < (x5_2.length : Int) then ((spec_copyInts.f (rd_L3 x5_2 t276)).bind fun t281 => (if t278 < (x5_2.length : Int) then (if t281.length + (rd_L3 x5_2 t278).length < 17592186044416 then (spec_codeLengths.l2 k2 x3_2 x4_2 x5_2 (y277.set (t278 : Int).toNat true) x8_2 t276 t278 (t281 ++ (rd_L3 x5_2 t278)) 0) else (none)) else (none))) else (none)) else (none)) else (none)))) else (none)) else (none)) = some r := H
     have A36 := aM A360
     clear A360
     replace H := iD H
     obtain ⟨c37b0, H⟩ := H
     replace H := iD H
     obtain ⟨c38b0, H⟩ := H
     obtain ⟨y277, hy277⟩ : ∃ y_ : List Bool, y_ = (x7_2.set (t276 : Int).toNat true) := ⟨_, rfl⟩
     replace H : ((spec_lightest.f k2 x4_2 y277).bind fun t278 => (if 0 ≤ t278 then (if t278 < (x7_2.length : Int) then (if t276 < (x5_2.length : Int) then ((spec_copyInts.f (rd_L3 x5_2 t276)).bind fun t281 => (if t278 < (x5_2.length : Int) then (if t281.length + (rd_L3 x5_2 t278).length < 17592186044416 then (spec_codeLengths.l2 k2 x3_2 x4_2 x5_2 (y277.set (t278 : Int).toNat true) x8_2 t276 t278 (t281 ++ (rd_L3 x5_2 t278)) 0) else (none)) else (none))) else (none)) else (none)) else (none))) = some r := rY hy277 H
     have Ny277 := aM hy277
     clear hy277
     replace H := Option.bind_eq_some_iff.mp H
     obtain ⟨t278, A400, H⟩ := H
     replace H : (if 0 ≤ t278 then (if t278 < (x7_2.length : Int) then (if t276 < (x5_2.length : Int) then ((spec_copyInts.f (rd_L3 x5_2 t276)).bind fun t281 => (if t278 < (x5_2.length : Int) then (if t281.length + (rd_L3 x5_2 t278).length < 17592186044416 then (spec_codeLengths.l2 k2 x3_2 x4_2 x5_2 (y277.set (t278 : Int).toNat true) x8_2 t276 t278 (t281 ++ (rd_L3 x5_2 t278)) 0) else (none)) else (none))) else (none)) else (none)) else (none)) = some r := H
     have A40 := aM A400
     clear A400
     replace H := iD H
     obtain ⟨c41b0, H⟩ := H
     replace H := iD H
     obtain ⟨c42b0, H⟩ := H
     obtain ⟨y279, hy279⟩ : ∃ y_ : List Bool, y_ = (y277.set (t278 : Int).toNat true) := ⟨_, rfl⟩
     replace H : (if t276 < (x5_2.length : Int) then ((spec_copyInts.f (rd_L3 x5_2 t276)).bind fun t281 => (if t278 < (x5_2.length : Int) then (if t281.length + (rd_L3 x5_2 t278).length < 17592186044416 then (spec_codeLengths.l2 k2 x3_2 x4_2 x5_2 y279 x8_2 t276 t278 (t281 ++ (rd_L3 x5_2 t278)) 0) else (none)) else (none))) else (none)) = some r := rY hy279 H
     have Ny279 := aM hy279
     clear hy279
     replace H := iD H
     obtain ⟨c44b0, H⟩ := H
     replace H := Option.bind_eq_some_iff.mp H
     obtain ⟨t281, A450, H⟩ := H
     replace H : (if t278 < (x5_2.length : Int) then (if t281.length + (rd_L3 x5_2 t278).length < 17592186044416 then (spec_codeLengths.l2 k2 x3_2 x4_2 x5_2 y279 x8_2 t276 t278 (t281 ++ (rd_L3 x5_2 t278)) 0) else (none)) else (none)) = some r := H
     have A45 := aM A450
     clear A450
     replace H := iD H
     obtain ⟨c46b0, H⟩ := H
     replace H := iS H
     obtain ⟨c47, H⟩ := H
     have LMc47 := aM c47
     clear c47
     obtain ⟨y285, hy285⟩ : ∃ y_ : List Int, y_ = (t281 ++ (rd_L3 x5_2 t278)) := ⟨_, rfl⟩
     replace H : (spec_codeLengths.l2 k2 x3_2 x4_2 x5_2 y279 x8_2 t276 t278 y285 0) = some r := rY hy285 H
     have Ny285 := aM hy285
     clear hy285
     have H' := aM H
     clear H
     obtain ⟨Ao48, co48, rfl⟩ := sL HO_4
     obtain ⟨Ao49, co49, rfl⟩ := sL HO_7
     try go_wp2_with (first | ((with_reducible refine gate_callee (f := 54) rfl ?_); refine gL (some 63) Try.func54 #[.slice Ao48 x4_2.length co48, .slice Ao49 x7_2.length co49] ?_; (with_reducible refine (spec_lightest.calls k2 _ _ x4_2 _ _ x7_2 t276 _ ?side1 ?side2 ?side3 ?side4 A36.out).mono ?_); (case side1 => exact qC (Kd.R_reads' HO_4.out).2.2); (case side2 => exact (Kd.R_reads' HO_4.out).2.1); (case side3 => exact qC (Kd.R_reads' HO_7.out).2.2); (case side4 => exact (Kd.R_reads' HO_7.out).2.1); rintro e w' ⟨rfl, ⟨nd, rfl⟩⟩; refine ⟨_, rfl, ?_⟩; (try (rw [drewN_self wr]; generalize hq_ : World.drewN wr _ = wr; replace HO_3 : Aside0 (Kd.R (Kd.int .i64) 3 wr w.heap.size (fun k_ => some k_ ≠ (.slice Ao48 x4_2.length co48 : Value).ownBlock) v251 x3_2) := ⟨by rw [← hq_]; exact (qR HO_3.out)⟩; replace HO_4 : Aside0 (Kd.R (Kd.int .i64) 3 wr w.heap.size (fun k_ => some k_ ≠ (v251 : Value).ownBlock) (.slice Ao48 x4_2.length co48) x4_2) := ⟨by rw [← hq_]; exact (qR HO_4.out)⟩; replace HO_5 : Aside0 (Kd.S (Kd.slice 3 (Kd.int .i64)) 22 wr w.heap.size (fun k_ => some k_ ≠ (v251 : Value).ownBlock ∧ some k_ ≠ (.slice Ao48 x4_2.length co48 : Value).ownBlock) u5 x5_2) := ⟨by rw [← hq_]; exact (by (with_reducible repeat (first | apply Kd.S_alloc | apply Kd.S_drewN | apply Kd.S_drew)); exact HO_5.out)⟩; replace HO_7 : Aside0 (Kd.R Kd.bool 4 wr w.heap.size (fun _ => True) (.slice Ao49 x7_2.length co49) x7_2) := ⟨by rw [← hq_]; exact (qR HO_7.out)⟩; replace HB : Aside0 (Below w.heap.size w wr) := ⟨by rw [← hq_]; exact (qW HB.out)⟩; clear hq_)); have p39 : 0 ≤ (t276 : Int) := oD; have q39 : (t276 : Int) < ((x7_2.length : Int) : Int) := oD; obtain ⟨go39, co39, eo39, gb39, gl39, cl39, HG39⟩ := Kd.R_form HO_7.out (by omega); (first | cases eo39 | (injection eo39 with ea_ en_ ec_; (first | subst ea_ | (injection ea_ with ea_; subst ea_)); subst ec_; clear en_)); have GB39 := aM gb39; have GG39 := aM HG39; clear gb39 gl39 HG39; obtain ⟨hx39_0, hf39_0⟩ := Kd.R_celln false HO_7.out (t276 : Int) p39 q39; replace p39 := eq_true p39; replace q39 := eq_true q39; obtain ⟨hy50_, hz50_⟩ := Kd.R_celln false HO_7.out (t276 : Int) oD oD; have HP50 := Kd.R_putg HO_7.out (t276 : Int) true) | ((with_reducible refine gate_store (t := 4) (p := 66) rfl ?_); refine store_event (t := 4) (p := 66) (v := ?vo_w51) (w1 := (wr.setCell ⟨go39, (t276 : Int).toNat, none⟩ (.bool true))) ?hg ?ho ?hn ?hr ?_; (case ho => rfl); (case hg => rfl); (case hn => rfl); (case hr => first | (go_simp; done) | (go_simp; rfl)); intro w51 hw; have hg : wr.grownBy w51 (some go39) := (by rw [hw]; exact HP50.2); have hp_ : Kd.R Kd.bool 4 w51 w.heap.size (fun _ => True) (.slice (some ⟨go39, 0, none⟩) x7_2.length co49) y277 := (by rw [hw, Ny277.out]; exact HP50.1); clear HP50; replace HO_3 := aM (Kd.R_over' (v := (.slice (some ⟨go39, 0, none⟩) x7_2.length co49)) (qR HO_3.out) (Kd.R_typed HO_7.out) (by decide) hg); replace HO_4 := aM (Kd.R_over' (v := (.slice (some ⟨go39, 0, none⟩) x7_2.length co49)) (qR HO_4.out) (Kd.R_typed HO_7.out) (by decide) hg); replace HO_5 := aM (Kd.S_over' (v := (.slice (some ⟨go39, 0, none⟩) x7_2.length co49)) (by (with_reducible repeat (first | apply Kd.S_alloc | apply Kd.S_drewN | apply Kd.S_drew)); exact HO_5.out) (Kd.R_typed HO_7.out) (by decide) hg); replace HO_7 := aM (hp_); replace HB := aM ((by rw [hw]; exact below_set (HB.out) GB39.out : Below w.heap.size w w51)); clear hg hw hp_) | ((with_reducible refine gate_callee (f := 54) rfl ?_); refine goesL_ (some 69) rfl rfl Try.func54 (by kernel_rfl) rfl #[.slice Ao48 x4_2.length co48, .slice (some ⟨go39, 0, none⟩) y277.length co49] rfl (by (try simp only [List.map_toArray, List.map_cons, List.map_nil]); first | done | (rw [show y277.length = x7_2.length from (Kd.R_reads' HO_7.out).1.symm] <;> rfl) | rfl | (simp only [List.length_drop, List.length_take]; rfl)) ?_; (with_reducible refine (spec_lightest.calls k2 _ _ x4_2 _ _ y277 t278 _ ?side1 ?side2 ?side3 ?side4 A40.out).mono ?_); (case side1 => exact qC (Kd.R_reads' HO_4.out).2.2); (case side2 => exact (Kd.R_reads' HO_4.out).2.1); (case side3 => exact qC (Kd.R_reads' HO_7.out).2.2); (case side4 => rw [show y277.length = x7_2.length from (Kd.R_reads' HO_7.out).1.symm]; exact (Kd.R_reads' HO_7.out).2.1); rintro e w' ⟨rfl, ⟨nd, rfl⟩⟩; refine ⟨_, rfl, ?_⟩; (try (rw [drewN_self w51]; generalize hq_ : World.drewN w51 _ = w51; replace HO_3 : Aside0 (Kd.R (Kd.int .i64) 3 w51 w.heap.size (fun k_ => some k_ ≠ (.slice Ao48 x4_2.length co48 : Value).ownBlock) v251 x3_2) := ⟨by rw [← hq_]; exact (qR HO_3.out)⟩; replace HO_4 : Aside0 (Kd.R (Kd.int .i64) 3 w51 w.heap.size (fun k_ => some k_ ≠ (v251 : Value).ownBlock) (.slice Ao48 x4_2.length co48) x4_2) := ⟨by rw [← hq_]; exact (qR HO_4.out)⟩; replace HO_5 : Aside0 (Kd.S (Kd.slice 3 (Kd.int .i64)) 22 w51 w.heap.size (fun k_ => some k_ ≠ (v251 : Value).ownBlock ∧ some k_ ≠ (.slice Ao48 x4_2.length co48 : Value).ownBlock) u5 x5_2) := ⟨by rw [← hq_]; exact (by (with_reducible repeat (first | apply Kd.S_alloc | apply Kd.S_drewN | apply Kd.S_drew)); exact HO_5.out)⟩; replace HO_7 : Aside0 (Kd.R Kd.bool 4 w51 w.heap.size (fun _ => True) (.slice (some ⟨go39, 0, none⟩) x7_2.length co49) y277) := ⟨by rw [← hq_]; exact (qR HO_7.out)⟩; replace HB : Aside0 (Below w.heap.size w w51) := ⟨by rw [← hq_]; exact (qW HB.out)⟩; clear hq_)); have p43 : 0 ≤ (t278 : Int) := oD; have q43 : (t278 : Int) < ((x7_2.length : Int) : Int) := oD; obtain ⟨hx43_0, hf43_0⟩ := Kd.R_celln false HO_7.out (t278 : Int) p43 q43; replace p43 := eq_true p43; replace q43 := eq_true q43; obtain ⟨hy52_, hz52_⟩ := Kd.R_celln false HO_7.out (t278 : Int) oD oD; have HP52 := Kd.R_putg HO_7.out (t278 : Int) true) | ((with_reducible refine gate_store (t := 4) (p := 72) rfl ?_); refine store_event (t := 4) (p := 72) (v := ?vo_w53) (w1 := (w51.setCell ⟨go39, (t278 : Int).toNat, none⟩ (.bool true))) ?hg ?ho ?hn ?hr ?_; (case ho => rfl); (case hg => rfl); (case hn => rfl); (case hr => first | (go_simp; done) | (go_simp; rfl)); intro w53 hw; have hg : w51.grownBy w53 (some go39) := (by rw [hw]; exact HP52.2); have hp_ : Kd.R Kd.bool 4 w53 w.heap.size (fun _ => True) (.slice (some ⟨go39, 0, none⟩) x7_2.length co49) y279 := (by rw [hw, Ny279.out]; exact HP52.1); clear HP52; replace HO_3 := aM (Kd.R_over' (v := (.slice (some ⟨go39, 0, none⟩) x7_2.length co49)) (qR HO_3.out) (Kd.R_typed HO_7.out) (by decide) hg); replace HO_4 := aM (Kd.R_over' (v := (.slice (some ⟨go39, 0, none⟩) x7_2.length co49)) (qR HO_4.out) (Kd.R_typed HO_7.out) (by decide) hg); replace HO_5 := aM (Kd.S_over' (v := (.slice (some ⟨go39, 0, none⟩) x7_2.length co49)) (by (with_reducible repeat (first | apply Kd.S_alloc | apply Kd.S_drewN | apply Kd.S_drew)); exact HO_5.out) (Kd.R_typed HO_7.out) (by decide) hg); replace HO_7 := aM (hp_); replace HB := aM ((by rw [hw]; exact below_set (HB.out) GB39.out : Below w.heap.size w w53)); clear hg hw hp_))
     replace HO_3 := aM (Kd.R_drew HO_3.out)
     replace HO_4 := aM (Kd.R_drew HO_4.out)
     replace HO_5 := aM (Kd.S_drew HO_5.out)
     replace HO_7 := aM (Kd.R_drew HO_7.out)
     replace HB := aM (below_drew1 HB.out)
     obtain ⟨Ao55, co55, eo55⟩ := Kd.S_slice HO_5.out
     (first | subst eo55 | (injection eo55 with f1_ f2_ f3_; have f4_ := f1_.symm; have f5_ := f3_.symm; clear f1_ f2_ f3_; subst f4_; subst f5_))
     have p280 : 0 ≤ (t276 : Int) := oD
     have q280 : t276 < (x5_2.length : Int) := oD
     obtain ⟨ad280, A280_0, c280_0, e280, hx280_0, hl280_0, hi280_0⟩ := at_L3 (Kd.S_reads' HO_5.out).2.2 t276 p280 q280
     cases e280
     obtain ⟨ce280, hce280, hMe280, hcc280⟩ := Kd.S_get HO_5.out [] t276 p280 (by first | exact q280 | exact oD | (have e_ := (Kd.S_reads' HO_5.out).1; omega))
     obtain ⟨ve280_0, rfl, ge280_0⟩ := hMe280
     have hv280_0 := hcc280 0 _ rfl
     rw [Nat.add_zero, show ((Kd.slice 3 (Kd.int .i64))).sz = 1 from rfl, Nat.mul_one] at hv280_0
     replace hv280_0 := Option.some.inj (hv280_0.symm.trans hx280_0)
     rw [hv280_0] at ge280_0
     have HL280_0 := aM (show Kd.R (Kd.int .i64) 3 _ _ _ _ (rd_L3 x5_2 t276) from ge280_0)
     clear hv280_0 ge280_0
     clear hcc280 hce280
     have HR280_0 := aM hi280_0
     have HC280_0 := aM hl280_0
     clear hi280_0 hl280_0
     replace p280 := eq_true p280
     replace q280 := eq_true q280
     have p284 : 0 ≤ (t278 : Int) := oD
     have q284 : t278 < (x5_2.length : Int) := oD
     obtain ⟨ad284, A284_0, c284_0, e284, hx284_0, hl284_0, hi284_0⟩ := at_L3 (Kd.S_reads' HO_5.out).2.2 t278 p284 q284
     obtain rfl : ad280 = ad284 := (by injection e284)
     obtain ⟨ce284, hce284, hMe284, hcc284⟩ := Kd.S_get HO_5.out [] t278 p284 (by first | exact q284 | exact oD | (have e_ := (Kd.S_reads' HO_5.out).1; omega))
     obtain ⟨ve284_0, rfl, ge284_0⟩ := hMe284
     have hv284_0 := hcc284 0 _ rfl
     rw [Nat.add_zero, show ((Kd.slice 3 (Kd.int .i64))).sz = 1 from rfl, Nat.mul_one] at hv284_0
     replace hv284_0 := Option.some.inj (hv284_0.symm.trans hx284_0)
     rw [hv284_0] at ge284_0
     have HL284_0 := aM (show Kd.R (Kd.int .i64) 3 _ _ _ _ (rd_L3 x5_2 t278) from ge284_0)
     clear hv284_0 ge284_0
     clear hcc284 hce284
     have HR284_0 := aM hi284_0
     have HC284_0 := aM hl284_0
     clear hi284_0 hl284_0
     replace p284 := eq_true p284
     replace q284 := eq_true q284
     refine start_ (n := 11) (S := fun w' => w'.cell? (ad280.add (t276).toNat) = some (.slice A280_0 (rd_L3 x5_2 t276).length c280_0) ∧ w'.cell? (ad280.add (t278).toNat) = some (.slice A284_0 (rd_L3 x5_2 t278).length c284_0)) (ds := [9]) (bA 11 0) (by kernel_rfl) rfl rfl ⟨hx280_0, hx284_0⟩ (fun hHeld => ?_); refine with_tabW spec_codeLengths.tab21 spec_codeLengths.bits21 (fun HT_ HW_ => ?_)
     generalize w53.drew = w54 at HO_3 HO_4 HO_5 HO_7 HB HL280_0 HL284_0 HR280_0 HR284_0 hx280_0 hx284_0 hHeld ⊢
     refine pQ 0 73 HT_ (bA 11 1) ?_
     refine pQ 1 74 HT_ (bA 11 3) ?_
     refine pQ 2 75 HT_ (bA 11 7) ?_
     refine pQ 5 78 HT_ (bA 11 39) ?_
     refine pQ 6 79 HT_ (bA 11 103) ?_
     refine pQ 7 80 HT_ (bA 11 231) ?_
     refine take_ (i := 3) (N := some 76) (v := ?_) (a' := ?_) (bA 11 239) rfl rfl (take_ofW HT_.out HW_.out (by kernel_rfl)) (fun _ _ _ h => h) (Or.inl ⟨by rfl, ?_⟩) hHeld ?_ ?_
     rotate_left
     ·rintro w' ⟨s0, s1⟩
      go_simp
      with_reducible rfl
     rotate_left
     ·refine pZ ?_
      rfl
     refine take_ (i := 8) (N := some 81) (v := ?_) (a' := ?_) (bA 11 495) rfl rfl (take_ofW HT_.out HW_.out (by kernel_rfl)) (fun _ _ _ h => h) (Or.inl ⟨by rfl, ?_⟩) hHeld ?_ ?_
     rotate_left
     ·rintro w' ⟨s0, s1⟩
      go_simp
      with_reducible rfl
     rotate_left
     ·refine pZ ?_
      rfl
     refine one_ (i := 4) (N := some 77) (bA 11 511) rfl rfl (one_of HT_.out (by kernel_rfl)) (by decide) (fun K hK => ?_)
     refine goes_ Try.func52 (by kernel_rfl) rfl #[.slice A280_0 (rd_L3 x5_2 t276).length c280_0] (by rfl) rfl rfl qM ?_
     with_reducible refine (spec_copyInts.calls _ _ (rd_L3 x5_2 t276) t281 _ ?side1 ?side2 A45.out).mono ?_
     (case side1 => repeat (first | exact (by repeat (first | (with_reducible exact HR280_0.out) | (with_reducible refine Kd.C_alloc ?_ _) | (with_reducible refine Kd.C_drewN ?_ _) | (with_reducible refine Kd.C_drew ?_) | exact HR280_0.out)) | (with_reducible refine Kd.C_alloc ?_ _) | (with_reducible refine Kd.C_drewN ?_ _) | (with_reducible refine Kd.C_drew ?_)))
     (case side2 => exact HC280_0.out)
     rintro e w56 ⟨v282, rfl, ho0, hb⟩
     have HS0_ := (hb.cell (World.block_lt_of_cell? _ _ (hHeld.1))).trans (hHeld.1)
     have HS1_ := (hb.cell (World.block_lt_of_cell? _ _ (hHeld.2))).trans (hHeld.2)
     refine ⟨_, rfl, ?_⟩
     replace HO_5 := aM (Kd.S_elder' (by (with_reducible repeat (first | apply Kd.S_alloc | apply Kd.S_drewN | apply Kd.S_drew)); exact HO_5.out) (Kd.R_base ho0) hb)
     replace HO_7 := aM (Kd.R_below (qR HO_7.out) hb)
     have HO283 := aM (Kd.R_lower (Kd.R_new' (Kd.R_new' (Kd.R_new' (Kd.R_new' ho0 (Kd.R_lt (qR HO_3.out))) (Kd.R_lt (qR HO_4.out))) (Kd.R_lt (qR HL280_0.out))) (Kd.R_lt (qR HL284_0.out))) (below_size (qW HB.out)))
     replace HO_3 := aM (Kd.R_elder' (qR HO_3.out) (Kd.R_base ho0) hb)
     replace HO_4 := aM (Kd.R_elder' (qR HO_4.out) (Kd.R_base ho0) hb)
     replace HL280_0 := aM (Kd.R_elder' (qR HL280_0.out) (Kd.R_base ho0) hb)
     replace HL284_0 := aM (Kd.R_elder' (qR HL284_0.out) (Kd.R_base ho0) hb)
     replace HR280_0 := aM (Kd.C_below (by repeat (first | (with_reducible exact HR280_0.out) | (with_reducible refine Kd.C_alloc ?_ _) | (with_reducible refine Kd.C_drewN ?_ _) | (with_reducible refine Kd.C_drew ?_) | exact HR280_0.out)) hb)
     replace HR284_0 := aM (Kd.C_below (by repeat (first | (with_reducible exact HR284_0.out) | (with_reducible refine Kd.C_alloc ?_ _) | (with_reducible refine Kd.C_drewN ?_ _) | (with_reducible refine Kd.C_drew ?_) | exact HR284_0.out)) hb)
     replace HB := bS HB hb
     (try clear hb)
     (try clear hb2)
     (try clear hk)
     (try clear hi)
     (try clear ho0)
     refine hK.out _ _ ⟨HS0_, HS1_⟩ (fun hHeld => ?_)
     clear hK K
     refine norm_ (a' := ?_) ?_ ?_
     rotate_left
     ·show Act.put _ (some 77) _ = _
      refine pZ ?_
      rfl
     refine last_ (i := 9) (N := some 82) (bA 11 1023) rfl rfl (one_of HT_.out (by kernel_rfl)) (by decide) (fun K hK => ?_)
     refine Kd.R_append_rows_step (Kd.int .i64) (w0 := w) w.heap.size (by rfl) (.tmp 77) (.tmp 81) 22 3 (.int .i64 0) 8 rfl Try.underlying22 info3 rfl (by decide) (by omega) v282 t281 (rd_L3 x5_2 t278) _ _ _ (fun k_ => some k_ ≠ (v251 : Value).ownBlock ∧ some k_ ≠ (.slice Ao48 x4_2.length co48 : Value).ownBlock ∧ some k_ ≠ (.slice A280_0 (rd_L3 x5_2 t276).length c280_0 : Value).ownBlock ∧ some k_ ≠ (.slice A284_0 (rd_L3 x5_2 t278).length c284_0 : Value).ownBlock) (fun _ => False) rfl rfl ?aO ?aR (fun _ _ h => h) (fun _ h => h.elim) ?aF ?aB ?aS ?aL ?_
     (case aR => repeat (first | exact (by repeat (first | (with_reducible exact HR284_0.out) | (with_reducible refine Kd.C_alloc ?_ _) | (with_reducible refine Kd.C_drewN ?_ _) | (with_reducible refine Kd.C_drew ?_) | exact HR284_0.out)) | (with_reducible refine Kd.C_alloc ?_ _) | (with_reducible refine Kd.C_drewN ?_ _) | (with_reducible refine Kd.C_drew ?_)))
     (case aB => exact (qW HB.out))
     (case aF => exact (fun k_ hk => ⟨Kd.fresh' (Kd.R_lt (qR HO_3.out)) k_ hk, Kd.fresh' (Kd.R_lt (qR HO_4.out)) k_ hk, Kd.fresh' (Kd.R_lt (qR HL280_0.out)) k_ hk, Kd.fresh' (Kd.R_lt (qR HL284_0.out)) k_ hk⟩))
     (case aO => exact (by refine qR ?_; exact Kd.R_mono HO283.out (fun _ hk => ⟨hk.1.1.1.2, ⟨hk.1.1.2, ⟨hk.1.2, hk.2⟩⟩⟩)))
     (case aS => exact (below_size (qW HB.out)))
     (case aL => have := LMc47.out; omega)
     intro v286 w57 ho hb hg hat
     rw [← Ny285.out] at ho
     replace HO_3 := aM (Kd.R_after (ok := (fun k_ => some k_ ≠ (.slice Ao48 x4_2.length co48 : Value).ownBlock)) (qR HO_3.out) hg hat)
     replace HO_4 := aM (Kd.R_after (ok := (fun k_ => some k_ ≠ (v251 : Value).ownBlock)) (qR HO_4.out) hg hat)
     replace HO_5 := aM (Kd.S_after (ok := (fun k_ => some k_ ≠ (v251 : Value).ownBlock ∧ some k_ ≠ (.slice Ao48 x4_2.length co48 : Value).ownBlock)) (by (with_reducible repeat (first | apply Kd.S_alloc | apply Kd.S_drewN | apply Kd.S_drew)); exact HO_5.out) hg hat)
     replace HO_7 := aM (Kd.R_over' (qR HO_7.out) (Kd.R_typed (qR HO283.out)) (by decide) hg)
     replace HL280_0 := aM (Kd.R_after (ok := (fun k_ => some k_ ≠ (v251 : Value).ownBlock ∧ some k_ ≠ (.slice Ao48 x4_2.length co48 : Value).ownBlock ∧ some k_ ≠ (.slice (some ad280) x5_2.length co55 : Value).ownBlock)) (by refine qR ?_; exact Kd.R_mono HL280_0.out (fun _ hk => ⟨⟨hk.1.1.1, ⟨hk.1.1.2, hk.1.2⟩⟩, hk.2⟩)) hg hat)
     replace HL284_0 := aM (Kd.R_after (ok := (fun k_ => some k_ ≠ (v251 : Value).ownBlock ∧ some k_ ≠ (.slice Ao48 x4_2.length co48 : Value).ownBlock ∧ some k_ ≠ (.slice (some ad280) x5_2.length co55 : Value).ownBlock)) (by refine qR ?_; exact Kd.R_mono HL284_0.out (fun _ hk => ⟨⟨hk.1.1.1, ⟨hk.1.1.2, hk.1.2⟩⟩, hk.2⟩)) hg hat)
     replace HB := aM (hb)
     have HO287 := aM (ho)
     clear HO283
     clear ho hb hg hat
     refine hK.out _ _ ?_
     clear hK K
     refine norm_ (a' := ?_) ?_ ?_
     rotate_left
     ·show Act.put _ (some 82) _ = _
      refine pZ ?_
      rfl
     refine pQ 10 11 HT_ (bA 11 2047) ?_
     refine done_ (done_of HT_.out (by kernel_rfl)) ?_
     try go_wp2
     go_loopg [12] k2 (fun kq v12 w' => ∃ (x3_3 : List Int) (x12_3 : Int), v12 = .int .i64 x12_3 ∧ Aside0 (spec_codeLengths.l2 kq x3_3 x4_2 x5_2 y279 x8_2 t276 t278 y285 x12_3 = some r) ∧ Aside0 (kq ≤ k2) ∧ Aside0 (Kd.R (Kd.int .i64) 3 w' w.heap.size (fun k_ => some k_ ≠ ((.slice Ao48 x4_2.length co48) : Value).ownBlock ∧ some k_ ≠ (v286 : Value).ownBlock) v251 x3_3) ∧ Aside0 (Kd.R (Kd.int .i64) 3 w' w.heap.size (fun k_ => some k_ ≠ (v251 : Value).ownBlock ∧ some k_ ≠ (v286 : Value).ownBlock) (.slice Ao48 x4_2.length co48) x4_2) ∧ Aside0 (Kd.S (Kd.slice 3 (Kd.int .i64)) 22 w' w.heap.size (fun k_ => some k_ ≠ (v251 : Value).ownBlock ∧ some k_ ≠ ((.slice Ao48 x4_2.length co48) : Value).ownBlock ∧ some k_ ≠ (v286 : Value).ownBlock) (.slice (some ad280) x5_2.length co55) x5_2) ∧ Aside0 (Kd.R Kd.bool 4 w' w.heap.size (fun _ => True) (.slice (some ⟨go39, 0, none⟩) x7_2.length co49) y279) ∧ Aside0 (Kd.R (Kd.int .i64) 3 w' w.heap.size (fun k_ => some k_ ≠ (v251 : Value).ownBlock ∧ some k_ ≠ ((.slice Ao48 x4_2.length co48) : Value).ownBlock) v286 y285) ∧ Aside0 (Below w.heap.size w w'))
     case atStart => exact ⟨(x3_2), (0), qE, H', ⟨Nat.le_refl _⟩, ⟨by refine qR ?_; exact HO_3.out⟩, ⟨by refine qR ?_; exact HO_4.out⟩, ⟨by (with_reducible repeat (first | apply Kd.S_alloc | apply Kd.S_drewN | apply Kd.S_drew)); exact Kd.S_mono HO_5.out (fun _ hk => ⟨hk.1.1, ⟨hk.1.2, hk.2⟩⟩)⟩, ⟨by refine qR ?_; exact HO_7.out⟩, ⟨by refine qR ?_; exact Kd.R_mono HO287.out (fun _ hk => ⟨hk.1, hk.2.1⟩)⟩, ⟨by exact qW HB.out⟩⟩
     case round =>
      clear H'
      try clear c2
      try clear c2b0
      try clear c2b1
      try clear c3
      try clear c3b0
      try clear c3b1
      try clear c10
      try clear c10b0
      try clear c11b0
      try clear c12
      try clear c12b0
      try clear c13
      try clear c14
      try clear c20
      try clear c20b0
      try clear c20b1
      try clear c21
      try clear c21b0
      try clear c21b1
      try clear c22
      try clear c22b0
      try clear c22b1
      try clear c23b0
      try clear c24b0
      try clear p25
      try clear q25
      try clear c30
      try clear c30b0
      try clear c30b1
      try clear c31
      try clear c31b0
      try clear c31b1
      try clear c35
      try clear c35b0
      try clear c37b0
      try clear c38b0
      try clear p39
      try clear q39
      try clear c41b0
      try clear c42b0
      try clear p43
      try clear q43
      try clear c44b0
      try clear c46b0
      try clear c47
      try clear hx259_0
      try clear hx25_0
      try clear hx260_0
      try clear hx270_0
      try clear hx271_0
      try clear hx280_0
      try clear hx284_0
      try clear hx39_0
      try clear hx43_0
      try clear p25
      try clear p259
      try clear p260
      try clear p270
      try clear p271
      try clear p280
      try clear p284
      try clear p39
      try clear p43
      try clear q25
      try clear q259
      try clear q260
      try clear q270
      try clear q271
      try clear q280
      try clear q284
      try clear q39
      try clear q43
      obtain ⟨x3_3, x12_3, rfl, HA, HK3, HO_3, HO_4, HO_5, HO_7, HO_11, HB⟩ := hrel
      have hl7_3 := (Kd.R_reads' HO_7.out).1
      rw [hl7_3] at HO_7
      (try simp only [hl7_3])
      (try simp only [hl7_3] at HO_3)
      (try simp only [hl7_3] at HO_4)
      (try simp only [hl7_3] at HO_5)
      (try simp only [hl7_3] at HO_11)
      cases gk with
      | zero => exact absurd HA.out (by simp [spec_codeLengths.l2])
      | succ k3 =>
       have H := HA.out
       clear HA
       simp only [spec_codeLengths.l2] at H
       by_cases c58 : x12_3 < (y285.length : Int)
       ·rw [if_pos c58] at H
        have c58b0 : decide (x12_3 < (y285.length : Int)) = true := decide_eq_true c58
        clear c58
        replace H := iD H
        obtain ⟨c59b0, H⟩ := H
        replace H := iD H
        obtain ⟨c60b0, H⟩ := H
        replace H := iD H
        obtain ⟨c61b0, H⟩ := H
        obtain ⟨y291, hy291⟩ : ∃ y_ : List Int, y_ = (x3_3.set ((rd y285 x12_3) : Int).toNat (wrap64 ((rd x3_3 (rd y285 x12_3)) + 1))) := ⟨_, rfl⟩
        replace H : (spec_codeLengths.l2 k3 y291 x4_2 x5_2 y279 x8_2 t276 t278 y285 (wrap64 (x12_3 + 1))) = some r := rY hy291 H
        have Ny291 := aM hy291
        clear hy291
        have H' := aM H
        clear H
        obtain ⟨Ao63, co63, rfl⟩ := sL HO_11
        try go_wp2
        replace HO_3 := aM (Kd.R_drew HO_3.out)
        replace HO_4 := aM (Kd.R_drew HO_4.out)
        replace HO_5 := aM (Kd.S_drew HO_5.out)
        replace HO_7 := aM (Kd.R_drew HO_7.out)
        replace HO_11 := aM (Kd.R_drew HO_11.out)
        replace HB := aM (below_drew1 HB.out)
        obtain ⟨ad288, e288, hx288_0⟩ := Kd.at_int (Kd.R_reads' HO_11.out).2.2 x12_3 oD oD
        cases e288
        have p288 := eq_true (oD : 0 ≤ (x12_3 : Int))
        have q288 := eq_true (oD : x12_3 < (y285.length : Int))
        obtain ⟨ad289, e289, hx289_0⟩ := Kd.at_int (Kd.R_reads' HO_11.out).2.2 x12_3 oD oD
        obtain rfl : ad288 = ad289 := (by injection e289)
        have p289 := eq_true (oD : 0 ≤ (x12_3 : Int))
        have q289 := eq_true (oD : x12_3 < (y285.length : Int))
        obtain ⟨Ao65, co65, eo65⟩ := Kd.R_slice HO_3.out
        (first | subst eo65 | (injection eo65 with f1_ f2_ f3_; have f4_ := f1_.symm; have f5_ := f3_.symm; clear f1_ f2_ f3_; subst f4_; subst f5_))
        obtain ⟨ad290, e290, hx290_0⟩ := Kd.at_int (Kd.R_reads' HO_3.out).2.2 (rd y285 x12_3) oD oD
        cases e290
        have p290 := eq_true (oD : 0 ≤ ((rd y285 x12_3) : Int))
        have q290 := eq_true (oD : (rd y285 x12_3) < (x3_3.length : Int))
        have p62 : 0 ≤ ((rd y285 x12_3) : Int) := oD
        have q62 : ((rd y285 x12_3) : Int) < ((x3_3.length : Int) : Int) := oD
        obtain ⟨go62, co62, eo62, gb62, gl62, cl62, HG62⟩ := Kd.R_form HO_3.out (by omega)
        (first | cases eo62 | (injection eo62 with ea_ en_ ec_; (first | subst ea_ | (injection ea_ with ea_; subst ea_)); subst ec_; clear en_))
        have GB62 := aM gb62
        have GG62 := aM HG62
        clear gb62 gl62 HG62
        (first | simp only [add_plain] at hx290_0 | skip)
        obtain ⟨hx62_0, hf62_0⟩ := Kd.R_celln 0 HO_3.out ((rd y285 x12_3) : Int) p62 q62
        replace p62 := eq_true p62
        replace q62 := eq_true q62
        have HP66 := Kd.R_putn HO_3.out ((rd y285 x12_3) : Int) (wrap64 ((rd x3_3 (rd y285 x12_3)) + 1))
        rw [← Ny291.out] at HP66
        have HQ66 := aM HP66
        clear HP66
        refine start_ (n := 15) (S := fun w' => w'.cell? (ad288.add (x12_3).toNat) = some (.int .i64 (rd y285 x12_3)) ∧ w'.cell? (ad288.add (x12_3).toNat) = some (.int .i64 (rd y285 x12_3)) ∧ w'.cell? ⟨go62, ((rd y285 x12_3)).toNat, none⟩ = some (.int .i64 (rd x3_3 (rd y285 x12_3)))) (ds := [14]) (bA 15 0) (by kernel_rfl) rfl rfl ⟨hx288_0, hx289_0, hx290_0⟩ (fun hHeld => ?_); refine with_tabW spec_codeLengths.tab25 spec_codeLengths.bits25 (fun HT_ HW_ => ?_)
        generalize wr.drew = w64 at HO_3 HO_4 HO_5 HO_7 HO_11 HB GG62 HQ66 hf62_0 hx288_0 hx289_0 hx290_0 hx62_0 hHeld ⊢
        refine pQ 0 89 HT_ (bA 15 1) ?_
        refine pQ 1 90 HT_ (bA 15 3) ?_
        refine pQ 2 91 HT_ (bA 15 7) ?_
        refine pQ 3 92 HT_ (bA 15 15) ?_
        refine pQ 5 94 HT_ (bA 15 47) ?_
        refine pQ 6 95 HT_ (bA 15 111) ?_
        refine pQ 7 96 HT_ (bA 15 239) ?_
        refine pQ 8 97 HT_ (bA 15 495) ?_
        refine take_ (i := 4) (N := some 93) (v := ?_) (a' := ?_) (bA 15 511) rfl rfl (take_ofW HT_.out HW_.out (by kernel_rfl)) (fun _ _ _ h => h) (Or.inl ⟨by rfl, ?_⟩) hHeld ?_ ?_
        rotate_left
        ·rintro w' ⟨s0, s1, s2⟩
         go_simp
         with_reducible rfl
        rotate_left
        ·refine pZ ?_
         rfl
        refine take_ (i := 9) (N := some 98) (v := ?_) (a' := ?_) (bA 15 1023) rfl rfl (take_ofW HT_.out HW_.out (by kernel_rfl)) (fun _ _ _ h => h) (Or.inl ⟨by rfl, ?_⟩) hHeld ?_ ?_
        rotate_left
        ·rintro w' ⟨s0, s1, s2⟩
         go_simp
         with_reducible rfl
        rotate_left
        ·refine pZ ?_
         rfl
        refine pQ 10 99 HT_ (bA 15 2047) ?_
        refine take_ (i := 11) (N := some 100) (v := ?_) (a' := ?_) (bA 15 4095) rfl rfl (take_ofW HT_.out HW_.out (by kernel_rfl)) (fun _ _ _ h => h) (Or.inl ⟨by rfl, ?_⟩) hHeld ?_ ?_
        rotate_left
        ·rintro w' ⟨s0, s1, s2⟩
         go_simp
         with_reducible rfl
        rotate_left
        ·refine pZ ?_
         rfl
        refine pQ 12 101 HT_ (bA 15 8191) ?_
        refine pQ 13 102 HT_ (bA 15 16383) ?_
        refine last_ (i := 14) (N := none) (bA 15 32767) rfl rfl (one_of HT_.out (by kernel_rfl)) (by decide) (fun K hK => ?_)
        refine skip_ (w1 := ?_) (by rfl) rfl ?_ ?_
        rotate_left
        ·go_simp
         rfl
        refine hK.out _ _ ?_
        clear hK K
        refine done_ (done_of HT_.out (by kernel_rfl)) ?_
        try go_wp2
        (try simp only [← hl7_3])
        go_roundg k3
        case measure => have := HK1.out; have := HK2.out; have := HK3.out; omega
        case rel => exact ⟨(y291), (wrap64 (x12_3 + 1)), qE, H', ⟨by have := HK1.out; have := HK2.out; have := HK3.out; omega⟩, ⟨by (try simp only [hl7_3]); refine qR ?_; exact HQ66.out⟩, ⟨by (try simp only [hl7_3]); refine qR ?_; exact Kd.R_mono (Kd.R_far (p := ⟨go62, ((rd y285 x12_3) : Int).toNat, none⟩) (Kd.R_mono HO_4.out (fun k_ hk => (⟨hk, fun e_ => hk.1 (by rw [e_]; rfl)⟩ : _ ∧ k_ ≠ go62))) (fun _ hk => hk.2) (.int .i64 (wrap64 ((rd x3_3 (rd y285 x12_3)) + 1)))) (fun _ hk => ⟨hk.1.1, hk.1.2⟩)⟩, ⟨by (try simp only [hl7_3]); (with_reducible repeat (first | apply Kd.S_alloc | apply Kd.S_drewN | apply Kd.S_drew)); exact Kd.S_mono (Kd.S_far (p := ⟨go62, ((rd y285 x12_3) : Int).toNat, none⟩) (Kd.S_mono HO_5.out (fun k_ hk => (⟨hk, fun e_ => hk.1 (by rw [e_]; rfl)⟩ : _ ∧ k_ ≠ go62))) (fun _ hk => hk.2) (.int .i64 (wrap64 ((rd x3_3 (rd y285 x12_3)) + 1)))) (fun _ hk => ⟨hk.1.1, ⟨hk.1.2.1, hk.1.2.2⟩⟩)⟩, ⟨by (try simp only [hl7_3]); refine qR ?_; exact Kd.R_mono (Kd.R_far (p := ⟨go62, ((rd y285 x12_3) : Int).toNat, none⟩) (Kd.R_types HO_7.out GG62.out (by decide)) (fun _ hk => hk.2) (.int .i64 (wrap64 ((rd x3_3 (rd y285 x12_3)) + 1)))) (fun _ hk => trivial)⟩, ⟨by (try simp only [hl7_3]); refine qR ?_; exact Kd.R_mono (Kd.R_far (p := ⟨go62, ((rd y285 x12_3) : Int).toNat, none⟩) (Kd.R_mono HO_11.out (fun k_ hk => (⟨hk, fun e_ => hk.1 (by rw [e_]; rfl)⟩ : _ ∧ k_ ≠ go62))) (fun _ hk => hk.2) (.int .i64 (wrap64 ((rd x3_3 (rd y285 x12_3)) + 1)))) (fun _ hk => ⟨hk.1.1, hk.1.2⟩)⟩, ⟨by exact qW HB.out⟩⟩
       rw [if_neg c58] at H
       have c58b0 : decide (x12_3 < (y285.length : Int)) = false := decide_eq_false c58
       clear c58
       replace H := iD H
       obtain ⟨c67b0, H⟩ := H
       replace H := iD H
       obtain ⟨c68b0, H⟩ := H
       replace H := iD H
       obtain ⟨c69b0, H⟩ := H
       replace H := iD H
       obtain ⟨c70b0, H⟩ := H
       replace H := iS H
       obtain ⟨c71, H⟩ := H
       have LMc71 := aM c71
       clear c71
       obtain ⟨y294, hy294⟩ : ∃ y_ : List Int, y_ = (x4_2 ++ [wrap64 ((rd x4_2 t276) + (rd x4_2 t278))]) := ⟨_, rfl⟩
       replace H : (if x5_2.length < 5864062014805 then (if y279.length < 140737488355328 then (spec_codeLengths.l1 k3 x3_3 y294 (x5_2 ++ [y285]) (y279 ++ [false]) (wrap64 (x8_2 - 1))) else (none)) else (none)) = some r := rY hy294 H
       have Ny294 := aM hy294
       clear hy294
       replace H := iS H
       obtain ⟨c72, H⟩ := H
       have LMc72 := aM c72
       clear c72
       obtain ⟨y297, hy297⟩ : ∃ y_ : List (List Int), y_ = (x5_2 ++ [y285]) := ⟨_, rfl⟩
       replace H : (if y279.length < 140737488355328 then (spec_codeLengths.l1 k3 x3_3 y294 y297 (y279 ++ [false]) (wrap64 (x8_2 - 1))) else (none)) = some r := rY hy297 H
       have Ny297 := aM hy297
       clear hy297
       replace H := iS H
       obtain ⟨c73, H⟩ := H
       have LMc73 := aM c73
       clear c73
       obtain ⟨y300, hy300⟩ : ∃ y_ : List Bool, y_ = (y279 ++ [false]) := ⟨_, rfl⟩
       replace H : (spec_codeLengths.l1 k3 x3_3 y294 y297 y300 (wrap64 (x8_2 - 1))) = some r := rY hy300 H
       have Ny300 := aM hy300
       clear hy300
       have H' := aM H
       clear H
       obtain ⟨Ao74, co74, rfl⟩ := sL HO_11
       try go_wp2
       replace HO_3 := aM (Kd.R_drew HO_3.out)
       replace HO_4 := aM (Kd.R_drew HO_4.out)
       replace HO_5 := aM (Kd.S_drew HO_5.out)
       replace HO_7 := aM (Kd.R_drew HO_7.out)
       replace HO_11 := aM (Kd.R_drew HO_11.out)
       replace HB := aM (below_drew1 HB.out)
       obtain ⟨ad292, e292, hx292_0⟩ := Kd.at_int (Kd.R_reads' HO_4.out).2.2 t276 oD oD
       cases e292
       have p292 := eq_true (oD : 0 ≤ (t276 : Int))
       have q292 := eq_true (oD : t276 < (x4_2.length : Int))
       obtain ⟨ad293, e293, hx293_0⟩ := Kd.at_int (Kd.R_reads' HO_4.out).2.2 t278 oD oD
       obtain rfl : ad292 = ad293 := (by injection e293)
       have p293 := eq_true (oD : 0 ≤ (t278 : Int))
       have q293 := eq_true (oD : t278 < (x4_2.length : Int))
       refine start_ (n := 13) (S := fun w' => w'.cell? (ad292.add (t276).toNat) = some (.int .i64 (rd x4_2 t276)) ∧ w'.cell? (ad292.add (t278).toNat) = some (.int .i64 (rd x4_2 t278))) (ds := [10, 11]) (bA 13 0) (by kernel_rfl) rfl rfl ⟨hx292_0, hx293_0⟩ (fun hHeld => ?_); refine with_tabW spec_codeLengths.tab26 spec_codeLengths.bits26 (fun HT_ HW_ => ?_)
       generalize wr.drew = w75 at HO_3 HO_4 HO_5 HO_7 HO_11 HB hx292_0 hx293_0 hHeld ⊢
       refine pQ 0 103 HT_ (bA 13 1) ?_
       refine pQ 1 104 HT_ (bA 13 3) ?_
       refine pQ 2 105 HT_ (bA 13 7) ?_
       refine pQ 3 106 HT_ (bA 13 15) ?_
       refine pQ 5 108 HT_ (bA 13 47) ?_
       refine pQ 6 109 HT_ (bA 13 111) ?_
       refine pQ 7 110 HT_ (bA 13 239) ?_
       refine take_ (i := 4) (N := some 107) (v := ?_) (a' := ?_) (bA 13 255) rfl rfl (take_ofW HT_.out HW_.out (by kernel_rfl)) (fun _ _ _ h => h) (Or.inl ⟨by rfl, ?_⟩) hHeld ?_ ?_
       rotate_left
       ·rintro w' ⟨s0, s1⟩
        go_simp
        with_reducible rfl
       rotate_left
       ·refine pZ ?_
        rfl
       refine take_ (i := 8) (N := some 111) (v := ?_) (a' := ?_) (bA 13 511) rfl rfl (take_ofW HT_.out HW_.out (by kernel_rfl)) (fun _ _ _ h => h) (Or.inl ⟨by rfl, ?_⟩) hHeld ?_ ?_
       rotate_left
       ·rintro w' ⟨s0, s1⟩
        go_simp
        with_reducible rfl
       rotate_left
       ·refine pZ ?_
        rfl
       refine pQ 9 112 HT_ (bA 13 1023) ?_
       refine last_ (i := 10) (N := some 113) (bA 13 2047) rfl rfl (one_of HT_.out (by kernel_rfl)) (by decide) (fun K hK => ?_)
       refine value_ (w1 := ?_) (v := ?_) (by rfl) rfl ?_ ?_
       rotate_left 2
       ·go_simp
        constructor
        rotate_left
        ·rfl
        rfl
       refine hK.out _ _ ?_
       clear hK K
       refine norm_ (a' := ?_) ?_ ?_
       rotate_left
       ·show Act.put _ (some 113) _ = _
        refine pZ ?_
        rfl
       refine last_ (i := 11) (N := some 114) (bA 13 4095) rfl rfl (one_of HT_.out (by kernel_rfl)) (by decide) (fun K hK => ?_)
       refine Kd.R_append_step (Kd.int .i64) (w0 := w) w.heap.size (by rfl) (.tmp 103) (.tmp 113) 22 3 (.int .i64 0) 8 rfl Try.underlying22 info3 rfl (by decide) (by omega) (.slice (some ad292) x4_2.length co48) x4_2 (wrap64 ((rd x4_2 t276) + (rd x4_2 t278))) [.int .i64 (wrap64 ((rd x4_2 t276) + (rd x4_2 t278)))] (fun k_ => some k_ ≠ (v251 : Value).ownBlock ∧ some k_ ≠ (.slice Ao74 y285.length co74 : Value).ownBlock) (fun _ => False) rfl rfl ?aP (fun _ hk => hk.elim) ?aF ?aO ?aB ?aS ?aL ?_
       (case aP => exact rfl)
       (case aB => exact (qW HB.out))
       (case aF => exact (fun k_ hk => ⟨Kd.fresh' (Kd.R_lt (qR HO_3.out)) k_ hk, Kd.fresh' (Kd.R_lt (qR HO_11.out)) k_ hk⟩))
       (case aO => exact (qR HO_4.out))
       (case aS => exact (below_size (qW HB.out)))
       (case aL => have := LMc71.out; omega)
       intro v295 w76 ho hb hg hat
       rw [← Ny294.out] at ho
       replace HO_3 := aM (Kd.R_after (ok := (fun k_ => some k_ ≠ (.slice Ao74 y285.length co74 : Value).ownBlock)) (by refine qR ?_; exact Kd.R_mono HO_3.out (fun _ hk => ⟨hk.2, hk.1⟩)) hg hat)
       replace HO_5 := aM (Kd.S_after (ok := (fun k_ => some k_ ≠ (v251 : Value).ownBlock ∧ some k_ ≠ (.slice Ao74 y285.length co74 : Value).ownBlock)) (by (with_reducible repeat (first | apply Kd.S_alloc | apply Kd.S_drewN | apply Kd.S_drew)); exact Kd.S_mono HO_5.out (fun _ hk => ⟨⟨hk.1, hk.2.2⟩, hk.2.1⟩)) hg hat)
       replace HO_7 := aM (Kd.R_over' (qR HO_7.out) (Kd.R_typed (qR HO_4.out)) (by decide) hg)
       replace HO_11 := aM (Kd.R_after (ok := (fun k_ => some k_ ≠ (v251 : Value).ownBlock)) (qR HO_11.out) hg hat)
       replace HB := aM (hb)
       have HO296 := aM (ho)
       clear HO_4
       clear ho hb hg hat
       refine hK.out _ _ ?_
       clear hK K
       refine norm_ (a' := ?_) ?_ ?_
       rotate_left
       ·show Act.put _ (some 114) _ = _
        refine pZ ?_
        rfl
       refine pQ 12 4 HT_ (bA 13 8191) ?_
       refine done_ (done_of HT_.out (by kernel_rfl)) ?_
       try go_wp2_with (first | ((with_reducible refine gate_builtin (b := .append) (xs := #[.tmp 115, .tmp 117]) rfl ?_); at_builtin; refine Kd.S_append (Kd.slice 3 (Kd.int .i64)) (w0 := w) w.heap.size rfl (.tmp 115) (.tmp 117) 63 22 (.slice none 0 0) 24 rfl Try.underlying63 info22 rfl (by decide) (by omega) (.slice (some ad280) x5_2.length co55) x5_2 y285 [.slice Ao74 y285.length co74] (fun k_ => some k_ ≠ (v251 : Value).ownBlock ∧ some k_ ≠ (v295 : Value).ownBlock) (fun k_ => some k_ = (.slice Ao74 y285.length co74 : Value).ownBlock) rfl rfl ?aP (fun k_ hk_ => ((Kd.R_mono (ok' := fun k_ => ((fun k_ => some k_ ≠ (v251 : Value).ownBlock ∧ some k_ ≠ (v295 : Value).ownBlock)) k_ ∧ some k_ ≠ (.slice (some ad280) x5_2.length co55 : Value).ownBlock) (Kd.R_apart' (HO_11.out) (Kd.S_typed HO_5.out) (by decide)) (fun k_ hk => ⟨⟨hk.1.1, hk.1.2⟩, hk.2⟩))).1 k_ hk_.symm) ?aF ?aO ?aB ?aS ?aL ?_; (case aP => exact Kd.M_row (Kd.R_mono (Kd.R_tight rfl (Kd.R_mono (ok' := fun k_ => ((fun k_ => some k_ ≠ (v251 : Value).ownBlock ∧ some k_ ≠ (v295 : Value).ownBlock)) k_ ∧ some k_ ≠ (.slice (some ad280) x5_2.length co55 : Value).ownBlock) (Kd.R_apart' (HO_11.out) (Kd.S_typed HO_5.out) (by decide)) (fun k_ hk => ⟨⟨hk.1.1, hk.1.2⟩, hk.2⟩))) (fun _ h_ => h_))); (case aB => exact (qW HB.out)); (case aF => exact (fun k_ hk => ⟨Kd.fresh' (Kd.R_lt (qR HO_3.out)) k_ hk, Kd.fresh' (Kd.R_lt (qR HO296.out)) k_ hk⟩)); (case aO => exact (by (with_reducible repeat (first | apply Kd.S_alloc | apply Kd.S_drewN | apply Kd.S_drew)); exact Kd.S_mono HO_5.out (fun k_ hk => ⟨⟨hk.1.1, hk.2⟩, fun e_ => hk.1.2 e_⟩))); (case aS => exact (below_size (qW HB.out))); (case aL => have := LMc72.out; omega); intro v298 w77 ho hb hg hat; rw [← Ny297.out] at ho; replace HO_3 := aM (Kd.R_over' (qR HO_3.out) (Kd.S_typed (by (with_reducible repeat (first | apply Kd.S_alloc | apply Kd.S_drewN | apply Kd.S_drew)); exact HO_5.out)) (by decide) hg); replace HO_7 := aM (Kd.R_over' (qR HO_7.out) (Kd.S_typed (by (with_reducible repeat (first | apply Kd.S_alloc | apply Kd.S_drewN | apply Kd.S_drew)); exact HO_5.out)) (by decide) hg); replace HO296 := aM (Kd.R_over' (qR HO296.out) (Kd.S_typed (by (with_reducible repeat (first | apply Kd.S_alloc | apply Kd.S_drewN | apply Kd.S_drew)); exact HO_5.out)) (by decide) hg); replace HB := aM (hb); have HO299 := aM (ho); clear HO_5 HO_11; clear ho hb hg hat) | ((with_reducible refine gate_builtin (b := .append) (xs := #[.tmp 119, .tmp 120]) rfl ?_); at_builtin; refine Kd.R_append Kd.bool (w0 := w) w.heap.size rfl (.tmp 119) (.tmp 120) 64 4 (.bool false) 1 rfl Try.underlying64 info4 rfl (by decide) (by omega) (.slice (some ⟨go39, 0, none⟩) y279.length co49) y279 false [.bool false] (fun _ => True) (fun _ => False) rfl rfl ?aP (fun _ hk => hk.elim) ?aF ?aO ?aB ?aS ?aL ?_; (case aP => exact rfl); (case aB => exact (qW HB.out)); (case aF => exact (fun _ _ => trivial)); (case aO => exact (qR HO_7.out)); (case aS => exact (below_size (qW HB.out))); (case aL => have := LMc73.out; omega); intro v301 w78 ho hb hg hat; rw [← Ny300.out] at ho; replace HO_3 := aM (Kd.R_over' (qR HO_3.out) (Kd.R_typed (qR HO_7.out)) (by decide) hg); replace HO296 := aM (Kd.R_over' (qR HO296.out) (Kd.R_typed (qR HO_7.out)) (by decide) hg); replace HO299 := aM (Kd.S_over' (by (with_reducible repeat (first | apply Kd.S_alloc | apply Kd.S_drewN | apply Kd.S_drew)); exact HO299.out) (Kd.R_typed (qR HO_7.out)) (by decide) hg); replace HB := aM (hb); have HO302 := aM (ho); clear HO_7; clear ho hb hg hat))
       (try simp only [← hl7_3])
       go_roundg k3
       case measure => have := HK1.out; have := HK2.out; have := HK3.out; omega
       case rel => exact ⟨(x3_3), (y294), (y297), (y300), (wrap64 (x8_2 - 1)), qE, H', ⟨by have := HK1.out; have := HK2.out; have := HK3.out; omega⟩, ⟨by (try simp only [hl7_3]); refine qR ?_; exact Kd.R_mono HO_3.out (fun _ hk => hk.2)⟩, ⟨by (try simp only [hl7_3]); refine qR ?_; exact Kd.R_mono HO296.out (fun _ hk => hk.1)⟩, ⟨by (try simp only [hl7_3]); (with_reducible repeat (first | apply Kd.S_alloc | apply Kd.S_drewN | apply Kd.S_drew)); exact HO299.out⟩, ⟨by (try simp only [hl7_3]); refine qR ?_; exact HO302.out⟩, ⟨by exact qW HB.out⟩⟩
def spec_CodeLengths.f (k : Nat) (l0 : List Int) : Option (List Int) := (spec_validCounts.f k l0).bind fun t303 => (if t303 = true then ((spec_codeLengths.f k l0).bind fun t304 => (some t304)) else (some ([] : List Int)))
theorem spec_CodeLengths.mono : ∀ a0 k, LeO (spec_CodeLengths.f k a0) (spec_CodeLengths.f (k + 1) a0) := by
 intro a0 k
 unfold spec_CodeLengths.f
 repeat' first | (with_reducible first | exact spec_codeLengths.mono _ _ | exact spec_validCounts.mono _ _ | exact lR | exact lN | refine lI ?_ ?_ | refine lB ?_ fun _ => ?_) | exact spec_codeLengths.mono _ _ | exact spec_validCounts.mono _ _ | exact lN | refine lI ?_ ?_ | refine lB ?_ fun _ => ?_
set_option maxHeartbeats 8000000 in
set_option maxRecDepth 100000 in
theorem spec_CodeLengths.calls (k : Nat) (A0 : Option Addr) (c0 : Nat) (l0 : List Int) (r : List Int) (w : World) (hr0 : Kd.C (Kd.int .i64) w A0 l0.length l0) (hc0 : l0.length ≤ c0) (h : spec_CodeLengths.f k l0 = some r) :
  Calls Try.prog 24 #[.slice A0 l0.length c0] w fun e w' => ∃ v0_ : Value, e = .returned (v0_) ∧ Kd.R (Kd.int .i64) 3 w' w.heap.size (fun _ => True) v0_ r ∧ Below w.heap.size w w' := by
 have HR0 := aM hr0
 have HC0 := aM hc0
 clear hr0 hc0
 have HB := aM (Below.refl w.heap.size w)
 unfold spec_CodeLengths.f at h
 have H := h
 clear h
 replace H := Option.bind_eq_some_iff.mp H
 obtain ⟨t303, A20, H⟩ := H
 replace H : (if t303 = true then ((spec_codeLengths.f k l0).bind fun t304 => (some t304)) else (some ([] : List Int))) = some r := H
 have A2 := aM A20
 clear A20
 by_cases c3 : t303 = true
 rotate_left
 ·replace c3 := Bool.eq_false_iff.mpr c3
  subst c3
  have H1 : (some ([] : List Int)) = some r := by rw [if_neg (show ¬ (false = true) by decide)] at H; exact H
  clear H
  have H := H1
  clear H1
  obtain rfl := Option.some.inj H
  go_enter Try.func24, Try.ntmps24
  go_wp2_with (first | ((with_reducible refine gate_callee (f := 41) rfl ?_); refine gL (some 4) Try.func41 #[.slice A0 l0.length c0] ?_; (with_reducible refine (spec_validCounts.calls k _ _ l0 false _ ?side1 ?side2 A2.out).mono ?_); (case side1 => exact qC HR0.out); (case side2 => exact HC0.out); rintro e w' ⟨rfl, ⟨nd, rfl⟩⟩; refine ⟨_, rfl, ?_⟩))
  go_ret
  exact ⟨_, qX, qN, by exact qW HB.out⟩
 subst c3
 have H1 : ((spec_codeLengths.f k l0).bind fun t304 => (some t304)) = some r := by rw [if_pos rfl] at H; exact H
 clear H
 have H := H1
 clear H1
 replace H := Option.bind_eq_some_iff.mp H
 obtain ⟨t304, A40, H⟩ := H
 replace H : (some t304) = some r := H
 have A4 := aM A40
 clear A40
 obtain rfl := Option.some.inj H
 go_enter Try.func24, Try.ntmps24
 go_wp2_with (first | ((with_reducible refine gate_callee (f := 41) rfl ?_); refine gL (some 4) Try.func41 #[.slice A0 l0.length c0] ?_; (with_reducible refine (spec_validCounts.calls k _ _ l0 true _ ?side1 ?side2 A2.out).mono ?_); (case side1 => exact qC HR0.out); (case side2 => exact HC0.out); rintro e w' ⟨rfl, ⟨nd, rfl⟩⟩; refine ⟨_, rfl, ?_⟩) | ((with_reducible refine gate_callee (f := 42) rfl ?_); refine gL (some 7) Try.func42 #[.slice A0 l0.length c0] ?_; (with_reducible refine (spec_codeLengths.calls k _ _ l0 t304 _ ?side1 ?side2 A4.out).mono ?_); (case side1 => exact qC HR0.out); (case side2 => exact HC0.out); rintro e w5 ⟨v305, rfl, ho0, hb⟩; refine ⟨_, rfl, ?_⟩; have HO306 := oR ho0 HB; replace HB := bS HB hb; clear hb ho0))
 go_ret
 exact ⟨_, qX, by refine qR ?_; exact HO306.out, by exact qW HB.out⟩
def spec_anyCounts.l0 : Nat → List Int → Int → List Int → Int → Option (List Int × Int)
 | 0, _, _, _, _ => none
 | k + 1, x3, x4, x1000, x1001 => if x4 > 0 then ((spec_reader_one.f k x1000 x1001 (([0, 1, 2, 3, 5, 8, 13, 40, 9999] : List Int))).bind fun bt236 => (if x3.length < 17592186044416 then (spec_anyCounts.l0 k (x3 ++ [bt236.1]) (wrap64 (x4 - 1)) x1000 bt236.2) else (none))) else ((spec_reader_spoil.f k x1000 x1001 x3 10000).bind fun bt241 => (some (bt241.1, bt241.2)))
def spec_anyCounts.f (k : Nat) (s0_0 : List Int) (s0_1 : Int) : Option (List Int × Int) := (spec_reader_one.f k s0_0 s0_1 (([4, 6, 3, 2, 1, 16, 17, 0] : List Int))).bind fun bt231 => (spec_anyCounts.l0 k (([] : List Int)) bt231.1 s0_0 bt231.2)
theorem spec_anyCounts.mono_l : ∀ k, (∀ y0 y1 y2 y3, LeO (spec_anyCounts.l0 k y0 y1 y2 y3) (spec_anyCounts.l0 (k + 1) y0 y1 y2 y3))
 | 0 => fun _ _ _ _ r h => by simp [spec_anyCounts.l0] at h
 | k + 1 => by
  have ih0 := spec_anyCounts.mono_l k
  ·intro y0 y1 y2 y3
   unfold spec_anyCounts.l0
   repeat' first | (with_reducible first | exact ih0 _ _ _ _ | exact spec_reader_one.mono _ _ _ _ | exact spec_reader_spoil.mono _ _ _ _ _ | exact lR | exact lN | refine lI ?_ ?_ | refine lB ?_ fun _ => ?_) | exact ih0 _ _ _ _ | exact spec_reader_one.mono _ _ _ _ | exact spec_reader_spoil.mono _ _ _ _ _ | exact lN | refine lI ?_ ?_ | refine lB ?_ fun _ => ?_
theorem spec_anyCounts.mono : ∀ a0 a1 k, LeO (spec_anyCounts.f k a0 a1) (spec_anyCounts.f (k + 1) a0 a1) := by
 intro a0 a1 k
 have ih0 := spec_anyCounts.mono_l k
 unfold spec_anyCounts.f
 repeat' first | (with_reducible first | exact ih0 _ _ _ _ | exact spec_reader_one.mono _ _ _ _ | exact spec_reader_spoil.mono _ _ _ _ _ | exact lR | exact lN | refine lI ?_ ?_ | refine lB ?_ fun _ => ?_) | exact ih0 _ _ _ _ | exact spec_reader_one.mono _ _ _ _ | exact spec_reader_spoil.mono _ _ _ _ _ | exact lN | refine lI ?_ ?_ | refine lB ?_ fun _ => ?_
set_option maxHeartbeats 8000000 in
set_option maxRecDepth 100000 in
theorem spec_anyCounts.calls (k : Nat) (g : Nat) (s0_0 : List Int) (s0_1 : Int) (r1 : List Int) (r2 : Int) (w0 w : World) (hI : IsS60 w0 w g s0_0 s0_1) (hB : Below w0.heap.size w0 w) (h : spec_anyCounts.f k s0_0 s0_1 = some (r1, r2)) :
  Calls Try.prog 46 #[.pointer (some ⟨g, 0, none⟩)] w fun e w' => ∃ v0_ : Value, e = .returned (v0_) ∧ Kd.Q (Kd.int .i64) 3 w' w.heap.size (fun _ => True) v0_ r1 ∧ IsS60 w0 w' g s0_0 r2 ∧ Below w0.heap.size w0 w' ∧ KeepBut w w' g none := by
 have HI0 := aM hI
 have HK := aM (KeepBut.refl w g none)
 have HL := aM hB.size
 clear hI
 have HW0 := aM hB.size
 have HB := aM hB
 clear hB
 unfold spec_anyCounts.f at h
 have H := h
 clear h
 obtain ⟨y225, hy225⟩ : ∃ y_ : List Int, y_ = (([] : List Int)) := ⟨_, rfl⟩
 replace H : ((spec_reader_one.f k s0_0 s0_1 (([4, 6, 3, 2, 1, 16, 17, 0] : List Int))).bind fun bt231 => (spec_anyCounts.l0 k y225 bt231.1 s0_0 bt231.2)) = some (r1, r2) := rY hy225 H
 have Ny225 := aM hy225
 clear hy225
 obtain ⟨y228, hy228⟩ : ∃ y_ : List Int, y_ = (([4, 6, 3, 2, 1, 16, 17, 0] : List Int)) := ⟨_, rfl⟩
 replace H : ((spec_reader_one.f k s0_0 s0_1 y228).bind fun bt231 => (spec_anyCounts.l0 k y225 bt231.1 s0_0 bt231.2)) = some (r1, r2) := rY hy228 H
 have Ny228 := aM hy228
 clear hy228
 replace H := Option.bind_eq_some_iff.mp H
 obtain ⟨⟨t231, t232⟩, A20, H⟩ := H
 replace H : (spec_anyCounts.l0 k y225 t231 s0_0 t232) = some (r1, r2) := H
 have A2 := aM A20
 clear A20
 have H' := aM H
 clear H
 go_enter Try.func46, Try.ntmps46
 go_wp2_with (first | ((with_reducible refine gate_dst (N := 5) rfl ?_); refine iL ([] : List Int) [] ?_; intro v226 w3 ho4 hb hg_ hnew_; clear hg_ hnew_; (first | rw [← Ny225.out] at ho4 | (simp only [Int.reduceToNat] at ho4; rw [← Ny225.out] at ho4)); have HO227 := lK ho4 HK; replace HK := aM (KeepBut.trans (kB HK.out) (KeepBut.of_below hb g none) (.inl rfl)); replace HB := aM (below_step (wS60 HB.out) hb); replace HI0 := aM (IsS60.below (iS60 HI0.out) hb); clear hb ho4) | ((with_reducible refine gate_dst (N := 7) rfl ?_); refine iL ([4, 6, 3, 2, 1, 16, 17, 0] : List Int) [.int .i64 4, .int .i64 6, .int .i64 3, .int .i64 2, .int .i64 1, .int .i64 16, .int .i64 17, .int .i64 0] ?_; intro v229 w5 ho6 hb hg_ hnew_; clear hg_ hnew_; (first | rw [← Ny228.out] at ho6 | (simp only [Int.reduceToNat] at ho6; rw [← Ny228.out] at ho6)); have HO230 := aM (Kd.R_lower (Kd.R_new' ho6 (Kd.R_lt (qR HO227.out))) (keep_size (w := w) (g := g) (row := none) (kB HK.out))); replace HO227 := aM (Kd.R_elder' (qR HO227.out) (Kd.R_base ho6) hb); replace HK := aM (KeepBut.trans (kB HK.out) (KeepBut.of_below hb g none) (.inl rfl)); replace HB := aM (below_step (wS60 HB.out) hb); replace HI0 := aM (IsS60.below (iS60 HI0.out) hb); clear hb ho6; obtain ⟨Ao7, co7, rfl⟩ := sL HO230) | ((with_reducible refine gate_callee (f := 35) rfl ?_); refine gL (some 8) Try.func35 #[.pointer (some ⟨g, 0, none⟩), .slice Ao7 y228.length co7] ?_; (with_reducible refine (spec_reader_one.calls k g s0_0 s0_1 _ _ y228 t231 t232 w0 _ ?side1 ?side2 ?side3 ?side4 ?side5 A2.out).mono ?_); (case side1 => exact iS60 HI0.out); (case side2 => exact wS60 HB.out); (case side3 => exact qC (Kd.R_reads' HO230.out).2.2); (case side4 => exact (Kd.R_reads' HO230.out).2.1); (case side5 => exact far_slice (IsS60.own_ne HI0.out HO230.out (by decide))); rintro e w8 ⟨rfl, hi, hb, hk⟩; refine ⟨_, rfl, ?_⟩; replace HO227 := aM (Kd.R_mono (Kd.R_keep (IsS60.apart (show IsS60 w0 _ g s0_0 s0_1 from iS60 HI0.out) (qR HO227.out) (by decide)) hk (fun _ h => h.2)) (fun _ h => h.1)); replace HO230 := aM (Kd.R_mono (Kd.R_keep (IsS60.apart (show IsS60 w0 _ g s0_0 s0_1 from iS60 HI0.out) (qR HO230.out) (by decide)) hk (fun _ h => h.2)) (fun _ h => h.1)); replace HK := aM (KeepBut.trans (kB HK.out) hk (.inl rfl)); replace HB := aM (hb); replace HI0 := aM (hi); clear hb hk hi))
 go_loopg [3, 4] k (fun kq v3 v4 w' => ∃ (x3_1 : List Int) (x4_1 : Int) (x1001_1 : Int), v4 = .int .i64 x4_1 ∧ Aside0 (spec_anyCounts.l0 kq x3_1 x4_1 s0_0 x1001_1 = some (r1, r2)) ∧ Aside0 (kq ≤ k) ∧ Aside0 (Kd.R (Kd.int .i64) 3 w' w.heap.size (fun _ => True) v3 x3_1) ∧ Aside0 (IsS60 w0 w' g s0_0 x1001_1) ∧ Aside0 (KeepBut w w' g none) ∧ Aside0 (Below w0.heap.size w0 w'))
 case atStart => exact ⟨(y225), (t231), (t232), qE, H', ⟨Nat.le_refl _⟩, ⟨by refine qR ?_; exact Kd.R_mono HO227.out (fun _ hk => trivial)⟩, ⟨iS60 HI0.out⟩, ⟨kB HK.out⟩, ⟨wS60 HB.out⟩⟩
 case round =>
  clear H'
  obtain ⟨x3_1, x4_1, x1001_1, rfl, HA, HK1, HO_3, HI0, HK, HB⟩ := hrel
  cases gk with
  | zero => exact absurd HA.out (by simp [spec_anyCounts.l0])
  | succ k1 =>
   have H := HA.out
   clear HA
   simp only [spec_anyCounts.l0] at H
   by_cases c9 : x4_1 > 0
   rotate_left
   ·rw [if_neg c9] at H
    have c9b0 : decide (0 < x4_1) = false := decide_eq_false c9
    clear c9
    replace H := Option.bind_eq_some_iff.mp H
    obtain ⟨⟨t241, t244⟩, A170, H⟩ := H
    replace H : (some (t241, t244)) = some (r1, r2) := H
    have A17 := aM A170
    clear A170
    simp only [Option.some.injEq, Prod.mk.injEq] at H
    obtain ⟨rfl, rfl⟩ := H
    obtain ⟨Ao18, co18, rfl⟩ := sL HO_3
    go_wp2_with (first | ((with_reducible refine gate_callee (f := 37) rfl ?_); refine gL (some 21) Try.func37 #[.pointer (some ⟨g, 0, none⟩), .slice Ao18 x3_1.length co18, .int .i64 10000] ?_; (with_reducible refine (spec_reader_spoil.calls k1 g s0_0 x1001_1 _ _ x3_1 10000 t241 t244 w0 _ ?side1 ?side2 ?side3 ?side4 ?side5 A17.out).mono ?_); (case side1 => exact iS60 HI0.out); (case side2 => exact wS60 HB.out); (case side3 => exact qC (Kd.R_reads' HO_3.out).2.2); (case side4 => exact (Kd.R_reads' HO_3.out).2.1); (case side5 => exact far_slice (IsS60.own_ne HI0.out HO_3.out (by decide))); rintro e w19 ⟨v242, rfl, ho0, hi, hb, hk⟩; refine ⟨_, rfl, ?_⟩; have HO243 := aM (Kd.Q_lower (Kd.Q_new' ho0 (Kd.R_lt (qR HO_3.out))) (keep_size (w := w) (g := g) (row := none) (kB HK.out))); replace HO_3 := aM (Kd.R_mono (Kd.R_told (Kd.R_oldK (IsS60.apart (show IsS60 w0 _ g s0_0 x1001_1 from iS60 HI0.out) (qR HO_3.out) (by decide)) hk) (Kd.Q_base ho0)) (fun _ h_ => h_.1)); replace HK := aM (KeepBut.trans (kB HK.out) hk (.inl rfl)); replace HB := aM (hb); replace HI0 := aM (hi); clear hb hk hi ho0))
    go_ret
    exact ⟨_, qX, by (with_reducible repeat (first | apply Kd.Q_alloc | apply Kd.Q_drewN | apply Kd.Q_drew)); exact Kd.Q_mono HO243.out (fun _ hk => trivial), iS60 HI0.out, wS60 HB.out, kB HK.out⟩
   rw [if_pos c9] at H
   have c9b0 : decide (0 < x4_1) = true := decide_eq_true c9
   clear c9
   obtain ⟨y233, hy233⟩ : ∃ y_ : List Int, y_ = (([0, 1, 2, 3, 5, 8, 13, 40, 9999] : List Int)) := ⟨_, rfl⟩
   replace H : ((spec_reader_one.f k1 s0_0 x1001_1 y233).bind fun bt236 => (if x3_1.length < 17592186044416 then (spec_anyCounts.l0 k1 (x3_1 ++ [bt236.1]) (wrap64 (x4_1 - 1)) s0_0 bt236.2) else (none))) = some (r1, r2) := rY hy233 H
   have Ny233 := aM hy233
   clear hy233
   replace H := Option.bind_eq_some_iff.mp H
   obtain ⟨⟨t236, t237⟩, A100, H⟩ := H
   replace H : (if x3_1.length < 17592186044416 then (spec_anyCounts.l0 k1 (x3_1 ++ [t236]) (wrap64 (x4_1 - 1)) s0_0 t237) else (none)) = some (r1, r2) := H
   have A10 := aM A100
   clear A100
   replace H := iS H
   obtain ⟨c11, H⟩ := H
   have LMc11 := aM c11
   clear c11
   obtain ⟨y238, hy238⟩ : ∃ y_ : List Int, y_ = (x3_1 ++ [t236]) := ⟨_, rfl⟩
   replace H : (spec_anyCounts.l0 k1 y238 (wrap64 (x4_1 - 1)) s0_0 t237) = some (r1, r2) := rY hy238 H
   have Ny238 := aM hy238
   clear hy238
   have H' := aM H
   clear H
   go_wp2_with (first | ((with_reducible refine gate_dst (N := 15) rfl ?_); refine iL ([0, 1, 2, 3, 5, 8, 13, 40, 9999] : List Int) [.int .i64 0, .int .i64 1, .int .i64 2, .int .i64 3, .int .i64 5, .int .i64 8, .int .i64 13, .int .i64 40, .int .i64 9999] ?_; intro v234 w12 ho13 hb hg_ hnew_; clear hg_ hnew_; (first | rw [← Ny233.out] at ho13 | (simp only [Int.reduceToNat] at ho13; rw [← Ny233.out] at ho13)); have HO235 := aM (Kd.R_lower (Kd.R_new' ho13 (Kd.R_lt (qR HO_3.out))) (keep_size (w := w) (g := g) (row := none) (kB HK.out))); replace HO_3 := aM (Kd.R_elder' (qR HO_3.out) (Kd.R_base ho13) hb); replace HK := aM (KeepBut.trans (kB HK.out) (KeepBut.of_below hb g none) (.inl rfl)); replace HB := aM (below_step (wS60 HB.out) hb); replace HI0 := aM (IsS60.below (iS60 HI0.out) hb); clear hb ho13; obtain ⟨Ao14, co14, rfl⟩ := sL HO235) | ((with_reducible refine gate_callee (f := 35) rfl ?_); refine gL (some 16) Try.func35 #[.pointer (some ⟨g, 0, none⟩), .slice Ao14 y233.length co14] ?_; (with_reducible refine (spec_reader_one.calls k1 g s0_0 x1001_1 _ _ y233 t236 t237 w0 _ ?side1 ?side2 ?side3 ?side4 ?side5 A10.out).mono ?_); (case side1 => exact iS60 HI0.out); (case side2 => exact wS60 HB.out); (case side3 => exact qC (Kd.R_reads' HO235.out).2.2); (case side4 => exact (Kd.R_reads' HO235.out).2.1); (case side5 => exact far_slice (IsS60.own_ne HI0.out HO235.out (by decide))); rintro e w15 ⟨rfl, hi, hb, hk⟩; refine ⟨_, rfl, ?_⟩; replace HO_3 := aM (Kd.R_mono (Kd.R_keep (IsS60.apart (show IsS60 w0 _ g s0_0 x1001_1 from iS60 HI0.out) (qR HO_3.out) (by decide)) hk (fun _ h => h.2)) (fun _ h => h.1)); replace HO235 := aM (Kd.R_mono (Kd.R_keep (IsS60.apart (show IsS60 w0 _ g s0_0 x1001_1 from iS60 HI0.out) (qR HO235.out) (by decide)) hk (fun _ h => h.2)) (fun _ h => h.1)); replace HK := aM (KeepBut.trans (kB HK.out) hk (.inl rfl)); replace HB := aM (hb); replace HI0 := aM (hi); clear hb hk hi) | ((with_reducible refine gate_builtin (b := .append) (xs := #[.tmp 13, .tmp 17]) rfl ?_); at_builtin; refine Kd.R_append (Kd.int .i64) w.heap.size rfl (.tmp 13) (.tmp 17) 22 3 (.int .i64 0) 8 rfl Try.underlying22 info3 rfl (by decide) (by omega) u3 x3_1 t236 [.int .i64 t236] (fun k_ => some k_ ≠ (.slice Ao14 y233.length co14 : Value).ownBlock) (fun _ => False) rfl rfl ?aP (fun _ hk => hk.elim) ?aF ?aO (Below.refl _ _) ?aS ?aL ?_; (case aP => exact rfl); (case aF => exact (fun k_ hk => Kd.fresh' (Kd.R_lt (qR HO235.out)) k_ hk)); (case aO => exact (by refine qR ?_; exact Kd.R_mono HO_3.out (fun _ hk => hk.2))); (case aS => exact (keep_size (w := w) (g := g) (row := none) (kB HK.out))); (case aL => have := LMc11.out; omega); intro v239 w16 ho hb hg hat; rw [← Ny238.out] at ho; replace HO235 := aM (Kd.R_after (ok := (fun _ => True)) (qR HO235.out) hg hat); replace HB := aM (below_weaken (wS60 HB.out) HL.out hb); replace HI0 := aM (IsS60.grown (iS60 HI0.out) hg (IsS60.own_ne HI0.out HO_3.out (by decide))); replace HK := aM (KeepBut.trans (kB HK.out) (KeepBut.of_grown hg g) (Kd.R_base2 HO_3.out)); have HO240 := aM (ho); clear HO_3; clear ho hb hg hat))
   go_roundg k1
   case measure => have := HK1.out; omega
   case rel => exact ⟨(y238), (wrap64 (x4_1 - 1)), (t237), qE, H', ⟨by have := HK1.out; omega⟩, ⟨by refine qR ?_; exact Kd.R_mono HO240.out (fun _ hk => trivial)⟩, ⟨iS60 HI0.out⟩, ⟨kB HK.out⟩, ⟨wS60 HB.out⟩⟩
def spec_codeLengthsOf.f (k : Nat) (l0 : List Int) : Option (List Int) := (spec_CodeLengths.f k l0).bind fun t307 => (if (t307.length : Int) = 0 then (some (([1, 2, 2] : List Int))) else (some t307))
theorem spec_codeLengthsOf.mono : ∀ a0 k, LeO (spec_codeLengthsOf.f k a0) (spec_codeLengthsOf.f (k + 1) a0) := by
 intro a0 k
 unfold spec_codeLengthsOf.f
 repeat' first | (with_reducible first | exact spec_CodeLengths.mono _ _ | exact lR | exact lN | refine lI ?_ ?_ | refine lB ?_ fun _ => ?_) | exact spec_CodeLengths.mono _ _ | exact lN | refine lI ?_ ?_ | refine lB ?_ fun _ => ?_
set_option maxHeartbeats 8000000 in
set_option maxRecDepth 100000 in
theorem spec_codeLengthsOf.calls (k : Nat) (A0 : Option Addr) (c0 : Nat) (l0 : List Int) (r : List Int) (w : World) (hr0 : Kd.C (Kd.int .i64) w A0 l0.length l0) (hc0 : l0.length ≤ c0) (h : spec_codeLengthsOf.f k l0 = some r) :
  Calls Try.prog 51 #[.slice A0 l0.length c0] w fun e w' => ∃ v0_ : Value, e = .returned (v0_) ∧ Kd.R (Kd.int .i64) 3 w' w.heap.size (fun _ => True) v0_ r ∧ Below w.heap.size w w' := by
 have HR0 := aM hr0
 have HC0 := aM hc0
 clear hr0 hc0
 have HB := aM (Below.refl w.heap.size w)
 unfold spec_codeLengthsOf.f at h
 have H := h
 clear h
 replace H := Option.bind_eq_some_iff.mp H
 obtain ⟨t307, A20, H⟩ := H
 replace H : (if (t307.length : Int) = 0 then (some (([1, 2, 2] : List Int))) else (some t307)) = some r := H
 have A2 := aM A20
 clear A20
 by_cases c3 : (t307.length : Int) = 0
 rotate_left
 ·rw [if_neg c3] at H
  have c3b0 : ((t307.length : Int) == 0) = false := beq_eq_false_iff_ne.mpr c3
  have c3b1 : ((t307.length : Int) != 0) = true := bne_iff_ne.mpr c3
  have c3b2 : ¬ (t307 = []) := fun h_ => c3 (by rw [h_]; rfl)
  obtain rfl := Option.some.inj H
  go_enter Try.func51, Try.ntmps51
  go_wp2_with (first | ((with_reducible refine gate_callee (f := 24) rfl ?_); refine gL (some 5) Try.func24 #[.slice A0 l0.length c0] ?_; (with_reducible refine (spec_CodeLengths.calls k _ _ l0 t307 _ ?side1 ?side2 A2.out).mono ?_); (case side1 => exact qC HR0.out); (case side2 => exact HC0.out); rintro e w8 ⟨v308, rfl, ho0, hb⟩; refine ⟨_, rfl, ?_⟩; have HO309 := oR ho0 HB; replace HB := bS HB hb; clear hb ho0; obtain ⟨Ao9, co9, rfl⟩ := sL HO309))
  go_ret
  exact ⟨_, qX, by refine qR ?_; exact HO309.out, by exact qW HB.out⟩
 rw [if_pos c3] at H
 have c3b0 : ((t307.length : Int) == 0) = true := beq_iff_eq.mpr c3
 have c3b1 : ((t307.length : Int) != 0) = false := bne_eq_false_iff_eq.mpr c3
 clear c3
 obtain ⟨y310, hy310⟩ : ∃ y_ : List Int, y_ = (([1, 2, 2] : List Int)) := ⟨_, rfl⟩
 replace H : (some y310) = some r := rY hy310 H
 have Ny310 := aM hy310
 clear hy310
 obtain rfl := Option.some.inj H
 go_enter Try.func51, Try.ntmps51
 go_wp2_with (first | ((with_reducible refine gate_callee (f := 24) rfl ?_); refine gL (some 5) Try.func24 #[.slice A0 l0.length c0] ?_; (with_reducible refine (spec_CodeLengths.calls k _ _ l0 t307 _ ?side1 ?side2 A2.out).mono ?_); (case side1 => exact qC HR0.out); (case side2 => exact HC0.out); rintro e w4 ⟨v308, rfl, ho0, hb⟩; refine ⟨_, rfl, ?_⟩; have HO309 := oR ho0 HB; replace HB := bS HB hb; clear hb ho0; obtain ⟨Ao5, co5, rfl⟩ := sL HO309) | ((with_reducible refine gate_dst (N := 9) rfl ?_); refine iL ([1, 2, 2] : List Int) [.int .i64 1, .int .i64 2, .int .i64 2] ?_; intro v311 w6 ho7 hb hg_ hnew_; clear hg_ hnew_; (first | rw [← Ny310.out] at ho7 | (simp only [Int.reduceToNat] at ho7; rw [← Ny310.out] at ho7)); have HO312 := nR ho7 HO309 HB; replace HO309 := aM (Kd.R_elder' (qR HO309.out) (Kd.R_base ho7) hb); replace HB := bS HB hb; clear hb ho7))
 go_ret
 exact ⟨_, qX, by refine qR ?_; exact Kd.R_mono HO312.out (fun _ hk => trivial), by exact qW HB.out⟩
def spec_anyLengths.f (k : Nat) (s0_0 : List Int) (s0_1 : Int) : Option (List Int × Int) := (spec_anyCounts.f k s0_0 s0_1).bind fun bt313 => ((spec_codeLengthsOf.f k bt313.1).bind fun t317 => ((spec_reader_one.f k s0_0 bt313.2 (([1, 2, 16, 17] : List Int))).bind fun bt323 => ((spec_reader_spoil.f k s0_0 bt323.2 t317 bt323.1).bind fun bt325 => (some (bt325.1, bt325.2)))))
theorem spec_anyLengths.mono : ∀ a0 a1 k, LeO (spec_anyLengths.f k a0 a1) (spec_anyLengths.f (k + 1) a0 a1) := by
 intro a0 a1 k
 unfold spec_anyLengths.f
 repeat' first | (with_reducible first | exact spec_anyCounts.mono _ _ _ | exact spec_codeLengthsOf.mono _ _ | exact spec_reader_one.mono _ _ _ _ | exact spec_reader_spoil.mono _ _ _ _ _ | exact lR | exact lN | refine lI ?_ ?_ | refine lB ?_ fun _ => ?_) | exact spec_anyCounts.mono _ _ _ | exact spec_codeLengthsOf.mono _ _ | exact spec_reader_one.mono _ _ _ _ | exact spec_reader_spoil.mono _ _ _ _ _ | exact lN | refine lI ?_ ?_ | refine lB ?_ fun _ => ?_
set_option maxHeartbeats 8000000 in
set_option maxRecDepth 100000 in
theorem spec_anyLengths.calls (k : Nat) (g : Nat) (s0_0 : List Int) (s0_1 : Int) (r1 : List Int) (r2 : Int) (w0 w : World) (hI : IsS60 w0 w g s0_0 s0_1) (hB : Below w0.heap.size w0 w) (h : spec_anyLengths.f k s0_0 s0_1 = some (r1, r2)) :
  Calls Try.prog 34 #[.pointer (some ⟨g, 0, none⟩)] w fun e w' => ∃ v0_ : Value, e = .returned (v0_) ∧ Kd.Q (Kd.int .i64) 3 w' w.heap.size (fun _ => True) v0_ r1 ∧ IsS60 w0 w' g s0_0 r2 ∧ Below w0.heap.size w0 w' ∧ KeepBut w w' g none := by
 have HI0 := aM hI
 have HK := aM (KeepBut.refl w g none)
 have HL := aM hB.size
 clear hI
 have HW0 := aM hB.size
 have HB := aM hB
 clear hB
 unfold spec_anyLengths.f at h
 have H := h
 clear h
 replace H := Option.bind_eq_some_iff.mp H
 obtain ⟨⟨t313, t316⟩, A20, H⟩ := H
 replace H : ((spec_codeLengthsOf.f k t313).bind fun t317 => ((spec_reader_one.f k s0_0 t316 (([1, 2, 16, 17] : List Int))).bind fun bt323 => ((spec_reader_spoil.f k s0_0 bt323.2 t317 bt323.1).bind fun bt325 => (some (bt325.1, bt325.2))))) = some (r1, r2) := H
 have A2 := aM A20
 clear A20
 replace H := Option.bind_eq_some_iff.mp H
 obtain ⟨t317, A30, H⟩ := H
 replace H : ((spec_reader_one.f k s0_0 t316 (([1, 2, 16, 17] : List Int))).bind fun bt323 => ((spec_reader_spoil.f k s0_0 bt323.2 t317 bt323.1).bind fun bt325 => (some (bt325.1, bt325.2)))) = some (r1, r2) := H
 have A3 := aM A30
 clear A30
 obtain ⟨y320, hy320⟩ : ∃ y_ : List Int, y_ = (([1, 2, 16, 17] : List Int)) := ⟨_, rfl⟩
 replace H : ((spec_reader_one.f k s0_0 t316 y320).bind fun bt323 => ((spec_reader_spoil.f k s0_0 bt323.2 t317 bt323.1).bind fun bt325 => (some (bt325.1, bt325.2)))) = some (r1, r2) := rY hy320 H
 have Ny320 := aM hy320
 clear hy320
 replace H := Option.bind_eq_some_iff.mp H
 obtain ⟨⟨t323, t324⟩, A40, H⟩ := H
 replace H : ((spec_reader_spoil.f k s0_0 t324 t317 t323).bind fun bt325 => (some (bt325.1, bt325.2))) = some (r1, r2) := H
 have A4 := aM A40
 clear A40
 replace H := Option.bind_eq_some_iff.mp H
 obtain ⟨⟨t325, t328⟩, A50, H⟩ := H
 replace H : (some (t325, t328)) = some (r1, r2) := H
 have A5 := aM A50
 clear A50
 simp only [Option.some.injEq, Prod.mk.injEq] at H
 obtain ⟨rfl, rfl⟩ := H
 go_enter Try.func34, Try.ntmps34
 go_wp2_with (first | ((with_reducible refine gate_callee (f := 46) rfl ?_); refine gL (some 5) Try.func46 #[.pointer (some ⟨g, 0, none⟩)] ?_; (with_reducible refine (spec_anyCounts.calls k g s0_0 s0_1 t313 t316 w0 _ ?side1 ?side2 A2.out).mono ?_); (case side1 => exact iS60 HI0.out); (case side2 => exact wS60 HB.out); rintro e w6 ⟨v314, rfl, ho0, hi, hb, hk⟩; refine ⟨_, rfl, ?_⟩; have HO315 := aM (Kd.Q_lower ho0 (keep_size (w := w) (g := g) (row := none) (kB HK.out))); replace HK := aM (KeepBut.trans (kB HK.out) hk (.inl rfl)); replace HB := aM (hb); replace HI0 := aM (hi); clear hb hk hi ho0; obtain ⟨Ao7, co7, eo7, _⟩ := Kd.Q_slice HO315.out; subst eo7) | ((with_reducible refine gate_callee (f := 51) rfl ?_); refine gL (some 6) Try.func51 #[.slice Ao7 t313.length co7] ?_; (with_reducible refine (spec_codeLengthsOf.calls k _ _ t313 t317 _ ?side1 ?side2 A3.out).mono ?_); (case side1 => exact qC (Kd.Q_reads' HO315.out).2.2); (case side2 => exact (Kd.Q_reads' HO315.out).2.1); rintro e w8 ⟨v318, rfl, ho0, hb⟩; refine ⟨_, rfl, ?_⟩; have HO319 := aM (Kd.R_lower (Kd.R_new' ho0 (Kd.Q_lt (qQ HO315.out))) (keep_size (w := w) (g := g) (row := none) (kB HK.out))); replace HO315 := aM (Kd.Q_elder' (qQ HO315.out) (Kd.R_base ho0) hb); replace HK := aM (KeepBut.trans (kB HK.out) (KeepBut.of_below hb g none) (.inl rfl)); replace HB := aM (below_step (wS60 HB.out) hb); replace HI0 := aM (IsS60.below (iS60 HI0.out) hb); clear hb ho0) | ((with_reducible refine gate_dst (N := 10) rfl ?_); refine iL ([1, 2, 16, 17] : List Int) [.int .i64 1, .int .i64 2, .int .i64 16, .int .i64 17] ?_; intro v321 w9 ho10 hb hg_ hnew_; clear hg_ hnew_; (first | rw [← Ny320.out] at ho10 | (simp only [Int.reduceToNat] at ho10; rw [← Ny320.out] at ho10)); have HO322 := aM (Kd.R_lower (Kd.R_new' (Kd.R_new' ho10 (Kd.Q_lt (qQ HO315.out))) (Kd.R_lt (qR HO319.out))) (keep_size (w := w) (g := g) (row := none) (kB HK.out))); replace HO315 := aM (Kd.Q_elder' (qQ HO315.out) (Kd.R_base ho10) hb); replace HO319 := aM (Kd.R_elder' (qR HO319.out) (Kd.R_base ho10) hb); replace HK := aM (KeepBut.trans (kB HK.out) (KeepBut.of_below hb g none) (.inl rfl)); replace HB := aM (below_step (wS60 HB.out) hb); replace HI0 := aM (IsS60.below (iS60 HI0.out) hb); clear hb ho10; obtain ⟨Ao11, co11, rfl⟩ := sL HO322) | ((with_reducible refine gate_callee (f := 35) rfl ?_); refine gL (some 11) Try.func35 #[.pointer (some ⟨g, 0, none⟩), .slice Ao11 y320.length co11] ?_; (with_reducible refine (spec_reader_one.calls k g s0_0 t316 _ _ y320 t323 t324 w0 _ ?side1 ?side2 ?side3 ?side4 ?side5 A4.out).mono ?_); (case side1 => exact iS60 HI0.out); (case side2 => exact wS60 HB.out); (case side3 => exact qC (Kd.R_reads' HO322.out).2.2); (case side4 => exact (Kd.R_reads' HO322.out).2.1); (case side5 => exact far_slice (IsS60.own_ne HI0.out HO322.out (by decide))); rintro e w12 ⟨rfl, hi, hb, hk⟩; refine ⟨_, rfl, ?_⟩; replace HO315 := aM (Kd.Q_mono (Kd.Q_keep (IsS60.apartQ (show IsS60 w0 _ g s0_0 t316 from iS60 HI0.out) (qQ HO315.out) (by decide)) hk (fun _ h => h.2)) (fun _ h => h.1)); replace HO319 := aM (Kd.R_mono (Kd.R_keep (IsS60.apart (show IsS60 w0 _ g s0_0 t316 from iS60 HI0.out) (qR HO319.out) (by decide)) hk (fun _ h => h.2)) (fun _ h => h.1)); replace HO322 := aM (Kd.R_mono (Kd.R_keep (IsS60.apart (show IsS60 w0 _ g s0_0 t316 from iS60 HI0.out) (qR HO322.out) (by decide)) hk (fun _ h => h.2)) (fun _ h => h.1)); replace HK := aM (KeepBut.trans (kB HK.out) hk (.inl rfl)); replace HB := aM (hb); replace HI0 := aM (hi); clear hb hk hi; obtain ⟨Ao13, co13, rfl⟩ := sL HO319) | ((with_reducible refine gate_callee (f := 37) rfl ?_); refine gL (some 12) Try.func37 #[.pointer (some ⟨g, 0, none⟩), .slice Ao13 t317.length co13, .int .i64 t323] ?_; (with_reducible refine (spec_reader_spoil.calls k g s0_0 t324 _ _ t317 t323 t325 t328 w0 _ ?side1 ?side2 ?side3 ?side4 ?side5 A5.out).mono ?_); (case side1 => exact iS60 HI0.out); (case side2 => exact wS60 HB.out); (case side3 => exact qC (Kd.R_reads' HO319.out).2.2); (case side4 => exact (Kd.R_reads' HO319.out).2.1); (case side5 => exact far_slice (IsS60.own_ne HI0.out HO319.out (by decide))); rintro e w14 ⟨v326, rfl, ho0, hi, hb, hk⟩; refine ⟨_, rfl, ?_⟩; have HO327 := aM (Kd.Q_lower (Kd.Q_new' (Kd.Q_new' (Kd.Q_new' ho0 (Kd.Q_lt (qQ HO315.out))) (Kd.R_lt (qR HO319.out))) (Kd.R_lt (qR HO322.out))) (keep_size (w := w) (g := g) (row := none) (kB HK.out))); replace HO315 := aM (Kd.Q_mono (Kd.Q_told (Kd.Q_oldK (IsS60.apartQ (show IsS60 w0 _ g s0_0 t324 from iS60 HI0.out) (qQ HO315.out) (by decide)) hk) (Kd.Q_base ho0)) (fun _ h_ => h_.1)); replace HO319 := aM (Kd.R_mono (Kd.R_told (Kd.R_oldK (IsS60.apart (show IsS60 w0 _ g s0_0 t324 from iS60 HI0.out) (qR HO319.out) (by decide)) hk) (Kd.Q_base ho0)) (fun _ h_ => h_.1)); replace HO322 := aM (Kd.R_mono (Kd.R_told (Kd.R_oldK (IsS60.apart (show IsS60 w0 _ g s0_0 t324 from iS60 HI0.out) (qR HO322.out) (by decide)) hk) (Kd.Q_base ho0)) (fun _ h_ => h_.1)); replace HK := aM (KeepBut.trans (kB HK.out) hk (.inl rfl)); replace HB := aM (hb); replace HI0 := aM (hi); clear hb hk hi ho0))
 go_ret
 exact ⟨_, qX, by (with_reducible repeat (first | apply Kd.Q_alloc | apply Kd.Q_drewN | apply Kd.Q_drew)); exact Kd.Q_mono HO327.out (fun _ hk => trivial), iS60 HI0.out, wS60 HB.out, kB HK.out⟩
def spec_DrawCodeLengths.f (k : Nat) (l0 : List Int) : Option (List Int) := (spec_newReader.f l0).bind fun bt511 => ((spec_anyCounts.f k bt511.1 bt511.2).bind fun bt514 => (some bt514.1))
theorem spec_DrawCodeLengths.mono : ∀ a0 k, LeO (spec_DrawCodeLengths.f k a0) (spec_DrawCodeLengths.f (k + 1) a0) := by
 intro a0 k
 unfold spec_DrawCodeLengths.f
 repeat' first | (with_reducible first | exact spec_anyCounts.mono _ _ _ | exact lR | exact lN | refine lI ?_ ?_ | refine lB ?_ fun _ => ?_) | exact spec_anyCounts.mono _ _ _ | exact lN | refine lI ?_ ?_ | refine lB ?_ fun _ => ?_
set_option maxHeartbeats 8000000 in
set_option maxRecDepth 100000 in
theorem spec_DrawCodeLengths.calls (k : Nat) (A0 : Option Addr) (c0 : Nat) (l0 : List Int) (r : List Int) (w : World) (hr0 : Kd.C (Kd.int .u8) w A0 l0.length l0) (hc0 : l0.length ≤ c0) (h : spec_DrawCodeLengths.f k l0 = some r) :
  Calls Try.prog 26 #[.slice A0 l0.length c0] w fun e w' => ∃ v0_ : Value, e = .returned (v0_) ∧ Kd.Q (Kd.int .i64) 3 w' w.heap.size (fun _ => True) v0_ r ∧ Below w.heap.size w w' := by
 have HR0 := aM hr0
 have HC0 := aM hc0
 clear hr0 hc0
 have HB := aM (Below.refl w.heap.size w)
 unfold spec_DrawCodeLengths.f at h
 have H := h
 clear h
 replace H := Option.bind_eq_some_iff.mp H
 obtain ⟨⟨t511, t512⟩, A20, H⟩ := H
 replace H : ((spec_anyCounts.f k t511 t512).bind fun bt514 => (some bt514.1)) = some r := H
 have A2 := aM A20
 clear A20
 replace H := Option.bind_eq_some_iff.mp H
 obtain ⟨⟨t514, t517⟩, A30, H⟩ := H
 replace H : (some t514) = some r := H
 have A3 := aM A30
 clear A30
 obtain rfl := Option.some.inj H
 go_enter Try.func26, Try.ntmps26
 go_wp2_with (first | ((with_reducible refine gate_callee (f := 33) rfl ?_); refine gL (some 4) Try.func33 #[.slice A0 l0.length c0] ?_; (with_reducible refine (spec_newReader.calls _ _ l0 t511 t512 w _ ?side1 ?side2 ?side3 A2.out).mono ?_); (case side1 => exact qW HB.out); (case side2 => exact HR0.out); (case side3 => exact HC0.out); rintro e w4 ⟨g513, rfl, hi, hb, hb2⟩; refine ⟨_, rfl, ?_⟩; replace HB := aM (hb); have HI513 := aM (hi); clear hb hb2 hi) | ((with_reducible refine gate_callee (f := 46) rfl ?_); refine gL (some 5) Try.func46 #[.pointer (some ⟨g513, 0, none⟩)] ?_; (with_reducible refine (spec_anyCounts.calls k g513 t511 t512 t514 t517 w _ ?side1 ?side2 A3.out).mono ?_); (case side1 => exact iS60 HI513.out); (case side2 => exact wS60 HB.out); rintro e w5 ⟨v515, rfl, ho0, hi, hb, hk⟩; refine ⟨_, rfl, ?_⟩; have HO516 := aM (Kd.Q_lower ho0 (below_size (wS60 HB.out))); replace HB := aM (hb); replace HI513 := aM (hi); clear hb hk hi ho0))
 go_ret
 exact ⟨_, qX, by (with_reducible repeat (first | apply Kd.Q_alloc | apply Kd.Q_drewN | apply Kd.Q_drew)); exact HO516.out, wS60 HB.out⟩
def spec_DrawCanonicalCodes.f (k : Nat) (l0 : List Int) : Option (List Int) := (spec_newReader.f l0).bind fun bt527 => ((spec_anyLengths.f k bt527.1 bt527.2).bind fun bt530 => (some bt530.1))
theorem spec_DrawCanonicalCodes.mono : ∀ a0 k, LeO (spec_DrawCanonicalCodes.f k a0) (spec_DrawCanonicalCodes.f (k + 1) a0) := by
 intro a0 k
 unfold spec_DrawCanonicalCodes.f
 repeat' first | (with_reducible first | exact spec_anyLengths.mono _ _ _ | exact lR | exact lN | refine lI ?_ ?_ | refine lB ?_ fun _ => ?_) | exact spec_anyLengths.mono _ _ _ | exact lN | refine lI ?_ ?_ | refine lB ?_ fun _ => ?_
set_option maxHeartbeats 8000000 in
set_option maxRecDepth 100000 in
theorem spec_DrawCanonicalCodes.calls (k : Nat) (A0 : Option Addr) (c0 : Nat) (l0 : List Int) (r : List Int) (w : World) (hr0 : Kd.C (Kd.int .u8) w A0 l0.length l0) (hc0 : l0.length ≤ c0) (h : spec_DrawCanonicalCodes.f k l0 = some r) :
  Calls Try.prog 27 #[.slice A0 l0.length c0] w fun e w' => ∃ v0_ : Value, e = .returned (v0_) ∧ Kd.Q (Kd.int .i64) 3 w' w.heap.size (fun _ => True) v0_ r ∧ Below w.heap.size w w' := by
 have HR0 := aM hr0
 have HC0 := aM hc0
 clear hr0 hc0
 have HB := aM (Below.refl w.heap.size w)
 unfold spec_DrawCanonicalCodes.f at h
 have H := h
 clear h
 replace H := Option.bind_eq_some_iff.mp H
 obtain ⟨⟨t527, t528⟩, A20, H⟩ := H
 replace H : ((spec_anyLengths.f k t527 t528).bind fun bt530 => (some bt530.1)) = some r := H
 have A2 := aM A20
 clear A20
 replace H := Option.bind_eq_some_iff.mp H
 obtain ⟨⟨t530, t533⟩, A30, H⟩ := H
 replace H : (some t530) = some r := H
 have A3 := aM A30
 clear A30
 obtain rfl := Option.some.inj H
 go_enter Try.func27, Try.ntmps27
 go_wp2_with (first | ((with_reducible refine gate_callee (f := 33) rfl ?_); refine gL (some 4) Try.func33 #[.slice A0 l0.length c0] ?_; (with_reducible refine (spec_newReader.calls _ _ l0 t527 t528 w _ ?side1 ?side2 ?side3 A2.out).mono ?_); (case side1 => exact qW HB.out); (case side2 => exact HR0.out); (case side3 => exact HC0.out); rintro e w4 ⟨g529, rfl, hi, hb, hb2⟩; refine ⟨_, rfl, ?_⟩; replace HB := aM (hb); have HI529 := aM (hi); clear hb hb2 hi) | ((with_reducible refine gate_callee (f := 34) rfl ?_); refine gL (some 5) Try.func34 #[.pointer (some ⟨g529, 0, none⟩)] ?_; (with_reducible refine (spec_anyLengths.calls k g529 t527 t528 t530 t533 w _ ?side1 ?side2 A3.out).mono ?_); (case side1 => exact iS60 HI529.out); (case side2 => exact wS60 HB.out); rintro e w5 ⟨v531, rfl, ho0, hi, hb, hk⟩; refine ⟨_, rfl, ?_⟩; have HO532 := aM (Kd.Q_lower ho0 (below_size (wS60 HB.out))); replace HB := aM (hb); replace HI529 := aM (hi); clear hb hk hi ho0))
 go_ret
 exact ⟨_, qX, by (with_reducible repeat (first | apply Kd.Q_alloc | apply Kd.Q_drewN | apply Kd.Q_drew)); exact HO532.out, wS60 HB.out⟩
mutual
def spec_DrawEncodeSymbols.l0 : Nat → List Int → List Int → Int → List Int → Int → Option (List Int × List Int)
 | 0, _, _, _, _, _ => none
 | k + 1, x5, x6, x7, x332000, x332001 => if x7 > 0 then ((spec_reader_pick.f k x332000 x332001 (mx (x5.length : Int) 1)).bind fun bt348 => (spec_DrawEncodeSymbols.l1 k x5 x6 x7 bt348.1 0 x332000 bt348.2)) else ((spec_reader_spoil.f k x332000 x332001 x6 16).bind fun bt344 => (some (bt344.1, x5)))
def spec_DrawEncodeSymbols.l1 : Nat → List Int → List Int → Int → Int → Int → List Int → Int → Option (List Int × List Int)
 | 0, _, _, _, _, _, _, _ => none
 | k + 1, x5, x6, x7, x8, x9, x332000, x332001 => if x9 < (x5.length : Int) then (if 0 ≤ x8 then (if x8 < (x5.length : Int) then (if (rd x5 x8) = 0 then (if (x5.length : Int) = 0 then (none) else (spec_DrawEncodeSymbols.l1 k x5 x6 x7 (Int.tmod (wrap64 (x8 + 1)) (x5.length : Int)) (wrap64 (x9 + 1)) x332000 x332001)) else (if x6.length < 17592186044416 then (spec_DrawEncodeSymbols.l0 k x5 (x6 ++ [x8]) (wrap64 (x7 - 1)) x332000 x332001) else (none))) else (none)) else (none)) else (if x6.length < 17592186044416 then (spec_DrawEncodeSymbols.l0 k x5 (x6 ++ [x8]) (wrap64 (x7 - 1)) x332000 x332001) else (none))
end
def spec_DrawEncodeSymbols.f (k : Nat) (l0 : List Int) : Option (List Int × List Int) := (spec_newReader.f l0).bind fun bt329 => ((spec_anyLengths.f k bt329.1 bt329.2).bind fun bt332 => ((spec_reader_one.f k bt329.1 bt332.2 (([5, 8, 2, 0, 12] : List Int))).bind fun bt342 => (spec_DrawEncodeSymbols.l0 k bt332.1 (([] : List Int)) bt342.1 bt329.1 bt342.2)))
theorem spec_DrawEncodeSymbols.mono_l : ∀ k, (∀ y0 y1 y2 y3 y4, LeO (spec_DrawEncodeSymbols.l0 k y0 y1 y2 y3 y4) (spec_DrawEncodeSymbols.l0 (k + 1) y0 y1 y2 y3 y4)) ∧ (∀ y0 y1 y2 y3 y4 y5 y6, LeO (spec_DrawEncodeSymbols.l1 k y0 y1 y2 y3 y4 y5 y6) (spec_DrawEncodeSymbols.l1 (k + 1) y0 y1 y2 y3 y4 y5 y6))
 | 0 => ⟨fun _ _ _ _ _ r h => by simp [spec_DrawEncodeSymbols.l0] at h, fun _ _ _ _ _ _ _ r h => by simp [spec_DrawEncodeSymbols.l1] at h⟩
 | k + 1 => by
  obtain ⟨ih0, ih1⟩ := spec_DrawEncodeSymbols.mono_l k
  refine ⟨?_, ?_⟩
  all_goals intros
  all_goals first | unfold spec_DrawEncodeSymbols.l0 | unfold spec_DrawEncodeSymbols.l1
  all_goals repeat' first | (with_reducible first | exact ih0 _ _ _ _ _ | exact ih1 _ _ _ _ _ _ _ | exact spec_anyLengths.mono _ _ _ | exact spec_reader_one.mono _ _ _ _ | exact spec_reader_pick.mono _ _ _ _ | exact spec_reader_spoil.mono _ _ _ _ _ | exact lR | exact lN | refine lI ?_ ?_ | refine lB ?_ fun _ => ?_) | exact ih0 _ _ _ _ _ | exact ih1 _ _ _ _ _ _ _ | exact spec_anyLengths.mono _ _ _ | exact spec_reader_one.mono _ _ _ _ | exact spec_reader_pick.mono _ _ _ _ | exact spec_reader_spoil.mono _ _ _ _ _ | exact lN | refine lI ?_ ?_ | refine lB ?_ fun _ => ?_
theorem spec_DrawEncodeSymbols.mono : ∀ a0 k, LeO (spec_DrawEncodeSymbols.f k a0) (spec_DrawEncodeSymbols.f (k + 1) a0) := by
 intro a0 k
 obtain ⟨ih0, ih1⟩ := spec_DrawEncodeSymbols.mono_l k
 unfold spec_DrawEncodeSymbols.f
 repeat' first | (with_reducible first | exact ih0 _ _ _ _ _ | exact ih1 _ _ _ _ _ _ _ | exact spec_anyLengths.mono _ _ _ | exact spec_reader_one.mono _ _ _ _ | exact spec_reader_pick.mono _ _ _ _ | exact spec_reader_spoil.mono _ _ _ _ _ | exact lR | exact lN | refine lI ?_ ?_ | refine lB ?_ fun _ => ?_) | exact ih0 _ _ _ _ _ | exact ih1 _ _ _ _ _ _ _ | exact spec_anyLengths.mono _ _ _ | exact spec_reader_one.mono _ _ _ _ | exact spec_reader_pick.mono _ _ _ _ | exact spec_reader_spoil.mono _ _ _ _ _ | exact lN | refine lI ?_ ?_ | refine lB ?_ fun _ => ?_
set_option maxHeartbeats 8000000 in
set_option maxRecDepth 100000 in
theorem spec_DrawEncodeSymbols.calls (k : Nat) (A0 : Option Addr) (c0 : Nat) (l0 : List Int) (r1 : List Int) (r2 : List Int) (w : World) (hr0 : Kd.C (Kd.int .u8) w A0 l0.length l0) (hc0 : l0.length ≤ c0) (h : spec_DrawEncodeSymbols.f k l0 = some (r1, r2)) :
  Calls Try.prog 17 #[.slice A0 l0.length c0] w fun e w' => ∃ v0_ v1_ : Value, e = .returned (.tuple #[v0_, v1_]) ∧ Kd.Q (Kd.int .i64) 3 w' w.heap.size (fun k_ => some k_ ≠ (v1_ : Value).ownBlock) v0_ r1 ∧ Kd.Q (Kd.int .i64) 3 w' w.heap.size (fun k_ => some k_ ≠ (v0_ : Value).ownBlock) v1_ r2 ∧ Below w.heap.size w w' := by
 have HR0 := aM hr0
 have HC0 := aM hc0
 clear hr0 hc0
 have HB := aM (Below.refl w.heap.size w)
 unfold spec_DrawEncodeSymbols.f at h
 have H := h
 clear h
 replace H := Option.bind_eq_some_iff.mp H
 obtain ⟨⟨t329, t330⟩, A20, H⟩ := H
 replace H : ((spec_anyLengths.f k t329 t330).bind fun bt332 => ((spec_reader_one.f k t329 bt332.2 (([5, 8, 2, 0, 12] : List Int))).bind fun bt342 => (spec_DrawEncodeSymbols.l0 k bt332.1 (([] : List Int)) bt342.1 t329 bt342.2))) = some (r1, r2) := H
 have A2 := aM A20
 clear A20
 replace H := Option.bind_eq_some_iff.mp H
 obtain ⟨⟨t332, t335⟩, A30, H⟩ := H
 replace H : ((spec_reader_one.f k t329 t335 (([5, 8, 2, 0, 12] : List Int))).bind fun bt342 => (spec_DrawEncodeSymbols.l0 k t332 (([] : List Int)) bt342.1 t329 bt342.2)) = some (r1, r2) := H
 have A3 := aM A30
 clear A30
 obtain ⟨y336, hy336⟩ : ∃ y_ : List Int, y_ = (([] : List Int)) := ⟨_, rfl⟩
 replace H : ((spec_reader_one.f k t329 t335 (([5, 8, 2, 0, 12] : List Int))).bind fun bt342 => (spec_DrawEncodeSymbols.l0 k t332 y336 bt342.1 t329 bt342.2)) = some (r1, r2) := rY hy336 H
 have Ny336 := aM hy336
 clear hy336
 obtain ⟨y339, hy339⟩ : ∃ y_ : List Int, y_ = (([5, 8, 2, 0, 12] : List Int)) := ⟨_, rfl⟩
 replace H : ((spec_reader_one.f k t329 t335 y339).bind fun bt342 => (spec_DrawEncodeSymbols.l0 k t332 y336 bt342.1 t329 bt342.2)) = some (r1, r2) := rY hy339 H
 have Ny339 := aM hy339
 clear hy339
 replace H := Option.bind_eq_some_iff.mp H
 obtain ⟨⟨t342, t343⟩, A40, H⟩ := H
 replace H : (spec_DrawEncodeSymbols.l0 k t332 y336 t342 t329 t343) = some (r1, r2) := H
 have A4 := aM A40
 clear A40
 have H' := aM H
 clear H
 go_enter Try.func17, Try.ntmps17
 go_wp2_with (first | ((with_reducible refine gate_callee (f := 33) rfl ?_); refine gL (some 11) Try.func33 #[.slice A0 l0.length c0] ?_; (with_reducible refine (spec_newReader.calls _ _ l0 t329 t330 w _ ?side1 ?side2 ?side3 A2.out).mono ?_); (case side1 => exact qW HB.out); (case side2 => exact HR0.out); (case side3 => exact HC0.out); rintro e w5 ⟨g331, rfl, hi, hb, hb2⟩; refine ⟨_, rfl, ?_⟩; replace HB := aM (hb); have HI331 := aM (hi); clear hb hb2 hi) | ((with_reducible refine gate_callee (f := 34) rfl ?_); refine gL (some 13) Try.func34 #[.pointer (some ⟨g331, 0, none⟩)] ?_; (with_reducible refine (spec_anyLengths.calls k g331 t329 t330 t332 t335 w _ ?side1 ?side2 A3.out).mono ?_); (case side1 => exact iS60 HI331.out); (case side2 => exact wS60 HB.out); rintro e w6 ⟨v333, rfl, ho0, hi, hb, hk⟩; refine ⟨_, rfl, ?_⟩; have HO334 := aM (Kd.Q_lower ho0 (below_size (wS60 HB.out))); replace HB := aM (hb); replace HI331 := aM (hi); clear hb hk hi ho0) | ((with_reducible refine gate_dst (N := 14) rfl ?_); refine iL ([] : List Int) [] ?_; intro v337 w7 ho8 hb hg_ hnew_; clear hg_ hnew_; (first | rw [← Ny336.out] at ho8 | (simp only [Int.reduceToNat] at ho8; rw [← Ny336.out] at ho8)); have HO338 := aM (Kd.R_lower (Kd.R_new' ho8 (Kd.Q_lt (qQ HO334.out))) (below_size (wS60 HB.out))); replace HO334 := aM (Kd.Q_elder' (qQ HO334.out) (Kd.R_base ho8) hb); replace HB := aM (below_step (wS60 HB.out) hb); replace HI331 := aM (IsS60.below (iS60 HI331.out) hb); clear hb ho8) | ((with_reducible refine gate_dst (N := 16) rfl ?_); refine iL ([5, 8, 2, 0, 12] : List Int) [.int .i64 5, .int .i64 8, .int .i64 2, .int .i64 0, .int .i64 12] ?_; intro v340 w9 ho10 hb hg_ hnew_; clear hg_ hnew_; (first | rw [← Ny339.out] at ho10 | (simp only [Int.reduceToNat] at ho10; rw [← Ny339.out] at ho10)); have HO341 := aM (Kd.R_lower (Kd.R_new' (Kd.R_new' ho10 (Kd.Q_lt (qQ HO334.out))) (Kd.R_lt (qR HO338.out))) (below_size (wS60 HB.out))); replace HO334 := aM (Kd.Q_elder' (qQ HO334.out) (Kd.R_base ho10) hb); replace HO338 := aM (Kd.R_elder' (qR HO338.out) (Kd.R_base ho10) hb); replace HB := aM (below_step (wS60 HB.out) hb); replace HI331 := aM (IsS60.below (iS60 HI331.out) hb); clear hb ho10; obtain ⟨Ao11, co11, rfl⟩ := sL HO341) | ((with_reducible refine gate_callee (f := 35) rfl ?_); refine gL (some 17) Try.func35 #[.pointer (some ⟨g331, 0, none⟩), .slice Ao11 y339.length co11] ?_; (with_reducible refine (spec_reader_one.calls k g331 t329 t335 _ _ y339 t342 t343 w _ ?side1 ?side2 ?side3 ?side4 ?side5 A4.out).mono ?_); (case side1 => exact iS60 HI331.out); (case side2 => exact wS60 HB.out); (case side3 => exact qC (Kd.R_reads' HO341.out).2.2); (case side4 => exact (Kd.R_reads' HO341.out).2.1); (case side5 => exact far_slice (IsS60.own_ne HI331.out HO341.out (by decide))); rintro e w12 ⟨rfl, hi, hb, hk⟩; refine ⟨_, rfl, ?_⟩; replace HO334 := aM (Kd.Q_mono (Kd.Q_keep (IsS60.apartQ (show IsS60 w _ g331 t329 t335 from iS60 HI331.out) (qQ HO334.out) (by decide)) hk (fun _ h => h.2)) (fun _ h => h.1)); replace HO338 := aM (Kd.R_mono (Kd.R_keep (IsS60.apart (show IsS60 w _ g331 t329 t335 from iS60 HI331.out) (qR HO338.out) (by decide)) hk (fun _ h => h.2)) (fun _ h => h.1)); replace HO341 := aM (Kd.R_mono (Kd.R_keep (IsS60.apart (show IsS60 w _ g331 t329 t335 from iS60 HI331.out) (qR HO341.out) (by decide)) hk (fun _ h => h.2)) (fun _ h => h.1)); replace HB := aM (hb); replace HI331 := aM (hi); clear hb hk hi))
 go_loopg [6, 7] k (fun kq v6 v7 w' => ∃ (x6_1 : List Int) (x7_1 : Int) (x332001_1 : Int), v7 = .int .i64 x7_1 ∧ Aside0 (spec_DrawEncodeSymbols.l0 kq t332 x6_1 x7_1 t329 x332001_1 = some (r1, r2)) ∧ Aside0 (kq ≤ k) ∧ Aside0 (Kd.Q (Kd.int .i64) 3 w' w.heap.size (fun k_ => some k_ ≠ (v6 : Value).ownBlock) v333 t332) ∧ Aside0 (Kd.R (Kd.int .i64) 3 w' w.heap.size (fun k_ => some k_ ≠ (v333 : Value).ownBlock) v6 x6_1) ∧ Aside0 (IsS60 w w' g331 t329 x332001_1) ∧ Aside0 (Below w.heap.size w w'))
 case atStart => exact ⟨(y336), (t342), (t343), qE, H', ⟨Nat.le_refl _⟩, ⟨by (with_reducible repeat (first | apply Kd.Q_alloc | apply Kd.Q_drewN | apply Kd.Q_drew)); exact Kd.Q_mono HO334.out (fun _ hk => hk.1.2)⟩, ⟨by refine qR ?_; exact Kd.R_mono HO338.out (fun _ hk => hk.1.2)⟩, ⟨iS60 HI331.out⟩, ⟨wS60 HB.out⟩⟩
 case round =>
  clear H'
  obtain ⟨x6_1, x7_1, x332001_1, rfl, HA, HK1, HO_5, HO_6, HI331, HB⟩ := hrel
  cases gk with
  | zero => exact absurd HA.out (by simp [spec_DrawEncodeSymbols.l0])
  | succ k1 =>
   have H := HA.out
   clear HA
   simp only [spec_DrawEncodeSymbols.l0] at H
   by_cases c13 : x7_1 > 0
   rotate_left
   ·rw [if_neg c13] at H
    have c13b0 : decide (0 < x7_1) = false := decide_eq_false c13
    clear c13
    replace H := Option.bind_eq_some_iff.mp H
    obtain ⟨⟨t344, t347⟩, A270, H⟩ := H
    replace H : (some (t344, t332)) = some (r1, r2) := H
    have A27 := aM A270
    clear A270
    simp only [Option.some.injEq, Prod.mk.injEq] at H
    obtain ⟨rfl, rfl⟩ := H
    obtain ⟨Ao28, co28, rfl⟩ := sL HO_6
    go_wp2_with (first | ((with_reducible refine gate_callee (f := 37) rfl ?_); refine gL (some 51) Try.func37 #[.pointer (some ⟨g331, 0, none⟩), .slice Ao28 x6_1.length co28, .int .i64 16] ?_; (with_reducible refine (spec_reader_spoil.calls k1 g331 t329 x332001_1 _ _ x6_1 16 t344 t347 w _ ?side1 ?side2 ?side3 ?side4 ?side5 A27.out).mono ?_); (case side1 => exact iS60 HI331.out); (case side2 => exact wS60 HB.out); (case side3 => exact qC (Kd.R_reads' HO_6.out).2.2); (case side4 => exact (Kd.R_reads' HO_6.out).2.1); (case side5 => exact far_slice (IsS60.own_ne HI331.out HO_6.out (by decide))); rintro e w29 ⟨v345, rfl, ho0, hi, hb, hk⟩; refine ⟨_, rfl, ?_⟩; have HO346 := aM (Kd.Q_lower (Kd.Q_new' (Kd.Q_new' ho0 (Kd.Q_lt (qQ HO_5.out))) (Kd.R_lt (qR HO_6.out))) (below_size (wS60 HB.out))); replace HO_5 := aM (Kd.Q_mono (Kd.Q_told (Kd.Q_oldK (IsS60.apartQ (show IsS60 w _ g331 t329 x332001_1 from iS60 HI331.out) (qQ HO_5.out) (by decide)) hk) (Kd.Q_base ho0)) (fun _ h_ => h_.1)); replace HO_6 := aM (Kd.R_mono (Kd.R_told (Kd.R_oldK (IsS60.apart (show IsS60 w _ g331 t329 x332001_1 from iS60 HI331.out) (qR HO_6.out) (by decide)) hk) (Kd.Q_base ho0)) (fun _ h_ => h_.1)); replace HB := aM (hb); replace HI331 := aM (hi); clear hb hk hi ho0))
    go_ret2
    exact ⟨_, _, qX, by (with_reducible repeat (first | apply Kd.Q_alloc | apply Kd.Q_drewN | apply Kd.Q_drew)); exact Kd.Q_mono HO346.out (fun _ hk => hk.1.2), by (with_reducible repeat (first | apply Kd.Q_alloc | apply Kd.Q_drewN | apply Kd.Q_drew)); exact Kd.Q_mono HO_5.out (fun _ hk => hk.2), wS60 HB.out⟩
   rw [if_pos c13] at H
   have c13b0 : decide (0 < x7_1) = true := decide_eq_true c13
   clear c13
   obtain ⟨ji14, hji14⟩ : ∃ j_ : Int, (mx (t332.length : Int) 1) = j_ := ⟨_, rfl⟩
   replace H : ((spec_reader_pick.f k1 t329 x332001_1 (ji14)).bind fun bt348 => (spec_DrawEncodeSymbols.l1 k1 t332 x6_1 x7_1 bt348.1 0 t329 bt348.2)) = some (r1, r2) := by first | (rw [hji14] at H; exact H) | (simp only [hji14] at H ⊢; exact H)
   have hji14_ : (if (t332.length : Int) < 1 then 1 else (t332.length : Int)) = ji14 := hji14
   replace H := Option.bind_eq_some_iff.mp H
   obtain ⟨⟨t348, t349⟩, A150, H⟩ := H
   replace H : (spec_DrawEncodeSymbols.l1 k1 t332 x6_1 x7_1 t348 0 t329 t349) = some (r1, r2) := H
   have A15 := aM A150
   clear A150
   have H' := aM H
   clear H
   obtain ⟨Ao16, co16, eo16, _⟩ := Kd.Q_slice HO_5.out
   subst eo16
   go_wp2_with (first | ((with_reducible refine gate_callee (f := 36) rfl ?_); refine goesL_ (some 26) rfl rfl Try.func36 (by kernel_rfl) rfl #[.pointer (some ⟨g331, 0, none⟩), .int .i64 ji14] rfl (by (try simp only [List.map_toArray, List.map_cons, List.map_nil]); first | done | (simp only [hji14]; rfl) | rfl | (simp only [List.length_drop, List.length_take]; rfl)) ?_; (with_reducible refine (spec_reader_pick.calls k1 g331 t329 x332001_1 ji14 t348 t349 w _ ?side1 ?side2 A15.out).mono ?_); (case side1 => exact iS60 HI331.out); (case side2 => exact wS60 HB.out); rintro e w17 ⟨rfl, hi, hb, hk⟩; refine ⟨_, rfl, ?_⟩; replace HO_5 := aM (Kd.Q_mono (Kd.Q_keep (IsS60.apartQ (show IsS60 w _ g331 t329 x332001_1 from iS60 HI331.out) (qQ HO_5.out) (by decide)) hk (fun _ h => h.2)) (fun _ h => h.1)); replace HO_6 := aM (Kd.R_mono (Kd.R_keep (IsS60.apart (show IsS60 w _ g331 t329 x332001_1 from iS60 HI331.out) (qR HO_6.out) (by decide)) hk (fun _ h => h.2)) (fun _ h => h.1)); replace HB := aM (hb); replace HI331 := aM (hi); clear hb hk hi))
   go_loopg [8, 9] k1 (fun kq v8 v9 w' => ∃ (x8_2 : Int) (x9_2 : Int), v8 = .int .i64 x8_2 ∧ v9 = .int .i64 x9_2 ∧ Aside0 (spec_DrawEncodeSymbols.l1 kq t332 x6_1 x7_1 x8_2 x9_2 t329 t349 = some (r1, r2)) ∧ Aside0 (kq ≤ k1) ∧ Aside0 (Kd.Q (Kd.int .i64) 3 w' w.heap.size (fun k_ => some k_ ≠ (u6 : Value).ownBlock) (.slice Ao16 t332.length co16) t332) ∧ Aside0 (Kd.R (Kd.int .i64) 3 w' w.heap.size (fun k_ => some k_ ≠ ((.slice Ao16 t332.length co16) : Value).ownBlock) u6 x6_1) ∧ Aside0 (IsS60 w w' g331 t329 t349) ∧ Aside0 (Below w.heap.size w w'))
   case atStart => exact ⟨(t348), (0), qE, qE, H', ⟨Nat.le_refl _⟩, ⟨by (with_reducible repeat (first | apply Kd.Q_alloc | apply Kd.Q_drewN | apply Kd.Q_drew)); exact HO_5.out⟩, ⟨by refine qR ?_; exact HO_6.out⟩, ⟨iS60 HI331.out⟩, ⟨wS60 HB.out⟩⟩
   case round =>
    clear H'
    try clear c13
    try clear c13b0
    obtain ⟨x8_2, x9_2, rfl, rfl, HA, HK2, HO_5, HO_6, HI331, HB⟩ := hrel
    cases gk with
    | zero => exact absurd HA.out (by simp [spec_DrawEncodeSymbols.l1])
    | succ k2 =>
     have H := HA.out
     clear HA
     simp only [spec_DrawEncodeSymbols.l1] at H
     by_cases c18 : x9_2 < (t332.length : Int)
     rotate_left
     ·rw [if_neg c18] at H
      have c18b0 : decide (x9_2 < (t332.length : Int)) = false := decide_eq_false c18
      clear c18
      replace H := iS H
      obtain ⟨c25, H⟩ := H
      have LMc25 := aM c25
      clear c25
      obtain ⟨y354, hy354⟩ : ∃ y_ : List Int, y_ = (x6_1 ++ [x8_2]) := ⟨_, rfl⟩
      replace H : (spec_DrawEncodeSymbols.l0 k2 t332 y354 (wrap64 (x7_1 - 1)) t329 t349) = some (r1, r2) := rY hy354 H
      have Ny354 := aM hy354
      clear hy354
      have H' := aM H
      clear H
      go_wp2_with (first | ((with_reducible refine gate_builtin (b := .append) (xs := #[.tmp 45, .tmp 47]) rfl ?_); at_builtin; refine Kd.R_append (Kd.int .i64) (w0 := w) w.heap.size rfl (.tmp 45) (.tmp 47) 22 3 (.int .i64 0) 8 rfl Try.underlying22 info3 rfl (by decide) (by omega) u6 x6_1 x8_2 [.int .i64 x8_2] (fun k_ => some k_ ≠ (.slice Ao16 t332.length co16 : Value).ownBlock) (fun _ => False) rfl rfl ?aP (fun _ hk => hk.elim) ?aF ?aO ?aB ?aS ?aL ?_; (case aP => exact rfl); (case aB => exact (wS60 HB.out)); (case aF => exact (fun k_ hk => Kd.fresh' (Kd.Q_lt (qQ HO_5.out)) k_ hk)); (case aO => exact (qR HO_6.out)); (case aS => exact (below_size (wS60 HB.out))); (case aL => have := LMc25.out; omega); intro v355 w26 ho hb hg hat; rw [← Ny354.out] at ho; replace HO_5 := aM (Kd.Q_after (ok := (fun _ => True)) (by (with_reducible repeat (first | apply Kd.Q_alloc | apply Kd.Q_drewN | apply Kd.Q_drew)); exact Kd.Q_mono HO_5.out (fun _ hk => ⟨trivial, hk⟩)) hg hat); replace HI331 := aM (IsS60.grown (iS60 HI331.out) hg (IsS60.own_ne HI331.out HO_6.out (by decide))); replace HB := aM (hb); have HO356 := aM (ho); clear HO_6; clear ho hb hg hat))
      go_roundg k2
      case measure => have := HK1.out; have := HK2.out; omega
      case rel => exact ⟨(y354), (wrap64 (x7_1 - 1)), (t349), qE, H', ⟨by have := HK1.out; have := HK2.out; omega⟩, ⟨by (with_reducible repeat (first | apply Kd.Q_alloc | apply Kd.Q_drewN | apply Kd.Q_drew)); exact Kd.Q_mono HO_5.out (fun _ hk => hk.2)⟩, ⟨by refine qR ?_; exact HO356.out⟩, ⟨iS60 HI331.out⟩, ⟨wS60 HB.out⟩⟩
     rw [if_pos c18] at H
     have c18b0 : decide (x9_2 < (t332.length : Int)) = true := decide_eq_true c18
     clear c18
     replace H := iD H
     obtain ⟨c19b0, H⟩ := H
     replace H := iD H
     obtain ⟨c20b0, H⟩ := H
     by_cases c21 : (rd t332 x8_2) = 0
     ·rw [if_pos c21] at H
      have c21b0 : ((rd t332 x8_2) == 0) = true := beq_iff_eq.mpr c21
      have c21b1 : ((rd t332 x8_2) != 0) = false := bne_eq_false_iff_eq.mpr c21
      clear c21
      by_cases c22 : (t332.length : Int) = 0
      ·rw [if_pos c22] at H
       exact absurd H (by simp)
      rw [if_neg c22] at H
      have c22b0 : ((t332.length : Int) == 0) = false := beq_eq_false_iff_ne.mpr c22
      have c22b1 : ((t332.length : Int) != 0) = true := bne_iff_ne.mpr c22
      have c22b2 : ¬ (t332 = []) := fun h_ => c22 (by rw [h_]; rfl)
      have H' := aM H
      clear H
      obtain ⟨ad350, e350, hx350_0⟩ := Kd.at_int (Kd.Q_reads' HO_5.out).2.2 x8_2 oD oD
      cases e350
      have p350 := eq_true (oD : 0 ≤ (x8_2 : Int))
      have q350 := eq_true (oD : x8_2 < (t332.length : Int))
      go_wp2
      go_roundg k2
      case measure => have := HK1.out; have := HK2.out; omega
      case rel => exact ⟨(Int.tmod (wrap64 (x8_2 + 1)) (t332.length : Int)), (wrap64 (x9_2 + 1)), qE, qE, H', ⟨by have := HK1.out; have := HK2.out; omega⟩, ⟨by (with_reducible repeat (first | apply Kd.Q_alloc | apply Kd.Q_drewN | apply Kd.Q_drew)); exact HO_5.out⟩, ⟨by refine qR ?_; exact HO_6.out⟩, ⟨iS60 HI331.out⟩, ⟨wS60 HB.out⟩⟩
     rw [if_neg c21] at H
     have c21b0 : ((rd t332 x8_2) == 0) = false := beq_eq_false_iff_ne.mpr c21
     have c21b1 : ((rd t332 x8_2) != 0) = true := bne_iff_ne.mpr c21
     replace H := iS H
     obtain ⟨c23, H⟩ := H
     have LMc23 := aM c23
     clear c23
     obtain ⟨y351, hy351⟩ : ∃ y_ : List Int, y_ = (x6_1 ++ [x8_2]) := ⟨_, rfl⟩
     replace H : (spec_DrawEncodeSymbols.l0 k2 t332 y351 (wrap64 (x7_1 - 1)) t329 t349) = some (r1, r2) := rY hy351 H
     have Ny351 := aM hy351
     clear hy351
     have H' := aM H
     clear H
     obtain ⟨ad350, e350, hx350_0⟩ := Kd.at_int (Kd.Q_reads' HO_5.out).2.2 x8_2 oD oD
     cases e350
     have p350 := eq_true (oD : 0 ≤ (x8_2 : Int))
     have q350 := eq_true (oD : x8_2 < (t332.length : Int))
     go_wp2_with (first | ((with_reducible refine gate_builtin (b := .append) (xs := #[.tmp 45, .tmp 47]) rfl ?_); at_builtin; refine Kd.R_append (Kd.int .i64) (w0 := w) w.heap.size rfl (.tmp 45) (.tmp 47) 22 3 (.int .i64 0) 8 rfl Try.underlying22 info3 rfl (by decide) (by omega) u6 x6_1 x8_2 [.int .i64 x8_2] (fun k_ => some k_ ≠ (.slice (some ad350) t332.length co16 : Value).ownBlock) (fun _ => False) rfl rfl ?aP (fun _ hk => hk.elim) ?aF ?aO ?aB ?aS ?aL ?_; (case aP => exact rfl); (case aB => exact (wS60 HB.out)); (case aF => exact (fun k_ hk => Kd.fresh' (Kd.Q_lt (qQ HO_5.out)) k_ hk)); (case aO => exact (qR HO_6.out)); (case aS => exact (below_size (wS60 HB.out))); (case aL => have := LMc23.out; omega); intro v352 w24 ho hb hg hat; rw [← Ny351.out] at ho; replace HO_5 := aM (Kd.Q_after (ok := (fun _ => True)) (by (with_reducible repeat (first | apply Kd.Q_alloc | apply Kd.Q_drewN | apply Kd.Q_drew)); exact Kd.Q_mono HO_5.out (fun _ hk => ⟨trivial, hk⟩)) hg hat); replace HI331 := aM (IsS60.grown (iS60 HI331.out) hg (IsS60.own_ne HI331.out HO_6.out (by decide))); replace HB := aM (hb); have HO353 := aM (ho); clear HO_6; clear ho hb hg hat))
     go_roundg k2
     case measure => have := HK1.out; have := HK2.out; omega
     case rel => exact ⟨(y351), (wrap64 (x7_1 - 1)), (t349), qE, H', ⟨by have := HK1.out; have := HK2.out; omega⟩, ⟨by (with_reducible repeat (first | apply Kd.Q_alloc | apply Kd.Q_drewN | apply Kd.Q_drew)); exact Kd.Q_mono HO_5.out (fun _ hk => hk.2)⟩, ⟨by refine qR ?_; exact HO353.out⟩, ⟨iS60 HI331.out⟩, ⟨wS60 HB.out⟩⟩
mutual
def laws_FnEncodeSymbols.j0 : Nat → List Int → List Int → ByteArray → Bool → ByteArray → Bool → Bool → Option (Bool)
 | 0, _, _, _, _, _, _, _ => none
 | k + 1, x3, x4, x5, x6, x7, x8, x44 => if x44 = true then (if x5.toList = x7.toList then (some (x6 == x8)) else (some false)) else ((impl_DecodeSymbols.f k x5 x4).bind fun bt369 => (laws_FnEncodeSymbols.l0 k x3 x4 x5 bt369.1 bt369.2 0 0))
def laws_FnEncodeSymbols.l0 : Nat → List Int → List Int → ByteArray → List Int → Bool → Int → Int → Option (Bool)
 | 0, _, _, _, _, _, _, _ => none
 | k + 1, x3, x4, x5, x9, x10, x11, x12 => if x12 < (x3.length : Int) then (if 0 ≤ x12 then (if 0 ≤ (rd x3 x12) then (if (rd x3 x12) < (x4.length : Int) then (laws_FnEncodeSymbols.l0 k x3 x4 x5 x9 x10 (wrap64 (x11 + (rd x4 (rd x3 x12)))) (wrap64 (x12 + 1))) else (none)) else (none)) else (none)) else (if x10 = true then ((laws_equalInts.f k x9 x3).bind fun t375 => (if t375 = true then (some ((x5.size : Int) == x11)) else (some false))) else (some false))
end
def laws_FnEncodeSymbols.f (k : Nat) (l0 : List Int) : Option (Bool) := if (l0.length : Int) > 1048576 then (some true) else ((spec_DrawEncodeSymbols.f k l0).bind fun bt359 => ((impl_EncodeSymbols.f k bt359.1 bt359.2).bind fun bt365 => ((spec_EncodeSymbols.f k bt359.1 bt359.2).bind fun bt367 => (if bt365.1.toList = bt367.1.toList then (if (bt365.2 != bt367.2) = true then (laws_FnEncodeSymbols.j0 k bt359.1 bt359.2 bt365.1 bt365.2 bt367.1 bt367.2 true) else (laws_FnEncodeSymbols.j0 k bt359.1 bt359.2 bt365.1 bt365.2 bt367.1 bt367.2 (!bt365.2))) else (laws_FnEncodeSymbols.j0 k bt359.1 bt359.2 bt365.1 bt365.2 bt367.1 bt367.2 true)))))
theorem laws_FnEncodeSymbols.mono_l : ∀ k, (∀ y0 y1 y2 y3 y4 y5 y6, LeO (laws_FnEncodeSymbols.j0 k y0 y1 y2 y3 y4 y5 y6) (laws_FnEncodeSymbols.j0 (k + 1) y0 y1 y2 y3 y4 y5 y6)) ∧ (∀ y0 y1 y2 y3 y4 y5 y6, LeO (laws_FnEncodeSymbols.l0 k y0 y1 y2 y3 y4 y5 y6) (laws_FnEncodeSymbols.l0 (k + 1) y0 y1 y2 y3 y4 y5 y6))
 | 0 => ⟨fun _ _ _ _ _ _ _ r h => by simp [laws_FnEncodeSymbols.j0] at h, fun _ _ _ _ _ _ _ r h => by simp [laws_FnEncodeSymbols.l0] at h⟩
 | k + 1 => by
  obtain ⟨ih0, ih1⟩ := laws_FnEncodeSymbols.mono_l k
  refine ⟨?_, ?_⟩
  all_goals intros
  all_goals first | unfold laws_FnEncodeSymbols.j0 | unfold laws_FnEncodeSymbols.l0
  all_goals repeat' first | (with_reducible first | exact ih0 _ _ _ _ _ _ _ | exact ih1 _ _ _ _ _ _ _ | exact impl_DecodeSymbols.mono _ _ _ | exact impl_EncodeSymbols.mono _ _ _ | exact laws_equalInts.mono _ _ _ | exact spec_DrawEncodeSymbols.mono _ _ | exact spec_EncodeSymbols.mono _ _ _ | exact lR | exact lN | refine lI ?_ ?_ | refine lB ?_ fun _ => ?_) | exact ih0 _ _ _ _ _ _ _ | exact ih1 _ _ _ _ _ _ _ | exact impl_DecodeSymbols.mono _ _ _ | exact impl_EncodeSymbols.mono _ _ _ | exact laws_equalInts.mono _ _ _ | exact spec_DrawEncodeSymbols.mono _ _ | exact spec_EncodeSymbols.mono _ _ _ | exact lN | refine lI ?_ ?_ | refine lB ?_ fun _ => ?_
theorem laws_FnEncodeSymbols.mono : ∀ a0 k, LeO (laws_FnEncodeSymbols.f k a0) (laws_FnEncodeSymbols.f (k + 1) a0) := by
 intro a0 k
 obtain ⟨ih0, ih1⟩ := laws_FnEncodeSymbols.mono_l k
 unfold laws_FnEncodeSymbols.f
 repeat' first | (with_reducible first | exact ih0 _ _ _ _ _ _ _ | exact ih1 _ _ _ _ _ _ _ | exact impl_DecodeSymbols.mono _ _ _ | exact impl_EncodeSymbols.mono _ _ _ | exact laws_equalInts.mono _ _ _ | exact spec_DrawEncodeSymbols.mono _ _ | exact spec_EncodeSymbols.mono _ _ _ | exact lR | exact lN | refine lI ?_ ?_ | refine lB ?_ fun _ => ?_) | exact ih0 _ _ _ _ _ _ _ | exact ih1 _ _ _ _ _ _ _ | exact impl_DecodeSymbols.mono _ _ _ | exact impl_EncodeSymbols.mono _ _ _ | exact laws_equalInts.mono _ _ _ | exact spec_DrawEncodeSymbols.mono _ _ | exact spec_EncodeSymbols.mono _ _ _ | exact lN | refine lI ?_ ?_ | refine lB ?_ fun _ => ?_
set_option maxHeartbeats 8000000 in
set_option maxRecDepth 100000 in
theorem laws_FnEncodeSymbols.calls (k : Nat) (A0 : Option Addr) (c0 : Nat) (l0 : List Int) (r : Bool) (w : World) (hr0 : Kd.C (Kd.int .u8) w A0 l0.length l0) (hc0 : l0.length ≤ c0) (h : laws_FnEncodeSymbols.f k l0 = some r) (hrt : r = true) :
  Calls Try.prog 4 #[.slice A0 l0.length c0] w fun e w' => e = .returned (.bool r) ∧ Below w.heap.size w w' := by
 have HR0 := aM hr0
 have HC0 := aM hc0
 clear hr0 hc0
 have HB := aM (Below.refl w.heap.size w)
 unfold laws_FnEncodeSymbols.f at h
 have H := h
 clear h
 by_cases c2 : (l0.length : Int) > 1048576
 ·rw [if_pos c2] at H
  have c2b0 : decide (1048576 < (l0.length : Int)) = true := decide_eq_true c2
  have c2b1 : decide (1048576 < l0.length) = true := decide_eq_true (by omega)
  clear c2
  obtain rfl := Option.some.inj H
  go_enter Try.func4, Try.ntmps4
  go_wp2
  go_ret
  exact ⟨qX, by exact qW HB.out⟩
 rw [if_neg c2] at H
 have c2b0 : decide (1048576 < (l0.length : Int)) = false := decide_eq_false c2
 have c2b1 : decide (1048576 < l0.length) = false := decide_eq_false (by omega)
 clear c2
 replace H := Option.bind_eq_some_iff.mp H
 obtain ⟨⟨t359, t360⟩, A30, H⟩ := H
 replace H : ((impl_EncodeSymbols.f k t359 t360).bind fun bt365 => ((spec_EncodeSymbols.f k t359 t360).bind fun bt367 => (if bt365.1.toList = bt367.1.toList then (if (bt365.2 != bt367.2) = true then (laws_FnEncodeSymbols.j0 k t359 t360 bt365.1 bt365.2 bt367.1 bt367.2 true) else (laws_FnEncodeSymbols.j0 k t359 t360 bt365.1 bt365.2 bt367.1 bt367.2 (!bt365.2))) else (laws_FnEncodeSymbols.j0 k t359 t360 bt365.1 bt365.2 bt367.1 bt367.2 true)))) = some r := H
 have A3 := aM A30
 clear A30
 replace H := Option.bind_eq_some_iff.mp H
 obtain ⟨⟨t365, t366⟩, A40, H⟩ := H
 replace H : ((spec_EncodeSymbols.f k t359 t360).bind fun bt367 => (if t365.toList = bt367.1.toList then (if (t366 != bt367.2) = true then (laws_FnEncodeSymbols.j0 k t359 t360 t365 t366 bt367.1 bt367.2 true) else (laws_FnEncodeSymbols.j0 k t359 t360 t365 t366 bt367.1 bt367.2 (!t366))) else (laws_FnEncodeSymbols.j0 k t359 t360 t365 t366 bt367.1 bt367.2 true))) = some r := H
 have A4 := aM A40
 clear A40
 replace H := Option.bind_eq_some_iff.mp H
 obtain ⟨⟨t367, t368⟩, A50, H⟩ := H
 replace H : (if t365.toList = t367.toList then (if (t366 != t368) = true then (laws_FnEncodeSymbols.j0 k t359 t360 t365 t366 t367 t368 true) else (laws_FnEncodeSymbols.j0 k t359 t360 t365 t366 t367 t368 (!t366))) else (laws_FnEncodeSymbols.j0 k t359 t360 t365 t366 t367 t368 true)) = some r := H
 have A5 := aM A50
 clear A50
 have HC6 := aM H
 clear H
 go_enter Try.func4, Try.ntmps4
 go_upto_region 6 with (first | ((with_reducible refine gate_callee (f := 17) rfl ?_); refine gL (some 18) Try.func17 #[.slice A0 l0.length c0] ?_; (with_reducible refine (spec_DrawEncodeSymbols.calls k _ _ l0 t359 t360 _ ?side1 ?side2 A3.out).mono ?_); (case side1 => exact qC HR0.out); (case side2 => exact HC0.out); rintro e w7 ⟨v361, v363, rfl, ho0, ho1, hb⟩; refine ⟨_, rfl, ?_⟩; have HO362 := aM (Kd.Q_lower ho0 (below_size (qW HB.out))); have HO364 := aM (Kd.Q_lower ho1 (below_size (qW HB.out))); replace HB := bS HB hb; clear hb ho0 ho1; obtain ⟨Ao8, co8, eo8, _⟩ := Kd.Q_slice HO362.out; subst eo8; obtain ⟨Ao9, co9, eo9, _⟩ := Kd.Q_slice HO364.out; subst eo9) | ((with_reducible refine gate_callee (f := 15) rfl ?_); refine gL (some 24) Try.func15 #[.slice Ao8 t359.length co8, .slice Ao9 t360.length co9] ?_; (with_reducible refine (impl_EncodeSymbols.calls k _ _ t359 _ _ t360 t365 t366 _ ?side1 ?side2 ?side3 ?side4 A4.out).mono ?_); (case side1 => exact qC (Kd.Q_reads' HO362.out).2.2); (case side2 => exact (Kd.Q_reads' HO362.out).2.1); (case side3 => exact qC (Kd.Q_reads' HO364.out).2.2); (case side4 => exact (Kd.Q_reads' HO364.out).2.1); rintro e w10 ⟨rfl, hb⟩; refine ⟨_, rfl, ?_⟩; replace HO362 := aM (Kd.Q_below (qQ HO362.out) hb); replace HO364 := aM (Kd.Q_below (qQ HO364.out) hb); replace HB := bS HB hb; clear hb) | ((with_reducible refine gate_callee (f := 13) rfl ?_); refine gL (some 30) Try.func13 #[.slice Ao8 t359.length co8, .slice Ao9 t360.length co9] ?_; (with_reducible refine (spec_EncodeSymbols.calls k _ _ t359 _ _ t360 t367 t368 _ ?side1 ?side2 ?side3 ?side4 A5.out).mono ?_); (case side1 => exact qC (Kd.Q_reads' HO362.out).2.2); (case side2 => exact (Kd.Q_reads' HO362.out).2.1); (case side3 => exact qC (Kd.Q_reads' HO364.out).2.2); (case side4 => exact (Kd.Q_reads' HO364.out).2.1); rintro e w11 ⟨rfl, hb⟩; refine ⟨_, rfl, ?_⟩; replace HO362 := aM (Kd.Q_below (qQ HO362.out) hb); replace HO364 := aM (Kd.Q_below (qQ HO364.out) hb); replace HB := bS HB hb; clear hb))
 (try simp only [Act.put, List.setIfInBounds_toArray, List.set_cons_zero, List.set_cons_succ])
 go_cut [44] (fun v44 wc => ∃ (kq : Nat) (x44_5 : Bool), v44 = .bool x44_5 ∧ Aside0 (laws_FnEncodeSymbols.j0 kq t359 t360 t365 t366 t367 t368 x44_5 = some r) ∧ Aside0 (kq ≤ k) ∧ Aside0 (Kd.Q (Kd.int .i64) 3 wc w.heap.size (fun k_ => some k_ ≠ ((.slice Ao9 t360.length co9) : Value).ownBlock) (.slice Ao8 t359.length co8) t359) ∧ Aside0 (Kd.Q (Kd.int .i64) 3 wc w.heap.size (fun k_ => some k_ ≠ ((.slice Ao8 t359.length co8) : Value).ownBlock) (.slice Ao9 t360.length co9) t360) ∧ Aside0 (Below w.heap.size w wc))
 case first =>
  have H := HC6.out
  clear HC6
  by_cases c12 : t365.toList = t367.toList
  rotate_left
  ·rw [if_neg c12] at H
   have c12b0 : (t365.toList == t367.toList) = false := beq_eq_false_iff_ne.mpr c12
   have c12b1 : (t365.toList != t367.toList) = true := bne_iff_ne.mpr c12
   (first | rw [c12b0] | (simp only [i64_w, i32_w]; rw [c12b0]) | skip)
   have H' := aM H
   clear H
   go_wp2
   go_meet
   case rel => exact ⟨_, (true), qE, H', ⟨by first | omega | exact Nat.le_refl _⟩, ⟨by (with_reducible repeat (first | apply Kd.Q_alloc | apply Kd.Q_drewN | apply Kd.Q_drew)); exact HO362.out⟩, ⟨by (with_reducible repeat (first | apply Kd.Q_alloc | apply Kd.Q_drewN | apply Kd.Q_drew)); exact HO364.out⟩, ⟨by exact qW HB.out⟩⟩
  rw [if_pos c12] at H
  have c12b0 : (t365.toList == t367.toList) = true := beq_iff_eq.mpr c12
  have c12b1 : (t365.toList != t367.toList) = false := bne_eq_false_iff_eq.mpr c12
  clear c12
  (first | rw [c12b0] | (simp only [i64_w, i32_w]; rw [c12b0]) | skip)
  by_cases c13 : (t366 != t368) = true
  rotate_left
  ·rw [if_neg c13] at H
   have c13b0 : (t366 != t368) = false := by simpa using c13
   (try (have c13b1 : decide (t366 = t368) = true := by simpa using c13))
   (try (have c13b2 : (t366 == t368) = true := by simpa using c13))
   clear c13
   have H' := aM H
   clear H
   go_wp2
   go_meet
   case rel => exact ⟨_, (!t366), qE, H', ⟨by first | omega | exact Nat.le_refl _⟩, ⟨by (with_reducible repeat (first | apply Kd.Q_alloc | apply Kd.Q_drewN | apply Kd.Q_drew)); exact HO362.out⟩, ⟨by (with_reducible repeat (first | apply Kd.Q_alloc | apply Kd.Q_drewN | apply Kd.Q_drew)); exact HO364.out⟩, ⟨by exact qW HB.out⟩⟩
  rw [if_pos c13] at H
  have c13b0 : (t366 != t368) = true := c13
  (try (have c13b1 : decide (t366 = t368) = false := by simpa using c13))
  (try (have c13b2 : (t366 == t368) = false := by simpa using c13))
  (try (have c13b3 : ¬ (t366 = t368) := by simpa using c13))
  clear c13
  have H' := aM H
  clear H
  go_wp2
  go_meet
  case rel => exact ⟨_, (true), qE, H', ⟨by first | omega | exact Nat.le_refl _⟩, ⟨by (with_reducible repeat (first | apply Kd.Q_alloc | apply Kd.Q_drewN | apply Kd.Q_drew)); exact HO362.out⟩, ⟨by (with_reducible repeat (first | apply Kd.Q_alloc | apply Kd.Q_drewN | apply Kd.Q_drew)); exact HO364.out⟩, ⟨by exact qW HB.out⟩⟩
 case rest =>
  clear HC6
  try clear c2
  try clear c2b0
  try clear c2b1
  try clear c12
  try clear c12b0
  try clear c12b1
  try clear c13
  try clear c13b0
  try clear c13b1
  try clear c13b2
  obtain ⟨kq, x44_5, rfl, HA, HJ5, HO_3, HO_4, HB⟩ := hcut
  cases kq with
  | zero => exact absurd HA.out (by simp [laws_FnEncodeSymbols.j0])
  | succ kj5 =>
   have H := HA.out
   clear HA
   simp only [laws_FnEncodeSymbols.j0] at H
   by_cases c14 : x44_5 = true
   ·subst c14
    have H1 : (if t365.toList = t367.toList then (some (t366 == t368)) else (some false)) = some r := by rw [if_pos rfl] at H; exact H
    clear H
    have H := H1
    clear H1
    by_cases c15 : t365.toList = t367.toList
    rotate_left
    ·rw [if_neg c15] at H
     have c15b0 : (t365.toList == t367.toList) = false := beq_eq_false_iff_ne.mpr c15
     have c15b1 : (t365.toList != t367.toList) = true := bne_iff_ne.mpr c15
     obtain rfl := Option.some.inj H
     exact absurd hrt (by decide)
    rw [if_pos c15] at H
    have c15b0 : (t365.toList == t367.toList) = true := beq_iff_eq.mpr c15
    have c15b1 : (t365.toList != t367.toList) = false := bne_eq_false_iff_eq.mpr c15
    clear c15
    obtain rfl := Option.some.inj H
    go_wp2
    go_ret
    exact ⟨qX, by exact qW HB.out⟩
   replace c14 := Bool.eq_false_iff.mpr c14
   subst c14
   have H1 : ((impl_DecodeSymbols.f kj5 t365 t360).bind fun bt369 => (laws_FnEncodeSymbols.l0 kj5 t359 t360 t365 bt369.1 bt369.2 0 0)) = some r := by rw [if_neg (show ¬ (false = true) by decide)] at H; exact H
   clear H
   have H := H1
   clear H1
   replace H := Option.bind_eq_some_iff.mp H
   obtain ⟨⟨t369, t370⟩, A160, H⟩ := H
   replace H : (laws_FnEncodeSymbols.l0 kj5 t359 t360 t365 t369 t370 0 0) = some r := H
   have A16 := aM A160
   clear A160
   have H' := aM H
   clear H
   go_wp2_with (first | ((with_reducible refine gate_callee (f := 18) rfl ?_); refine gL (some 56) Try.func18 #[.string t365, .slice Ao9 t360.length co9] ?_; (with_reducible refine (impl_DecodeSymbols.calls kj5 t365 _ _ t360 t369 t370 _ ?side1 ?side2 A16.out).mono ?_); (case side1 => exact qC (Kd.Q_reads' HO_4.out).2.2); (case side2 => exact (Kd.Q_reads' HO_4.out).2.1); rintro e w17 ⟨v371, rfl, ho0, hb⟩; refine ⟨_, rfl, ?_⟩; have HO372 := aM (Kd.R_lower (Kd.R_new' (Kd.R_new' ho0 (Kd.Q_lt (qQ HO_3.out))) (Kd.Q_lt (qQ HO_4.out))) (below_size (qW HB.out))); replace HO_3 := aM (Kd.Q_elder' (qQ HO_3.out) (Kd.R_base ho0) hb); replace HO_4 := aM (Kd.Q_elder' (qQ HO_4.out) (Kd.R_base ho0) hb); replace HB := bS HB hb; clear hb ho0))
   go_loopg [11, 12] kj5 (fun kq v11 v12 w' => ∃ (x11_2 : Int) (x12_2 : Int), v11 = .int .i64 x11_2 ∧ v12 = .int .i64 x12_2 ∧ Aside0 (laws_FnEncodeSymbols.l0 kq t359 t360 t365 t369 t370 x11_2 x12_2 = some r) ∧ Aside0 (kq ≤ kj5) ∧ Aside0 (Kd.Q (Kd.int .i64) 3 w' w.heap.size (fun k_ => some k_ ≠ ((.slice Ao9 t360.length co9) : Value).ownBlock ∧ some k_ ≠ (v371 : Value).ownBlock) (.slice Ao8 t359.length co8) t359) ∧ Aside0 (Kd.Q (Kd.int .i64) 3 w' w.heap.size (fun k_ => some k_ ≠ ((.slice Ao8 t359.length co8) : Value).ownBlock ∧ some k_ ≠ (v371 : Value).ownBlock) (.slice Ao9 t360.length co9) t360) ∧ Aside0 (Kd.R (Kd.int .i64) 3 w' w.heap.size (fun k_ => some k_ ≠ ((.slice Ao8 t359.length co8) : Value).ownBlock ∧ some k_ ≠ ((.slice Ao9 t360.length co9) : Value).ownBlock) v371 t369) ∧ Aside0 (Below w.heap.size w w'))
   case atStart => exact ⟨(0), (0), qE, qE, H', ⟨Nat.le_refl _⟩, ⟨by (with_reducible repeat (first | apply Kd.Q_alloc | apply Kd.Q_drewN | apply Kd.Q_drew)); exact HO_3.out⟩, ⟨by (with_reducible repeat (first | apply Kd.Q_alloc | apply Kd.Q_drewN | apply Kd.Q_drew)); exact HO_4.out⟩, ⟨by refine qR ?_; exact Kd.R_mono HO372.out (fun _ hk => ⟨hk.1.2, hk.2⟩)⟩, ⟨by exact qW HB.out⟩⟩
   case round =>
    clear H'
    try clear c2
    try clear c2b0
    try clear c2b1
    try clear c12
    try clear c12b0
    try clear c12b1
    try clear c13
    try clear c13b0
    try clear c13b1
    try clear c13b2
    try clear c14
    try clear c15
    try clear c15b0
    try clear c15b1
    obtain ⟨x11_2, x12_2, rfl, rfl, HA, HK2, HO_3, HO_4, HO_9, HB⟩ := hrel
    cases gk with
    | zero => exact absurd HA.out (by simp [laws_FnEncodeSymbols.l0])
    | succ k2 =>
     have H := HA.out
     clear HA
     simp only [laws_FnEncodeSymbols.l0] at H
     by_cases c18 : x12_2 < (t359.length : Int)
     rotate_left
     ·rw [if_neg c18] at H
      have c18b0 : decide (x12_2 < (t359.length : Int)) = false := decide_eq_false c18
      clear c18
      by_cases c22 : t370 = true
      rotate_left
      ·replace c22 := Bool.eq_false_iff.mpr c22
       subst c22
       have H1 : (some false) = some r := by rw [if_neg (show ¬ (false = true) by decide)] at H; exact H
       clear H
       have H := H1
       clear H1
       obtain rfl := Option.some.inj H
       exact absurd hrt (by decide)
      subst c22
      have H1 : ((laws_equalInts.f k2 t369 t359).bind fun t375 => (if t375 = true then (some ((t365.size : Int) == x11_2)) else (some false))) = some r := by rw [if_pos rfl] at H; exact H
      clear H
      have H := H1
      clear H1
      replace H := Option.bind_eq_some_iff.mp H
      obtain ⟨t375, A230, H⟩ := H
      replace H : (if t375 = true then (some ((t365.size : Int) == x11_2)) else (some false)) = some r := H
      have A23 := aM A230
      clear A230
      by_cases c24 : t375 = true
      rotate_left
      ·replace c24 := Bool.eq_false_iff.mpr c24
       subst c24
       have H1 : (some false) = some r := by rw [if_neg (show ¬ (false = true) by decide)] at H; exact H
       clear H
       have H := H1
       clear H1
       obtain rfl := Option.some.inj H
       exact absurd hrt (by decide)
      subst c24
      have H1 : (some ((t365.size : Int) == x11_2)) = some r := by rw [if_pos rfl] at H; exact H
      clear H
      have H := H1
      clear H1
      obtain rfl := Option.some.inj H
      obtain ⟨Ao25, co25, rfl⟩ := sL HO_9
      go_wp2_with (first | (go_at_call 19; (with_reducible refine (laws_equalInts.calls k2 _ _ t369 _ _ t359 true _ ?side1 ?side2 ?side3 ?side4 A23.out).mono ?_); (case side1 => exact qC (Kd.R_reads' HO_9.out).2.2); (case side2 => exact (Kd.R_reads' HO_9.out).2.1); (case side3 => exact qC (Kd.Q_reads' HO_3.out).2.2); (case side4 => exact (Kd.Q_reads' HO_3.out).2.1); rintro e w' ⟨rfl, ⟨nd, rfl⟩⟩))
      go_ret
      exact ⟨qX, by exact qW HB.out⟩
     rw [if_pos c18] at H
     have c18b0 : decide (x12_2 < (t359.length : Int)) = true := decide_eq_true c18
     clear c18
     replace H := iD H
     obtain ⟨c19b0, H⟩ := H
     replace H := iD H
     obtain ⟨c20b0, H⟩ := H
     replace H := iD H
     obtain ⟨c21b0, H⟩ := H
     have H' := aM H
     clear H
     obtain ⟨ad373, e373, hx373_0⟩ := Kd.at_int (Kd.Q_reads' HO_3.out).2.2 x12_2 oD oD
     cases e373
     have p373 := eq_true (oD : 0 ≤ (x12_2 : Int))
     have q373 := eq_true (oD : x12_2 < (t359.length : Int))
     obtain ⟨ad374, e374, hx374_0⟩ := Kd.at_int (Kd.Q_reads' HO_4.out).2.2 (rd t359 x12_2) oD oD
     cases e374
     have p374 := eq_true (oD : 0 ≤ ((rd t359 x12_2) : Int))
     have q374 := eq_true (oD : (rd t359 x12_2) < (t360.length : Int))
     go_wp2
     go_roundg k2
     case measure => have := HJ5.out; have := HK2.out; omega
     case rel => exact ⟨(wrap64 (x11_2 + (rd t360 (rd t359 x12_2)))), (wrap64 (x12_2 + 1)), qE, qE, H', ⟨by have := HJ5.out; have := HK2.out; omega⟩, ⟨by (with_reducible repeat (first | apply Kd.Q_alloc | apply Kd.Q_drewN | apply Kd.Q_drew)); exact HO_3.out⟩, ⟨by (with_reducible repeat (first | apply Kd.Q_alloc | apply Kd.Q_drewN | apply Kd.Q_drew)); exact HO_4.out⟩, ⟨by refine qR ?_; exact HO_9.out⟩, ⟨by exact qW HB.out⟩⟩
def laws_FnEncodeSymbols.Pure : Prop := ∀ (l0 : List Int), l0.length ≤ maxLen → l0.length * 1 ≤ 140737488351232 → (∀ x ∈ l0, (Lit.int .u8 x).wf = true) → ∃ k, laws_FnEncodeSymbols.f k l0 = some true
theorem laws_FnEncodeSymbols.walk (P : laws_FnEncodeSymbols.Pure) (a0 : Option Addr) (len0 cap0 : Nat) (z0 : List Int) (w : World) (w0 : (a0 = none ∧ len0 = 0 ∧ cap0 = 0 ∧ z0 = []) ∨ ∃ x, a0 = some x ∧ len0 ≤ cap0 ∧ cap0 ≤ maxLen ∧ z0.length = cap0 ∧ (∀ i, i < z0.length → w.cell? (x.add i) = some (.int .u8 (z0.getD i 0))) ∧ ∀ n ∈ z0, (Lit.int .u8 n).wf = true) (y0 : len0 * 1 ≤ 140737488351232) :
  Calls Try.prog 4 #[.slice a0 len0 cap0] w fun e w' => e = .returned (.bool true) ∧ Below w.heap.size w w' := by
 obtain ⟨l0, rfl, hr0, hm0, hw0, hc0⟩ := ReadsInt.ofRowC w0
 obtain ⟨k, h⟩ := P l0 hm0 y0 hw0
 refine (laws_FnEncodeSymbols.calls k _ _ l0 true w (Kd.C_of_reads (d := (0 : Int)) (h1 := fun _ => rfl) hr0) hc0 h rfl).mono ?_
 rintro e w' ⟨rfl, hd⟩
 exact ⟨rfl, hd⟩
end Go.Proofs.Ytcmkijmjafgkfaa.P
