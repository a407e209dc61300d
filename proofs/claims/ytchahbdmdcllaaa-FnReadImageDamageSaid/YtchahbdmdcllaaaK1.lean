/- Contracts and row, written by a program of this place out of the translation: the call answers true and its argument reads as before, for every input; no condition. -/
import Derived.Test.YtchahbdmdcllaaaK0
namespace Go.Proofs.Ytchahbdmdcllaaa.P
open Go.RowKit Go.Proofs.YtchahbdmdcllaaaW.PrintWords Go.Proofs.YtchahbdmdcllaaaW.PrintLast Go.Proofs.YtchahbdmdcllaaaW.PrintMore
attribute [local go_sem] max2_int min2_int max_two min_two max_three min_three max_four min_four   -- for this text's walks alone
set_option linter.unusedVariables false
set_option linter.unusedSimpArgs false
def spec_inRange.f (a0 : Int) (a1 : Int) (a2 : Int) : Option (Bool) := if a1 ≤ a0 then (some (decide (a0 ≤ a2))) else (some false)
set_option maxHeartbeats 8000000 in
set_option maxRecDepth 100000 in
theorem spec_inRange.calls (a0 : Int) (a1 : Int) (a2 : Int) (r : Bool) (w : World) (h : spec_inRange.f a0 a1 a2 = some r) :
  Calls Try.prog 59 #[.int .i64 a0, .int .i64 a1, .int .i64 a2] w fun e w' => e = .returned (.bool r) ∧ Drawn0 w w' := by
 unfold spec_inRange.f at h
 have H := h
 clear h
 by_cases c4 : a1 ≤ a0
 ·rw [if_pos c4] at H
  have c4b0 : decide (a1 ≤ a0) = true := decide_eq_true c4
  clear c4
  obtain rfl := Option.some.inj H
  go_enter Try.func59, Try.ntmps59
  go_wp2
  go_ret
  exact ⟨qE, qD⟩
 rw [if_neg c4] at H
 have c4b0 : decide (a1 ≤ a0) = false := decide_eq_false c4
 clear c4
 obtain rfl := Option.some.inj H
 go_enter Try.func59, Try.ntmps59
 go_wp2
 go_ret
 exact ⟨qE, qD⟩
def spec_allIn.l0 : Nat → List Int → Int → Int → Int → Option (Bool)
 | 0, _, _, _, _ => none
 | k + 1, x0, x1, x2, x7 => if x7 < (x0.length : Int) then (if 0 ≤ x7 then ((spec_inRange.f (rd x0 x7) x1 x2).bind fun t102 => (if t102 = true then (spec_allIn.l0 k x0 x1 x2 (wrap64 (x7 + 1))) else (some false))) else (none)) else (some true)
def spec_allIn.f (k : Nat) (l0 : List Int) (a1 : Int) (a2 : Int) : Option (Bool) := spec_allIn.l0 k l0 a1 a2 0
theorem spec_allIn.mono_l : ∀ k, (∀ y0 y1 y2 y3, LeO (spec_allIn.l0 k y0 y1 y2 y3) (spec_allIn.l0 (k + 1) y0 y1 y2 y3))
 | 0 => fun _ _ _ _ r h => by simp [spec_allIn.l0] at h
 | k + 1 => by
  have ih0 := spec_allIn.mono_l k
  ·intro y0 y1 y2 y3
   unfold spec_allIn.l0
   repeat' first | (with_reducible first | exact ih0 _ _ _ _ | exact lR | exact lN | refine lI ?_ ?_ | refine lB ?_ fun _ => ?_) | exact ih0 _ _ _ _ | exact lN | refine lI ?_ ?_ | refine lB ?_ fun _ => ?_
theorem spec_allIn.mono : ∀ a0 a1 a2 k, LeO (spec_allIn.f k a0 a1 a2) (spec_allIn.f (k + 1) a0 a1 a2) := by
 intro a0 a1 a2 k
 have ih0 := spec_allIn.mono_l k
 unfold spec_allIn.f
 repeat' first | (with_reducible first | exact ih0 _ _ _ _ | exact lR | exact lN | refine lI ?_ ?_ | refine lB ?_ fun _ => ?_) | exact ih0 _ _ _ _ | exact lN | refine lI ?_ ?_ | refine lB ?_ fun _ => ?_
set_option maxHeartbeats 8000000 in
set_option maxRecDepth 100000 in
theorem spec_allIn.calls (k : Nat) (A0 : Option Addr) (c0 : Nat) (l0 : List Int) (a1 : Int) (a2 : Int) (r : Bool) (w : World) (hr0 : Kd.C (Kd.int .i64) w A0 l0.length l0) (hc0 : l0.length ≤ c0) (h : spec_allIn.f k l0 a1 a2 = some r) :
  Calls Try.prog 57 #[.slice A0 l0.length c0, .int .i64 a1, .int .i64 a2] w fun e w' => e = .returned (.bool r) ∧ Drawn0 w w' := by
 have HR0 := aM hr0
 have HC0 := aM hc0
 clear hr0 hc0
 unfold spec_allIn.f at h
 have H := h
 clear h
 have H' := aM H
 clear H
 go_enter Try.func57, Try.ntmps57
 go_wp2
 go_loopg [7] k (fun kq v7 w' => ∃ (x7_1 : Int), v7 = .int .i64 x7_1 ∧ Aside0 (spec_allIn.l0 kq l0 a1 a2 x7_1 = some r) ∧ Aside0 (kq ≤ k) ∧ Drawn0 w w')
 case atStart => exact ⟨(0), qE, H', ⟨Nat.le_refl _⟩, qD⟩
 case round =>
  clear H'
  obtain ⟨x7_1, rfl, HA, HK1, ⟨m1, rfl⟩⟩ := hrel
  cases gk with
  | zero => exact absurd HA.out (by simp [spec_allIn.l0])
  | succ k1 =>
   have H := HA.out
   clear HA
   simp only [spec_allIn.l0] at H
   by_cases c4 : x7_1 < (l0.length : Int)
   rotate_left
   ·rw [if_neg c4] at H
    have c4b0 : decide (x7_1 < (l0.length : Int)) = false := decide_eq_false c4
    clear c4
    obtain rfl := Option.some.inj H
    go_wp2
    go_ret
    exact ⟨qE, qD⟩
   rw [if_pos c4] at H
   have c4b0 : decide (x7_1 < (l0.length : Int)) = true := decide_eq_true c4
   clear c4
   replace H := iD H
   obtain ⟨c5b0, H⟩ := H
   replace H := Option.bind_eq_some_iff.mp H
   obtain ⟨t102, A60, H⟩ := H
   replace H : (if t102 = true then (spec_allIn.l0 k1 l0 a1 a2 (wrap64 (x7_1 + 1))) else (some false)) = some r := H
   have A6 := aM A60
   clear A60
   by_cases c7 : t102 = true
   rotate_left
   ·replace c7 := Bool.eq_false_iff.mpr c7
    subst c7
    have H1 : (some false) = some r := by rw [if_neg (show ¬ (false = true) by decide)] at H; exact H
    clear H
    have H := H1
    clear H1
    obtain rfl := Option.some.inj H
    obtain ⟨ad101, e101, hx101_0⟩ := Kd.at_int HR0.out x7_1 oD oD
    cases e101
    have p101 := eq_true (oD : 0 ≤ (x7_1 : Int))
    have q101 := eq_true (oD : x7_1 < (l0.length : Int))
    go_wp2_with (first | ((with_reducible refine gate_callee (f := 59) rfl ?_); refine gL (some 20) Try.func59 #[.int .i64 (rd l0 x7_1), .int .i64 a1, .int .i64 a2] ?_; (with_reducible refine (spec_inRange.calls (rd l0 x7_1) a1 a2 false _ A6.out).mono ?_); rintro e w' ⟨rfl, ⟨nd, rfl⟩⟩; refine ⟨_, rfl, ?_⟩))
    go_ret
    exact ⟨qE, qD⟩
   subst c7
   have H1 : (spec_allIn.l0 k1 l0 a1 a2 (wrap64 (x7_1 + 1))) = some r := by rw [if_pos rfl] at H; exact H
   clear H
   have H := H1
   clear H1
   have H' := aM H
   clear H
   obtain ⟨ad101, e101, hx101_0⟩ := Kd.at_int HR0.out x7_1 oD oD
   cases e101
   have p101 := eq_true (oD : 0 ≤ (x7_1 : Int))
   have q101 := eq_true (oD : x7_1 < (l0.length : Int))
   go_wp2_with (first | ((with_reducible refine gate_callee (f := 59) rfl ?_); refine gL (some 20) Try.func59 #[.int .i64 (rd l0 x7_1), .int .i64 a1, .int .i64 a2] ?_; (with_reducible refine (spec_inRange.calls (rd l0 x7_1) a1 a2 true _ A6.out).mono ?_); rintro e w' ⟨rfl, ⟨nd, rfl⟩⟩; refine ⟨_, rfl, ?_⟩))
   go_roundg k1
   case measure => have := HK1.out; omega
   case rel => exact ⟨(wrap64 (x7_1 + 1)), qE, H', ⟨by have := HK1.out; omega⟩, qD⟩
def laws_toIntS.l0 : Nat → List Int → List Int → Int → Option (List Int)
 | 0, _, _, _ => none
 | k + 1, x0, x3, x4 => if x4 < (x0.length : Int) then (if 0 ≤ x4 then (if x4 < (x3.length : Int) then (laws_toIntS.l0 k x0 (x3.set (x4 : Int).toNat (rd x0 x4)) (wrap64 (x4 + 1))) else (none)) else (none)) else (some x3)
def laws_toIntS.f (k : Nat) (l0 : List Int) : Option (List Int) := if 0 ≤ (l0.length : Int) then (if ((l0.length : Int) : Int).toNat ≤ 35184372088832 then (laws_toIntS.l0 k l0 (List.replicate ((l0.length : Int) : Int).toNat 0) 0) else (none)) else (none)
theorem laws_toIntS.mono_l : ∀ k, (∀ y0 y1 y2, LeO (laws_toIntS.l0 k y0 y1 y2) (laws_toIntS.l0 (k + 1) y0 y1 y2))
 | 0 => fun _ _ _ r h => by simp [laws_toIntS.l0] at h
 | k + 1 => by
  have ih0 := laws_toIntS.mono_l k
  ·intro y0 y1 y2
   unfold laws_toIntS.l0
   repeat' first | (with_reducible first | exact ih0 _ _ _ | exact lR | exact lN | refine lI ?_ ?_ | refine lB ?_ fun _ => ?_) | exact ih0 _ _ _ | exact lN | refine lI ?_ ?_ | refine lB ?_ fun _ => ?_
theorem laws_toIntS.mono : ∀ a0 k, LeO (laws_toIntS.f k a0) (laws_toIntS.f (k + 1) a0) := by
 intro a0 k
 have ih0 := laws_toIntS.mono_l k
 unfold laws_toIntS.f
 repeat' first | (with_reducible first | exact ih0 _ _ _ | exact lR | exact lN | refine lI ?_ ?_ | refine lB ?_ fun _ => ?_) | exact ih0 _ _ _ | exact lN | refine lI ?_ ?_ | refine lB ?_ fun _ => ?_
set_option maxHeartbeats 8000000 in
set_option maxRecDepth 100000 in
theorem laws_toIntS.calls (k : Nat) (A0 : Option Addr) (c0 : Nat) (l0 : List Int) (r : List Int) (w : World) (hr0 : Kd.C (Kd.int .i64) w A0 l0.length l0) (hc0 : l0.length ≤ c0) (h : laws_toIntS.f k l0 = some r) :
  Calls Try.prog 13 #[.slice A0 l0.length c0] w fun e w' => ∃ v0_ : Value, e = .returned (v0_) ∧ Kd.R (Kd.int .i64) 3 w' w.heap.size (fun _ => True) v0_ r ∧ Below w.heap.size w w' := by
 have HR0 := aM hr0
 have HC0 := aM hc0
 clear hr0 hc0
 have HB := aM (Below.refl w.heap.size w)
 unfold laws_toIntS.f at h
 have H := h
 clear h
 replace H := iS H
 obtain ⟨c2, H⟩ := H
 have c2b0 := eq_true c2
 have c2b1 : decide (0 ≤ (l0.length : Int)) = true := decide_eq_true c2
 clear c2
 replace H := iS H
 obtain ⟨c3, H⟩ := H
 have c3b0 := eq_true c3
 have c3b1 : decide (((l0.length : Int) : Int).toNat ≤ 35184372088832) = true := decide_eq_true c3
 clear c3
 obtain ⟨y339, hy339⟩ : ∃ y_ : List Int, y_ = (List.replicate ((l0.length : Int) : Int).toNat 0) := ⟨_, rfl⟩
 replace H : (laws_toIntS.l0 k l0 y339 0) = some r := rY hy339 H
 have Ny339 := aM hy339
 clear hy339
 have H' := aM H
 clear H
 go_enter Try.func13, Try.ntmps13
 go_wp2_with (first | ((with_reducible refine gate_dst (N := 7) rfl ?_); refine Kd.R_make (Kd.int .i64) _ 3 rfl (N := 7) rfl 22 _ _ rfl (l0.length : Int) rfl rfl Try.underlying22 (.int .i64 0) 8 info3 rfl (by decide) (by omega) 0 (ok := fun _ => True) (okp := fun _ => True) rfl (fun _ hk => hk) trivial oD (Nat.le_trans (Nat.mul_le_mul_right _ (oD : (l0.length : Int).toNat ≤ 35184372088832)) (by omega)) (Below.refl _ _) (Nat.le_refl _) ?_; intro v340 w4 ho5 hb hg_ hnew_; clear hg_ hnew_; (first | rw [← Ny339.out] at ho5 | (simp only [Int.reduceToNat] at ho5; rw [← Ny339.out] at ho5)); have HO341 := oR ho5 HB; replace HB := bS HB hb; clear hb ho5))
 go_loopg [4] k (fun kq v4 w' => ∃ (x3_1 : List Int) (x4_1 : Int), v4 = .int .i64 x4_1 ∧ Aside0 (laws_toIntS.l0 kq l0 x3_1 x4_1 = some r) ∧ Aside0 (kq ≤ k) ∧ Aside0 (Kd.R (Kd.int .i64) 3 w' w.heap.size (fun _ => True) v340 x3_1) ∧ Aside0 (Below w.heap.size w w'))
 case atStart => exact ⟨(y339), (0), qE, H', ⟨Nat.le_refl _⟩, ⟨by refine qR ?_; exact HO341.out⟩, ⟨by exact qW HB.out⟩⟩
 case round =>
  clear H'
  try clear c2
  try clear c2b0
  try clear c2b1
  try clear c3
  try clear c3b0
  try clear c3b1
  obtain ⟨x3_1, x4_1, rfl, HA, HK1, HO_3, HB⟩ := hrel
  cases gk with
  | zero => exact absurd HA.out (by simp [laws_toIntS.l0])
  | succ k1 =>
   have H := HA.out
   clear HA
   simp only [laws_toIntS.l0] at H
   by_cases c6 : x4_1 < (l0.length : Int)
   rotate_left
   ·rw [if_neg c6] at H
    have c6b0 : decide (x4_1 < (l0.length : Int)) = false := decide_eq_false c6
    clear c6
    obtain rfl := Option.some.inj H
    go_wp2
    go_ret
    exact ⟨_, qX, by refine qR ?_; exact HO_3.out, by exact qW HB.out⟩
   rw [if_pos c6] at H
   have c6b0 : decide (x4_1 < (l0.length : Int)) = true := decide_eq_true c6
   clear c6
   replace H := iD H
   obtain ⟨c7b0, H⟩ := H
   replace H := iD H
   obtain ⟨c8b0, H⟩ := H
   obtain ⟨y343, hy343⟩ : ∃ y_ : List Int, y_ = (x3_1.set (x4_1 : Int).toNat (rd l0 x4_1)) := ⟨_, rfl⟩
   replace H : (laws_toIntS.l0 k1 l0 y343 (wrap64 (x4_1 + 1))) = some r := rY hy343 H
   have Ny343 := aM hy343
   clear hy343
   have H' := aM H
   clear H
   obtain ⟨ad342, e342, hx342_0⟩ := Kd.at_int HR0.out x4_1 oD oD
   cases e342
   replace hx342_0 := bD HB hx342_0
   have p342 := eq_true (oD : 0 ≤ (x4_1 : Int))
   have q342 := eq_true (oD : x4_1 < (l0.length : Int))
   have p9 : 0 ≤ (x4_1 : Int) := oD
   have q9 : (x4_1 : Int) < ((x3_1.length : Int) : Int) := oD
   obtain ⟨go9, co9, eo9, gb9, gl9, cl9, HG9⟩ := Kd.R_form HO_3.out (by omega)
   (first | cases eo9 | (injection eo9 with ea_ en_ ec_; (first | subst ea_ | (injection ea_ with ea_; subst ea_)); subst ec_; clear en_))
   have GB9 := aM gb9
   have GG9 := aM HG9
   clear gb9 gl9 HG9
   obtain ⟨hx9_0, hf9_0⟩ := Kd.R_celln 0 HO_3.out (x4_1 : Int) p9 q9
   replace p9 := eq_true p9
   replace q9 := eq_true q9
   have HP10 := Kd.R_putg HO_3.out (x4_1 : Int) (rd l0 x4_1)
   go_wp2_with (first | ((with_reducible refine gate_store (t := 3) (p := 20) rfl ?_); refine store_event (t := 3) (p := 20) (v := ?vo_w11) (w1 := (wr.setCell ⟨go9, (x4_1 : Int).toNat, none⟩ (.int .i64 (rd l0 x4_1)))) ?hg ?ho ?hn ?hr ?_; (case ho => rfl); (case hg => rfl); (case hn => rfl); (case hr => first | (go_simp; done) | (go_simp; rfl)); intro w11 hw; have hg : wr.grownBy w11 (some go9) := (by rw [hw]; exact HP10.2); have hp_ : Kd.R (Kd.int .i64) 3 w11 w.heap.size (fun _ => True) (.slice (some ⟨go9, 0, none⟩) x3_1.length co9) y343 := (by rw [hw, Ny343.out]; exact HP10.1); clear HP10; replace HO_3 := aM (hp_); replace HB := aM ((by rw [hw]; exact below_set (HB.out) GB9.out : Below w.heap.size w w11)); clear hg hw hp_))
   go_roundg k1
   case measure => have := HK1.out; omega
   case rel => exact ⟨(y343), (wrap64 (x4_1 + 1)), qE, H', ⟨by have := HK1.out; omega⟩, ⟨by refine qR ?_; exact HO_3.out⟩, ⟨by exact qW HB.out⟩⟩
def idxOf (p : Int → Bool) (l : List Int) : Int := if l.any p = true then (l.findIdx p : Int) else -1
theorem idxOf_hit (p : Int → Bool) (l : List Int) (k : Nat) (hk : k < l.length) (h : p (l.getD k 0) = true) (hn : ∀ j, j < k → p (l.getD j 0) = false) : idxOf p l = k := by
 have hx : l.findIdx p = k := by
  rw [List.findIdx_eq hk]
  refine ⟨by simpa [List.getD_eq_getElem?_getD, List.getElem?_eq_getElem hk] using h, fun j hj => ?_⟩
  have := hn j hj
  simpa [List.getD_eq_getElem?_getD, List.getElem?_eq_getElem (show j < l.length by omega)] using this
 have ha : l.any p = true := List.any_eq_true.2 ⟨l[k], List.getElem_mem hk, by simpa [List.getD_eq_getElem?_getD, List.getElem?_eq_getElem hk] using h⟩
 unfold idxOf
 rw [if_pos ha, hx]
theorem idxOf_miss (p : Int → Bool) (l : List Int) (hn : ∀ j, j < l.length → p (l.getD j 0) = false) : idxOf p l = -1 := by
 have ha : ¬ (l.any p = true) := by
  intro h
  obtain ⟨x, hx, hp⟩ := List.any_eq_true.1 h
  obtain ⟨j, hj, rfl⟩ := List.getElem_of_mem hx
  have := hn j hj
  simp [List.getD_eq_getElem?_getD, List.getElem?_eq_getElem hj, hp] at this
 unfold idxOf
 rw [if_neg ha]
theorem idxOf_nonneg (p : Int → Bool) (l : List Int) : decide (0 ≤ idxOf p l) = l.any p := by
 unfold idxOf
 cases h : l.any p <;> simp
def PredI (g : Nat) (lb : Array Value) (p : Int → Bool) (w : World) : Prop :=
 ∀ (W : World) (x : Int), Below w.heap.size w W → Calls Try.prog g (#[.int .i64 x] ++ lb) W fun e w' => e = .returned (.bool (p x)) ∧ Drawn0 W w'
set_option maxHeartbeats 8000000 in
set_option maxRecDepth 100000 in
theorem indexFuncInt.calls (g : Nat) (lb : Array Value) (eg : ∀ args w, (callFunc g args).run Try.prog w = .ok (.enter g args) w) (p : Int → Bool) (A0 : Option Addr) (c0 : Nat) (l0 : List Int) (w : World)
  (hp : PredI g lb p w) (hr0 : Kd.C (Kd.int .i64) w A0 l0.length l0) (hc0 : l0.length ≤ c0) :
  Calls Try.prog 90 #[.slice A0 l0.length c0, .func (.func g) #[] lb] w fun e w' => e = .returned (.int .i64 (idxOf p l0)) ∧ Drawn0 w w' := by
 have hm : l0.length ≤ 9223372036854775807 := Kd.C_max hr0
 have HR0 := aM hr0
 have HP := aM hp
 clear hr0 hp
 go_enter Try.func90, Try.ntmps90
 go_wp2
 go_loopg [5, 8] l0.length (fun gg _ s8 wr => ∃ kk q : Nat, kk ≤ l0.length ∧ l0.length - kk ≤ gg ∧ s8 = .int .i64 kk ∧ wr = w.drewN q ∧ Aside0 (∀ j, j < kk → p (l0.getD j 0) = false))
 case atStart => exact ⟨0, 0, Nat.zero_le _, by omega, rfl, rfl, ⟨fun j hj => absurd hj (Nat.not_lt_zero _)⟩⟩
 case round =>
  obtain ⟨kk, q, hkk, hg, rfl, rfl, NO⟩ := hrel
  by_cases hlt : kk < l0.length
  rotate_left
  ·have hltz : ¬ (kk : Int) < (l0.length : Int) := by omega
   have : kk = l0.length := by omega
   subst this
   go_wp2
   go_ret
   refine ⟨?_, ⟨⟨q, rfl⟩⟩⟩
   rw [idxOf_miss p l0 NO.out]
   rfl
  have hltz : (kk : Int) < (l0.length : Int) := by omega
  obtain ⟨ad, e1, hcell⟩ := Kd.at_int HR0.out (kk : Int) (by omega) hltz
  cases e1
  simp only [Int.toNat_natCast] at hcell
  have hb : Below w.heap.size w (w.drewN q) := pw_below_drewN (Below.refl _ _) q
  have hcall := HP.out (w.drewN q) (rd l0 kk) hb
  have hrd : rd l0 (kk : Int) = l0.getD kk 0 := by simp [rd]
  have HRD := aM hrd
  clear hrd hb
  cases hq : p (rd l0 kk) with
  | true =>
   rw [hq] at hcall
   have HQ := aM hq
   clear hq
   go_wp2_with (go_at_fn g; refine hcall.mono ?_; rintro e w' ⟨rfl, ⟨q', rfl⟩⟩)
   go_ret
   refine ⟨?_, ⟨⟨q + q', by first | rfl | rw [World.drewN_drewN]⟩⟩⟩
   rw [idxOf_hit p l0 kk hlt (by rw [← HRD.out]; exact HQ.out) NO.out]
   rfl
  | false =>
   rw [hq] at hcall
   have HQ := aM hq
   clear hq
   go_wp2_with (go_at_fn g; refine hcall.mono ?_; rintro e w' ⟨rfl, ⟨q', rfl⟩⟩)
   go_roundg (l0.length - (kk + 1))
   case measure => omega
   case rel =>
    refine ⟨kk + 1, q + q', by omega, by omega, by go_num, by first | rfl | rw [World.drewN_drewN], ⟨fun j hj => ?_⟩⟩
    by_cases e : j = kk
    rotate_left
    ·exact NO.out j (by omega)
    subst e
    rw [← HRD.out]; exact HQ.out
set_option maxHeartbeats 8000000 in
set_option maxRecDepth 100000 in
theorem containsFuncInt.calls (g : Nat) (lb : Array Value) (eg : ∀ args w, (callFunc g args).run Try.prog w = .ok (.enter g args) w) (p : Int → Bool) (A0 : Option Addr) (c0 : Nat) (l0 : List Int) (w : World)
  (hp : PredI g lb p w) (hr0 : Kd.C (Kd.int .i64) w A0 l0.length l0) (hc0 : l0.length ≤ c0) :
  Calls Try.prog 82 #[.slice A0 l0.length c0, .func (.func g) #[] lb] w fun e w' => e = .returned (.bool (l0.any p)) ∧ Drawn0 w w' := by
 rw [← idxOf_nonneg p l0]
 go_enter Try.func82, Try.ntmps82
 go_wp2_with (go_at_call 90; refine (indexFuncInt.calls g lb eg p _ _ l0 _ hp hr0 hc0).mono ?_; rintro e w' ⟨rfl, ⟨q, rfl⟩⟩)
 go_ret
 exact ⟨rfl, ⟨⟨q, rfl⟩⟩⟩
theorem areBytesTest (w : World) : PredI 83 #[] (fun n => decide (n < 0) || decide (255 < n)) w := fun W x _ => by
 by_cases h1 : x < 0
 ·have e : ((fun n : Int => decide (n < 0) || decide (255 < n)) x) = true := by show (decide (x < 0) || decide (255 < x)) = _; rw [decide_eq_true h1]; rfl
  rw [e]
  go_enter Try.func83, Try.ntmps83
  go_wp2
  go_ret
  exact ⟨rfl, Drawn0.refl _⟩
 ·have e : ((fun n : Int => decide (n < 0) || decide (255 < n)) x) = decide (255 < x) := by show (decide (x < 0) || decide (255 < x)) = _; rw [decide_eq_false h1]; rfl
  rw [e]
  go_enter Try.func83, Try.ntmps83
  go_wp2
  go_ret
  exact ⟨rfl, Drawn0.refl _⟩
def impl_areBytes.f (l0 : List Int) : Option (Bool) := some (!(l0.any fun n => decide (n < 0) || decide (255 < n)))
set_option maxHeartbeats 8000000 in
set_option maxRecDepth 100000 in
theorem impl_areBytes.calls (A0 : Option Addr) (c0 : Nat) (l0 : List Int) (r : Bool) (w : World) (hr0 : Kd.C (Kd.int .i64) w A0 l0.length l0) (hc0 : l0.length ≤ c0) (h : impl_areBytes.f l0 = some r) :
  Calls Try.prog 66 #[.slice A0 l0.length c0] w fun e w' => e = .returned (.bool r) ∧ Drawn0 w w' := by
 obtain rfl := Option.some.inj h
 clear h
 have hC := containsFuncInt.calls 83 #[] (enters_of Try.func83 (by kernel_rfl) rfl) (fun n => decide (n < 0) || decide (255 < n)) A0 c0 l0 w (areBytesTest w) hr0 hc0
 generalize (l0.any fun n => decide (n < 0) || decide (255 < n)) = b at hC ⊢
 go_enter Try.func66, Try.ntmps66
 go_wp2_with (go_at_call 82; refine hC.mono ?_; rintro e w' ⟨rfl, ⟨q, rfl⟩⟩)
 go_ret
 exact ⟨rfl, ⟨⟨q, rfl⟩⟩⟩
def laws_eqIntS.l0 : Nat → List Int → List Int → Int → Option (Bool)
 | 0, _, _, _ => none
 | k + 1, x0, x1, x5 => if x5 < (x0.length : Int) then (if 0 ≤ x5 then (if x5 < (x1.length : Int) then (if (rd x0 x5) = (rd x1 x5) then (laws_eqIntS.l0 k x0 x1 (wrap64 (x5 + 1))) else (some false)) else (none)) else (none)) else (some true)
def laws_eqIntS.f (k : Nat) (l0 : List Int) (l1 : List Int) : Option (Bool) := if (l0.length : Int) = (l1.length : Int) then (laws_eqIntS.l0 k l0 l1 0) else (some false)
theorem laws_eqIntS.mono_l : ∀ k, (∀ y0 y1 y2, LeO (laws_eqIntS.l0 k y0 y1 y2) (laws_eqIntS.l0 (k + 1) y0 y1 y2))
 | 0 => fun _ _ _ r h => by simp [laws_eqIntS.l0] at h
 | k + 1 => by
  have ih0 := laws_eqIntS.mono_l k
  ·intro y0 y1 y2
   unfold laws_eqIntS.l0
   repeat' first | (with_reducible first | exact ih0 _ _ _ | exact lR | exact lN | refine lI ?_ ?_ | refine lB ?_ fun _ => ?_) | exact ih0 _ _ _ | exact lN | refine lI ?_ ?_ | refine lB ?_ fun _ => ?_
theorem laws_eqIntS.mono : ∀ a0 a1 k, LeO (laws_eqIntS.f k a0 a1) (laws_eqIntS.f (k + 1) a0 a1) := by
 intro a0 a1 k
 have ih0 := laws_eqIntS.mono_l k
 unfold laws_eqIntS.f
 repeat' first | (with_reducible first | exact ih0 _ _ _ | exact lR | exact lN | refine lI ?_ ?_ | refine lB ?_ fun _ => ?_) | exact ih0 _ _ _ | exact lN | refine lI ?_ ?_ | refine lB ?_ fun _ => ?_
set_option maxHeartbeats 8000000 in
set_option maxRecDepth 100000 in
theorem laws_eqIntS.calls (k : Nat) (A0 : Option Addr) (c0 : Nat) (l0 : List Int) (A1 : Option Addr) (c1 : Nat) (l1 : List Int) (r : Bool) (w : World) (hr0 : Kd.C (Kd.int .i64) w A0 l0.length l0) (hc0 : l0.length ≤ c0) (hr1 : Kd.C (Kd.int .i64) w A1 l1.length l1) (hc1 : l1.length ≤ c1) (h : laws_eqIntS.f k l0 l1 = some r) :
  Calls Try.prog 16 #[.slice A0 l0.length c0, .slice A1 l1.length c1] w fun e w' => e = .returned (.bool r) ∧ Drawn0 w w' := by
 have HR0 := aM hr0
 have HC0 := aM hc0
 clear hr0 hc0
 have HR1 := aM hr1
 have HC1 := aM hc1
 clear hr1 hc1
 unfold laws_eqIntS.f at h
 have H := h
 clear h
 by_cases c3 : (l0.length : Int) = (l1.length : Int)
 rotate_left
 ·rw [if_neg c3] at H
  have c3b0 : ((l0.length : Int) == (l1.length : Int)) = false := beq_eq_false_iff_ne.mpr c3
  have c3b1 : ((l0.length : Int) != (l1.length : Int)) = true := bne_iff_ne.mpr c3
  have c3b2 : (l0.length == l1.length) = false := by first | simpa using c3 | (simp at c3 ⊢; omega)
  obtain rfl := Option.some.inj H
  go_enter Try.func16, Try.ntmps16
  go_wp2
  repeat (go_quiet (fail); try go_wp2)
  go_ret
  exact ⟨qE, qD⟩
 rw [if_pos c3] at H
 have c3b0 : ((l0.length : Int) == (l1.length : Int)) = true := beq_iff_eq.mpr c3
 have c3b1 : ((l0.length : Int) != (l1.length : Int)) = false := bne_eq_false_iff_eq.mpr c3
 have c3b2 : (l0.length == l1.length) = true := by first | simpa using c3 | (simp at c3 ⊢; omega)
 clear c3
 have H' := aM H
 clear H
 go_enter Try.func16, Try.ntmps16
 go_wp2
 repeat (go_quiet (fail); try go_wp2)
 go_loopg [5] k (fun kq v5 w' => ∃ (x5_1 : Int), v5 = .int .i64 x5_1 ∧ Aside0 (laws_eqIntS.l0 kq l0 l1 x5_1 = some r) ∧ Aside0 (kq ≤ k) ∧ Drawn0 w w')
 case atStart => exact ⟨(0), qE, H', ⟨Nat.le_refl _⟩, qD⟩
 case round =>
  clear H'
  try clear c1
  try clear c3
  try clear c3b0
  try clear c3b1
  try clear c3b2
  obtain ⟨x5_1, rfl, HA, HK1, ⟨m1, rfl⟩⟩ := hrel
  cases gk with
  | zero => exact absurd HA.out (by simp [laws_eqIntS.l0])
  | succ k1 =>
   have H := HA.out
   clear HA
   simp only [laws_eqIntS.l0] at H
   by_cases c4 : x5_1 < (l0.length : Int)
   rotate_left
   ·rw [if_neg c4] at H
    have c4b0 : decide (x5_1 < (l0.length : Int)) = false := decide_eq_false c4
    clear c4
    obtain rfl := Option.some.inj H
    go_wp2
    repeat (go_quiet (fail); try go_wp2)
    go_ret
    exact ⟨qE, qD⟩
   rw [if_pos c4] at H
   have c4b0 : decide (x5_1 < (l0.length : Int)) = true := decide_eq_true c4
   clear c4
   replace H := iD H
   obtain ⟨c5b0, H⟩ := H
   replace H := iD H
   obtain ⟨c6b0, H⟩ := H
   by_cases c7 : (rd l0 x5_1) = (rd l1 x5_1)
   rotate_left
   ·rw [if_neg c7] at H
    have c7b0 : ((rd l0 x5_1) == (rd l1 x5_1)) = false := beq_eq_false_iff_ne.mpr c7
    have c7b1 : ((rd l0 x5_1) != (rd l1 x5_1)) = true := bne_iff_ne.mpr c7
    obtain rfl := Option.some.inj H
    obtain ⟨ad520, e520, hx520_0⟩ := Kd.at_int HR0.out x5_1 oD oD
    cases e520
    have p520 := eq_true (oD : 0 ≤ (x5_1 : Int))
    have q520 := eq_true (oD : x5_1 < (l0.length : Int))
    obtain ⟨ad521, e521, hx521_0⟩ := Kd.at_int HR1.out x5_1 oD oD
    cases e521
    have p521 := eq_true (oD : 0 ≤ (x5_1 : Int))
    have q521 := eq_true (oD : x5_1 < (l1.length : Int))
    go_wp2
    repeat (go_quiet (fail); try go_wp2)
    go_ret
    exact ⟨qE, qD⟩
   rw [if_pos c7] at H
   have c7b0 : ((rd l0 x5_1) == (rd l1 x5_1)) = true := beq_iff_eq.mpr c7
   have c7b1 : ((rd l0 x5_1) != (rd l1 x5_1)) = false := bne_eq_false_iff_eq.mpr c7
   clear c7
   have H' := aM H
   clear H
   obtain ⟨ad520, e520, hx520_0⟩ := Kd.at_int HR0.out x5_1 oD oD
   cases e520
   have p520 := eq_true (oD : 0 ≤ (x5_1 : Int))
   have q520 := eq_true (oD : x5_1 < (l0.length : Int))
   obtain ⟨ad521, e521, hx521_0⟩ := Kd.at_int HR1.out x5_1 oD oD
   cases e521
   have p521 := eq_true (oD : 0 ≤ (x5_1 : Int))
   have q521 := eq_true (oD : x5_1 < (l1.length : Int))
   go_wp2
   repeat (go_quiet (fail); try go_wp2)
   go_roundg k1
   case measure => have := HK1.out; omega
   case rel => exact ⟨(wrap64 (x5_1 + 1)), qE, H', ⟨by have := HK1.out; omega⟩, qD⟩
def laws_markIntS.l0 : Nat → List Int → Int → Int → Option (Int × List Int)
 | 0, _, _, _ => none
 | k + 1, x0, x1, x5 => if x5 < (x0.length : Int) then (if 0 ≤ x5 then (laws_markIntS.l0 k (x0.set (x5 : Int).toNat x1) (wrap64 (x1 + 1)) (wrap64 (x5 + 1))) else (none)) else (some (x1, x0))
def laws_markIntS.f (k : Nat) (l0 : List Int) (a1 : Int) : Option (Int × List Int) := laws_markIntS.l0 k l0 a1 0
theorem laws_markIntS.mono_l : ∀ k, (∀ y0 y1 y2, LeO (laws_markIntS.l0 k y0 y1 y2) (laws_markIntS.l0 (k + 1) y0 y1 y2))
 | 0 => fun _ _ _ r h => by simp [laws_markIntS.l0] at h
 | k + 1 => by
  have ih0 := laws_markIntS.mono_l k
  ·intro y0 y1 y2
   unfold laws_markIntS.l0
   repeat' first | (with_reducible first | exact ih0 _ _ _ | exact lR | exact lN | refine lI ?_ ?_ | refine lB ?_ fun _ => ?_) | exact ih0 _ _ _ | exact lN | refine lI ?_ ?_ | refine lB ?_ fun _ => ?_
theorem laws_markIntS.mono : ∀ a0 a1 k, LeO (laws_markIntS.f k a0 a1) (laws_markIntS.f (k + 1) a0 a1) := by
 intro a0 a1 k
 have ih0 := laws_markIntS.mono_l k
 unfold laws_markIntS.f
 repeat' first | (with_reducible first | exact ih0 _ _ _ | exact lR | exact lN | refine lI ?_ ?_ | refine lB ?_ fun _ => ?_) | exact ih0 _ _ _ | exact lN | refine lI ?_ ?_ | refine lB ?_ fun _ => ?_
set_option maxHeartbeats 8000000 in
set_option maxRecDepth 100000 in
theorem laws_markIntS.calls (k : Nat) (P0_ : Nat → Prop) (u9000_ : Value) (l0 : List Int) (a1 : Int) (r1 : Int) (r2 : List Int) (w0 w : World) (hB : Below w0.heap.size w0 w) (ho0 : Kd.R (Kd.int .i64) 3 w w0.heap.size P0_ u9000_ l0) (h : laws_markIntS.f k l0 a1 = some (r1, r2)) :
  Calls Try.prog 17 #[u9000_, .int .i64 a1] w fun e w' => e = .returned (.int .i64 r1) ∧ Kd.R (Kd.int .i64) 3 w' w0.heap.size (fun k_ => (P0_ k_ ∨ w.heap.size ≤ k_)) u9000_ r2 ∧ Below w0.heap.size w0 w' ∧ Kept w w' (fun k_ => P0_ k_) := by
 have HO0 := aM (show Kd.R (Kd.int .i64) 3 w w0.heap.size (fun k_ => (P0_ k_ ∨ w.heap.size ≤ k_)) u9000_ l0 from Kd.R_mono ho0 (fun k_ hk => (.inl hk)))
 have HK := aM (Kept.refl w (fun k_ => P0_ k_))
 have HW0 := aM hB.size
 have HB := aM hB
 clear hB
 unfold laws_markIntS.f at h
 have H := h
 clear h
 have H' := aM H
 clear H
 go_enter Try.func17, Try.ntmps17
 go_wp2
 go_loopg [1, 5] k (fun kq v1 v5 w' => ∃ (x0_1 : List Int) (x1_1 : Int) (x5_1 : Int), v1 = .int .i64 x1_1 ∧ v5 = .int .i64 x5_1 ∧ Aside0 (laws_markIntS.l0 kq x0_1 x1_1 x5_1 = some (r1, r2)) ∧ Aside0 (kq ≤ k) ∧ Aside0 (Kd.R (Kd.int .i64) 3 w' w0.heap.size (fun k_ => (P0_ k_ ∨ w.heap.size ≤ k_)) u9000_ x0_1) ∧ Aside0 (Kept w w' (fun k_ => P0_ k_)) ∧ Aside0 (Below w0.heap.size w0 w'))
 case atStart => exact ⟨(l0), (a1), (0), qE, qE, H', ⟨Nat.le_refl _⟩, ⟨by refine qR ?_; exact HO0.out⟩, ⟨kP HK.out⟩, ⟨by exact qW HB.out⟩⟩
 case round =>
  clear H'
  obtain ⟨x0_1, x1_1, x5_1, rfl, rfl, HA, HK1, HO_0, HK, HB⟩ := hrel
  cases gk with
  | zero => exact absurd HA.out (by simp [laws_markIntS.l0])
  | succ k1 =>
   have H := HA.out
   clear HA
   simp only [laws_markIntS.l0] at H
   by_cases c3 : x5_1 < (x0_1.length : Int)
   rotate_left
   ·rw [if_neg c3] at H
    have c3b0 : decide (x5_1 < (x0_1.length : Int)) = false := decide_eq_false c3
    clear c3
    simp only [Option.some.injEq, Prod.mk.injEq] at H
    obtain ⟨rfl, rfl⟩ := H
    obtain ⟨Ao9, co9, rfl⟩ := sL HO_0
    go_wp2
    go_ret
    exact ⟨qX, by refine qR ?_; exact HO_0.out, by exact qW HB.out, kP HK.out⟩
   rw [if_pos c3] at H
   have c3b0 : decide (x5_1 < (x0_1.length : Int)) = true := decide_eq_true c3
   clear c3
   replace H := iD H
   obtain ⟨c4b0, H⟩ := H
   obtain ⟨y525, hy525⟩ : ∃ y_ : List Int, y_ = (x0_1.set (x5_1 : Int).toNat x1_1) := ⟨_, rfl⟩
   replace H : (laws_markIntS.l0 k1 y525 (wrap64 (x1_1 + 1)) (wrap64 (x5_1 + 1))) = some (r1, r2) := rY hy525 H
   have Ny525 := aM hy525
   clear hy525
   have H' := aM H
   clear H
   obtain ⟨Ao6, co6, rfl⟩ := sL HO_0
   have p5 : 0 ≤ (x5_1 : Int) := oD
   have q5 : (x5_1 : Int) < ((x0_1.length : Int) : Int) := oD
   obtain ⟨go5, co5, eo5, gb5, gl5, cl5, HG5⟩ := Kd.R_form HO_0.out (by omega)
   (first | cases eo5 | (injection eo5 with ea_ en_ ec_; (first | subst ea_ | (injection ea_ with ea_; subst ea_)); subst ec_; clear en_))
   have GB5 := aM gb5
   have GG5 := aM HG5
   clear gb5 gl5 HG5
   have HMgo5 := aM (show (P0_ go5 ∨ w.heap.size ≤ go5) from (HO_0.out.1 _ rfl))
   obtain ⟨hx5_0, hf5_0⟩ := Kd.R_celln 0 HO_0.out (x5_1 : Int) p5 q5
   replace p5 := eq_true p5
   replace q5 := eq_true q5
   have HP7 := Kd.R_putg HO_0.out (x5_1 : Int) x1_1
   go_wp2_with (first | ((with_reducible refine gate_store (t := 3) (p := 15) rfl ?_); refine store_event (t := 3) (p := 15) (v := ?vo_w8) (w1 := (wr.setCell ⟨go5, (x5_1 : Int).toNat, none⟩ (.int .i64 x1_1))) ?hg ?ho ?hn ?hr ?_; (case ho => rfl); (case hg => rfl); (case hn => rfl); (case hr => first | (go_simp; done) | (go_simp; rfl)); intro w8 hw; have hg : wr.grownBy w8 (some go5) := (by rw [hw]; exact HP7.2); have hp_ : Kd.R (Kd.int .i64) 3 w8 w0.heap.size (fun k_ => (P0_ k_ ∨ w.heap.size ≤ k_)) (.slice (some ⟨go5, 0, none⟩) x0_1.length co6) y525 := (by rw [hw, Ny525.out]; exact HP7.1); clear HP7; replace HB := aM ((by rw [hw]; exact below_set (HB.out) GB5.out : Below w0.heap.size w0 w8)); replace HK := aM (Kept.of_grown (S := (fun k_ => P0_ k_)) hg (kP HK.out) (fun k_ e_ => (HO_0.out.1 k_ e_))); replace HO_0 := aM (hp_); clear hg hw hp_))
   go_roundg k1
   case measure => have := HK1.out; omega
   case rel => exact ⟨(y525), (wrap64 (x1_1 + 1)), (wrap64 (x5_1 + 1)), qE, qE, H', ⟨by have := HK1.out; omega⟩, ⟨by refine qR ?_; exact HO_0.out⟩, ⟨kP HK.out⟩, ⟨by exact qW HB.out⟩⟩
def laws_heldIntS.l0 : Nat → List Int → Int → Int → Option (Int)
 | 0, _, _, _ => none
 | k + 1, x0, x1, x5 => if x5 < (x0.length : Int) then (if 0 ≤ x5 then (if (rd x0 x5) = x1 then (laws_heldIntS.l0 k x0 (wrap64 (x1 + 1)) (wrap64 (x5 + 1))) else (some (-1))) else (none)) else (some x1)
def laws_heldIntS.f (k : Nat) (l0 : List Int) (a1 : Int) : Option (Int) := laws_heldIntS.l0 k l0 a1 0
theorem laws_heldIntS.mono_l : ∀ k, (∀ y0 y1 y2, LeO (laws_heldIntS.l0 k y0 y1 y2) (laws_heldIntS.l0 (k + 1) y0 y1 y2))
 | 0 => fun _ _ _ r h => by simp [laws_heldIntS.l0] at h
 | k + 1 => by
  have ih0 := laws_heldIntS.mono_l k
  ·intro y0 y1 y2
   unfold laws_heldIntS.l0
   repeat' first | (with_reducible first | exact ih0 _ _ _ | exact lR | exact lN | refine lI ?_ ?_ | refine lB ?_ fun _ => ?_) | exact ih0 _ _ _ | exact lN | refine lI ?_ ?_ | refine lB ?_ fun _ => ?_
theorem laws_heldIntS.mono : ∀ a0 a1 k, LeO (laws_heldIntS.f k a0 a1) (laws_heldIntS.f (k + 1) a0 a1) := by
 intro a0 a1 k
 have ih0 := laws_heldIntS.mono_l k
 unfold laws_heldIntS.f
 repeat' first | (with_reducible first | exact ih0 _ _ _ | exact lR | exact lN | refine lI ?_ ?_ | refine lB ?_ fun _ => ?_) | exact ih0 _ _ _ | exact lN | refine lI ?_ ?_ | refine lB ?_ fun _ => ?_
set_option maxHeartbeats 8000000 in
set_option maxRecDepth 100000 in
theorem laws_heldIntS.calls (k : Nat) (A0 : Option Addr) (c0 : Nat) (l0 : List Int) (a1 : Int) (r : Int) (w : World) (hr0 : Kd.C (Kd.int .i64) w A0 l0.length l0) (hc0 : l0.length ≤ c0) (h : laws_heldIntS.f k l0 a1 = some r) :
  Calls Try.prog 28 #[.slice A0 l0.length c0, .int .i64 a1] w fun e w' => e = .returned (.int .i64 r) ∧ Drawn0 w w' := by
 have HR0 := aM hr0
 have HC0 := aM hc0
 clear hr0 hc0
 unfold laws_heldIntS.f at h
 have H := h
 clear h
 have H' := aM H
 clear H
 go_enter Try.func28, Try.ntmps28
 go_wp2
 go_loopg [1, 5] k (fun kq v1 v5 w' => ∃ (x1_1 : Int) (x5_1 : Int), v1 = .int .i64 x1_1 ∧ v5 = .int .i64 x5_1 ∧ Aside0 (laws_heldIntS.l0 kq l0 x1_1 x5_1 = some r) ∧ Aside0 (kq ≤ k) ∧ Drawn0 w w')
 case atStart => exact ⟨(a1), (0), qE, qE, H', ⟨Nat.le_refl _⟩, qD⟩
 case round =>
  clear H'
  obtain ⟨x1_1, x5_1, rfl, rfl, HA, HK1, ⟨m1, rfl⟩⟩ := hrel
  cases gk with
  | zero => exact absurd HA.out (by simp [laws_heldIntS.l0])
  | succ k1 =>
   have H := HA.out
   clear HA
   simp only [laws_heldIntS.l0] at H
   by_cases c3 : x5_1 < (l0.length : Int)
   rotate_left
   ·rw [if_neg c3] at H
    have c3b0 : decide (x5_1 < (l0.length : Int)) = false := decide_eq_false c3
    clear c3
    obtain rfl := Option.some.inj H
    go_wp2
    go_ret
    exact ⟨qE, qD⟩
   rw [if_pos c3] at H
   have c3b0 : decide (x5_1 < (l0.length : Int)) = true := decide_eq_true c3
   clear c3
   replace H := iD H
   obtain ⟨c4b0, H⟩ := H
   by_cases c5 : (rd l0 x5_1) = x1_1
   rotate_left
   ·rw [if_neg c5] at H
    have c5b0 : ((rd l0 x5_1) == x1_1) = false := beq_eq_false_iff_ne.mpr c5
    have c5b1 : ((rd l0 x5_1) != x1_1) = true := bne_iff_ne.mpr c5
    obtain rfl := Option.some.inj H
    obtain ⟨ad529, e529, hx529_0⟩ := Kd.at_int HR0.out x5_1 oD oD
    cases e529
    have p529 := eq_true (oD : 0 ≤ (x5_1 : Int))
    have q529 := eq_true (oD : x5_1 < (l0.length : Int))
    go_wp2
    go_ret
    exact ⟨qE, qD⟩
   rw [if_pos c5] at H
   have c5b0 : ((rd l0 x5_1) == x1_1) = true := beq_iff_eq.mpr c5
   have c5b1 : ((rd l0 x5_1) != x1_1) = false := bne_eq_false_iff_eq.mpr c5
   clear c5
   have H' := aM H
   clear H
   obtain ⟨ad529, e529, hx529_0⟩ := Kd.at_int HR0.out x5_1 oD oD
   cases e529
   have p529 := eq_true (oD : 0 ≤ (x5_1 : Int))
   have q529 := eq_true (oD : x5_1 < (l0.length : Int))
   go_wp2
   go_roundg k1
   case measure => have := HK1.out; omega
   case rel => exact ⟨(wrap64 (x1_1 + 1)), (wrap64 (x5_1 + 1)), qE, qE, H', ⟨by have := HK1.out; omega⟩, qD⟩
def laws_equalInts.l0 : Nat → List Int → List Int → Int → Option (Bool)
 | 0, _, _, _ => none
 | k + 1, x0, x1, x5 => if x5 < (x0.length : Int) then (if 0 ≤ x5 then (if x5 < (x1.length : Int) then (if (rd x0 x5) = (rd x1 x5) then (laws_equalInts.l0 k x0 x1 (wrap64 (x5 + 1))) else (some false)) else (none)) else (none)) else (some true)
def laws_equalInts.f (k : Nat) (l0 : List Int) (l1 : List Int) : Option (Bool) := if (l0.length : Int) = (l1.length : Int) then (laws_equalInts.l0 k l0 l1 0) else (some false)
theorem laws_equalInts.mono_l : ∀ k, (∀ y0 y1 y2, LeO (laws_equalInts.l0 k y0 y1 y2) (laws_equalInts.l0 (k + 1) y0 y1 y2))
 | 0 => fun _ _ _ r h => by simp [laws_equalInts.l0] at h
 | k + 1 => by
  have ih0 := laws_equalInts.mono_l k
  ·intro y0 y1 y2
   unfold laws_equalInts.l0
   repeat' first | (with_reducible first | exact ih0 _ _ _ | exact lR | exact lN | refine lI ?_ ?_ | refine lB ?_ fun _ => ?_) | exact ih0 _ _ _ | exact lN | refine lI ?_ ?_ | refine lB ?_ fun _ => ?_
theorem laws_equalInts.mono : ∀ a0 a1 k, LeO (laws_equalInts.f k a0 a1) (laws_equalInts.f (k + 1) a0 a1) := by
 intro a0 a1 k
 have ih0 := laws_equalInts.mono_l k
 unfold laws_equalInts.f
 repeat' first | (with_reducible first | exact ih0 _ _ _ | exact lR | exact lN | refine lI ?_ ?_ | refine lB ?_ fun _ => ?_) | exact ih0 _ _ _ | exact lN | refine lI ?_ ?_ | refine lB ?_ fun _ => ?_
set_option maxHeartbeats 8000000 in
set_option maxRecDepth 100000 in
theorem laws_equalInts.calls (k : Nat) (A0 : Option Addr) (c0 : Nat) (l0 : List Int) (A1 : Option Addr) (c1 : Nat) (l1 : List Int) (r : Bool) (w : World) (hr0 : Kd.C (Kd.int .i64) w A0 l0.length l0) (hc0 : l0.length ≤ c0) (hr1 : Kd.C (Kd.int .i64) w A1 l1.length l1) (hc1 : l1.length ≤ c1) (h : laws_equalInts.f k l0 l1 = some r) :
  Calls Try.prog 23 #[.slice A0 l0.length c0, .slice A1 l1.length c1] w fun e w' => e = .returned (.bool r) ∧ Drawn0 w w' := by
 have HR0 := aM hr0
 have HC0 := aM hc0
 clear hr0 hc0
 have HR1 := aM hr1
 have HC1 := aM hc1
 clear hr1 hc1
 unfold laws_equalInts.f at h
 have H := h
 clear h
 by_cases c3 : (l0.length : Int) = (l1.length : Int)
 rotate_left
 ·rw [if_neg c3] at H
  have c3b0 : ((l0.length : Int) == (l1.length : Int)) = false := beq_eq_false_iff_ne.mpr c3
  have c3b1 : ((l0.length : Int) != (l1.length : Int)) = true := bne_iff_ne.mpr c3
  have c3b2 : (l0.length == l1.length) = false := by first | simpa using c3 | (simp at c3 ⊢; omega)
  obtain rfl := Option.some.inj H
  go_enter Try.func23, Try.ntmps23
  go_wp2
  repeat (go_quiet (fail); try go_wp2)
  go_ret
  exact ⟨qE, qD⟩
 rw [if_pos c3] at H
 have c3b0 : ((l0.length : Int) == (l1.length : Int)) = true := beq_iff_eq.mpr c3
 have c3b1 : ((l0.length : Int) != (l1.length : Int)) = false := bne_eq_false_iff_eq.mpr c3
 have c3b2 : (l0.length == l1.length) = true := by first | simpa using c3 | (simp at c3 ⊢; omega)
 clear c3
 have H' := aM H
 clear H
 go_enter Try.func23, Try.ntmps23
 go_wp2
 repeat (go_quiet (fail); try go_wp2)
 go_loopg [5] k (fun kq v5 w' => ∃ (x5_1 : Int), v5 = .int .i64 x5_1 ∧ Aside0 (laws_equalInts.l0 kq l0 l1 x5_1 = some r) ∧ Aside0 (kq ≤ k) ∧ Drawn0 w w')
 case atStart => exact ⟨(0), qE, H', ⟨Nat.le_refl _⟩, qD⟩
 case round =>
  clear H'
  try clear c1
  try clear c3
  try clear c3b0
  try clear c3b1
  try clear c3b2
  obtain ⟨x5_1, rfl, HA, HK1, ⟨m1, rfl⟩⟩ := hrel
  cases gk with
  | zero => exact absurd HA.out (by simp [laws_equalInts.l0])
  | succ k1 =>
   have H := HA.out
   clear HA
   simp only [laws_equalInts.l0] at H
   by_cases c4 : x5_1 < (l0.length : Int)
   rotate_left
   ·rw [if_neg c4] at H
    have c4b0 : decide (x5_1 < (l0.length : Int)) = false := decide_eq_false c4
    clear c4
    obtain rfl := Option.some.inj H
    go_wp2
    repeat (go_quiet (fail); try go_wp2)
    go_ret
    exact ⟨qE, qD⟩
   rw [if_pos c4] at H
   have c4b0 : decide (x5_1 < (l0.length : Int)) = true := decide_eq_true c4
   clear c4
   replace H := iD H
   obtain ⟨c5b0, H⟩ := H
   replace H := iD H
   obtain ⟨c6b0, H⟩ := H
   by_cases c7 : (rd l0 x5_1) = (rd l1 x5_1)
   rotate_left
   ·rw [if_neg c7] at H
    have c7b0 : ((rd l0 x5_1) == (rd l1 x5_1)) = false := beq_eq_false_iff_ne.mpr c7
    have c7b1 : ((rd l0 x5_1) != (rd l1 x5_1)) = true := bne_iff_ne.mpr c7
    obtain rfl := Option.some.inj H
    obtain ⟨ad717, e717, hx717_0⟩ := Kd.at_int HR0.out x5_1 oD oD
    cases e717
    have p717 := eq_true (oD : 0 ≤ (x5_1 : Int))
    have q717 := eq_true (oD : x5_1 < (l0.length : Int))
    obtain ⟨ad718, e718, hx718_0⟩ := Kd.at_int HR1.out x5_1 oD oD
    cases e718
    have p718 := eq_true (oD : 0 ≤ (x5_1 : Int))
    have q718 := eq_true (oD : x5_1 < (l1.length : Int))
    go_wp2
    repeat (go_quiet (fail); try go_wp2)
    go_ret
    exact ⟨qE, qD⟩
   rw [if_pos c7] at H
   have c7b0 : ((rd l0 x5_1) == (rd l1 x5_1)) = true := beq_iff_eq.mpr c7
   have c7b1 : ((rd l0 x5_1) != (rd l1 x5_1)) = false := bne_eq_false_iff_eq.mpr c7
   clear c7
   have H' := aM H
   clear H
   obtain ⟨ad717, e717, hx717_0⟩ := Kd.at_int HR0.out x5_1 oD oD
   cases e717
   have p717 := eq_true (oD : 0 ≤ (x5_1 : Int))
   have q717 := eq_true (oD : x5_1 < (l0.length : Int))
   obtain ⟨ad718, e718, hx718_0⟩ := Kd.at_int HR1.out x5_1 oD oD
   cases e718
   have p718 := eq_true (oD : 0 ≤ (x5_1 : Int))
   have q718 := eq_true (oD : x5_1 < (l1.length : Int))
   go_wp2
   repeat (go_quiet (fail); try go_wp2)
   go_roundg k1
   case measure => have := HK1.out; omega
   case rel => exact ⟨(wrap64 (x5_1 + 1)), qE, H', ⟨by have := HK1.out; omega⟩, qD⟩
def spec_matchLength.l0 : Nat → List Int → Int → Int → Int → Option (Int)
 | 0, _, _, _, _ => none
 | k + 1, x0, x1, x2, x7 => if x7 < 18 then (if (wrap64 (x1 + x7)) < (x0.length : Int) then (if 0 ≤ (wrap64 (x1 + x7)) then (if 0 ≤ (wrap64 ((wrap64 (x1 + x7)) - x2)) then (if (wrap64 ((wrap64 (x1 + x7)) - x2)) < (x0.length : Int) then (if (rd x0 (wrap64 (x1 + x7))) = (rd x0 (wrap64 ((wrap64 (x1 + x7)) - x2))) then (spec_matchLength.l0 k x0 x1 x2 (wrap64 (x7 + 1))) else (some x7)) else (none)) else (none)) else (none)) else (some x7)) else (some x7)
def spec_matchLength.f (k : Nat) (l0 : List Int) (a1 : Int) (a2 : Int) : Option (Int) := spec_matchLength.l0 k l0 a1 a2 0
theorem spec_matchLength.mono_l : ∀ k, (∀ y0 y1 y2 y3, LeO (spec_matchLength.l0 k y0 y1 y2 y3) (spec_matchLength.l0 (k + 1) y0 y1 y2 y3))
 | 0 => fun _ _ _ _ r h => by simp [spec_matchLength.l0] at h
 | k + 1 => by
  have ih0 := spec_matchLength.mono_l k
  ·intro y0 y1 y2 y3
   unfold spec_matchLength.l0
   repeat' first | (with_reducible first | exact ih0 _ _ _ _ | exact lR | exact lN | refine lI ?_ ?_ | refine lB ?_ fun _ => ?_) | exact ih0 _ _ _ _ | exact lN | refine lI ?_ ?_ | refine lB ?_ fun _ => ?_
theorem spec_matchLength.mono : ∀ a0 a1 a2 k, LeO (spec_matchLength.f k a0 a1 a2) (spec_matchLength.f (k + 1) a0 a1 a2) := by
 intro a0 a1 a2 k
 have ih0 := spec_matchLength.mono_l k
 unfold spec_matchLength.f
 repeat' first | (with_reducible first | exact ih0 _ _ _ _ | exact lR | exact lN | refine lI ?_ ?_ | refine lB ?_ fun _ => ?_) | exact ih0 _ _ _ _ | exact lN | refine lI ?_ ?_ | refine lB ?_ fun _ => ?_
set_option maxHeartbeats 8000000 in
set_option maxRecDepth 100000 in
theorem spec_matchLength.calls (k : Nat) (A0 : Option Addr) (c0 : Nat) (l0 : List Int) (a1 : Int) (a2 : Int) (r : Int) (w : World) (hr0 : Kd.C (Kd.int .i64) w A0 l0.length l0) (hc0 : l0.length ≤ c0) (h : spec_matchLength.f k l0 a1 a2 = some r) :
  Calls Try.prog 89 #[.slice A0 l0.length c0, .int .i64 a1, .int .i64 a2] w fun e w' => e = .returned (.int .i64 r) ∧ Drawn0 w w' := by
 have HR0 := aM hr0
 have HC0 := aM hc0
 clear hr0 hc0
 unfold spec_matchLength.f at h
 have H := h
 clear h
 have H' := aM H
 clear H
 go_enter Try.func89, Try.ntmps89
 go_wp2
 repeat (go_quiet (fail); try go_wp2)
 go_loopg [7] k (fun kq v7 w' => ∃ (x7_1 : Int), v7 = .int .i64 x7_1 ∧ Aside0 (spec_matchLength.l0 kq l0 a1 a2 x7_1 = some r) ∧ Aside0 (kq ≤ k) ∧ Drawn0 w w')
 case atStart => exact ⟨(0), qE, H', ⟨Nat.le_refl _⟩, qD⟩
 case round =>
  clear H'
  obtain ⟨x7_1, rfl, HA, HK1, ⟨m1, rfl⟩⟩ := hrel
  cases gk with
  | zero => exact absurd HA.out (by simp [spec_matchLength.l0])
  | succ k1 =>
   have H := HA.out
   clear HA
   simp only [spec_matchLength.l0] at H
   by_cases c4 : x7_1 < 18
   rotate_left
   ·rw [if_neg c4] at H
    have c4b0 : decide (x7_1 < 18) = false := decide_eq_false c4
    clear c4
    obtain rfl := Option.some.inj H
    go_wp2
    repeat (go_quiet (fail); try go_wp2)
    go_ret
    exact ⟨qE, qD⟩
   rw [if_pos c4] at H
   have c4b0 : decide (x7_1 < 18) = true := decide_eq_true c4
   clear c4
   by_cases c5 : (wrap64 (a1 + x7_1)) < (l0.length : Int)
   rotate_left
   ·rw [if_neg c5] at H
    have c5b0 : decide ((wrap64 (a1 + x7_1)) < (l0.length : Int)) = false := decide_eq_false c5
    clear c5
    obtain rfl := Option.some.inj H
    go_wp2
    repeat (go_quiet (fail); try go_wp2)
    go_ret
    exact ⟨qE, qD⟩
   rw [if_pos c5] at H
   have c5b0 : decide ((wrap64 (a1 + x7_1)) < (l0.length : Int)) = true := decide_eq_true c5
   clear c5
   obtain ⟨ji6, hji6⟩ : ∃ j_ : Int, (wrap64 (a1 + x7_1)) = j_ := ⟨_, rfl⟩
   replace H : (if 0 ≤ (ji6) then (if 0 ≤ (wrap64 ((ji6) - a2)) then (if (wrap64 ((ji6) - a2)) < (l0.length : Int) then (if (rd l0 (ji6)) = (rd l0 (wrap64 ((ji6) - a2))) then (spec_matchLength.l0 k1 l0 a1 a2 (wrap64 (x7_1 + 1))) else (some x7_1)) else (none)) else (none)) else (none)) = some r := by first | (rw [hji6] at H; exact H) | (simp only [hji6] at H ⊢; exact H)
   (try rw [hji6] at c5b0)
   have hji6w : (IntKind.i64.wrap (a1 + x7_1)) = ji6 := (i64_w _).trans hji6
   replace H := iD H
   obtain ⟨c7b0, H⟩ := H
   obtain ⟨ji8, hji8⟩ : ∃ j_ : Int, (wrap64 ((ji6) - a2)) = j_ := ⟨_, rfl⟩
   replace H : (if 0 ≤ (ji8) then (if (ji8) < (l0.length : Int) then (if (rd l0 (ji6)) = (rd l0 (ji8)) then (spec_matchLength.l0 k1 l0 a1 a2 (wrap64 (x7_1 + 1))) else (some x7_1)) else (none)) else (none)) = some r := by first | (rw [hji8] at H; exact H) | (simp only [hji8] at H ⊢; exact H)
   have hji8w : (IntKind.i64.wrap ((ji6) - a2)) = ji8 := (i64_w _).trans hji8
   replace H := iD H
   obtain ⟨c9b0, H⟩ := H
   replace H := iD H
   obtain ⟨c10b0, H⟩ := H
   by_cases c11 : (rd l0 (ji6)) = (rd l0 (ji8))
   rotate_left
   ·rw [if_neg c11] at H
    have c11b0 : ((rd l0 (ji6)) == (rd l0 (ji8))) = false := beq_eq_false_iff_ne.mpr c11
    have c11b1 : ((rd l0 (ji6)) != (rd l0 (ji8))) = true := bne_iff_ne.mpr c11
    obtain rfl := Option.some.inj H
    obtain ⟨ad249, e249, hx249_0⟩ := Kd.at_int HR0.out (ji6) oD oD
    cases e249
    have p249 := eq_true (oD : 0 ≤ ((ji6) : Int))
    have q249 := eq_true (oD : (ji6) < (l0.length : Int))
    obtain ⟨ad250, e250, hx250_0⟩ := Kd.at_int HR0.out (ji8) oD oD
    obtain rfl : ad249 = ad250 := (by injection e250)
    have p250 := eq_true (oD : 0 ≤ ((ji8) : Int))
    have q250 := eq_true (oD : (ji8) < (l0.length : Int))
    go_wp2
    repeat (go_quiet (fail); try go_wp2)
    go_ret
    exact ⟨by first | rfl | (simp; done) | (simp only [← hji6, ← hji8] <;> (first | rfl | simp)) | (simp [*]; done), qD⟩
   rw [if_pos c11] at H
   have c11b0 : ((rd l0 (ji6)) == (rd l0 (ji8))) = true := beq_iff_eq.mpr c11
   have c11b1 : ((rd l0 (ji6)) != (rd l0 (ji8))) = false := bne_eq_false_iff_eq.mpr c11
   clear c11
   have H' := aM H
   clear H
   obtain ⟨ad249, e249, hx249_0⟩ := Kd.at_int HR0.out (ji6) oD oD
   cases e249
   have p249 := eq_true (oD : 0 ≤ ((ji6) : Int))
   have q249 := eq_true (oD : (ji6) < (l0.length : Int))
   obtain ⟨ad250, e250, hx250_0⟩ := Kd.at_int HR0.out (ji8) oD oD
   obtain rfl : ad249 = ad250 := (by injection e250)
   have p250 := eq_true (oD : 0 ≤ ((ji8) : Int))
   have q250 := eq_true (oD : (ji8) < (l0.length : Int))
   go_wp2
   repeat (go_quiet (fail); try go_wp2)
   go_roundg k1
   case measure => have := HK1.out; omega
   case rel => exact ⟨(wrap64 (x7_1 + 1)), qE, H', ⟨by have := HK1.out; omega⟩, qD⟩
mutual
def spec_longest.l0 : Nat → List Int → Int → Int → Int → Int → Option (Int × Int)
 | 0, _, _, _, _, _ => none
 | k + 1, x0, x1, x6, x7, x8 => if x8 ≤ x1 then (spec_longest.j1 k x0 x1 x6 x7 x8 (decide (x8 ≤ 64))) else (spec_longest.j1 k x0 x1 x6 x7 x8 false)
def spec_longest.j1 : Nat → List Int → Int → Int → Int → Int → Bool → Option (Int × Int)
 | 0, _, _, _, _, _, _ => none
 | k + 1, x0, x1, x6, x7, x8, x16 => if x16 = true then ((spec_matchLength.f k x0 x1 x8).bind fun t251 => (if t251 > x6 then (spec_longest.l0 k x0 x1 t251 x8 (wrap64 (x8 + 1))) else (spec_longest.l0 k x0 x1 x6 x7 (wrap64 (x8 + 1))))) else (if x6 < 3 then (some (0, 0)) else (some (x6, x7)))
end
def spec_longest.f (k : Nat) (l0 : List Int) (a1 : Int) : Option (Int × Int) := spec_longest.l0 k l0 a1 0 0 1
theorem spec_longest.mono_l : ∀ k, (∀ y0 y1 y2 y3 y4, LeO (spec_longest.l0 k y0 y1 y2 y3 y4) (spec_longest.l0 (k + 1) y0 y1 y2 y3 y4)) ∧ (∀ y0 y1 y2 y3 y4 y5, LeO (spec_longest.j1 k y0 y1 y2 y3 y4 y5) (spec_longest.j1 (k + 1) y0 y1 y2 y3 y4 y5))
 | 0 => ⟨fun _ _ _ _ _ r h => by simp [spec_longest.l0] at h, fun _ _ _ _ _ _ r h => by simp [spec_longest.j1] at h⟩
 | k + 1 => by
  obtain ⟨ih0, ih1⟩ := spec_longest.mono_l k
  refine ⟨?_, ?_⟩
  all_goals intros
  all_goals first | unfold spec_longest.l0 | unfold spec_longest.j1
  all_goals repeat' first | (with_reducible first | exact ih0 _ _ _ _ _ | exact ih1 _ _ _ _ _ _ | exact spec_matchLength.mono _ _ _ _ | exact lR | exact lN | refine lI ?_ ?_ | refine lB ?_ fun _ => ?_) | exact ih0 _ _ _ _ _ | exact ih1 _ _ _ _ _ _ | exact spec_matchLength.mono _ _ _ _ | exact lN | refine lI ?_ ?_ | refine lB ?_ fun _ => ?_
theorem spec_longest.mono : ∀ a0 a1 k, LeO (spec_longest.f k a0 a1) (spec_longest.f (k + 1) a0 a1) := by
 intro a0 a1 k
 obtain ⟨ih0, ih1⟩ := spec_longest.mono_l k
 unfold spec_longest.f
 repeat' first | (with_reducible first | exact ih0 _ _ _ _ _ | exact ih1 _ _ _ _ _ _ | exact spec_matchLength.mono _ _ _ _ | exact lR | exact lN | refine lI ?_ ?_ | refine lB ?_ fun _ => ?_) | exact ih0 _ _ _ _ _ | exact ih1 _ _ _ _ _ _ | exact spec_matchLength.mono _ _ _ _ | exact lN | refine lI ?_ ?_ | refine lB ?_ fun _ => ?_
set_option maxHeartbeats 8000000 in
set_option maxRecDepth 100000 in
theorem spec_longest.calls (k : Nat) (A0 : Option Addr) (c0 : Nat) (l0 : List Int) (a1 : Int) (r1 : Int) (r2 : Int) (w : World) (hr0 : Kd.C (Kd.int .i64) w A0 l0.length l0) (hc0 : l0.length ≤ c0) (h : spec_longest.f k l0 a1 = some (r1, r2)) :
  Calls Try.prog 81 #[.slice A0 l0.length c0, .int .i64 a1] w fun e w' => e = .returned (.tuple #[.int .i64 r1, .int .i64 r2]) ∧ Drawn0 w w' := by
 have HR0 := aM hr0
 have HC0 := aM hc0
 clear hr0 hc0
 unfold spec_longest.f at h
 have H := h
 clear h
 have H' := aM H
 clear H
 go_enter Try.func81, Try.ntmps81
 go_wp2
 go_loopg [6, 7, 8] k (fun kq v6 v7 v8 w' => ∃ (x6_1 : Int) (x7_1 : Int) (x8_1 : Int), v6 = .int .i64 x6_1 ∧ v7 = .int .i64 x7_1 ∧ v8 = .int .i64 x8_1 ∧ Aside0 (spec_longest.l0 kq l0 a1 x6_1 x7_1 x8_1 = some (r1, r2)) ∧ Aside0 (kq ≤ k) ∧ Drawn0 w w')
 case atStart => exact ⟨(0), (0), (1), qE, qE, qE, H', ⟨Nat.le_refl _⟩, qD⟩
 case round =>
  clear H'
  obtain ⟨x6_1, x7_1, x8_1, rfl, rfl, rfl, HA, HK1, ⟨m1, rfl⟩⟩ := hrel
  cases gk with
  | zero => exact absurd HA.out (by simp [spec_longest.l0])
  | succ k1 =>
   have H := HA.out
   clear HA
   simp only [spec_longest.l0] at H
   have HC3 := aM H
   clear H
   go_upto_region 4 with (fail)
   go_cut [16] (fun v16 wc => ∃ (kq : Nat) (x16_2 : Bool), v16 = .bool x16_2 ∧ Aside0 (spec_longest.j1 kq l0 a1 x6_1 x7_1 x8_1 x16_2 = some (r1, r2)) ∧ Aside0 (kq ≤ k1) ∧ Drawn0 w wc)
   case first =>
    have H := HC3.out
    clear HC3
    by_cases c4 : x8_1 ≤ a1
    rotate_left
    ·rw [if_neg c4] at H
     have c4b0 : decide (x8_1 ≤ a1) = false := decide_eq_false c4
     clear c4
     (first | rw [c4b0] | (simp only [i64_w, i32_w]; rw [c4b0]) | skip)
     have H' := aM H
     clear H
     go_wp2
     go_meet
     case rel => exact ⟨_, (false), qE, H', ⟨by have := HK1.out; first | omega | exact Nat.le_refl _⟩, qD⟩
    rw [if_pos c4] at H
    have c4b0 : decide (x8_1 ≤ a1) = true := decide_eq_true c4
    clear c4
    (first | rw [c4b0] | (simp only [i64_w, i32_w]; rw [c4b0]) | skip)
    have H' := aM H
    clear H
    go_wp2
    go_meet
    case rel => exact ⟨_, (decide (x8_1 ≤ 64)), qE, H', ⟨by have := HK1.out; first | omega | exact Nat.le_refl _⟩, qD⟩
   case rest =>
    clear HC3
    try clear c4
    try clear c4b0
    obtain ⟨kq, x16_2, rfl, HA, HJ2, ⟨mc2, rfl⟩⟩ := hcut
    cases kq with
    | zero => exact absurd HA.out (by simp [spec_longest.j1])
    | succ kj2 =>
     have H := HA.out
     clear HA
     simp only [spec_longest.j1] at H
     by_cases c5 : x16_2 = true
     rotate_left
     ·replace c5 := Bool.eq_false_iff.mpr c5
      subst c5
      have H1 : (if x6_1 < 3 then (some (0, 0)) else (some (x6_1, x7_1))) = some (r1, r2) := by rw [if_neg (show ¬ (false = true) by decide)] at H; exact H
      clear H
      have H := H1
      clear H1
      by_cases c8 : x6_1 < 3
      ·rw [if_pos c8] at H
       have c8b0 : decide (x6_1 < 3) = true := decide_eq_true c8
       clear c8
       simp only [Option.some.injEq, Prod.mk.injEq] at H
       obtain ⟨rfl, rfl⟩ := H
       go_wp2
       go_ret2
       exact ⟨qE, qD⟩
      rw [if_neg c8] at H
      have c8b0 : decide (x6_1 < 3) = false := decide_eq_false c8
      clear c8
      simp only [Option.some.injEq, Prod.mk.injEq] at H
      obtain ⟨rfl, rfl⟩ := H
      go_wp2
      go_ret2
      exact ⟨qE, qD⟩
     subst c5
     have H1 : ((spec_matchLength.f kj2 l0 a1 x8_1).bind fun t251 => (if t251 > x6_1 then (spec_longest.l0 kj2 l0 a1 t251 x8_1 (wrap64 (x8_1 + 1))) else (spec_longest.l0 kj2 l0 a1 x6_1 x7_1 (wrap64 (x8_1 + 1))))) = some (r1, r2) := by rw [if_pos rfl] at H; exact H
     clear H
     have H := H1
     clear H1
     replace H := Option.bind_eq_some_iff.mp H
     obtain ⟨t251, A60, H⟩ := H
     replace H : (if t251 > x6_1 then (spec_longest.l0 kj2 l0 a1 t251 x8_1 (wrap64 (x8_1 + 1))) else (spec_longest.l0 kj2 l0 a1 x6_1 x7_1 (wrap64 (x8_1 + 1)))) = some (r1, r2) := H
     have A6 := aM A60
     clear A60
     by_cases c7 : t251 > x6_1
     ·rw [if_pos c7] at H
      have c7b0 : decide (x6_1 < t251) = true := decide_eq_true c7
      clear c7
      have H' := aM H
      clear H
      go_wp2_with (first | ((with_reducible refine gate_callee (f := 89) rfl ?_); refine gL (some 22) Try.func89 #[.slice A0 l0.length c0, .int .i64 a1, .int .i64 x8_1] ?_; (with_reducible refine (spec_matchLength.calls kj2 _ _ l0 a1 x8_1 t251 _ ?side1 ?side2 A6.out).mono ?_); (case side1 => exact qC HR0.out); (case side2 => exact HC0.out); rintro e w' ⟨rfl, ⟨nd, rfl⟩⟩; refine ⟨_, rfl, ?_⟩))
      go_roundg kj2
      case measure => have := HK1.out; have := HJ2.out; omega
      case rel => exact ⟨(t251), (x8_1), (wrap64 (x8_1 + 1)), qE, qE, qE, H', ⟨by have := HK1.out; have := HJ2.out; omega⟩, qD⟩
     rw [if_neg c7] at H
     have c7b0 : decide (x6_1 < t251) = false := decide_eq_false c7
     clear c7
     have H' := aM H
     clear H
     go_wp2_with (first | ((with_reducible refine gate_callee (f := 89) rfl ?_); refine gL (some 22) Try.func89 #[.slice A0 l0.length c0, .int .i64 a1, .int .i64 x8_1] ?_; (with_reducible refine (spec_matchLength.calls kj2 _ _ l0 a1 x8_1 t251 _ ?side1 ?side2 A6.out).mono ?_); (case side1 => exact qC HR0.out); (case side2 => exact HC0.out); rintro e w' ⟨rfl, ⟨nd, rfl⟩⟩; refine ⟨_, rfl, ?_⟩))
     go_roundg kj2
     case measure => have := HK1.out; have := HJ2.out; omega
     case rel => exact ⟨(x6_1), (x7_1), (wrap64 (x8_1 + 1)), qE, qE, qE, H', ⟨by have := HK1.out; have := HJ2.out; omega⟩, qD⟩
mutual
def spec_bestTokens.l0 : Nat → List Int → Int → List Int → List Int → Int → Option ((List (S54)))
 | 0, _, _, _, _, _ => none
 | k + 1, x0, x3, x4, x5, x6 => if x6 ≥ 0 then (if 0 ≤ (wrap64 (x6 + 1)) then (if (wrap64 (x6 + 1)) < (x4.length : Int) then (if 0 ≤ x6 then (if x6 < (x4.length : Int) then (if x6 < (x5.length : Int) then ((spec_longest.f k x0 x6).bind fun bt261 => (spec_bestTokens.l1 k x0 x3 (x4.set (x6 : Int).toNat (wrap64 (9 + (rd x4 (wrap64 (x6 + 1)))))) (x5.set (x6 : Int).toNat 0) x6 bt261.1 3)) else (none)) else (none)) else (none)) else (none)) else (none)) else (spec_bestTokens.l2 k x0 x3 x5 (([] : List (S54))) 0)
def spec_bestTokens.l1 : Nat → List Int → Int → List Int → List Int → Int → Int → Int → Option ((List (S54)))
 | 0, _, _, _, _, _, _, _ => none
 | k + 1, x0, x3, x4, x5, x6, x7, x9 => if x9 ≤ x7 then (if 0 ≤ (wrap64 (x6 + x9)) then (if (wrap64 (x6 + x9)) < (x4.length : Int) then (if 0 ≤ x6 then (if x6 < (x4.length : Int) then (if (wrap64 (11 + (rd x4 (wrap64 (x6 + x9))))) ≤ (rd x4 x6) then (if x6 < (x5.length : Int) then (spec_bestTokens.l1 k x0 x3 (x4.set (x6 : Int).toNat (wrap64 (11 + (rd x4 (wrap64 (x6 + x9)))))) (x5.set (x6 : Int).toNat x9) x6 x7 (wrap64 (x9 + 1))) else (none)) else (spec_bestTokens.l1 k x0 x3 x4 x5 x6 x7 (wrap64 (x9 + 1)))) else (none)) else (none)) else (none)) else (none)) else (spec_bestTokens.l0 k x0 x3 x4 x5 (wrap64 (x6 - 1)))
def spec_bestTokens.l2 : Nat → List Int → Int → List Int → List (S54) → Int → Option ((List (S54)))
 | 0, _, _, _, _, _ => none
 | k + 1, x0, x3, x5, x10, x11 => if x11 < x3 then (if 0 ≤ x11 then (if x11 < (x5.length : Int) then (if (rd x5 x11) = 0 then (if x11 < (x0.length : Int) then (if x10.length < 5864062014805 then (spec_bestTokens.l2 k x0 x3 x5 (x10 ++ [(⟨rd x0 x11, 0, 0⟩ : S54)]) (wrap64 (x11 + 1))) else (none)) else (none)) else ((spec_longest.f k x0 x11).bind fun bt276 => (if x10.length < 5864062014805 then (spec_bestTokens.l2 k x0 x3 x5 (x10 ++ [(⟨0, rd x5 x11, bt276.2⟩ : S54)]) (wrap64 (x11 + (rd x5 x11)))) else (none)))) else (none)) else (none)) else (some x10)
end
def spec_bestTokens.f (k : Nat) (l0 : List Int) : Option ((List (S54))) := if 0 ≤ (wrap64 ((l0.length : Int) + 1)) then (if (wrap64 ((l0.length : Int) + 1) : Int).toNat ≤ 35184372088832 then (spec_bestTokens.l0 k l0 (l0.length : Int) (List.replicate (wrap64 ((l0.length : Int) + 1) : Int).toNat 0) (List.replicate (wrap64 ((l0.length : Int) + 1) : Int).toNat 0) (wrap64 ((l0.length : Int) - 1))) else (none)) else (none)
theorem spec_bestTokens.mono_l : ∀ k, (∀ y0 y1 y2 y3 y4, LeO (spec_bestTokens.l0 k y0 y1 y2 y3 y4) (spec_bestTokens.l0 (k + 1) y0 y1 y2 y3 y4)) ∧ (∀ y0 y1 y2 y3 y4 y5 y6, LeO (spec_bestTokens.l1 k y0 y1 y2 y3 y4 y5 y6) (spec_bestTokens.l1 (k + 1) y0 y1 y2 y3 y4 y5 y6)) ∧ (∀ y0 y1 y2 y3 y4, LeO (spec_bestTokens.l2 k y0 y1 y2 y3 y4) (spec_bestTokens.l2 (k + 1) y0 y1 y2 y3 y4))
 | 0 => ⟨fun _ _ _ _ _ r h => by simp [spec_bestTokens.l0] at h, fun _ _ _ _ _ _ _ r h => by simp [spec_bestTokens.l1] at h, fun _ _ _ _ _ r h => by simp [spec_bestTokens.l2] at h⟩
 | k + 1 => by
  obtain ⟨ih0, ih1, ih2⟩ := spec_bestTokens.mono_l k
  refine ⟨?_, ?_, ?_⟩
  all_goals intros
  all_goals first | unfold spec_bestTokens.l0 | unfold spec_bestTokens.l1 | unfold spec_bestTokens.l2
  all_goals repeat' first | (with_reducible first | exact ih0 _ _ _ _ _ | exact ih1 _ _ _ _ _ _ _ | exact ih2 _ _ _ _ _ | exact spec_longest.mono _ _ _ | exact lR | exact lN | refine lI ?_ ?_ | refine lB ?_ fun _ => ?_) | exact ih0 _ _ _ _ _ | exact ih1 _ _ _ _ _ _ _ | exact ih2 _ _ _ _ _ | exact spec_longest.mono _ _ _ | exact lN | refine lI ?_ ?_ | refine lB ?_ fun _ => ?_
theorem spec_bestTokens.mono : ∀ a0 k, LeO (spec_bestTokens.f k a0) (spec_bestTokens.f (k + 1) a0) := by
 intro a0 k
 obtain ⟨ih0, ih1, ih2⟩ := spec_bestTokens.mono_l k
 unfold spec_bestTokens.f
 repeat' first | (with_reducible first | exact ih0 _ _ _ _ _ | exact ih1 _ _ _ _ _ _ _ | exact ih2 _ _ _ _ _ | exact spec_longest.mono _ _ _ | exact lR | exact lN | refine lI ?_ ?_ | refine lB ?_ fun _ => ?_) | exact ih0 _ _ _ _ _ | exact ih1 _ _ _ _ _ _ _ | exact ih2 _ _ _ _ _ | exact spec_longest.mono _ _ _ | exact lN | refine lI ?_ ?_ | refine lB ?_ fun _ => ?_
set_option maxHeartbeats 8000000 in
set_option maxRecDepth 100000 in
theorem spec_bestTokens.calls (k : Nat) (A0 : Option Addr) (c0 : Nat) (l0 : List Int) (r : List (S54)) (w : World) (hr0 : Kd.C (Kd.int .i64) w A0 l0.length l0) (hc0 : l0.length ≤ c0) (h : spec_bestTokens.f k l0 = some r) :
  Calls Try.prog 64 #[.slice A0 l0.length c0] w fun e w' => ∃ v0_ : Value, e = .returned (v0_) ∧ Kd.R k54 54 w' w.heap.size (fun _ => True) v0_ r ∧ Below w.heap.size w w' := by
 have hu54 := Try.underlying54
 have HR0 := aM hr0
 have HC0 := aM hc0
 clear hr0 hc0
 have HB := aM (Below.refl w.heap.size w)
 unfold spec_bestTokens.f at h
 have H := h
 clear h
 obtain ⟨ji2, hji2⟩ : ∃ j_ : Int, (wrap64 ((l0.length : Int) + 1)) = j_ := ⟨_, rfl⟩
 replace H : (if 0 ≤ (ji2) then (if (ji2 : Int).toNat ≤ 35184372088832 then (spec_bestTokens.l0 k l0 (l0.length : Int) (List.replicate (ji2 : Int).toNat 0) (List.replicate (ji2 : Int).toNat 0) (wrap64 ((l0.length : Int) - 1))) else (none)) else (none)) = some r := by first | (rw [hji2] at H; exact H) | (simp only [hji2] at H ⊢; exact H)
 have hji2w : (IntKind.i64.wrap ((l0.length : Int) + 1)) = ji2 := (i64_w _).trans hji2
 replace H := iS H
 obtain ⟨c3, H⟩ := H
 have c3b0 := eq_true c3
 have c3b1 : decide (0 ≤ (ji2)) = true := decide_eq_true c3
 clear c3
 replace H := iS H
 obtain ⟨c4, H⟩ := H
 have c4b0 := eq_true c4
 have c4b1 : decide ((ji2 : Int).toNat ≤ 35184372088832) = true := decide_eq_true c4
 clear c4
 obtain ⟨y252, hy252⟩ : ∃ y_ : List Int, y_ = (List.replicate (ji2 : Int).toNat 0) := ⟨_, rfl⟩
 replace H : (spec_bestTokens.l0 k l0 (l0.length : Int) y252 (List.replicate (ji2 : Int).toNat 0) (wrap64 ((l0.length : Int) - 1))) = some r := rY hy252 H
 have Ny252 := aM hy252
 clear hy252
 obtain ⟨y255, hy255⟩ : ∃ y_ : List Int, y_ = (List.replicate (ji2 : Int).toNat 0) := ⟨_, rfl⟩
 replace H : (spec_bestTokens.l0 k l0 (l0.length : Int) y252 y255 (wrap64 ((l0.length : Int) - 1))) = some r := rY hy255 H
 have Ny255 := aM hy255
 clear hy255
 have H' := aM H
 clear H
 go_enter Try.func64, Try.ntmps64
 go_wp2_with (first | ((with_reducible refine gate_dst (N := 18) rfl ?_); refine Kd.R_make (Kd.int .i64) _ 3 rfl (N := 18) rfl 22 _ _ rfl ji2 rfl rfl Try.underlying22 (.int .i64 0) 8 info3 rfl (by decide) (by omega) 0 (ok := fun _ => True) (okp := fun _ => True) rfl (fun _ hk => hk) trivial oD (Nat.le_trans (Nat.mul_le_mul_right _ (oD : ji2.toNat ≤ 35184372088832)) (by omega)) (Below.refl _ _) (Nat.le_refl _) ?_; intro v253 w5 ho6 hb hg_ hnew_; clear hg_ hnew_; (first | rw [← Ny252.out] at ho6 | (simp only [Int.reduceToNat] at ho6; rw [← Ny252.out] at ho6)); have HO254 := oR ho6 HB; replace HB := bS HB hb; clear hb ho6) | ((with_reducible refine gate_dst (N := 21) rfl ?_); refine Kd.R_make (Kd.int .i64) _ 3 rfl (N := 21) rfl 22 _ _ rfl ji2 rfl rfl Try.underlying22 (.int .i64 0) 8 info3 rfl (by decide) (by omega) 0 (ok := fun _ => True) (okp := fun _ => True) rfl (fun _ hk => hk) trivial oD (Nat.le_trans (Nat.mul_le_mul_right _ (oD : ji2.toNat ≤ 35184372088832)) (by omega)) (Below.refl _ _) (Nat.le_refl _) ?_; intro v256 w7 ho8 hb hg_ hnew_; clear hg_ hnew_; (first | rw [← Ny255.out] at ho8 | (simp only [Int.reduceToNat] at ho8; rw [← Ny255.out] at ho8)); have HO257 := nR ho8 HO254 HB; replace HO254 := aM (Kd.R_elder' (qR HO254.out) (Kd.R_base ho8) hb); replace HB := bS HB hb; clear hb ho8))
 repeat (go_quiet (first | ((with_reducible refine gate_dst (N := 18) rfl ?_); refine Kd.R_make (Kd.int .i64) _ 3 rfl (N := 18) rfl 22 _ _ rfl ji2 rfl rfl Try.underlying22 (.int .i64 0) 8 info3 rfl (by decide) (by omega) 0 (ok := fun _ => True) (okp := fun _ => True) rfl (fun _ hk => hk) trivial oD (Nat.le_trans (Nat.mul_le_mul_right _ (oD : ji2.toNat ≤ 35184372088832)) (by omega)) (Below.refl _ _) (Nat.le_refl _) ?_; intro v253 w5 ho6 hb hg_ hnew_; clear hg_ hnew_; (first | rw [← Ny252.out] at ho6 | (simp only [Int.reduceToNat] at ho6; rw [← Ny252.out] at ho6)); have HO254 := oR ho6 HB; replace HB := bS HB hb; clear hb ho6) | ((with_reducible refine gate_dst (N := 21) rfl ?_); refine Kd.R_make (Kd.int .i64) _ 3 rfl (N := 21) rfl 22 _ _ rfl ji2 rfl rfl Try.underlying22 (.int .i64 0) 8 info3 rfl (by decide) (by omega) 0 (ok := fun _ => True) (okp := fun _ => True) rfl (fun _ hk => hk) trivial oD (Nat.le_trans (Nat.mul_le_mul_right _ (oD : ji2.toNat ≤ 35184372088832)) (by omega)) (Below.refl _ _) (Nat.le_refl _) ?_; intro v256 w7 ho8 hb hg_ hnew_; clear hg_ hnew_; (first | rw [← Ny255.out] at ho8 | (simp only [Int.reduceToNat] at ho8; rw [← Ny255.out] at ho8)); have HO257 := nR ho8 HO254 HB; replace HO254 := aM (Kd.R_elder' (qR HO254.out) (Kd.R_base ho8) hb); replace HB := bS HB hb; clear hb ho8)); try go_wp2_with (first | ((with_reducible refine gate_dst (N := 18) rfl ?_); refine Kd.R_make (Kd.int .i64) _ 3 rfl (N := 18) rfl 22 _ _ rfl ji2 rfl rfl Try.underlying22 (.int .i64 0) 8 info3 rfl (by decide) (by omega) 0 (ok := fun _ => True) (okp := fun _ => True) rfl (fun _ hk => hk) trivial oD (Nat.le_trans (Nat.mul_le_mul_right _ (oD : ji2.toNat ≤ 35184372088832)) (by omega)) (Below.refl _ _) (Nat.le_refl _) ?_; intro v253 w5 ho6 hb hg_ hnew_; clear hg_ hnew_; (first | rw [← Ny252.out] at ho6 | (simp only [Int.reduceToNat] at ho6; rw [← Ny252.out] at ho6)); have HO254 := oR ho6 HB; replace HB := bS HB hb; clear hb ho6) | ((with_reducible refine gate_dst (N := 21) rfl ?_); refine Kd.R_make (Kd.int .i64) _ 3 rfl (N := 21) rfl 22 _ _ rfl ji2 rfl rfl Try.underlying22 (.int .i64 0) 8 info3 rfl (by decide) (by omega) 0 (ok := fun _ => True) (okp := fun _ => True) rfl (fun _ hk => hk) trivial oD (Nat.le_trans (Nat.mul_le_mul_right _ (oD : ji2.toNat ≤ 35184372088832)) (by omega)) (Below.refl _ _) (Nat.le_refl _) ?_; intro v256 w7 ho8 hb hg_ hnew_; clear hg_ hnew_; (first | rw [← Ny255.out] at ho8 | (simp only [Int.reduceToNat] at ho8; rw [← Ny255.out] at ho8)); have HO257 := nR ho8 HO254 HB; replace HO254 := aM (Kd.R_elder' (qR HO254.out) (Kd.R_base ho8) hb); replace HB := bS HB hb; clear hb ho8)))
 go_loopg [6] k (fun kq v6 w' => ∃ (x4_1 : List Int) (x5_1 : List Int) (x6_1 : Int), v6 = .int .i64 x6_1 ∧ Aside0 (spec_bestTokens.l0 kq l0 (l0.length : Int) x4_1 x5_1 x6_1 = some r) ∧ Aside0 (kq ≤ k) ∧ Aside0 (Kd.R (Kd.int .i64) 3 w' w.heap.size (fun k_ => some k_ ≠ (v256 : Value).ownBlock) v253 x4_1) ∧ Aside0 (Kd.R (Kd.int .i64) 3 w' w.heap.size (fun k_ => some k_ ≠ (v253 : Value).ownBlock) v256 x5_1) ∧ Aside0 (Below w.heap.size w w'))
 case atStart => exact ⟨(y252), (y255), (wrap64 ((l0.length : Int) - 1)), qE, H', ⟨Nat.le_refl _⟩, ⟨by refine qR ?_; exact Kd.R_mono HO254.out (fun _ hk => hk.2)⟩, ⟨by refine qR ?_; exact Kd.R_mono HO257.out (fun _ hk => hk.2)⟩, ⟨by exact qW HB.out⟩⟩
 case round =>
  clear H'
  try clear c3
  try clear c3b0
  try clear c3b1
  try clear c4
  try clear c4b0
  try clear c4b1
  obtain ⟨x4_1, x5_1, x6_1, rfl, HA, HK1, HO_4, HO_5, HB⟩ := hrel
  cases gk with
  | zero => exact absurd HA.out (by simp [spec_bestTokens.l0])
  | succ k1 =>
   have H := HA.out
   clear HA
   simp only [spec_bestTokens.l0] at H
   by_cases c9 : x6_1 ≥ 0
   rotate_left
   ·rw [if_neg c9] at H
    have c9b0 : decide (0 ≤ x6_1) = false := decide_eq_false c9
    clear c9
    obtain ⟨y268, hy268⟩ : ∃ y_ : List (S54), y_ = (([] : List (S54))) := ⟨_, rfl⟩
    replace H : (spec_bestTokens.l2 k1 l0 (l0.length : Int) x5_1 y268 0) = some r := rY hy268 H
    have Ny268 := aM hy268
    clear hy268
    have H' := aM H
    clear H
    go_wp2_with (first | ((with_reducible refine gate_dst (N := 77) rfl ?_); refine Kd.R_lit k54 _ 54 ?hg (N := 77) ?hd (xs := ([] : List (S54))) (inner := []) (ok := fun _ => True) (okp := fun _ => True) ?hr ?hp (fun _ hk => hk) trivial (Below.refl _ _) (Nat.le_refl _) (by simp) ?_; (case hd => rfl); (case hg => rfl); (case hr => first | (go_simp; done) | (go_simp; rfl)); (case hp => exact (Reps.none _ _)); intro v269 w38 ho39 hb hg_ hnew_; clear hg_ hnew_; (first | rw [← Ny268.out] at ho39 | (simp only [Int.reduceToNat] at ho39; rw [← Ny268.out] at ho39)); replace HO_4 := aM (Kd.R_below (qR HO_4.out) hb); replace HO_5 := aM (Kd.R_below (qR HO_5.out) hb); have HO270 := oR ho39 HB; replace HB := bS HB hb; clear hb ho39))
    repeat (go_quiet (first | ((with_reducible refine gate_dst (N := 77) rfl ?_); refine Kd.R_lit k54 _ 54 ?hg (N := 77) ?hd (xs := ([] : List (S54))) (inner := []) (ok := fun _ => True) (okp := fun _ => True) ?hr ?hp (fun _ hk => hk) trivial (Below.refl _ _) (Nat.le_refl _) (by simp) ?_; (case hd => rfl); (case hg => rfl); (case hr => first | (go_simp; done) | (go_simp; rfl)); (case hp => exact (Reps.none _ _)); intro v269 w38 ho39 hb hg_ hnew_; clear hg_ hnew_; (first | rw [← Ny268.out] at ho39 | (simp only [Int.reduceToNat] at ho39; rw [← Ny268.out] at ho39)); replace HO_4 := aM (Kd.R_below (qR HO_4.out) hb); replace HO_5 := aM (Kd.R_below (qR HO_5.out) hb); have HO270 := oR ho39 HB; replace HB := bS HB hb; clear hb ho39)); try go_wp2_with (first | ((with_reducible refine gate_dst (N := 77) rfl ?_); refine Kd.R_lit k54 _ 54 ?hg (N := 77) ?hd (xs := ([] : List (S54))) (inner := []) (ok := fun _ => True) (okp := fun _ => True) ?hr ?hp (fun _ hk => hk) trivial (Below.refl _ _) (Nat.le_refl _) (by simp) ?_; (case hd => rfl); (case hg => rfl); (case hr => first | (go_simp; done) | (go_simp; rfl)); (case hp => exact (Reps.none _ _)); intro v269 w38 ho39 hb hg_ hnew_; clear hg_ hnew_; (first | rw [← Ny268.out] at ho39 | (simp only [Int.reduceToNat] at ho39; rw [← Ny268.out] at ho39)); replace HO_4 := aM (Kd.R_below (qR HO_4.out) hb); replace HO_5 := aM (Kd.R_below (qR HO_5.out) hb); have HO270 := oR ho39 HB; replace HB := bS HB hb; clear hb ho39)))
    go_loopg [10, 11] k1 (fun kq v10 v11 w' => ∃ (x10_2 : List (S54)) (x11_2 : Int), v11 = .int .i64 x11_2 ∧ Aside0 (spec_bestTokens.l2 kq l0 (l0.length : Int) x5_1 x10_2 x11_2 = some r) ∧ Aside0 (kq ≤ k1) ∧ Aside0 (Kd.R (Kd.int .i64) 3 w' w.heap.size (fun _ => True) v256 x5_1) ∧ Aside0 (Kd.R k54 54 w' w.heap.size (fun _ => True) v10 x10_2) ∧ Aside0 (Below w.heap.size w w'))
    case atStart => exact ⟨(y268), (0), qE, H', ⟨Nat.le_refl _⟩, ⟨by refine qR ?_; exact Kd.R_mono HO_5.out (fun _ hk => trivial)⟩, ⟨by refine qR ?_; exact HO270.out⟩, ⟨by exact qW HB.out⟩⟩
    case round =>
     clear H'
     try clear c3
     try clear c3b0
     try clear c3b1
     try clear c4
     try clear c4b0
     try clear c4b1
     try clear c9
     try clear c9b0
     obtain ⟨x10_2, x11_2, rfl, HA, HK2, HO_5, HO_10, HB⟩ := hrel
     cases gk with
     | zero => exact absurd HA.out (by simp [spec_bestTokens.l2])
     | succ k2 =>
      have H := HA.out
      clear HA
      simp only [spec_bestTokens.l2] at H
      by_cases c40 : x11_2 < (l0.length : Int)
      rotate_left
      ·rw [if_neg c40] at H
       have c40b0 : decide (x11_2 < (l0.length : Int)) = false := decide_eq_false c40
       clear c40
       obtain rfl := Option.some.inj H
       go_wp2
       repeat (go_quiet (fail); try go_wp2)
       go_ret
       exact ⟨_, by first | rfl | (simp [errW_none, errW_some] <;> rfl) | (simp only [← hji2]; first | rfl | (simp [errW_none, errW_some] <;> rfl)) | (simp [*, errW_none, errW_some] <;> rfl), by refine qR ?_; exact HO_10.out, by exact qW HB.out⟩
      rw [if_pos c40] at H
      have c40b0 : decide (x11_2 < (l0.length : Int)) = true := decide_eq_true c40
      clear c40
      replace H := iD H
      obtain ⟨c41b0, H⟩ := H
      replace H := iD H
      obtain ⟨c42b0, H⟩ := H
      by_cases c43 : (rd x5_1 x11_2) = 0
      ·rw [if_pos c43] at H
       have c43b0 : ((rd x5_1 x11_2) == 0) = true := beq_iff_eq.mpr c43
       have c43b1 : ((rd x5_1 x11_2) != 0) = false := bne_eq_false_iff_eq.mpr c43
       clear c43
       replace H := iD H
       obtain ⟨c44b0, H⟩ := H
       replace H := iS H
       obtain ⟨c45, H⟩ := H
       have LMc45 := aM c45
       clear c45
       obtain ⟨y273, hy273⟩ : ∃ y_ : List (S54), y_ = (x10_2 ++ [(⟨rd l0 x11_2, 0, 0⟩ : S54)]) := ⟨_, rfl⟩
       replace H : (spec_bestTokens.l2 k2 l0 (l0.length : Int) x5_1 y273 (wrap64 (x11_2 + 1))) = some r := rY hy273 H
       have Ny273 := aM hy273
       clear hy273
       have H' := aM H
       clear H
       obtain ⟨Ao46, co46, rfl⟩ := sL HO_5
       obtain ⟨ad271, e271, hx271_0⟩ := Kd.at_int (Kd.R_reads' HO_5.out).2.2 x11_2 oD oD
       cases e271
       have p271 := eq_true (oD : 0 ≤ (x11_2 : Int))
       have q271 := eq_true (oD : x11_2 < (x5_1.length : Int))
       obtain ⟨ad272, e272, hx272_0⟩ := Kd.at_int HR0.out x11_2 oD oD
       cases e272
       replace hx272_0 := bD HB hx272_0
       have p272 := eq_true (oD : 0 ≤ (x11_2 : Int))
       have q272 := eq_true (oD : x11_2 < (l0.length : Int))
       go_wp2_with (first | ((with_reducible refine gate_builtin (b := .append) (xs := #[.tmp 86, .tmp 92]) rfl ?_); at_builtin; refine Kd.R_append k54 (w0 := w) w.heap.size rfl (.tmp 86) (.tmp 92) 51 54 (.agg #[(.int .i64 0), (.int .i64 0), (.int .i64 0)]) 24 rfl Try.underlying51 info54 rfl (by decide) (by omega) u10 x10_2 (⟨rd l0 x11_2, 0, 0⟩ : S54) [.int .i64 (rd l0 x11_2), .int .i64 0, .int .i64 0] (fun _ => True) (fun _ => False) rfl rfl ?aP (fun _ hk => hk.elim) ?aF ?aO ?aB ?aS ?aL ?_; (case aP => exact k54_mkM _ _ _ (⟨rd l0 x11_2, 0, 0⟩ : S54)); (case aB => exact (qW HB.out)); (case aF => exact (fun _ _ => trivial)); (case aO => exact (qR HO_10.out)); (case aS => exact (below_size (qW HB.out))); (case aL => have := LMc45.out; omega); intro v274 w47 ho hb hg hat; rw [← Ny273.out] at ho; replace HO_5 := aM (Kd.R_over' (qR HO_5.out) (Kd.R_typed (qR HO_10.out)) (by decide) hg); replace HB := aM (hb); have HO275 := aM (ho); clear HO_10; clear ho hb hg hat))
       repeat (go_quiet (first | ((with_reducible refine gate_builtin (b := .append) (xs := #[.tmp 86, .tmp 92]) rfl ?_); at_builtin; refine Kd.R_append k54 (w0 := w) w.heap.size rfl (.tmp 86) (.tmp 92) 51 54 (.agg #[(.int .i64 0), (.int .i64 0), (.int .i64 0)]) 24 rfl Try.underlying51 info54 rfl (by decide) (by omega) u10 x10_2 (⟨rd l0 x11_2, 0, 0⟩ : S54) [.int .i64 (rd l0 x11_2), .int .i64 0, .int .i64 0] (fun _ => True) (fun _ => False) rfl rfl ?aP (fun _ hk => hk.elim) ?aF ?aO ?aB ?aS ?aL ?_; (case aP => exact k54_mkM _ _ _ (⟨rd l0 x11_2, 0, 0⟩ : S54)); (case aB => exact (qW HB.out)); (case aF => exact (fun _ _ => trivial)); (case aO => exact (qR HO_10.out)); (case aS => exact (below_size (qW HB.out))); (case aL => have := LMc45.out; omega); intro v274 w47 ho hb hg hat; rw [← Ny273.out] at ho; replace HO_5 := aM (Kd.R_over' (qR HO_5.out) (Kd.R_typed (qR HO_10.out)) (by decide) hg); replace HB := aM (hb); have HO275 := aM (ho); clear HO_10; clear ho hb hg hat)); try go_wp2_with (first | ((with_reducible refine gate_builtin (b := .append) (xs := #[.tmp 86, .tmp 92]) rfl ?_); at_builtin; refine Kd.R_append k54 (w0 := w) w.heap.size rfl (.tmp 86) (.tmp 92) 51 54 (.agg #[(.int .i64 0), (.int .i64 0), (.int .i64 0)]) 24 rfl Try.underlying51 info54 rfl (by decide) (by omega) u10 x10_2 (⟨rd l0 x11_2, 0, 0⟩ : S54) [.int .i64 (rd l0 x11_2), .int .i64 0, .int .i64 0] (fun _ => True) (fun _ => False) rfl rfl ?aP (fun _ hk => hk.elim) ?aF ?aO ?aB ?aS ?aL ?_; (case aP => exact k54_mkM _ _ _ (⟨rd l0 x11_2, 0, 0⟩ : S54)); (case aB => exact (qW HB.out)); (case aF => exact (fun _ _ => trivial)); (case aO => exact (qR HO_10.out)); (case aS => exact (below_size (qW HB.out))); (case aL => have := LMc45.out; omega); intro v274 w47 ho hb hg hat; rw [← Ny273.out] at ho; replace HO_5 := aM (Kd.R_over' (qR HO_5.out) (Kd.R_typed (qR HO_10.out)) (by decide) hg); replace HB := aM (hb); have HO275 := aM (ho); clear HO_10; clear ho hb hg hat)))
       go_roundg k2
       case measure => have := HK1.out; have := HK2.out; omega
       case rel => exact ⟨(y273), (wrap64 (x11_2 + 1)), qE, H', ⟨by have := HK1.out; have := HK2.out; omega⟩, ⟨by refine qR ?_; exact HO_5.out⟩, ⟨by refine qR ?_; exact HO275.out⟩, ⟨by exact qW HB.out⟩⟩
      rw [if_neg c43] at H
      have c43b0 : ((rd x5_1 x11_2) == 0) = false := beq_eq_false_iff_ne.mpr c43
      have c43b1 : ((rd x5_1 x11_2) != 0) = true := bne_iff_ne.mpr c43
      replace H := Option.bind_eq_some_iff.mp H
      obtain ⟨⟨t276, t277⟩, A480, H⟩ := H
      replace H : (if x10_2.length < 5864062014805 then (spec_bestTokens.l2 k2 l0 (l0.length : Int) x5_1 (x10_2 ++ [(⟨0, rd x5_1 x11_2, t277⟩ : S54)]) (wrap64 (x11_2 + (rd x5_1 x11_2)))) else (none)) = some r := H
      have A48 := aM A480
      clear A480
      replace H := iS H
      obtain ⟨c49, H⟩ := H
      have LMc49 := aM c49
      clear c49
      obtain ⟨y279, hy279⟩ : ∃ y_ : List (S54), y_ = (x10_2 ++ [(⟨0, rd x5_1 x11_2, t277⟩ : S54)]) := ⟨_, rfl⟩
      replace H : (spec_bestTokens.l2 k2 l0 (l0.length : Int) x5_1 y279 (wrap64 (x11_2 + (rd x5_1 x11_2)))) = some r := rY hy279 H
      have Ny279 := aM hy279
      clear hy279
      have H' := aM H
      clear H
      obtain ⟨Ao50, co50, rfl⟩ := sL HO_5
      obtain ⟨ad271, e271, hx271_0⟩ := Kd.at_int (Kd.R_reads' HO_5.out).2.2 x11_2 oD oD
      cases e271
      have p271 := eq_true (oD : 0 ≤ (x11_2 : Int))
      have q271 := eq_true (oD : x11_2 < (x5_1.length : Int))
      go_wp2_with (first | (go_at_call 81; (with_reducible refine (spec_longest.calls k2 _ _ l0 x11_2 t276 t277 _ ?side1 ?side2 A48.out).mono ?_); (case side1 => exact qC (Kd.C_below HR0.out HB.out)); (case side2 => exact HC0.out); rintro e w' ⟨rfl, ⟨nd, rfl⟩⟩; (try first | exact ⟨rfl, _, World.drewN_drewN _ _ _⟩ | exact ⟨rfl, _, Eq.trans (World.drewN_drewN _ _ _) (congrArg (World.drewN _) (Nat.add_assoc _ _ _))⟩); have p278 : 0 ≤ (x11_2 : Int) := oD; have q278 : x11_2 < (x5_1.length : Int) := oD; obtain ⟨ad278, e278, hx278_0⟩ := Kd.at_int (Kd.R_reads' HO_5.out).2.2 x11_2 p278 q278; obtain rfl : ad271 = ad278 := (by injection e278); replace p278 := eq_true p278; replace q278 := eq_true q278) | ((with_reducible refine gate_builtin (b := .append) (xs := #[.tmp 102, .tmp 109]) rfl ?_); at_builtin; refine Kd.R_append k54 (w0 := w) w.heap.size rfl (.tmp 102) (.tmp 109) 51 54 (.agg #[(.int .i64 0), (.int .i64 0), (.int .i64 0)]) 24 rfl Try.underlying51 info54 rfl (by decide) (by omega) u10 x10_2 (⟨0, rd x5_1 x11_2, t277⟩ : S54) [.int .i64 0, .int .i64 (rd x5_1 x11_2), .int .i64 t277] (fun _ => True) (fun _ => False) rfl rfl ?aP (fun _ hk => hk.elim) ?aF ?aO ?aB ?aS ?aL ?_; (case aP => exact k54_mkM _ _ _ (⟨0, rd x5_1 x11_2, t277⟩ : S54)); (case aB => exact (qW HB.out)); (case aF => exact (fun _ _ => trivial)); (case aO => exact (qR HO_10.out)); (case aS => exact (below_size (qW HB.out))); (case aL => have := LMc49.out; omega); intro v280 w51 ho hb hg hat; rw [← Ny279.out] at ho; replace HO_5 := aM (Kd.R_over' (qR HO_5.out) (Kd.R_typed (qR HO_10.out)) (by decide) hg); replace HB := aM (hb); have HO281 := aM (ho); clear HO_10; clear ho hb hg hat; have p282 : 0 ≤ (x11_2 : Int) := oD; have q282 : x11_2 < (x5_1.length : Int) := oD; obtain ⟨ad282, e282, hx282_0⟩ := Kd.at_int (Kd.R_reads' HO_5.out).2.2 x11_2 p282 q282; obtain rfl : ad271 = ad282 := (by injection e282); replace p282 := eq_true p282; replace q282 := eq_true q282))
      repeat (go_quiet (first | (go_at_call 81; (with_reducible refine (spec_longest.calls k2 _ _ l0 x11_2 t276 t277 _ ?side1 ?side2 A48.out).mono ?_); (case side1 => exact qC (Kd.C_below HR0.out HB.out)); (case side2 => exact HC0.out); rintro e w' ⟨rfl, ⟨nd, rfl⟩⟩; (try first | exact ⟨rfl, _, World.drewN_drewN _ _ _⟩ | exact ⟨rfl, _, Eq.trans (World.drewN_drewN _ _ _) (congrArg (World.drewN _) (Nat.add_assoc _ _ _))⟩); have p278 : 0 ≤ (x11_2 : Int) := oD; have q278 : x11_2 < (x5_1.length : Int) := oD; obtain ⟨ad278, e278, hx278_0⟩ := Kd.at_int (Kd.R_reads' HO_5.out).2.2 x11_2 p278 q278; obtain rfl : ad271 = ad278 := (by injection e278); replace p278 := eq_true p278; replace q278 := eq_true q278) | ((with_reducible refine gate_builtin (b := .append) (xs := #[.tmp 102, .tmp 109]) rfl ?_); at_builtin; refine Kd.R_append k54 (w0 := w) w.heap.size rfl (.tmp 102) (.tmp 109) 51 54 (.agg #[(.int .i64 0), (.int .i64 0), (.int .i64 0)]) 24 rfl Try.underlying51 info54 rfl (by decide) (by omega) u10 x10_2 (⟨0, rd x5_1 x11_2, t277⟩ : S54) [.int .i64 0, .int .i64 (rd x5_1 x11_2), .int .i64 t277] (fun _ => True) (fun _ => False) rfl rfl ?aP (fun _ hk => hk.elim) ?aF ?aO ?aB ?aS ?aL ?_; (case aP => exact k54_mkM _ _ _ (⟨0, rd x5_1 x11_2, t277⟩ : S54)); (case aB => exact (qW HB.out)); (case aF => exact (fun _ _ => trivial)); (case aO => exact (qR HO_10.out)); (case aS => exact (below_size (qW HB.out))); (case aL => have := LMc49.out; omega); intro v280 w51 ho hb hg hat; rw [← Ny279.out] at ho; replace HO_5 := aM (Kd.R_over' (qR HO_5.out) (Kd.R_typed (qR HO_10.out)) (by decide) hg); replace HB := aM (hb); have HO281 := aM (ho); clear HO_10; clear ho hb hg hat; have p282 : 0 ≤ (x11_2 : Int) := oD; have q282 : x11_2 < (x5_1.length : Int) := oD; obtain ⟨ad282, e282, hx282_0⟩ := Kd.at_int (Kd.R_reads' HO_5.out).2.2 x11_2 p282 q282; obtain rfl : ad271 = ad282 := (by injection e282); replace p282 := eq_true p282; replace q282 := eq_true q282)); try go_wp2_with (first | (go_at_call 81; (with_reducible refine (spec_longest.calls k2 _ _ l0 x11_2 t276 t277 _ ?side1 ?side2 A48.out).mono ?_); (case side1 => exact qC (Kd.C_below HR0.out HB.out)); (case side2 => exact HC0.out); rintro e w' ⟨rfl, ⟨nd, rfl⟩⟩; (try first | exact ⟨rfl, _, World.drewN_drewN _ _ _⟩ | exact ⟨rfl, _, Eq.trans (World.drewN_drewN _ _ _) (congrArg (World.drewN _) (Nat.add_assoc _ _ _))⟩); have p278 : 0 ≤ (x11_2 : Int) := oD; have q278 : x11_2 < (x5_1.length : Int) := oD; obtain ⟨ad278, e278, hx278_0⟩ := Kd.at_int (Kd.R_reads' HO_5.out).2.2 x11_2 p278 q278; obtain rfl : ad271 = ad278 := (by injection e278); replace p278 := eq_true p278; replace q278 := eq_true q278) | ((with_reducible refine gate_builtin (b := .append) (xs := #[.tmp 102, .tmp 109]) rfl ?_); at_builtin; refine Kd.R_append k54 (w0 := w) w.heap.size rfl (.tmp 102) (.tmp 109) 51 54 (.agg #[(.int .i64 0), (.int .i64 0), (.int .i64 0)]) 24 rfl Try.underlying51 info54 rfl (by decide) (by omega) u10 x10_2 (⟨0, rd x5_1 x11_2, t277⟩ : S54) [.int .i64 0, .int .i64 (rd x5_1 x11_2), .int .i64 t277] (fun _ => True) (fun _ => False) rfl rfl ?aP (fun _ hk => hk.elim) ?aF ?aO ?aB ?aS ?aL ?_; (case aP => exact k54_mkM _ _ _ (⟨0, rd x5_1 x11_2, t277⟩ : S54)); (case aB => exact (qW HB.out)); (case aF => exact (fun _ _ => trivial)); (case aO => exact (qR HO_10.out)); (case aS => exact (below_size (qW HB.out))); (case aL => have := LMc49.out; omega); intro v280 w51 ho hb hg hat; rw [← Ny279.out] at ho; replace HO_5 := aM (Kd.R_over' (qR HO_5.out) (Kd.R_typed (qR HO_10.out)) (by decide) hg); replace HB := aM (hb); have HO281 := aM (ho); clear HO_10; clear ho hb hg hat; have p282 : 0 ≤ (x11_2 : Int) := oD; have q282 : x11_2 < (x5_1.length : Int) := oD; obtain ⟨ad282, e282, hx282_0⟩ := Kd.at_int (Kd.R_reads' HO_5.out).2.2 x11_2 p282 q282; obtain rfl : ad271 = ad282 := (by injection e282); replace p282 := eq_true p282; replace q282 := eq_true q282)))
      go_roundg k2
      case measure => have := HK1.out; have := HK2.out; omega
      case rel => exact ⟨(y279), (wrap64 (x11_2 + (rd x5_1 x11_2))), qE, H', ⟨by have := HK1.out; have := HK2.out; omega⟩, ⟨by refine qR ?_; exact HO_5.out⟩, ⟨by refine qR ?_; exact HO281.out⟩, ⟨by exact qW HB.out⟩⟩
   rw [if_pos c9] at H
   have c9b0 : decide (0 ≤ x6_1) = true := decide_eq_true c9
   clear c9
   obtain ⟨ji10, hji10⟩ : ∃ j_ : Int, (wrap64 (x6_1 + 1)) = j_ := ⟨_, rfl⟩
   replace H : (if 0 ≤ (ji10) then (if (ji10) < (x4_1.length : Int) then (if 0 ≤ x6_1 then (if x6_1 < (x4_1.length : Int) then (if x6_1 < (x5_1.length : Int) then ((spec_longest.f k1 l0 x6_1).bind fun bt261 => (spec_bestTokens.l1 k1 l0 (l0.length : Int) (x4_1.set (x6_1 : Int).toNat (wrap64 (9 + (rd x4_1 (ji10))))) (x5_1.set (x6_1 : Int).toNat 0) x6_1 bt261.1 3)) else (none)) else (none)) else (none)) else (none)) else (none)) = some r := by first | (rw [hji10] at H; exact H) | (simp only [hji10] at H ⊢; exact H)
   have hji10w : (IntKind.i64.wrap (x6_1 + 1)) = ji10 := (i64_w _).trans hji10
   replace H := iD H
   obtain ⟨c11b0, H⟩ := H
   replace H := iD H
   obtain ⟨c12b0, H⟩ := H
   replace H := iD H
   obtain ⟨c13b0, H⟩ := H
   replace H := iD H
   obtain ⟨c14b0, H⟩ := H
   obtain ⟨y259, hy259⟩ : ∃ y_ : List Int, y_ = (x4_1.set (x6_1 : Int).toNat (wrap64 (9 + (rd x4_1 (ji10))))) := ⟨_, rfl⟩
   replace H : (if x6_1 < (x5_1.length : Int) then ((spec_longest.f k1 l0 x6_1).bind fun bt261 => (spec_bestTokens.l1 k1 l0 (l0.length : Int) y259 (x5_1.set (x6_1 : Int).toNat 0) x6_1 bt261.1 3)) else (none)) = some r := rY hy259 H
   have Ny259 := aM hy259
   clear hy259
   replace H := iD H
   obtain ⟨c16b0, H⟩ := H
   obtain ⟨y260, hy260⟩ : ∃ y_ : List Int, y_ = (x5_1.set (x6_1 : Int).toNat 0) := ⟨_, rfl⟩
   replace H : ((spec_longest.f k1 l0 x6_1).bind fun bt261 => (spec_bestTokens.l1 k1 l0 (l0.length : Int) y259 y260 x6_1 bt261.1 3)) = some r := rY hy260 H
   have Ny260 := aM hy260
   clear hy260
   replace H := Option.bind_eq_some_iff.mp H
   obtain ⟨⟨t261, t262⟩, A180, H⟩ := H
   replace H : (spec_bestTokens.l1 k1 l0 (l0.length : Int) y259 y260 x6_1 t261 3) = some r := H
   have A18 := aM A180
   clear A180
   have H' := aM H
   clear H
   obtain ⟨Ao19, co19, rfl⟩ := sL HO_4
   obtain ⟨ad258, e258, hx258_0⟩ := Kd.at_int (Kd.R_reads' HO_4.out).2.2 (ji10) oD oD
   cases e258
   have p258 := eq_true (oD : 0 ≤ ((ji10) : Int))
   have q258 := eq_true (oD : (ji10) < (x4_1.length : Int))
   have p15 : 0 ≤ (x6_1 : Int) := oD
   have q15 : (x6_1 : Int) < ((x4_1.length : Int) : Int) := oD
   obtain ⟨go15, co15, eo15, gb15, gl15, cl15, HG15⟩ := Kd.R_form HO_4.out (by omega)
   (first | cases eo15 | (injection eo15 with ea_ en_ ec_; (first | subst ea_ | (injection ea_ with ea_; subst ea_)); subst ec_; clear en_))
   have GB15 := aM gb15
   have GG15 := aM HG15
   clear gb15 gl15 HG15
   (first | simp only [add_plain] at hx258_0 | skip)
   obtain ⟨hx15_0, hf15_0⟩ := Kd.R_celln 0 HO_4.out (x6_1 : Int) p15 q15
   replace p15 := eq_true p15
   replace q15 := eq_true q15
   have HP20 := Kd.R_putg HO_4.out (x6_1 : Int) (wrap64 (9 + (rd x4_1 (ji10))))
   clear hx15_0 hf15_0
   go_wp2_with (first | ((with_reducible refine gate_store (t := 3) (p := 36) rfl ?_); (try (rw [drewN_self wr]; generalize hq_ : World.drewN wr _ = wr; replace HO_4 := aM (Kd.R_at hq_ HO_4.out); replace HO_5 := aM (Kd.R_at hq_ HO_5.out); replace HB := aM (below_at hq_ HB.out); clear hq_; (try (have HP20 := Kd.R_putg HO_4.out (x6_1 : Int) (wrap64 (9 + (rd x4_1 (ji10)))))))); (obtain ⟨hx15_0, hf15_0⟩ := Kd.R_celln 0 HO_4.out (x6_1 : Int) (of_eq_true p15) (of_eq_true q15)); refine store_event (t := 3) (p := 36) (v := ?vo_w21) (w1 := (wr.setCell ⟨go15, (x6_1 : Int).toNat, none⟩ (.int .i64 (wrap64 (9 + (rd x4_1 (ji10))))))) ?hg ?ho ?hn ?hr ?_; (case ho => rfl); (case hg => rfl); (case hn => rfl); (case hr => first | (go_simp; done) | (go_simp; rfl)); intro w21 hw; have hg : wr.grownBy w21 (some go15) := (by rw [hw]; exact HP20.2); have hp_ : Kd.R (Kd.int .i64) 3 w21 w.heap.size (fun k_ => some k_ ≠ (v256 : Value).ownBlock) (.slice (some ⟨go15, 0, none⟩) x4_1.length co19) y259 := (by rw [hw, Ny259.out]; exact HP20.1); clear HP20; replace HO_4 := aM (hp_); replace HO_5 := aM (Kd.R_after (v := (.slice (some ⟨go15, 0, none⟩) x4_1.length co19)) (v1 := (.slice (some ⟨go15, 0, none⟩) x4_1.length co19)) (ok := (fun _ => True)) (by refine qR ?_; exact Kd.R_mono HO_5.out (fun _ hk => ⟨trivial, hk⟩)) hg (.inl rfl)); replace HB := aM ((by rw [hw]; exact below_set (HB.out) GB15.out : Below w.heap.size w w21)); clear hg hw hp_; have p17 : 0 ≤ (x6_1 : Int) := oD; have q17 : (x6_1 : Int) < ((x5_1.length : Int) : Int) := oD; obtain ⟨go17, co17, eo17, gb17, gl17, cl17, HG17⟩ := Kd.R_form HO_5.out (by omega); (first | cases eo17 | (injection eo17 with ea_ en_ ec_; (first | subst ea_ | (injection ea_ with ea_; subst ea_)); subst ec_; clear en_)); have GB17 := aM gb17; have GG17 := aM HG17; clear gb17 gl17 HG17; obtain ⟨hx17_0, hf17_0⟩ := Kd.R_celln 0 HO_5.out (x6_1 : Int) p17 q17; replace p17 := eq_true p17; replace q17 := eq_true q17; have n_ := aM (Kd.R_mono (ok' := (fun k_ => some k_ ≠ (.slice (some ⟨go15, 0, none⟩) x4_1.length co19 : Value).ownBlock)) HO_5.out (fun k_ hk => hk.2)); clear HO_5; have HO_5 := n_; clear n_; obtain ⟨hy22_, hz22_⟩ := Kd.R_celln 0 HO_5.out (x6_1 : Int) oD oD; have HP22 := Kd.R_putg HO_5.out (x6_1 : Int) 0) | ((with_reducible refine gate_store (t := 3) (p := 39) rfl ?_); (try (rw [drewN_self w21]; generalize hq_ : World.drewN w21 _ = w21; replace HO_4 := aM (Kd.R_at hq_ HO_4.out); replace HO_5 := aM (Kd.R_at hq_ HO_5.out); replace HB := aM (below_at hq_ HB.out); clear hq_; (try (have n_ := aM (Kd.R_mono (ok' := (fun k_ => some k_ ≠ (.slice (some ⟨go15, 0, none⟩) x4_1.length co19 : Value).ownBlock)) HO_5.out (fun k_ hk => hk.2)); clear HO_5; have HO_5 := n_; clear n_)); (try (obtain ⟨hy22_, hz22_⟩ := Kd.R_celln 0 HO_5.out (x6_1 : Int) oD oD)); (try (have HP22 := Kd.R_putg HO_5.out (x6_1 : Int) 0)))); refine store_event (t := 3) (p := 39) (v := ?vo_w23) (w1 := (w21.setCell ⟨go17, (x6_1 : Int).toNat, none⟩ (.int .i64 0))) ?hg ?ho ?hn ?hr ?_; (case ho => rfl); (case hg => rfl); (case hn => rfl); (case hr => first | (go_simp; done) | (go_simp; rfl)); intro w23 hw; have hg : w21.grownBy w23 (some go17) := (by rw [hw]; exact HP22.2); have hp_ : Kd.R (Kd.int .i64) 3 w23 w.heap.size (fun k_ => some k_ ≠ (.slice (some ⟨go15, 0, none⟩) x4_1.length co19 : Value).ownBlock) (.slice (some ⟨go17, 0, none⟩) x5_1.length co17) y260 := (by rw [hw, Ny260.out]; exact HP22.1); clear HP22; replace HO_4 := aM (Kd.R_after (v := (.slice (some ⟨go17, 0, none⟩) x5_1.length co17)) (v1 := (.slice (some ⟨go17, 0, none⟩) x5_1.length co17)) (ok := (fun _ => True)) (by refine qR ?_; exact Kd.R_mono HO_4.out (fun _ hk => ⟨trivial, hk⟩)) hg (.inl rfl)); replace HO_5 := aM (hp_); replace HB := aM ((by rw [hw]; exact below_set (HB.out) GB17.out : Below w.heap.size w w23)); clear hg hw hp_) | (go_at_call 81; (with_reducible refine (spec_longest.calls k1 _ _ l0 x6_1 t261 t262 _ ?side1 ?side2 A18.out).mono ?_); (case side1 => exact qC (Kd.C_below HR0.out HB.out)); (case side2 => exact HC0.out); rintro e w' ⟨rfl, ⟨nd, rfl⟩⟩; (try first | exact ⟨rfl, _, World.drewN_drewN _ _ _⟩ | exact ⟨rfl, _, Eq.trans (World.drewN_drewN _ _ _) (congrArg (World.drewN _) (Nat.add_assoc _ _ _))⟩)))
   repeat (go_quiet (first | ((with_reducible refine gate_store (t := 3) (p := 36) rfl ?_); (try (rw [drewN_self wr]; generalize hq_ : World.drewN wr _ = wr; replace HO_4 := aM (Kd.R_at hq_ HO_4.out); replace HO_5 := aM (Kd.R_at hq_ HO_5.out); replace HB := aM (below_at hq_ HB.out); clear hq_; (try (have HP20 := Kd.R_putg HO_4.out (x6_1 : Int) (wrap64 (9 + (rd x4_1 (ji10)))))))); (obtain ⟨hx15_0, hf15_0⟩ := Kd.R_celln 0 HO_4.out (x6_1 : Int) (of_eq_true p15) (of_eq_true q15)); refine store_event (t := 3) (p := 36) (v := ?vo_w21) (w1 := (wr.setCell ⟨go15, (x6_1 : Int).toNat, none⟩ (.int .i64 (wrap64 (9 + (rd x4_1 (ji10))))))) ?hg ?ho ?hn ?hr ?_; (case ho => rfl); (case hg => rfl); (case hn => rfl); (case hr => first | (go_simp; done) | (go_simp; rfl)); intro w21 hw; have hg : wr.grownBy w21 (some go15) := (by rw [hw]; exact HP20.2); have hp_ : Kd.R (Kd.int .i64) 3 w21 w.heap.size (fun k_ => some k_ ≠ (v256 : Value).ownBlock) (.slice (some ⟨go15, 0, none⟩) x4_1.length co19) y259 := (by rw [hw, Ny259.out]; exact HP20.1); clear HP20; replace HO_4 := aM (hp_); replace HO_5 := aM (Kd.R_after (v := (.slice (some ⟨go15, 0, none⟩) x4_1.length co19)) (v1 := (.slice (some ⟨go15, 0, none⟩) x4_1.length co19)) (ok := (fun _ => True)) (by refine qR ?_; exact Kd.R_mono HO_5.out (fun _ hk => ⟨trivial, hk⟩)) hg (.inl rfl)); replace HB := aM ((by rw [hw]; exact below_set (HB.out) GB15.out : Below w.heap.size w w21)); clear hg hw hp_; have p17 : 0 ≤ (x6_1 : Int) := oD; have q17 : (x6_1 : Int) < ((x5_1.length : Int) : Int) := oD; obtain ⟨go17, co17, eo17, gb17, gl17, cl17, HG17⟩ := Kd.R_form HO_5.out (by omega); (first | cases eo17 | (injection eo17 with ea_ en_ ec_; (first | subst ea_ | (injection ea_ with ea_; subst ea_)); subst ec_; clear en_)); have GB17 := aM gb17; have GG17 := aM HG17; clear gb17 gl17 HG17; obtain ⟨hx17_0, hf17_0⟩ := Kd.R_celln 0 HO_5.out (x6_1 : Int) p17 q17; replace p17 := eq_true p17; replace q17 := eq_true q17; have n_ := aM (Kd.R_mono (ok' := (fun k_ => some k_ ≠ (.slice (some ⟨go15, 0, none⟩) x4_1.length co19 : Value).ownBlock)) HO_5.out (fun k_ hk => hk.2)); clear HO_5; have HO_5 := n_; clear n_; obtain ⟨hy22_, hz22_⟩ := Kd.R_celln 0 HO_5.out (x6_1 : Int) oD oD; have HP22 := Kd.R_putg HO_5.out (x6_1 : Int) 0) | ((with_reducible refine gate_store (t := 3) (p := 39) rfl ?_); (try (rw [drewN_self w21]; generalize hq_ : World.drewN w21 _ = w21; replace HO_4 := aM (Kd.R_at hq_ HO_4.out); replace HO_5 := aM (Kd.R_at hq_ HO_5.out); replace HB := aM (below_at hq_ HB.out); clear hq_; (try (have n_ := aM (Kd.R_mono (ok' := (fun k_ => some k_ ≠ (.slice (some ⟨go15, 0, none⟩) x4_1.length co19 : Value).ownBlock)) HO_5.out (fun k_ hk => hk.2)); clear HO_5; have HO_5 := n_; clear n_)); (try (obtain ⟨hy22_, hz22_⟩ := Kd.R_celln 0 HO_5.out (x6_1 : Int) oD oD)); (try (have HP22 := Kd.R_putg HO_5.out (x6_1 : Int) 0)))); refine store_event (t := 3) (p := 39) (v := ?vo_w23) (w1 := (w21.setCell ⟨go17, (x6_1 : Int).toNat, none⟩ (.int .i64 0))) ?hg ?ho ?hn ?hr ?_; (case ho => rfl); (case hg => rfl); (case hn => rfl); (case hr => first | (go_simp; done) | (go_simp; rfl)); intro w23 hw; have hg : w21.grownBy w23 (some go17) := (by rw [hw]; exact HP22.2); have hp_ : Kd.R (Kd.int .i64) 3 w23 w.heap.size (fun k_ => some k_ ≠ (.slice (some ⟨go15, 0, none⟩) x4_1.length co19 : Value).ownBlock) (.slice (some ⟨go17, 0, none⟩) x5_1.length co17) y260 := (by rw [hw, Ny260.out]; exact HP22.1); clear HP22; replace HO_4 := aM (Kd.R_after (v := (.slice (some ⟨go17, 0, none⟩) x5_1.length co17)) (v1 := (.slice (some ⟨go17, 0, none⟩) x5_1.length co17)) (ok := (fun _ => True)) (by refine qR ?_; exact Kd.R_mono HO_4.out (fun _ hk => ⟨trivial, hk⟩)) hg (.inl rfl)); replace HO_5 := aM (hp_); replace HB := aM ((by rw [hw]; exact below_set (HB.out) GB17.out : Below w.heap.size w w23)); clear hg hw hp_) | (go_at_call 81; (with_reducible refine (spec_longest.calls k1 _ _ l0 x6_1 t261 t262 _ ?side1 ?side2 A18.out).mono ?_); (case side1 => exact qC (Kd.C_below HR0.out HB.out)); (case side2 => exact HC0.out); rintro e w' ⟨rfl, ⟨nd, rfl⟩⟩; (try first | exact ⟨rfl, _, World.drewN_drewN _ _ _⟩ | exact ⟨rfl, _, Eq.trans (World.drewN_drewN _ _ _) (congrArg (World.drewN _) (Nat.add_assoc _ _ _))⟩))); try go_wp2_with (first | ((with_reducible refine gate_store (t := 3) (p := 36) rfl ?_); (try (rw [drewN_self wr]; generalize hq_ : World.drewN wr _ = wr; replace HO_4 := aM (Kd.R_at hq_ HO_4.out); replace HO_5 := aM (Kd.R_at hq_ HO_5.out); replace HB := aM (below_at hq_ HB.out); clear hq_; (try (have HP20 := Kd.R_putg HO_4.out (x6_1 : Int) (wrap64 (9 + (rd x4_1 (ji10)))))))); (obtain ⟨hx15_0, hf15_0⟩ := Kd.R_celln 0 HO_4.out (x6_1 : Int) (of_eq_true p15) (of_eq_true q15)); refine store_event (t := 3) (p := 36) (v := ?vo_w21) (w1 := (wr.setCell ⟨go15, (x6_1 : Int).toNat, none⟩ (.int .i64 (wrap64 (9 + (rd x4_1 (ji10))))))) ?hg ?ho ?hn ?hr ?_; (case ho => rfl); (case hg => rfl); (case hn => rfl); (case hr => first | (go_simp; done) | (go_simp; rfl)); intro w21 hw; have hg : wr.grownBy w21 (some go15) := (by rw [hw]; exact HP20.2); have hp_ : Kd.R (Kd.int .i64) 3 w21 w.heap.size (fun k_ => some k_ ≠ (v256 : Value).ownBlock) (.slice (some ⟨go15, 0, none⟩) x4_1.length co19) y259 := (by rw [hw, Ny259.out]; exact HP20.1); clear HP20; replace HO_4 := aM (hp_); replace HO_5 := aM (Kd.R_after (v := (.slice (some ⟨go15, 0, none⟩) x4_1.length co19)) (v1 := (.slice (some ⟨go15, 0, none⟩) x4_1.length co19)) (ok := (fun _ => True)) (by refine qR ?_; exact Kd.R_mono HO_5.out (fun _ hk => ⟨trivial, hk⟩)) hg (.inl rfl)); replace HB := aM ((by rw [hw]; exact below_set (HB.out) GB15.out : Below w.heap.size w w21)); clear hg hw hp_; have p17 : 0 ≤ (x6_1 : Int) := oD; have q17 : (x6_1 : Int) < ((x5_1.length : Int) : Int) := oD; obtain ⟨go17, co17, eo17, gb17, gl17, cl17, HG17⟩ := Kd.R_form HO_5.out (by omega); (first | cases eo17 | (injection eo17 with ea_ en_ ec_; (first | subst ea_ | (injection ea_ with ea_; subst ea_)); subst ec_; clear en_)); have GB17 := aM gb17; have GG17 := aM HG17; clear gb17 gl17 HG17; obtain ⟨hx17_0, hf17_0⟩ := Kd.R_celln 0 HO_5.out (x6_1 : Int) p17 q17; replace p17 := eq_true p17; replace q17 := eq_true q17; have n_ := aM (Kd.R_mono (ok' := (fun k_ => some k_ ≠ (.slice (some ⟨go15, 0, none⟩) x4_1.length co19 : Value).ownBlock)) HO_5.out (fun k_ hk => hk.2)); clear HO_5; have HO_5 := n_; clear n_; obtain ⟨hy22_, hz22_⟩ := Kd.R_celln 0 HO_5.out (x6_1 : Int) oD oD; have HP22 := Kd.R_putg HO_5.out (x6_1 : Int) 0) | ((with_reducible refine gate_store (t := 3) (p := 39) rfl ?_); (try (rw [drewN_self w21]; generalize hq_ : World.drewN w21 _ = w21; replace HO_4 := aM (Kd.R_at hq_ HO_4.out); replace HO_5 := aM (Kd.R_at hq_ HO_5.out); replace HB := aM (below_at hq_ HB.out); clear hq_; (try (have n_ := aM (Kd.R_mono (ok' := (fun k_ => some k_ ≠ (.slice (some ⟨go15, 0, none⟩) x4_1.length co19 : Value).ownBlock)) HO_5.out (fun k_ hk => hk.2)); clear HO_5; have HO_5 := n_; clear n_)); (try (obtain ⟨hy22_, hz22_⟩ := Kd.R_celln 0 HO_5.out (x6_1 : Int) oD oD)); (try (have HP22 := Kd.R_putg HO_5.out (x6_1 : Int) 0)))); refine store_event (t := 3) (p := 39) (v := ?vo_w23) (w1 := (w21.setCell ⟨go17, (x6_1 : Int).toNat, none⟩ (.int .i64 0))) ?hg ?ho ?hn ?hr ?_; (case ho => rfl); (case hg => rfl); (case hn => rfl); (case hr => first | (go_simp; done) | (go_simp; rfl)); intro w23 hw; have hg : w21.grownBy w23 (some go17) := (by rw [hw]; exact HP22.2); have hp_ : Kd.R (Kd.int .i64) 3 w23 w.heap.size (fun k_ => some k_ ≠ (.slice (some ⟨go15, 0, none⟩) x4_1.length co19 : Value).ownBlock) (.slice (some ⟨go17, 0, none⟩) x5_1.length co17) y260 := (by rw [hw, Ny260.out]; exact HP22.1); clear HP22; replace HO_4 := aM (Kd.R_after (v := (.slice (some ⟨go17, 0, none⟩) x5_1.length co17)) (v1 := (.slice (some ⟨go17, 0, none⟩) x5_1.length co17)) (ok := (fun _ => True)) (by refine qR ?_; exact Kd.R_mono HO_4.out (fun _ hk => ⟨trivial, hk⟩)) hg (.inl rfl)); replace HO_5 := aM (hp_); replace HB := aM ((by rw [hw]; exact below_set (HB.out) GB17.out : Below w.heap.size w w23)); clear hg hw hp_) | (go_at_call 81; (with_reducible refine (spec_longest.calls k1 _ _ l0 x6_1 t261 t262 _ ?side1 ?side2 A18.out).mono ?_); (case side1 => exact qC (Kd.C_below HR0.out HB.out)); (case side2 => exact HC0.out); rintro e w' ⟨rfl, ⟨nd, rfl⟩⟩; (try first | exact ⟨rfl, _, World.drewN_drewN _ _ _⟩ | exact ⟨rfl, _, Eq.trans (World.drewN_drewN _ _ _) (congrArg (World.drewN _) (Nat.add_assoc _ _ _))⟩))))
   go_loopg [9] k1 (fun kq v9 w' => ∃ (x4_2 : List Int) (x5_2 : List Int) (x9_2 : Int), v9 = .int .i64 x9_2 ∧ Aside0 (spec_bestTokens.l1 kq l0 (l0.length : Int) x4_2 x5_2 x6_1 t261 x9_2 = some r) ∧ Aside0 (kq ≤ k1) ∧ Aside0 (Kd.R (Kd.int .i64) 3 w' w.heap.size (fun k_ => some k_ ≠ ((.slice (some ⟨go17, 0, none⟩) x5_1.length co17) : Value).ownBlock) (.slice (some ⟨go15, 0, none⟩) x4_1.length co19) x4_2) ∧ Aside0 (Kd.R (Kd.int .i64) 3 w' w.heap.size (fun k_ => some k_ ≠ ((.slice (some ⟨go15, 0, none⟩) x4_1.length co19) : Value).ownBlock) (.slice (some ⟨go17, 0, none⟩) x5_1.length co17) x5_2) ∧ Aside0 (Below w.heap.size w w'))
   case atStart => exact ⟨(y259), (y260), (3), qE, H', ⟨Nat.le_refl _⟩, ⟨by refine qR ?_; exact Kd.R_mono HO_4.out (fun _ hk => hk.2)⟩, ⟨by refine qR ?_; exact HO_5.out⟩, ⟨by exact qW HB.out⟩⟩
   case round =>
    clear H'
    try clear c3
    try clear c3b0
    try clear c3b1
    try clear c4
    try clear c4b0
    try clear c4b1
    try clear c9
    try clear c9b0
    try clear c11b0
    try clear c12b0
    try clear c13b0
    try clear c14b0
    try clear p15
    try clear q15
    try clear c16b0
    try clear p17
    try clear q17
    try clear hx15_0
    try clear hx17_0
    try clear hx258_0
    try clear p15
    try clear p17
    try clear p258
    try clear q15
    try clear q17
    try clear q258
    obtain ⟨x4_2, x5_2, x9_2, rfl, HA, HK2, HO_4, HO_5, HB⟩ := hrel
    have hl4_2 := (Kd.R_reads' HO_4.out).1
    rw [hl4_2] at HO_4
    (try simp only [hl4_2])
    (try simp only [hl4_2] at HO_5)
    have hl5_2 := (Kd.R_reads' HO_5.out).1
    rw [hl5_2] at HO_5
    (try simp only [hl5_2])
    (try simp only [hl5_2] at HO_4)
    cases gk with
    | zero => exact absurd HA.out (by simp [spec_bestTokens.l1])
    | succ k2 =>
     have H := HA.out
     clear HA
     simp only [spec_bestTokens.l1] at H
     by_cases c24 : x9_2 ≤ t261
     rotate_left
     ·rw [if_neg c24] at H
      have c24b0 : decide (x9_2 ≤ t261) = false := decide_eq_false c24
      clear c24
      have H' := aM H
      clear H
      go_wp2
      repeat (go_quiet (fail); try go_wp2)
      (try simp only [← hl4_2, ← hl5_2])
      go_roundg k2
      case measure => have := HK1.out; have := HK2.out; omega
      case rel => exact ⟨(x4_2), (x5_2), (wrap64 (x6_1 - 1)), qE, H', ⟨by have := HK1.out; have := HK2.out; omega⟩, ⟨by (try simp only [hl4_2]); (try simp only [hl5_2]); refine qR ?_; exact HO_4.out⟩, ⟨by (try simp only [hl4_2]); (try simp only [hl5_2]); refine qR ?_; exact HO_5.out⟩, ⟨by exact qW HB.out⟩⟩
     rw [if_pos c24] at H
     have c24b0 : decide (x9_2 ≤ t261) = true := decide_eq_true c24
     clear c24
     obtain ⟨ji25, hji25⟩ : ∃ j_ : Int, (wrap64 (x6_1 + x9_2)) = j_ := ⟨_, rfl⟩
     replace H : (if 0 ≤ (ji25) then (if (ji25) < (x4_2.length : Int) then (if 0 ≤ x6_1 then (if x6_1 < (x4_2.length : Int) then (if (wrap64 (11 + (rd x4_2 (ji25)))) ≤ (rd x4_2 x6_1) then (if x6_1 < (x5_2.length : Int) then (spec_bestTokens.l1 k2 l0 (l0.length : Int) (x4_2.set (x6_1 : Int).toNat (wrap64 (11 + (rd x4_2 (ji25))))) (x5_2.set (x6_1 : Int).toNat x9_2) x6_1 t261 (wrap64 (x9_2 + 1))) else (none)) else (spec_bestTokens.l1 k2 l0 (l0.length : Int) x4_2 x5_2 x6_1 t261 (wrap64 (x9_2 + 1)))) else (none)) else (none)) else (none)) else (none)) = some r := by first | (rw [hji25] at H; exact H) | (simp only [hji25] at H ⊢; exact H)
     have hji25w : (IntKind.i64.wrap (x6_1 + x9_2)) = ji25 := (i64_w _).trans hji25
     replace H := iD H
     obtain ⟨c26b0, H⟩ := H
     replace H := iD H
     obtain ⟨c27b0, H⟩ := H
     replace H := iD H
     obtain ⟨c28b0, H⟩ := H
     replace H := iD H
     obtain ⟨c29b0, H⟩ := H
     by_cases c30 : (wrap64 (11 + (rd x4_2 (ji25)))) ≤ (rd x4_2 x6_1)
     rotate_left
     ·rw [if_neg c30] at H
      have c30b0 : decide ((wrap64 (11 + (rd x4_2 (ji25)))) ≤ (rd x4_2 x6_1)) = false := decide_eq_false c30
      clear c30
      have H' := aM H
      clear H
      obtain ⟨ad263, e263, hx263_0⟩ := Kd.at_int (Kd.R_reads' HO_4.out).2.2 (ji25) oD oD
      obtain rfl : (⟨go15, 0, none⟩ : Addr) = ad263 := (by injection e263)
      (first | simp only [add_plain] at hx263_0 | simp only [add_at] at hx263_0 | simp only [Addr.add, Nat.zero_add] at hx263_0 | skip)
      have p263 := eq_true (oD : 0 ≤ ((ji25) : Int))
      have q263 := eq_true (oD : (ji25) < (x4_2.length : Int))
      obtain ⟨ad264, e264, hx264_0⟩ := Kd.at_int (Kd.R_reads' HO_4.out).2.2 x6_1 oD oD
      obtain rfl : (⟨go15, 0, none⟩ : Addr) = ad264 := (by injection e264)
      (first | simp only [add_plain] at hx264_0 | simp only [add_at] at hx264_0 | simp only [Addr.add, Nat.zero_add] at hx264_0 | skip)
      have p264 := eq_true (oD : 0 ≤ (x6_1 : Int))
      have q264 := eq_true (oD : x6_1 < (x4_2.length : Int))
      go_wp2
      repeat (go_quiet (fail); try go_wp2)
      (try simp only [← hl4_2, ← hl5_2])
      go_roundg k2
      case measure => have := HK1.out; have := HK2.out; omega
      case rel => exact ⟨(x4_2), (x5_2), (wrap64 (x9_2 + 1)), qE, H', ⟨by have := HK1.out; have := HK2.out; omega⟩, ⟨by (try simp only [hl4_2]); (try simp only [hl5_2]); refine qR ?_; exact HO_4.out⟩, ⟨by (try simp only [hl4_2]); (try simp only [hl5_2]); refine qR ?_; exact HO_5.out⟩, ⟨by exact qW HB.out⟩⟩
     rw [if_pos c30] at H
     have c30b0 : decide ((wrap64 (11 + (rd x4_2 (ji25)))) ≤ (rd x4_2 x6_1)) = true := decide_eq_true c30
     clear c30
     obtain ⟨y266, hy266⟩ : ∃ y_ : List Int, y_ = (x4_2.set (x6_1 : Int).toNat (wrap64 (11 + (rd x4_2 (ji25))))) := ⟨_, rfl⟩
     replace H : (if x6_1 < (x5_2.length : Int) then (spec_bestTokens.l1 k2 l0 (l0.length : Int) y266 (x5_2.set (x6_1 : Int).toNat x9_2) x6_1 t261 (wrap64 (x9_2 + 1))) else (none)) = some r := rY hy266 H
     have Ny266 := aM hy266
     clear hy266
     replace H := iD H
     obtain ⟨c32b0, H⟩ := H
     obtain ⟨y267, hy267⟩ : ∃ y_ : List Int, y_ = (x5_2.set (x6_1 : Int).toNat x9_2) := ⟨_, rfl⟩
     replace H : (spec_bestTokens.l1 k2 l0 (l0.length : Int) y266 y267 x6_1 t261 (wrap64 (x9_2 + 1))) = some r := rY hy267 H
     have Ny267 := aM hy267
     clear hy267
     have H' := aM H
     clear H
     obtain ⟨ad263, e263, hx263_0⟩ := Kd.at_int (Kd.R_reads' HO_4.out).2.2 (ji25) oD oD
     obtain rfl : (⟨go15, 0, none⟩ : Addr) = ad263 := (by injection e263)
     (first | simp only [add_plain] at hx263_0 | simp only [add_at] at hx263_0 | simp only [Addr.add, Nat.zero_add] at hx263_0 | skip)
     have p263 := eq_true (oD : 0 ≤ ((ji25) : Int))
     have q263 := eq_true (oD : (ji25) < (x4_2.length : Int))
     obtain ⟨ad264, e264, hx264_0⟩ := Kd.at_int (Kd.R_reads' HO_4.out).2.2 x6_1 oD oD
     obtain rfl : (⟨go15, 0, none⟩ : Addr) = ad264 := (by injection e264)
     (first | simp only [add_plain] at hx264_0 | simp only [add_at] at hx264_0 | simp only [Addr.add, Nat.zero_add] at hx264_0 | skip)
     have p264 := eq_true (oD : 0 ≤ (x6_1 : Int))
     have q264 := eq_true (oD : x6_1 < (x4_2.length : Int))
     obtain ⟨ad265, e265, hx265_0⟩ := Kd.at_int (Kd.R_reads' HO_4.out).2.2 (ji25) oD oD
     obtain rfl : (⟨go15, 0, none⟩ : Addr) = ad265 := (by injection e265)
     (first | simp only [add_plain] at hx265_0 | simp only [add_at] at hx265_0 | simp only [Addr.add, Nat.zero_add] at hx265_0 | skip)
     have p265 := eq_true (oD : 0 ≤ ((ji25) : Int))
     have q265 := eq_true (oD : (ji25) < (x4_2.length : Int))
     obtain ⟨hx31_0, hf31_0⟩ := Kd.R_celln 0 HO_4.out (x6_1 : Int) oD oD
     have p31 := eq_true (oD : 0 ≤ (x6_1 : Int))
     have q31 := eq_true (oD : (x6_1 : Int) < ((x4_2.length : Int) : Int))
     have HP34 := Kd.R_putg HO_4.out (x6_1 : Int) (wrap64 (11 + (rd x4_2 (ji25))))
     clear hx31_0 hf31_0
     go_wp2_with (first | ((with_reducible refine gate_store (t := 3) (p := 72) rfl ?_); (try (rw [drewN_self wr]; generalize hq_ : World.drewN wr _ = wr; replace HO_4 := aM (Kd.R_at hq_ HO_4.out); replace HO_5 := aM (Kd.R_at hq_ HO_5.out); replace HB := aM (below_at hq_ HB.out); clear hq_; (try (have HP34 := Kd.R_putg HO_4.out (x6_1 : Int) (wrap64 (11 + (rd x4_2 (ji25)))))))); (obtain ⟨hx31_0, hf31_0⟩ := Kd.R_celln 0 HO_4.out (x6_1 : Int) (of_eq_true p31) (of_eq_true q31)); refine store_event (t := 3) (p := 72) (v := ?vo_w35) (w1 := (wr.setCell ⟨go15, (x6_1 : Int).toNat, none⟩ (.int .i64 (wrap64 (11 + (rd x4_2 (ji25))))))) ?hg ?ho ?hn ?hr ?_; (case ho => rfl); (case hg => rfl); (case hn => rfl); (case hr => first | (go_simp; done) | (go_simp; rfl)); intro w35 hw; have hg : wr.grownBy w35 (some go15) := (by rw [hw]; exact HP34.2); have hp_ : Kd.R (Kd.int .i64) 3 w35 w.heap.size (fun k_ => some k_ ≠ (.slice (some ⟨go17, 0, none⟩) x5_2.length co17 : Value).ownBlock) (.slice (some ⟨go15, 0, none⟩) x4_2.length co19) y266 := (by rw [hw, Ny266.out]; exact HP34.1); clear HP34; replace HO_4 := aM (hp_); replace HO_5 := aM (Kd.R_after (v := (.slice (some ⟨go15, 0, none⟩) x4_2.length co19)) (v1 := (.slice (some ⟨go15, 0, none⟩) x4_2.length co19)) (ok := (fun _ => True)) (by refine qR ?_; exact Kd.R_mono HO_5.out (fun _ hk => ⟨trivial, hk⟩)) hg (.inl rfl)); replace HB := aM ((by rw [hw]; exact below_set (HB.out) GB15.out : Below w.heap.size w w35)); clear hg hw hp_; have p33 : 0 ≤ (x6_1 : Int) := oD; have q33 : (x6_1 : Int) < ((x5_2.length : Int) : Int) := oD; obtain ⟨hx33_0, hf33_0⟩ := Kd.R_celln 0 HO_5.out (x6_1 : Int) p33 q33; replace p33 := eq_true p33; replace q33 := eq_true q33; have n_ := aM (Kd.R_mono (ok' := (fun k_ => some k_ ≠ (.slice (some ⟨go15, 0, none⟩) x4_2.length co19 : Value).ownBlock)) HO_5.out (fun k_ hk => hk.2)); clear HO_5; have HO_5 := n_; clear n_; obtain ⟨hy36_, hz36_⟩ := Kd.R_celln 0 HO_5.out (x6_1 : Int) oD oD; have HP36 := Kd.R_putg HO_5.out (x6_1 : Int) x9_2) | ((with_reducible refine gate_store (t := 3) (p := 76) rfl ?_); (try (rw [drewN_self w35]; generalize hq_ : World.drewN w35 _ = w35; replace HO_4 := aM (Kd.R_at hq_ HO_4.out); replace HO_5 := aM (Kd.R_at hq_ HO_5.out); replace HB := aM (below_at hq_ HB.out); clear hq_; (try (have n_ := aM (Kd.R_mono (ok' := (fun k_ => some k_ ≠ (.slice (some ⟨go15, 0, none⟩) x4_2.length co19 : Value).ownBlock)) HO_5.out (fun k_ hk => hk.2)); clear HO_5; have HO_5 := n_; clear n_)); (try (obtain ⟨hy36_, hz36_⟩ := Kd.R_celln 0 HO_5.out (x6_1 : Int) oD oD)); (try (have HP36 := Kd.R_putg HO_5.out (x6_1 : Int) x9_2)))); refine store_event (t := 3) (p := 76) (v := ?vo_w37) (w1 := (w35.setCell ⟨go17, (x6_1 : Int).toNat, none⟩ (.int .i64 x9_2))) ?hg ?ho ?hn ?hr ?_; (case ho => rfl); (case hg => rfl); (case hn => rfl); (case hr => first | (go_simp; done) | (go_simp; rfl)); intro w37 hw; have hg : w35.grownBy w37 (some go17) := (by rw [hw]; exact HP36.2); have hp_ : Kd.R (Kd.int .i64) 3 w37 w.heap.size (fun k_ => some k_ ≠ (.slice (some ⟨go15, 0, none⟩) x4_2.length co19 : Value).ownBlock) (.slice (some ⟨go17, 0, none⟩) x5_2.length co17) y267 := (by rw [hw, Ny267.out]; exact HP36.1); clear HP36; replace HO_4 := aM (Kd.R_after (v := (.slice (some ⟨go17, 0, none⟩) x5_2.length co17)) (v1 := (.slice (some ⟨go17, 0, none⟩) x5_2.length co17)) (ok := (fun _ => True)) (by refine qR ?_; exact Kd.R_mono HO_4.out (fun _ hk => ⟨trivial, hk⟩)) hg (.inl rfl)); replace HO_5 := aM (hp_); replace HB := aM ((by rw [hw]; exact below_set (HB.out) GB17.out : Below w.heap.size w w37)); clear hg hw hp_))
     repeat (go_quiet (first | ((with_reducible refine gate_store (t := 3) (p := 72) rfl ?_); (try (rw [drewN_self wr]; generalize hq_ : World.drewN wr _ = wr; replace HO_4 := aM (Kd.R_at hq_ HO_4.out); replace HO_5 := aM (Kd.R_at hq_ HO_5.out); replace HB := aM (below_at hq_ HB.out); clear hq_; (try (have HP34 := Kd.R_putg HO_4.out (x6_1 : Int) (wrap64 (11 + (rd x4_2 (ji25)))))))); (obtain ⟨hx31_0, hf31_0⟩ := Kd.R_celln 0 HO_4.out (x6_1 : Int) (of_eq_true p31) (of_eq_true q31)); refine store_event (t := 3) (p := 72) (v := ?vo_w35) (w1 := (wr.setCell ⟨go15, (x6_1 : Int).toNat, none⟩ (.int .i64 (wrap64 (11 + (rd x4_2 (ji25))))))) ?hg ?ho ?hn ?hr ?_; (case ho => rfl); (case hg => rfl); (case hn => rfl); (case hr => first | (go_simp; done) | (go_simp; rfl)); intro w35 hw; have hg : wr.grownBy w35 (some go15) := (by rw [hw]; exact HP34.2); have hp_ : Kd.R (Kd.int .i64) 3 w35 w.heap.size (fun k_ => some k_ ≠ (.slice (some ⟨go17, 0, none⟩) x5_2.length co17 : Value).ownBlock) (.slice (some ⟨go15, 0, none⟩) x4_2.length co19) y266 := (by rw [hw, Ny266.out]; exact HP34.1); clear HP34; replace HO_4 := aM (hp_); replace HO_5 := aM (Kd.R_after (v := (.slice (some ⟨go15, 0, none⟩) x4_2.length co19)) (v1 := (.slice (some ⟨go15, 0, none⟩) x4_2.length co19)) (ok := (fun _ => True)) (by refine qR ?_; exact Kd.R_mono HO_5.out (fun _ hk => ⟨trivial, hk⟩)) hg (.inl rfl)); replace HB := aM ((by rw [hw]; exact below_set (HB.out) GB15.out : Below w.heap.size w w35)); clear hg hw hp_; have p33 : 0 ≤ (x6_1 : Int) := oD; have q33 : (x6_1 : Int) < ((x5_2.length : Int) : Int) := oD; obtain ⟨hx33_0, hf33_0⟩ := Kd.R_celln 0 HO_5.out (x6_1 : Int) p33 q33; replace p33 := eq_true p33; replace q33 := eq_true q33; have n_ := aM (Kd.R_mono (ok' := (fun k_ => some k_ ≠ (.slice (some ⟨go15, 0, none⟩) x4_2.length co19 : Value).ownBlock)) HO_5.out (fun k_ hk => hk.2)); clear HO_5; have HO_5 := n_; clear n_; obtain ⟨hy36_, hz36_⟩ := Kd.R_celln 0 HO_5.out (x6_1 : Int) oD oD; have HP36 := Kd.R_putg HO_5.out (x6_1 : Int) x9_2) | ((with_reducible refine gate_store (t := 3) (p := 76) rfl ?_); (try (rw [drewN_self w35]; generalize hq_ : World.drewN w35 _ = w35; replace HO_4 := aM (Kd.R_at hq_ HO_4.out); replace HO_5 := aM (Kd.R_at hq_ HO_5.out); replace HB := aM (below_at hq_ HB.out); clear hq_; (try (have n_ := aM (Kd.R_mono (ok' := (fun k_ => some k_ ≠ (.slice (some ⟨go15, 0, none⟩) x4_2.length co19 : Value).ownBlock)) HO_5.out (fun k_ hk => hk.2)); clear HO_5; have HO_5 := n_; clear n_)); (try (obtain ⟨hy36_, hz36_⟩ := Kd.R_celln 0 HO_5.out (x6_1 : Int) oD oD)); (try (have HP36 := Kd.R_putg HO_5.out (x6_1 : Int) x9_2)))); refine store_event (t := 3) (p := 76) (v := ?vo_w37) (w1 := (w35.setCell ⟨go17, (x6_1 : Int).toNat, none⟩ (.int .i64 x9_2))) ?hg ?ho ?hn ?hr ?_; (case ho => rfl); (case hg => rfl); (case hn => rfl); (case hr => first | (go_simp; done) | (go_simp; rfl)); intro w37 hw; have hg : w35.grownBy w37 (some go17) := (by rw [hw]; exact HP36.2); have hp_ : Kd.R (Kd.int .i64) 3 w37 w.heap.size (fun k_ => some k_ ≠ (.slice (some ⟨go15, 0, none⟩) x4_2.length co19 : Value).ownBlock) (.slice (some ⟨go17, 0, none⟩) x5_2.length co17) y267 := (by rw [hw, Ny267.out]; exact HP36.1); clear HP36; replace HO_4 := aM (Kd.R_after (v := (.slice (some ⟨go17, 0, none⟩) x5_2.length co17)) (v1 := (.slice (some ⟨go17, 0, none⟩) x5_2.length co17)) (ok := (fun _ => True)) (by refine qR ?_; exact Kd.R_mono HO_4.out (fun _ hk => ⟨trivial, hk⟩)) hg (.inl rfl)); replace HO_5 := aM (hp_); replace HB := aM ((by rw [hw]; exact below_set (HB.out) GB17.out : Below w.heap.size w w37)); clear hg hw hp_)); try go_wp2_with (first | ((with_reducible refine gate_store (t := 3) (p := 72) rfl ?_); (try (rw [drewN_self wr]; generalize hq_ : World.drewN wr _ = wr; replace HO_4 := aM (Kd.R_at hq_ HO_4.out); replace HO_5 := aM (Kd.R_at hq_ HO_5.out); replace HB := aM (below_at hq_ HB.out); clear hq_; (try (have HP34 := Kd.R_putg HO_4.out (x6_1 : Int) (wrap64 (11 + (rd x4_2 (ji25)))))))); (obtain ⟨hx31_0, hf31_0⟩ := Kd.R_celln 0 HO_4.out (x6_1 : Int) (of_eq_true p31) (of_eq_true q31)); refine store_event (t := 3) (p := 72) (v := ?vo_w35) (w1 := (wr.setCell ⟨go15, (x6_1 : Int).toNat, none⟩ (.int .i64 (wrap64 (11 + (rd x4_2 (ji25))))))) ?hg ?ho ?hn ?hr ?_; (case ho => rfl); (case hg => rfl); (case hn => rfl); (case hr => first | (go_simp; done) | (go_simp; rfl)); intro w35 hw; have hg : wr.grownBy w35 (some go15) := (by rw [hw]; exact HP34.2); have hp_ : Kd.R (Kd.int .i64) 3 w35 w.heap.size (fun k_ => some k_ ≠ (.slice (some ⟨go17, 0, none⟩) x5_2.length co17 : Value).ownBlock) (.slice (some ⟨go15, 0, none⟩) x4_2.length co19) y266 := (by rw [hw, Ny266.out]; exact HP34.1); clear HP34; replace HO_4 := aM (hp_); replace HO_5 := aM (Kd.R_after (v := (.slice (some ⟨go15, 0, none⟩) x4_2.length co19)) (v1 := (.slice (some ⟨go15, 0, none⟩) x4_2.length co19)) (ok := (fun _ => True)) (by refine qR ?_; exact Kd.R_mono HO_5.out (fun _ hk => ⟨trivial, hk⟩)) hg (.inl rfl)); replace HB := aM ((by rw [hw]; exact below_set (HB.out) GB15.out : Below w.heap.size w w35)); clear hg hw hp_; have p33 : 0 ≤ (x6_1 : Int) := oD; have q33 : (x6_1 : Int) < ((x5_2.length : Int) : Int) := oD; obtain ⟨hx33_0, hf33_0⟩ := Kd.R_celln 0 HO_5.out (x6_1 : Int) p33 q33; replace p33 := eq_true p33; replace q33 := eq_true q33; have n_ := aM (Kd.R_mono (ok' := (fun k_ => some k_ ≠ (.slice (some ⟨go15, 0, none⟩) x4_2.length co19 : Value).ownBlock)) HO_5.out (fun k_ hk => hk.2)); clear HO_5; have HO_5 := n_; clear n_; obtain ⟨hy36_, hz36_⟩ := Kd.R_celln 0 HO_5.out (x6_1 : Int) oD oD; have HP36 := Kd.R_putg HO_5.out (x6_1 : Int) x9_2) | ((with_reducible refine gate_store (t := 3) (p := 76) rfl ?_); (try (rw [drewN_self w35]; generalize hq_ : World.drewN w35 _ = w35; replace HO_4 := aM (Kd.R_at hq_ HO_4.out); replace HO_5 := aM (Kd.R_at hq_ HO_5.out); replace HB := aM (below_at hq_ HB.out); clear hq_; (try (have n_ := aM (Kd.R_mono (ok' := (fun k_ => some k_ ≠ (.slice (some ⟨go15, 0, none⟩) x4_2.length co19 : Value).ownBlock)) HO_5.out (fun k_ hk => hk.2)); clear HO_5; have HO_5 := n_; clear n_)); (try (obtain ⟨hy36_, hz36_⟩ := Kd.R_celln 0 HO_5.out (x6_1 : Int) oD oD)); (try (have HP36 := Kd.R_putg HO_5.out (x6_1 : Int) x9_2)))); refine store_event (t := 3) (p := 76) (v := ?vo_w37) (w1 := (w35.setCell ⟨go17, (x6_1 : Int).toNat, none⟩ (.int .i64 x9_2))) ?hg ?ho ?hn ?hr ?_; (case ho => rfl); (case hg => rfl); (case hn => rfl); (case hr => first | (go_simp; done) | (go_simp; rfl)); intro w37 hw; have hg : w35.grownBy w37 (some go17) := (by rw [hw]; exact HP36.2); have hp_ : Kd.R (Kd.int .i64) 3 w37 w.heap.size (fun k_ => some k_ ≠ (.slice (some ⟨go15, 0, none⟩) x4_2.length co19 : Value).ownBlock) (.slice (some ⟨go17, 0, none⟩) x5_2.length co17) y267 := (by rw [hw, Ny267.out]; exact HP36.1); clear HP36; replace HO_4 := aM (Kd.R_after (v := (.slice (some ⟨go17, 0, none⟩) x5_2.length co17)) (v1 := (.slice (some ⟨go17, 0, none⟩) x5_2.length co17)) (ok := (fun _ => True)) (by refine qR ?_; exact Kd.R_mono HO_4.out (fun _ hk => ⟨trivial, hk⟩)) hg (.inl rfl)); replace HO_5 := aM (hp_); replace HB := aM ((by rw [hw]; exact below_set (HB.out) GB17.out : Below w.heap.size w w37)); clear hg hw hp_)))
     (try simp only [← hl4_2, ← hl5_2])
     go_roundg k2
     case measure => have := HK1.out; have := HK2.out; omega
     case rel => exact ⟨(y266), (y267), (wrap64 (x9_2 + 1)), qE, H', ⟨by have := HK1.out; have := HK2.out; omega⟩, ⟨by (try simp only [hl4_2]); (try simp only [hl5_2]); refine qR ?_; exact Kd.R_mono HO_4.out (fun _ hk => hk.2)⟩, ⟨by (try simp only [hl4_2]); (try simp only [hl5_2]); refine qR ?_; exact HO_5.out⟩, ⟨by exact qW HB.out⟩⟩
mutual
def impl_longestMatch.l0 : Nat → List Int → Int → Int → Int → Int → Option (Int × Int)
 | 0, _, _, _, _, _ => none
 | k + 1, x0, x1, x6, x7, x8 => if x8 ≤ (mn 64 x1) then (impl_longestMatch.l1 k x0 x1 x6 x7 x8 0) else (some (x6, x7))
def impl_longestMatch.l1 : Nat → List Int → Int → Int → Int → Int → Int → Option (Int × Int)
 | 0, _, _, _, _, _, _ => none
 | k + 1, x0, x1, x6, x7, x8, x9 => if x9 < 18 then (if (wrap64 (x1 + x9)) < (x0.length : Int) then (if 0 ≤ (wrap64 (x1 + x9)) then (if 0 ≤ (wrap64 ((wrap64 (x1 + x9)) - x8)) then (if (wrap64 ((wrap64 (x1 + x9)) - x8)) < (x0.length : Int) then (if (rd x0 (wrap64 (x1 + x9))) = (rd x0 (wrap64 ((wrap64 (x1 + x9)) - x8))) then (impl_longestMatch.l1 k x0 x1 x6 x7 x8 (wrap64 (x9 + 1))) else (if x9 ≥ 3 then (if x9 > x6 then (impl_longestMatch.l0 k x0 x1 x9 x8 (wrap64 (x8 + 1))) else (impl_longestMatch.l0 k x0 x1 x6 x7 (wrap64 (x8 + 1)))) else (impl_longestMatch.l0 k x0 x1 x6 x7 (wrap64 (x8 + 1))))) else (none)) else (none)) else (none)) else (if x9 ≥ 3 then (if x9 > x6 then (impl_longestMatch.l0 k x0 x1 x9 x8 (wrap64 (x8 + 1))) else (impl_longestMatch.l0 k x0 x1 x6 x7 (wrap64 (x8 + 1)))) else (impl_longestMatch.l0 k x0 x1 x6 x7 (wrap64 (x8 + 1))))) else (if x9 ≥ 3 then (if x9 > x6 then (impl_longestMatch.l0 k x0 x1 x9 x8 (wrap64 (x8 + 1))) else (impl_longestMatch.l0 k x0 x1 x6 x7 (wrap64 (x8 + 1)))) else (impl_longestMatch.l0 k x0 x1 x6 x7 (wrap64 (x8 + 1))))
end
def impl_longestMatch.f (k : Nat) (l0 : List Int) (a1 : Int) : Option (Int × Int) := impl_longestMatch.l0 k l0 a1 0 0 1
theorem impl_longestMatch.mono_l : ∀ k, (∀ y0 y1 y2 y3 y4, LeO (impl_longestMatch.l0 k y0 y1 y2 y3 y4) (impl_longestMatch.l0 (k + 1) y0 y1 y2 y3 y4)) ∧ (∀ y0 y1 y2 y3 y4 y5, LeO (impl_longestMatch.l1 k y0 y1 y2 y3 y4 y5) (impl_longestMatch.l1 (k + 1) y0 y1 y2 y3 y4 y5))
 | 0 => ⟨fun _ _ _ _ _ r h => by simp [impl_longestMatch.l0] at h, fun _ _ _ _ _ _ r h => by simp [impl_longestMatch.l1] at h⟩
 | k + 1 => by
  obtain ⟨ih0, ih1⟩ := impl_longestMatch.mono_l k
  refine ⟨?_, ?_⟩
  all_goals intros
  all_goals first | unfold impl_longestMatch.l0 | unfold impl_longestMatch.l1
  all_goals repeat' first | (with_reducible first | exact ih0 _ _ _ _ _ | exact ih1 _ _ _ _ _ _ | exact lR | exact lN | refine lI ?_ ?_ | refine lB ?_ fun _ => ?_) | exact ih0 _ _ _ _ _ | exact ih1 _ _ _ _ _ _ | exact lN | refine lI ?_ ?_ | refine lB ?_ fun _ => ?_
theorem impl_longestMatch.mono : ∀ a0 a1 k, LeO (impl_longestMatch.f k a0 a1) (impl_longestMatch.f (k + 1) a0 a1) := by
 intro a0 a1 k
 obtain ⟨ih0, ih1⟩ := impl_longestMatch.mono_l k
 unfold impl_longestMatch.f
 repeat' first | (with_reducible first | exact ih0 _ _ _ _ _ | exact ih1 _ _ _ _ _ _ | exact lR | exact lN | refine lI ?_ ?_ | refine lB ?_ fun _ => ?_) | exact ih0 _ _ _ _ _ | exact ih1 _ _ _ _ _ _ | exact lN | refine lI ?_ ?_ | refine lB ?_ fun _ => ?_
set_option maxHeartbeats 8000000 in
set_option maxRecDepth 100000 in
theorem impl_longestMatch.calls (k : Nat) (A0 : Option Addr) (c0 : Nat) (l0 : List Int) (a1 : Int) (r1 : Int) (r2 : Int) (w : World) (hr0 : Kd.C (Kd.int .i64) w A0 l0.length l0) (hc0 : l0.length ≤ c0) (h : impl_longestMatch.f k l0 a1 = some (r1, r2)) :
  Calls Try.prog 86 #[.slice A0 l0.length c0, .int .i64 a1] w fun e w' => e = .returned (.tuple #[.int .i64 r1, .int .i64 r2]) ∧ Below w.heap.size w w' := by
 have HR0 := aM hr0
 have HC0 := aM hc0
 clear hr0 hc0
 have HB := aM (Below.refl w.heap.size w)
 unfold impl_longestMatch.f at h
 have H := h
 clear h
 have H' := aM H
 clear H
 go_enter Try.func86, Try.ntmps86
 go_wp2
 repeat (go_quiet (fail); try go_wp2)
 go_loopg [6, 7, 8] k (fun kq v6 v7 v8 w' => ∃ (x6_1 : Int) (x7_1 : Int) (x8_1 : Int), v6 = .int .i64 x6_1 ∧ v7 = .int .i64 x7_1 ∧ v8 = .int .i64 x8_1 ∧ Aside0 (impl_longestMatch.l0 kq l0 a1 x6_1 x7_1 x8_1 = some (r1, r2)) ∧ Aside0 (kq ≤ k) ∧ Aside0 (Below w.heap.size w w'))
 case atStart => exact ⟨(0), (0), (1), qE, qE, qE, H', ⟨Nat.le_refl _⟩, ⟨by exact qW HB.out⟩⟩
 case round =>
  clear H'
  obtain ⟨x6_1, x7_1, x8_1, rfl, rfl, rfl, HA, HK1, HB⟩ := hrel
  cases gk with
  | zero => exact absurd HA.out (by simp [impl_longestMatch.l0])
  | succ k1 =>
   have H := HA.out
   clear HA
   simp only [impl_longestMatch.l0] at H
   obtain ⟨ji3, hji3⟩ : ∃ j_ : Int, (mn 64 a1) = j_ := ⟨_, rfl⟩
   replace H : (if x8_1 ≤ (ji3) then (impl_longestMatch.l1 k1 l0 a1 x6_1 x7_1 x8_1 0) else (some (x6_1, x7_1))) = some (r1, r2) := by first | (rw [hji3] at H; exact H) | (simp only [hji3] at H ⊢; exact H)
   have hji3_ : (if a1 < 64 then a1 else 64) = ji3 := hji3
   by_cases c4 : x8_1 ≤ (ji3)
   rotate_left
   ·rw [if_neg c4] at H
    have c4b0 : decide (x8_1 ≤ (ji3)) = false := decide_eq_false c4
    clear c4
    simp only [Option.some.injEq, Prod.mk.injEq] at H
    obtain ⟨rfl, rfl⟩ := H
    go_wp2
    repeat (go_quiet (fail); try go_wp2)
    go_ret2
    exact ⟨by first | rfl | (simp [errW_none, errW_some] <;> rfl) | (simp only [← hji3]; first | rfl | (simp [errW_none, errW_some] <;> rfl)) | (simp [*, errW_none, errW_some] <;> rfl), by exact qW HB.out⟩
   rw [if_pos c4] at H
   have c4b0 : decide (x8_1 ≤ (ji3)) = true := decide_eq_true c4
   clear c4
   have H' := aM H
   clear H
   go_wp2
   repeat (go_quiet (fail); try go_wp2)
   go_loopg [9] k1 (fun kq v9 w' => ∃ (x9_2 : Int), v9 = .int .i64 x9_2 ∧ Aside0 (impl_longestMatch.l1 kq l0 a1 x6_1 x7_1 x8_1 x9_2 = some (r1, r2)) ∧ Aside0 (kq ≤ k1) ∧ Aside0 (Below w.heap.size w w'))
   case atStart => exact ⟨(0), qE, H', ⟨Nat.le_refl _⟩, ⟨by exact qW HB.out⟩⟩
   case round =>
    clear H'
    try clear c4
    try clear c4b0
    obtain ⟨x9_2, rfl, HA, HK2, HB⟩ := hrel
    cases gk with
    | zero => exact absurd HA.out (by simp [impl_longestMatch.l1])
    | succ k2 =>
     have H := HA.out
     clear HA
     simp only [impl_longestMatch.l1] at H
     by_cases c5 : x9_2 < 18
     rotate_left
     ·rw [if_neg c5] at H
      have c5b0 : decide (x9_2 < 18) = false := decide_eq_false c5
      clear c5
      by_cases c17 : x9_2 ≥ 3
      rotate_left
      ·rw [if_neg c17] at H
       have c17b0 : decide (3 ≤ x9_2) = false := decide_eq_false c17
       clear c17
       have H' := aM H
       clear H
       go_wp2
       repeat (go_quiet (fail); try go_wp2)
       go_roundg k2
       case measure => have := HK1.out; have := HK2.out; omega
       case rel => exact ⟨(x6_1), (x7_1), (wrap64 (x8_1 + 1)), qE, qE, qE, H', ⟨by have := HK1.out; have := HK2.out; omega⟩, ⟨by exact qW HB.out⟩⟩
      rw [if_pos c17] at H
      have c17b0 : decide (3 ≤ x9_2) = true := decide_eq_true c17
      clear c17
      by_cases c18 : x9_2 > x6_1
      ·rw [if_pos c18] at H
       have c18b0 : decide (x6_1 < x9_2) = true := decide_eq_true c18
       clear c18
       have H' := aM H
       clear H
       go_wp2
       repeat (go_quiet (fail); try go_wp2)
       go_roundg k2
       case measure => have := HK1.out; have := HK2.out; omega
       case rel => exact ⟨(x9_2), (x8_1), (wrap64 (x8_1 + 1)), qE, qE, qE, H', ⟨by have := HK1.out; have := HK2.out; omega⟩, ⟨by exact qW HB.out⟩⟩
      rw [if_neg c18] at H
      have c18b0 : decide (x6_1 < x9_2) = false := decide_eq_false c18
      clear c18
      have H' := aM H
      clear H
      go_wp2
      repeat (go_quiet (fail); try go_wp2)
      go_roundg k2
      case measure => have := HK1.out; have := HK2.out; omega
      case rel => exact ⟨(x6_1), (x7_1), (wrap64 (x8_1 + 1)), qE, qE, qE, H', ⟨by have := HK1.out; have := HK2.out; omega⟩, ⟨by exact qW HB.out⟩⟩
     rw [if_pos c5] at H
     have c5b0 : decide (x9_2 < 18) = true := decide_eq_true c5
     clear c5
     by_cases c6 : (wrap64 (a1 + x9_2)) < (l0.length : Int)
     rotate_left
     ·rw [if_neg c6] at H
      have c6b0 : decide ((wrap64 (a1 + x9_2)) < (l0.length : Int)) = false := decide_eq_false c6
      clear c6
      by_cases c15 : x9_2 ≥ 3
      rotate_left
      ·rw [if_neg c15] at H
       have c15b0 : decide (3 ≤ x9_2) = false := decide_eq_false c15
       clear c15
       have H' := aM H
       clear H
       go_wp2
       repeat (go_quiet (fail); try go_wp2)
       go_roundg k2
       case measure => have := HK1.out; have := HK2.out; omega
       case rel => exact ⟨(x6_1), (x7_1), (wrap64 (x8_1 + 1)), qE, qE, qE, H', ⟨by have := HK1.out; have := HK2.out; omega⟩, ⟨by exact qW HB.out⟩⟩
      rw [if_pos c15] at H
      have c15b0 : decide (3 ≤ x9_2) = true := decide_eq_true c15
      clear c15
      by_cases c16 : x9_2 > x6_1
      ·rw [if_pos c16] at H
       have c16b0 : decide (x6_1 < x9_2) = true := decide_eq_true c16
       clear c16
       have H' := aM H
       clear H
       go_wp2
       repeat (go_quiet (fail); try go_wp2)
       go_roundg k2
       case measure => have := HK1.out; have := HK2.out; omega
       case rel => exact ⟨(x9_2), (x8_1), (wrap64 (x8_1 + 1)), qE, qE, qE, H', ⟨by have := HK1.out; have := HK2.out; omega⟩, ⟨by exact qW HB.out⟩⟩
      rw [if_neg c16] at H
      have c16b0 : decide (x6_1 < x9_2) = false := decide_eq_false c16
      clear c16
      have H' := aM H
      clear H
      go_wp2
      repeat (go_quiet (fail); try go_wp2)
      go_roundg k2
      case measure => have := HK1.out; have := HK2.out; omega
      case rel => exact ⟨(x6_1), (x7_1), (wrap64 (x8_1 + 1)), qE, qE, qE, H', ⟨by have := HK1.out; have := HK2.out; omega⟩, ⟨by exact qW HB.out⟩⟩
     rw [if_pos c6] at H
     have c6b0 : decide ((wrap64 (a1 + x9_2)) < (l0.length : Int)) = true := decide_eq_true c6
     clear c6
     obtain ⟨ji7, hji7⟩ : ∃ j_ : Int, (wrap64 (a1 + x9_2)) = j_ := ⟨_, rfl⟩
     replace H : (if 0 ≤ (ji7) then (if 0 ≤ (wrap64 ((ji7) - x8_1)) then (if (wrap64 ((ji7) - x8_1)) < (l0.length : Int) then (if (rd l0 (ji7)) = (rd l0 (wrap64 ((ji7) - x8_1))) then (impl_longestMatch.l1 k2 l0 a1 x6_1 x7_1 x8_1 (wrap64 (x9_2 + 1))) else (if x9_2 ≥ 3 then (if x9_2 > x6_1 then (impl_longestMatch.l0 k2 l0 a1 x9_2 x8_1 (wrap64 (x8_1 + 1))) else (impl_longestMatch.l0 k2 l0 a1 x6_1 x7_1 (wrap64 (x8_1 + 1)))) else (impl_longestMatch.l0 k2 l0 a1 x6_1 x7_1 (wrap64 (x8_1 + 1))))) else (none)) else (none)) else (none)) = some (r1, r2) := by first | (rw [hji7] at H; exact H) | (simp only [hji7] at H ⊢; exact H)
     (try rw [hji7] at c6b0)
     have hji7w : (IntKind.i64.wrap (a1 + x9_2)) = ji7 := (i64_w _).trans hji7
     replace H := iD H
     obtain ⟨c8b0, H⟩ := H
     obtain ⟨ji9, hji9⟩ : ∃ j_ : Int, (wrap64 ((ji7) - x8_1)) = j_ := ⟨_, rfl⟩
     replace H : (if 0 ≤ (ji9) then (if (ji9) < (l0.length : Int) then (if (rd l0 (ji7)) = (rd l0 (ji9)) then (impl_longestMatch.l1 k2 l0 a1 x6_1 x7_1 x8_1 (wrap64 (x9_2 + 1))) else (if x9_2 ≥ 3 then (if x9_2 > x6_1 then (impl_longestMatch.l0 k2 l0 a1 x9_2 x8_1 (wrap64 (x8_1 + 1))) else (impl_longestMatch.l0 k2 l0 a1 x6_1 x7_1 (wrap64 (x8_1 + 1)))) else (impl_longestMatch.l0 k2 l0 a1 x6_1 x7_1 (wrap64 (x8_1 + 1))))) else (none)) else (none)) = some (r1, r2) := by first | (rw [hji9] at H; exact H) | (simp only [hji9] at H ⊢; exact H)
     have hji9w : (IntKind.i64.wrap ((ji7) - x8_1)) = ji9 := (i64_w _).trans hji9
     replace H := iD H
     obtain ⟨c10b0, H⟩ := H
     replace H := iD H
     obtain ⟨c11b0, H⟩ := H
     by_cases c12 : (rd l0 (ji7)) = (rd l0 (ji9))
     ·rw [if_pos c12] at H
      have c12b0 : ((rd l0 (ji7)) == (rd l0 (ji9))) = true := beq_iff_eq.mpr c12
      have c12b1 : ((rd l0 (ji7)) != (rd l0 (ji9))) = false := bne_eq_false_iff_eq.mpr c12
      clear c12
      have H' := aM H
      clear H
      obtain ⟨ad427, e427, hx427_0⟩ := Kd.at_int HR0.out (ji7) oD oD
      cases e427
      replace hx427_0 := bD HB hx427_0
      have p427 := eq_true (oD : 0 ≤ ((ji7) : Int))
      have q427 := eq_true (oD : (ji7) < (l0.length : Int))
      obtain ⟨ad428, e428, hx428_0⟩ := Kd.at_int HR0.out (ji9) oD oD
      obtain rfl : ad427 = ad428 := (by injection e428)
      replace hx428_0 := bD HB hx428_0
      have p428 := eq_true (oD : 0 ≤ ((ji9) : Int))
      have q428 := eq_true (oD : (ji9) < (l0.length : Int))
      go_wp2
      repeat (go_quiet (fail); try go_wp2)
      go_roundg k2
      case measure => have := HK1.out; have := HK2.out; omega
      case rel => exact ⟨(wrap64 (x9_2 + 1)), qE, H', ⟨by have := HK1.out; have := HK2.out; omega⟩, ⟨by exact qW HB.out⟩⟩
     rw [if_neg c12] at H
     have c12b0 : ((rd l0 (ji7)) == (rd l0 (ji9))) = false := beq_eq_false_iff_ne.mpr c12
     have c12b1 : ((rd l0 (ji7)) != (rd l0 (ji9))) = true := bne_iff_ne.mpr c12
     by_cases c13 : x9_2 ≥ 3
     rotate_left
     ·rw [if_neg c13] at H
      have c13b0 : decide (3 ≤ x9_2) = false := decide_eq_false c13
      clear c13
      have H' := aM H
      clear H
      obtain ⟨ad427, e427, hx427_0⟩ := Kd.at_int HR0.out (ji7) oD oD
      cases e427
      replace hx427_0 := bD HB hx427_0
      have p427 := eq_true (oD : 0 ≤ ((ji7) : Int))
      have q427 := eq_true (oD : (ji7) < (l0.length : Int))
      obtain ⟨ad428, e428, hx428_0⟩ := Kd.at_int HR0.out (ji9) oD oD
      obtain rfl : ad427 = ad428 := (by injection e428)
      replace hx428_0 := bD HB hx428_0
      have p428 := eq_true (oD : 0 ≤ ((ji9) : Int))
      have q428 := eq_true (oD : (ji9) < (l0.length : Int))
      go_wp2
      repeat (go_quiet (fail); try go_wp2)
      go_roundg k2
      case measure => have := HK1.out; have := HK2.out; omega
      case rel => exact ⟨(x6_1), (x7_1), (wrap64 (x8_1 + 1)), qE, qE, qE, H', ⟨by have := HK1.out; have := HK2.out; omega⟩, ⟨by exact qW HB.out⟩⟩
     rw [if_pos c13] at H
     have c13b0 : decide (3 ≤ x9_2) = true := decide_eq_true c13
     clear c13
     by_cases c14 : x9_2 > x6_1
     ·rw [if_pos c14] at H
      have c14b0 : decide (x6_1 < x9_2) = true := decide_eq_true c14
      clear c14
      have H' := aM H
      clear H
      obtain ⟨ad427, e427, hx427_0⟩ := Kd.at_int HR0.out (ji7) oD oD
      cases e427
      replace hx427_0 := bD HB hx427_0
      have p427 := eq_true (oD : 0 ≤ ((ji7) : Int))
      have q427 := eq_true (oD : (ji7) < (l0.length : Int))
      obtain ⟨ad428, e428, hx428_0⟩ := Kd.at_int HR0.out (ji9) oD oD
      obtain rfl : ad427 = ad428 := (by injection e428)
      replace hx428_0 := bD HB hx428_0
      have p428 := eq_true (oD : 0 ≤ ((ji9) : Int))
      have q428 := eq_true (oD : (ji9) < (l0.length : Int))
      go_wp2
      repeat (go_quiet (fail); try go_wp2)
      go_roundg k2
      case measure => have := HK1.out; have := HK2.out; omega
      case rel => exact ⟨(x9_2), (x8_1), (wrap64 (x8_1 + 1)), qE, qE, qE, H', ⟨by have := HK1.out; have := HK2.out; omega⟩, ⟨by exact qW HB.out⟩⟩
     rw [if_neg c14] at H
     have c14b0 : decide (x6_1 < x9_2) = false := decide_eq_false c14
     clear c14
     have H' := aM H
     clear H
     obtain ⟨ad427, e427, hx427_0⟩ := Kd.at_int HR0.out (ji7) oD oD
     cases e427
     replace hx427_0 := bD HB hx427_0
     have p427 := eq_true (oD : 0 ≤ ((ji7) : Int))
     have q427 := eq_true (oD : (ji7) < (l0.length : Int))
     obtain ⟨ad428, e428, hx428_0⟩ := Kd.at_int HR0.out (ji9) oD oD
     obtain rfl : ad427 = ad428 := (by injection e428)
     replace hx428_0 := bD HB hx428_0
     have p428 := eq_true (oD : 0 ≤ ((ji9) : Int))
     have q428 := eq_true (oD : (ji9) < (l0.length : Int))
     go_wp2
     repeat (go_quiet (fail); try go_wp2)
     go_roundg k2
     case measure => have := HK1.out; have := HK2.out; omega
     case rel => exact ⟨(x6_1), (x7_1), (wrap64 (x8_1 + 1)), qE, qE, qE, H', ⟨by have := HK1.out; have := HK2.out; omega⟩, ⟨by exact qW HB.out⟩⟩
mutual
def impl_bestTokens.l0 : Nat → List Int → List Int → List (S54) → Int → Option ((List (S54)))
 | 0, _, _, _, _ => none
 | k + 1, x0, x3, x4, x5 => if x5 ≥ 0 then (if 0 ≤ x5 then (if x5 < (x0.length : Int) then (if 0 ≤ (wrap64 (x5 + 1)) then (if (wrap64 (x5 + 1)) < (x3.length : Int) then ((impl_longestMatch.f k x0 x5).bind fun bt438 => (impl_bestTokens.l1 k x0 x3 x4 x5 (wrap64 (9 + (rd x3 (wrap64 (x5 + 1))))) bt438.1 bt438.2 3 (rd x0 x5) 0 0)) else (none)) else (none)) else (none)) else (none)) else (impl_bestTokens.l2 k x0 x4 (([] : List (S54))) 0)
def impl_bestTokens.l1 : Nat → List Int → List Int → List (S54) → Int → Int → Int → Int → Int → Int → Int → Int → Option ((List (S54)))
 | 0, _, _, _, _, _, _, _, _, _, _, _ => none
 | k + 1, x0, x3, x4, x5, x7, x8, x9, x10, x437000, x437001, x437002 => if x10 ≤ x8 then (if 0 ≤ (wrap64 (x5 + x10)) then (if (wrap64 (x5 + x10)) < (x3.length : Int) then (if (wrap64 (11 + (rd x3 (wrap64 (x5 + x10))))) ≤ x7 then (impl_bestTokens.l1 k x0 x3 x4 x5 (wrap64 (11 + (rd x3 (wrap64 (x5 + x10))))) x8 x9 (wrap64 (x10 + 1)) 0 x10 x9) else (impl_bestTokens.l1 k x0 x3 x4 x5 x7 x8 x9 (wrap64 (x10 + 1)) x437000 x437001 x437002)) else (none)) else (none)) else (if 0 ≤ x5 then (if x5 < (x4.length : Int) then (if x5 < (x3.length : Int) then (impl_bestTokens.l0 k x0 (x3.set (x5 : Int).toNat x7) (x4.set (x5 : Int).toNat (⟨x437000, x437001, x437002⟩ : S54)) (wrap64 (x5 - 1))) else (none)) else (none)) else (none))
def impl_bestTokens.l2 : Nat → List Int → List (S54) → List (S54) → Int → Option ((List (S54)))
 | 0, _, _, _, _ => none
 | k + 1, x0, x4, x12, x13 => if x13 < (x0.length : Int) then (if 0 ≤ x13 then (if x13 < (x4.length : Int) then (if x12.length < 5864062014805 then (impl_bestTokens.l2 k x0 x4 (x12 ++ [(⟨(rd_T54 x4 x13).f0, (rd_T54 x4 x13).f1, (rd_T54 x4 x13).f2⟩ : S54)]) (wrap64 (x13 + (mx ((rd_T54 x4 x13).f1) 1)))) else (none)) else (none)) else (none)) else (some x12)
end
def impl_bestTokens.f (k : Nat) (l0 : List Int) : Option ((List (S54))) := if 0 ≤ (wrap64 ((l0.length : Int) + 1)) then (if (wrap64 ((l0.length : Int) + 1) : Int).toNat ≤ 35184372088832 then (if 0 ≤ (l0.length : Int) then (if ((l0.length : Int) : Int).toNat ≤ 11728124029610 then (impl_bestTokens.l0 k l0 (List.replicate (wrap64 ((l0.length : Int) + 1) : Int).toNat 0) (List.replicate ((l0.length : Int) : Int).toNat z54) (wrap64 ((l0.length : Int) - 1))) else (none)) else (none)) else (none)) else (none)
theorem impl_bestTokens.mono_l : ∀ k, (∀ y0 y1 y2 y3, LeO (impl_bestTokens.l0 k y0 y1 y2 y3) (impl_bestTokens.l0 (k + 1) y0 y1 y2 y3)) ∧ (∀ y0 y1 y2 y3 y4 y5 y6 y7 y8 y9 y10, LeO (impl_bestTokens.l1 k y0 y1 y2 y3 y4 y5 y6 y7 y8 y9 y10) (impl_bestTokens.l1 (k + 1) y0 y1 y2 y3 y4 y5 y6 y7 y8 y9 y10)) ∧ (∀ y0 y1 y2 y3, LeO (impl_bestTokens.l2 k y0 y1 y2 y3) (impl_bestTokens.l2 (k + 1) y0 y1 y2 y3))
 | 0 => ⟨fun _ _ _ _ r h => by simp [impl_bestTokens.l0] at h, fun _ _ _ _ _ _ _ _ _ _ _ r h => by simp [impl_bestTokens.l1] at h, fun _ _ _ _ r h => by simp [impl_bestTokens.l2] at h⟩
 | k + 1 => by
  obtain ⟨ih0, ih1, ih2⟩ := impl_bestTokens.mono_l k
  refine ⟨?_, ?_, ?_⟩
  all_goals intros
  all_goals first | unfold impl_bestTokens.l0 | unfold impl_bestTokens.l1 | unfold impl_bestTokens.l2
  all_goals repeat' first | (with_reducible first | exact ih0 _ _ _ _ | exact ih1 _ _ _ _ _ _ _ _ _ _ _ | exact ih2 _ _ _ _ | exact impl_longestMatch.mono _ _ _ | exact lR | exact lN | refine lI ?_ ?_ | refine lB ?_ fun _ => ?_) | exact ih0 _ _ _ _ | exact ih1 _ _ _ _ _ _ _ _ _ _ _ | exact ih2 _ _ _ _ | exact impl_longestMatch.mono _ _ _ | exact lN | refine lI ?_ ?_ | refine lB ?_ fun _ => ?_
theorem impl_bestTokens.mono : ∀ a0 k, LeO (impl_bestTokens.f k a0) (impl_bestTokens.f (k + 1) a0) := by
 intro a0 k
 obtain ⟨ih0, ih1, ih2⟩ := impl_bestTokens.mono_l k
 unfold impl_bestTokens.f
 repeat' first | (with_reducible first | exact ih0 _ _ _ _ | exact ih1 _ _ _ _ _ _ _ _ _ _ _ | exact ih2 _ _ _ _ | exact impl_longestMatch.mono _ _ _ | exact lR | exact lN | refine lI ?_ ?_ | refine lB ?_ fun _ => ?_) | exact ih0 _ _ _ _ | exact ih1 _ _ _ _ _ _ _ _ _ _ _ | exact ih2 _ _ _ _ | exact impl_longestMatch.mono _ _ _ | exact lN | refine lI ?_ ?_ | refine lB ?_ fun _ => ?_
set_option maxHeartbeats 8000000 in
set_option maxRecDepth 100000 in
theorem impl_bestTokens.calls (k : Nat) (A0 : Option Addr) (c0 : Nat) (l0 : List Int) (r : List (S54)) (w : World) (hr0 : Kd.C (Kd.int .i64) w A0 l0.length l0) (hc0 : l0.length ≤ c0) (h : impl_bestTokens.f k l0 = some r) :
  Calls Try.prog 69 #[.slice A0 l0.length c0] w fun e w' => ∃ v0_ : Value, e = .returned (v0_) ∧ Kd.R k54 54 w' w.heap.size (fun _ => True) v0_ r ∧ Below w.heap.size w w' := by
 have hu54 := Try.underlying54
 have HR0 := aM hr0
 have HC0 := aM hc0
 clear hr0 hc0
 have HB := aM (Below.refl w.heap.size w)
 unfold impl_bestTokens.f at h
 have H := h
 clear h
 obtain ⟨ji2, hji2⟩ : ∃ j_ : Int, (wrap64 ((l0.length : Int) + 1)) = j_ := ⟨_, rfl⟩
 replace H : (if 0 ≤ (ji2) then (if (ji2 : Int).toNat ≤ 35184372088832 then (if 0 ≤ (l0.length : Int) then (if ((l0.length : Int) : Int).toNat ≤ 11728124029610 then (impl_bestTokens.l0 k l0 (List.replicate (ji2 : Int).toNat 0) (List.replicate ((l0.length : Int) : Int).toNat z54) (wrap64 ((l0.length : Int) - 1))) else (none)) else (none)) else (none)) else (none)) = some r := by first | (rw [hji2] at H; exact H) | (simp only [hji2] at H ⊢; exact H)
 have hji2w : (IntKind.i64.wrap ((l0.length : Int) + 1)) = ji2 := (i64_w _).trans hji2
 replace H := iS H
 obtain ⟨c3, H⟩ := H
 have c3b0 := eq_true c3
 have c3b1 : decide (0 ≤ (ji2)) = true := decide_eq_true c3
 clear c3
 replace H := iS H
 obtain ⟨c4, H⟩ := H
 have c4b0 := eq_true c4
 have c4b1 : decide ((ji2 : Int).toNat ≤ 35184372088832) = true := decide_eq_true c4
 clear c4
 obtain ⟨y429, hy429⟩ : ∃ y_ : List Int, y_ = (List.replicate (ji2 : Int).toNat 0) := ⟨_, rfl⟩
 replace H : (if 0 ≤ (l0.length : Int) then (if ((l0.length : Int) : Int).toNat ≤ 11728124029610 then (impl_bestTokens.l0 k l0 y429 (List.replicate ((l0.length : Int) : Int).toNat z54) (wrap64 ((l0.length : Int) - 1))) else (none)) else (none)) = some r := rY hy429 H
 have Ny429 := aM hy429
 clear hy429
 replace H := iS H
 obtain ⟨c5, H⟩ := H
 have c5b0 := eq_true c5
 have c5b1 : decide (0 ≤ (l0.length : Int)) = true := decide_eq_true c5
 clear c5
 replace H := iS H
 obtain ⟨c6, H⟩ := H
 have c6b0 := eq_true c6
 have c6b1 : decide (((l0.length : Int) : Int).toNat ≤ 11728124029610) = true := decide_eq_true c6
 clear c6
 obtain ⟨y432, hy432⟩ : ∃ y_ : List (S54), y_ = (List.replicate ((l0.length : Int) : Int).toNat z54) := ⟨_, rfl⟩
 replace H : (impl_bestTokens.l0 k l0 y429 y432 (wrap64 ((l0.length : Int) - 1))) = some r := rY hy432 H
 have Ny432 := aM hy432
 clear hy432
 have H' := aM H
 clear H
 go_enter Try.func69, Try.ntmps69
 go_wp2_with (first | ((with_reducible refine gate_dst (N := 17) rfl ?_); refine Kd.R_make (Kd.int .i64) _ 3 rfl (N := 17) rfl 22 _ _ rfl ji2 rfl rfl Try.underlying22 (.int .i64 0) 8 info3 rfl (by decide) (by omega) 0 (ok := fun _ => True) (okp := fun _ => True) rfl (fun _ hk => hk) trivial oD (Nat.le_trans (Nat.mul_le_mul_right _ (oD : ji2.toNat ≤ 35184372088832)) (by omega)) (Below.refl _ _) (Nat.le_refl _) ?_; intro v430 w7 ho8 hb hg_ hnew_; clear hg_ hnew_; (first | rw [← Ny429.out] at ho8 | (simp only [Int.reduceToNat] at ho8; rw [← Ny429.out] at ho8)); have HO431 := oR ho8 HB; replace HB := bS HB hb; clear hb ho8) | ((with_reducible refine gate_dst (N := 20) rfl ?_); refine Kd.R_make k54 _ 54 rfl (N := 20) rfl 51 _ _ rfl (l0.length : Int) rfl rfl Try.underlying51 (.agg #[(.int .i64 0), (.int .i64 0), (.int .i64 0)]) 24 info54 rfl (by decide) (by omega) z54 (ok := fun _ => True) (okp := fun _ => True) (k54_mkM _ _ _ z54 ) (fun _ hk => hk) trivial oD (Nat.le_trans (Nat.mul_le_mul_right _ (oD : (l0.length : Int).toNat ≤ 11728124029610)) (by omega)) (Below.refl _ _) (Nat.le_refl _) ?_; intro v433 w9 ho10 hb hg_ hnew_; clear hg_ hnew_; (first | rw [← Ny432.out] at ho10 | (simp only [Int.reduceToNat] at ho10; rw [← Ny432.out] at ho10)); replace HO431 := aM (Kd.R_below (qR HO431.out) hb); have HO434 := oR ho10 HB; replace HB := bS HB hb; clear hb ho10))
 go_loopg [5] k (fun kq v5 w' => ∃ (x3_1 : List Int) (x4_1 : List (S54)) (x5_1 : Int), v5 = .int .i64 x5_1 ∧ Aside0 (impl_bestTokens.l0 kq l0 x3_1 x4_1 x5_1 = some r) ∧ Aside0 (kq ≤ k) ∧ Aside0 (Kd.R (Kd.int .i64) 3 w' w.heap.size (fun _ => True) v430 x3_1) ∧ Aside0 (Kd.R k54 54 w' w.heap.size (fun _ => True) v433 x4_1) ∧ Aside0 (Below w.heap.size w w'))
 case atStart => exact ⟨(y429), (y432), (wrap64 ((l0.length : Int) - 1)), qE, H', ⟨Nat.le_refl _⟩, ⟨by refine qR ?_; exact HO431.out⟩, ⟨by refine qR ?_; exact HO434.out⟩, ⟨by exact qW HB.out⟩⟩
 case round =>
  clear H'
  try clear c3
  try clear c3b0
  try clear c3b1
  try clear c4
  try clear c4b0
  try clear c4b1
  try clear c5
  try clear c5b0
  try clear c5b1
  try clear c6
  try clear c6b0
  try clear c6b1
  obtain ⟨x3_1, x4_1, x5_1, rfl, HA, HK1, HO_3, HO_4, HB⟩ := hrel
  cases gk with
  | zero => exact absurd HA.out (by simp [impl_bestTokens.l0])
  | succ k1 =>
   have H := HA.out
   clear HA
   simp only [impl_bestTokens.l0] at H
   by_cases c11 : x5_1 ≥ 0
   rotate_left
   ·rw [if_neg c11] at H
    have c11b0 : decide (0 ≤ x5_1) = false := decide_eq_false c11
    clear c11
    obtain ⟨y443, hy443⟩ : ∃ y_ : List (S54), y_ = (([] : List (S54))) := ⟨_, rfl⟩
    replace H : (impl_bestTokens.l2 k1 l0 x4_1 y443 0) = some r := rY hy443 H
    have Ny443 := aM hy443
    clear hy443
    have H' := aM H
    clear H
    go_wp2_with (first | ((with_reducible refine gate_dst (N := 72) rfl ?_); refine Kd.R_lit k54 _ 54 ?hg (N := 72) ?hd (xs := ([] : List (S54))) (inner := []) (ok := fun _ => True) (okp := fun _ => True) ?hr ?hp (fun _ hk => hk) trivial (Below.refl _ _) (Nat.le_refl _) (by simp) ?_; (case hd => rfl); (case hg => rfl); (case hr => first | (go_simp; done) | (go_simp; rfl)); (case hp => exact (Reps.none _ _)); intro v444 w38 ho39 hb hg_ hnew_; clear hg_ hnew_; (first | rw [← Ny443.out] at ho39 | (simp only [Int.reduceToNat] at ho39; rw [← Ny443.out] at ho39)); replace HO_3 := aM (Kd.R_below (qR HO_3.out) hb); have HO445 := nR ho39 HO_4 HB; replace HO_4 := aM (Kd.R_elder' (qR HO_4.out) (Kd.R_base ho39) hb); replace HB := bS HB hb; clear hb ho39))
    go_loopg [12, 13] k1 (fun kq v12 v13 w' => ∃ (x12_2 : List (S54)) (x13_2 : Int), v13 = .int .i64 x13_2 ∧ Aside0 (impl_bestTokens.l2 kq l0 x4_1 x12_2 x13_2 = some r) ∧ Aside0 (kq ≤ k1) ∧ Aside0 (Kd.R k54 54 w' w.heap.size (fun k_ => some k_ ≠ (v12 : Value).ownBlock) v433 x4_1) ∧ Aside0 (Kd.R k54 54 w' w.heap.size (fun k_ => some k_ ≠ (v433 : Value).ownBlock) v12 x12_2) ∧ Aside0 (Below w.heap.size w w'))
    case atStart => exact ⟨(y443), (0), qE, H', ⟨Nat.le_refl _⟩, ⟨by refine qR ?_; exact Kd.R_mono HO_4.out (fun _ hk => hk.2)⟩, ⟨by refine qR ?_; exact Kd.R_mono HO445.out (fun _ hk => hk.2)⟩, ⟨by exact qW HB.out⟩⟩
    case round =>
     clear H'
     try clear c3
     try clear c3b0
     try clear c3b1
     try clear c4
     try clear c4b0
     try clear c4b1
     try clear c5
     try clear c5b0
     try clear c5b1
     try clear c6
     try clear c6b0
     try clear c6b1
     try clear c11
     try clear c11b0
     obtain ⟨x12_2, x13_2, rfl, HA, HK2, HO_4, HO_12, HB⟩ := hrel
     cases gk with
     | zero => exact absurd HA.out (by simp [impl_bestTokens.l2])
     | succ k2 =>
      have H := HA.out
      clear HA
      simp only [impl_bestTokens.l2] at H
      by_cases c40 : x13_2 < (l0.length : Int)
      rotate_left
      ·rw [if_neg c40] at H
       have c40b0 : decide (x13_2 < (l0.length : Int)) = false := decide_eq_false c40
       clear c40
       obtain rfl := Option.some.inj H
       go_wp2
       go_ret
       exact ⟨_, by first | rfl | (simp [errW_none, errW_some] <;> rfl) | (simp only [← hji2]; first | rfl | (simp [errW_none, errW_some] <;> rfl)) | (simp [*, errW_none, errW_some] <;> rfl), by refine qR ?_; exact Kd.R_mono HO_12.out (fun _ hk => trivial), by exact qW HB.out⟩
      rw [if_pos c40] at H
      have c40b0 : decide (x13_2 < (l0.length : Int)) = true := decide_eq_true c40
      clear c40
      replace H := iD H
      obtain ⟨c41b0, H⟩ := H
      replace H := iD H
      obtain ⟨c42b0, H⟩ := H
      replace H := iS H
      obtain ⟨c43, H⟩ := H
      have LMc43 := aM c43
      clear c43
      obtain ⟨y447, hy447⟩ : ∃ y_ : List (S54), y_ = (x12_2 ++ [(⟨(rd_T54 x4_1 x13_2).f0, (rd_T54 x4_1 x13_2).f1, (rd_T54 x4_1 x13_2).f2⟩ : S54)]) := ⟨_, rfl⟩
      replace H : (impl_bestTokens.l2 k2 l0 x4_1 y447 (wrap64 (x13_2 + (mx ((rd_T54 x4_1 x13_2).f1) 1)))) = some r := rY hy447 H
      have Ny447 := aM hy447
      clear hy447
      obtain ⟨ji44, hji44⟩ : ∃ j_ : Int, (mx ((rd_T54 x4_1 x13_2).f1) 1) = j_ := ⟨_, rfl⟩
      replace H : (impl_bestTokens.l2 k2 l0 x4_1 y447 (wrap64 (x13_2 + (ji44)))) = some r := by first | (rw [hji44] at H; exact H) | (simp only [hji44] at H ⊢; exact H)
      have hji44_ : (if ((rd_T54 x4_1 x13_2).f1) < 1 then 1 else ((rd_T54 x4_1 x13_2).f1)) = ji44 := hji44
      have H' := aM H
      clear H
      obtain ⟨Ao45, co45, rfl⟩ := sL HO_4
      obtain ⟨ad446, e446, hx446_0, hx446_1, hx446_2⟩ := at_T54 (Kd.R_reads' HO_4.out).2.2 x13_2 oD oD
      cases e446
      have p446 := eq_true (oD : 0 ≤ (x13_2 : Int))
      have q446 := eq_true (oD : x13_2 < (x4_1.length : Int))
      go_wp2_with (first | ((with_reducible refine gate_builtin (b := .append) (xs := #[.tmp 85, .tmp 90]) rfl ?_); at_builtin; refine Kd.R_append k54 (w0 := w) w.heap.size rfl (.tmp 85) (.tmp 90) 51 54 (.agg #[(.int .i64 0), (.int .i64 0), (.int .i64 0)]) 24 rfl Try.underlying51 info54 rfl (by decide) (by omega) u12 x12_2 (⟨(rd_T54 x4_1 x13_2).f0, (rd_T54 x4_1 x13_2).f1, (rd_T54 x4_1 x13_2).f2⟩ : S54) [.int .i64 ((rd_T54 x4_1 x13_2).f0), .int .i64 ((rd_T54 x4_1 x13_2).f1), .int .i64 ((rd_T54 x4_1 x13_2).f2)] (fun k_ => some k_ ≠ (.slice (some ad446) x4_1.length co45 : Value).ownBlock) (fun _ => False) rfl rfl ?aP (fun _ hk => hk.elim) ?aF ?aO ?aB ?aS ?aL ?_; (case aP => exact k54_mkM _ _ _ (⟨(rd_T54 x4_1 x13_2).f0, (rd_T54 x4_1 x13_2).f1, (rd_T54 x4_1 x13_2).f2⟩ : S54)); (case aB => exact (qW HB.out)); (case aF => exact (fun k_ hk => Kd.fresh' (Kd.R_lt (qR HO_4.out)) k_ hk)); (case aO => exact (qR HO_12.out)); (case aS => exact (below_size (qW HB.out))); (case aL => have := LMc43.out; omega); intro v448 w46 ho hb hg hat; rw [← Ny447.out] at ho; replace HO_4 := aM (Kd.R_after (ok := (fun _ => True)) (by refine qR ?_; exact Kd.R_mono HO_4.out (fun _ hk => ⟨trivial, hk⟩)) hg hat); replace HB := aM (hb); have HO449 := aM (ho); clear HO_12; clear ho hb hg hat; have p450 : 0 ≤ (x13_2 : Int) := oD; have q450 : x13_2 < (x4_1.length : Int) := oD; obtain ⟨ad450, e450, hx450_0, hx450_1, hx450_2⟩ := at_T54 (Kd.R_reads' HO_4.out).2.2 x13_2 p450 q450; obtain rfl : ad446 = ad450 := (by injection e450); replace p450 := eq_true p450; replace q450 := eq_true q450))
      go_roundg k2
      case measure => have := HK1.out; have := HK2.out; omega
      case rel => exact ⟨(y447), (wrap64 (x13_2 + (ji44))), (by first | rfl | (simp; done) | (simp only [← hji44] <;> (first | rfl | simp)) | (simp [*]; done)), H', ⟨by have := HK1.out; have := HK2.out; omega⟩, ⟨by refine qR ?_; exact Kd.R_mono HO_4.out (fun _ hk => hk.2)⟩, ⟨by refine qR ?_; exact HO449.out⟩, ⟨by exact qW HB.out⟩⟩
   rw [if_pos c11] at H
   have c11b0 : decide (0 ≤ x5_1) = true := decide_eq_true c11
   clear c11
   replace H := iD H
   obtain ⟨c12b0, H⟩ := H
   replace H := iD H
   obtain ⟨c13b0, H⟩ := H
   obtain ⟨ji14, hji14⟩ : ∃ j_ : Int, (wrap64 (x5_1 + 1)) = j_ := ⟨_, rfl⟩
   replace H : (if 0 ≤ (ji14) then (if (ji14) < (x3_1.length : Int) then ((impl_longestMatch.f k1 l0 x5_1).bind fun bt438 => (impl_bestTokens.l1 k1 l0 x3_1 x4_1 x5_1 (wrap64 (9 + (rd x3_1 (ji14)))) bt438.1 bt438.2 3 (rd l0 x5_1) 0 0)) else (none)) else (none)) = some r := by first | (rw [hji14] at H; exact H) | (simp only [hji14] at H ⊢; exact H)
   have hji14w : (IntKind.i64.wrap (x5_1 + 1)) = ji14 := (i64_w _).trans hji14
   replace H := iD H
   obtain ⟨c15b0, H⟩ := H
   replace H := iD H
   obtain ⟨c16b0, H⟩ := H
   replace H := Option.bind_eq_some_iff.mp H
   obtain ⟨⟨t438, t439⟩, A170, H⟩ := H
   replace H : (impl_bestTokens.l1 k1 l0 x3_1 x4_1 x5_1 (wrap64 (9 + (rd x3_1 (ji14)))) t438 t439 3 (rd l0 x5_1) 0 0) = some r := H
   have A17 := aM A170
   clear A170
   have H' := aM H
   clear H
   obtain ⟨ad435, e435, hx435_0⟩ := Kd.at_int HR0.out x5_1 oD oD
   cases e435
   replace hx435_0 := bD HB hx435_0
   have p435 := eq_true (oD : 0 ≤ (x5_1 : Int))
   have q435 := eq_true (oD : x5_1 < (l0.length : Int))
   go_wp2_with (first | ((with_reducible refine gate_dst (N := 6) rfl ?_); refine bxE (N := 6) (cs := #[.int .i64 0, .int .i64 0, .int .i64 0]) (t := 54) ?_; intro gb436 hg w18 hbox hb; replace HO_3 := aM (Kd.R_below (qR HO_3.out) hb); replace HO_4 := aM (Kd.R_below (Kd.R_elderB (qR HO_4.out) gb436 (Nat.le_of_eq hg.symm)) hb); have BK436 := aM (hbox); have GW436 := gW hg HB; have GE436 := gW hg HB; replace HB := bS HB hb; clear hb hbox hg; obtain ⟨⟨hcz19_0, hcz19_1, hcz19_2⟩, hfz19_0, hfz19_1, hfz19_2⟩ := cf3 BK436; obtain ⟨Ao20, co20, rfl⟩ := sL HO_3; have p437 : 0 ≤ ((ji14) : Int) := oD; have q437 : (ji14) < (x3_1.length : Int) := oD; obtain ⟨ad437, e437, hx437_0⟩ := Kd.at_int (Kd.R_reads' HO_3.out).2.2 (ji14) p437 q437; cases e437; have hn437_0 : ad437.block ≠ gb436 := Kd.own_blk (Kd.R_ne HO_3.out BK436.out (by decide)); have hn437_1 : ad437.block ≠ gb436 := Kd.own_blk (Kd.R_ne HO_3.out BK436.out (by decide)); have hn437_2 : ad437.block ≠ gb436 := Kd.own_blk (Kd.R_ne HO_3.out BK436.out (by decide)); replace hx437_0 := (cell_far (p := ⟨gb436, 0, none⟩) (by first | (rw [add_block]; exact hn437_0) | (show (Addr.add _ _).block ≠ _; rw [add_block]; exact hn437_0) | exact hn437_0) (.int .i64 (rd l0 x5_1))).trans hx437_0; replace hx437_0 := (cell_far (p := ⟨gb436, 1, none⟩) (by first | (rw [add_block]; exact hn437_1) | (show (Addr.add _ _).block ≠ _; rw [add_block]; exact hn437_1) | exact hn437_1) (.int .i64 0)).trans hx437_0; replace hx437_0 := (cell_far (p := ⟨gb436, 2, none⟩) (by first | (rw [add_block]; exact hn437_2) | (show (Addr.add _ _).block ≠ _; rw [add_block]; exact hn437_2) | exact hn437_2) (.int .i64 0)).trans hx437_0; clear hn437_0; clear hn437_1; clear hn437_2; replace p437 := eq_true p437; replace q437 := eq_true q437) | ((with_reducible refine gate_callee (f := 86) rfl ?_); refine gL (some 42) Try.func86 #[.slice (some ad435) l0.length c0, .int .i64 x5_1] ?_; (with_reducible refine (impl_longestMatch.calls k1 _ _ l0 x5_1 t438 t439 _ ?side1 ?side2 A17.out).mono ?_); (case side1 => exact Kd.C_below HR0.out (qW HB.out)); (case side2 => exact HC0.out); rintro e w21 ⟨rfl, hb⟩; refine ⟨_, rfl, ?_⟩; replace HO_3 := aM (Kd.R_below (by refine qR ?_; exact (Kd.R_mono (rT HO_3 BK436) (fun _ h_ => h_.1))) hb); replace HO_4 := aM (Kd.R_below (by refine qR ?_; exact (Kd.R_mono (Kd.R_far (p := ⟨gb436, 2, none⟩) (Kd.R_far (p := ⟨gb436, 1, none⟩) (Kd.R_far (p := ⟨gb436, 0, none⟩) (Kd.R_mono HO_4.out (fun k_ hk => (⟨hk, hk.2⟩ : _ ∧ k_ ≠ gb436))) (fun _ hk => hk.2) (.int .i64 (rd l0 x5_1))) (fun _ hk => hk.2) (.int .i64 0)) (fun _ hk => hk.2) (.int .i64 0)) (fun _ h_ => h_.1))) hb); replace BK436 := aM (blk_below (g := gb436) (o := .cells #[.int .i64 (rd l0 x5_1), .int .i64 0, .int .i64 0] 54 (0, 0)) (by exact bP BK436.out) hb); replace HB := bS HB hb; clear hb))
   go_loopg [7, 10] k1 (fun kq v7 v10 w' => ∃ (x7_2 : Int) (x10_2 : Int) (x437000_2 : Int) (x437001_2 : Int) (x437002_2 : Int), v7 = .int .i64 x7_2 ∧ v10 = .int .i64 x10_2 ∧ Aside0 (impl_bestTokens.l1 kq l0 x3_1 x4_1 x5_1 x7_2 t438 t439 x10_2 x437000_2 x437001_2 x437002_2 = some r) ∧ Aside0 (kq ≤ k1) ∧ Aside0 (Kd.R (Kd.int .i64) 3 w' w.heap.size (fun _ => True) (.slice (some ad437) x3_1.length co20) x3_1) ∧ Aside0 (Kd.R k54 54 w' w.heap.size (fun k_ => k_ ≠ gb436) v433 x4_1) ∧ Aside0 (w'.heap[gb436]? = some (.cells #[.int .i64 x437000_2, .int .i64 x437001_2, .int .i64 x437002_2] 54 (0, 0))) ∧ Aside0 (Below w.heap.size w w'))
   case atStart => exact ⟨(wrap64 (9 + (rd x3_1 (ji14)))), (3), (rd l0 x5_1), (0), (0), (by first | rfl | (simp; done) | (simp only [← hji14] <;> (first | rfl | simp)) | (simp [*]; done)), qE, H', ⟨Nat.le_refl _⟩, ⟨by refine qR ?_; exact HO_3.out⟩, ⟨by refine qR ?_; exact Kd.R_mono HO_4.out (fun _ hk => hk.2)⟩, ⟨by refine qB ?_; exact BK436.out⟩, ⟨by exact qW HB.out⟩⟩
   case round =>
    clear H'
    try clear c3
    try clear c3b0
    try clear c3b1
    try clear c4
    try clear c4b0
    try clear c4b1
    try clear c5
    try clear c5b0
    try clear c5b1
    try clear c6
    try clear c6b0
    try clear c6b1
    try clear c11
    try clear c11b0
    try clear c12b0
    try clear c13b0
    try clear c15b0
    try clear c16b0
    try clear hcz19_0 hcz19_1 hcz19_2 hfz19_0 hfz19_1 hfz19_2
    try clear hx435_0
    try clear hx437_0
    try clear p435
    try clear p437
    try clear q435
    try clear q437
    obtain ⟨x7_2, x10_2, x437000_2, x437001_2, x437002_2, rfl, rfl, HA, HK2, HO_3, HO_4, BK436, HB⟩ := hrel
    cases gk with
    | zero => exact absurd HA.out (by simp [impl_bestTokens.l1])
    | succ k2 =>
     have H := HA.out
     clear HA
     simp only [impl_bestTokens.l1] at H
     by_cases c22 : x10_2 ≤ t438
     ·rw [if_pos c22] at H
      have c22b0 : decide (x10_2 ≤ t438) = true := decide_eq_true c22
      clear c22
      obtain ⟨ji23, hji23⟩ : ∃ j_ : Int, (wrap64 (x5_1 + x10_2)) = j_ := ⟨_, rfl⟩
      replace H : (if 0 ≤ (ji23) then (if (ji23) < (x3_1.length : Int) then (if (wrap64 (11 + (rd x3_1 (ji23)))) ≤ x7_2 then (impl_bestTokens.l1 k2 l0 x3_1 x4_1 x5_1 (wrap64 (11 + (rd x3_1 (ji23)))) t438 t439 (wrap64 (x10_2 + 1)) 0 x10_2 t439) else (impl_bestTokens.l1 k2 l0 x3_1 x4_1 x5_1 x7_2 t438 t439 (wrap64 (x10_2 + 1)) x437000_2 x437001_2 x437002_2)) else (none)) else (none)) = some r := by first | (rw [hji23] at H; exact H) | (simp only [hji23] at H ⊢; exact H)
      have hji23w : (IntKind.i64.wrap (x5_1 + x10_2)) = ji23 := (i64_w _).trans hji23
      replace H := iD H
      obtain ⟨c24b0, H⟩ := H
      replace H := iD H
      obtain ⟨c25b0, H⟩ := H
      by_cases c26 : (wrap64 (11 + (rd x3_1 (ji23)))) ≤ x7_2
      rotate_left
      ·rw [if_neg c26] at H
       have c26b0 : decide ((wrap64 (11 + (rd x3_1 (ji23)))) ≤ x7_2) = false := decide_eq_false c26
       clear c26
       have H' := aM H
       clear H
       obtain ⟨ad440, e440, hx440_0⟩ := Kd.at_int (Kd.R_reads' HO_3.out).2.2 (ji23) oD oD
       obtain rfl : ad437 = ad440 := (by injection e440)
       have p440 := eq_true (oD : 0 ≤ ((ji23) : Int))
       have q440 := eq_true (oD : (ji23) < (x3_1.length : Int))
       go_wp2
       go_roundg k2
       case measure => have := HK1.out; have := HK2.out; omega
       case rel => exact ⟨(x7_2), (wrap64 (x10_2 + 1)), (x437000_2), (x437001_2), (x437002_2), qE, qE, H', ⟨by have := HK1.out; have := HK2.out; omega⟩, ⟨by refine qR ?_; exact HO_3.out⟩, ⟨by refine qR ?_; exact HO_4.out⟩, ⟨by refine qB ?_; exact BK436.out⟩, ⟨by exact qW HB.out⟩⟩
      rw [if_pos c26] at H
      have c26b0 : decide ((wrap64 (11 + (rd x3_1 (ji23)))) ≤ x7_2) = true := decide_eq_true c26
      clear c26
      have H' := aM H
      clear H
      obtain ⟨ad440, e440, hx440_0⟩ := Kd.at_int (Kd.R_reads' HO_3.out).2.2 (ji23) oD oD
      obtain rfl : ad437 = ad440 := (by injection e440)
      have p440 := eq_true (oD : 0 ≤ ((ji23) : Int))
      have q440 := eq_true (oD : (ji23) < (x3_1.length : Int))
      obtain ⟨⟨hcz27_0, hcz27_1, hcz27_2⟩, hfz27_0, hfz27_1, hfz27_2⟩ := cf3 BK436
      go_wp2
      go_roundg k2
      case measure => have := HK1.out; have := HK2.out; omega
      case rel => exact ⟨(wrap64 (11 + (rd x3_1 (ji23)))), (wrap64 (x10_2 + 1)), (0), (x10_2), (t439), (by first | rfl | (simp; done) | (simp only [← hji23] <;> (first | rfl | simp)) | (simp [*]; done)), qE, H', ⟨by have := HK1.out; have := HK2.out; omega⟩, ⟨by refine qR ?_; exact Kd.R_mono (rT HO_3 BK436) (fun _ hk => trivial)⟩, ⟨by refine qR ?_; exact Kd.R_mono (Kd.R_far (p := ⟨gb436, 2, none⟩) (Kd.R_far (p := ⟨gb436, 1, none⟩) (Kd.R_far (p := ⟨gb436, 0, none⟩) (Kd.R_mono HO_4.out (fun k_ hk => (⟨hk, hk⟩ : _ ∧ k_ ≠ gb436))) (fun _ hk => hk.2) (.int .i64 0)) (fun _ hk => hk.2) (.int .i64 x10_2)) (fun _ hk => hk.2) (.int .i64 t439)) (fun _ hk => hk.1)⟩, ⟨by exact bP BK436.out⟩, ⟨by exact qW HB.out⟩⟩
     rw [if_neg c22] at H
     have c22b0 : decide (x10_2 ≤ t438) = false := decide_eq_false c22
     clear c22
     replace H := iD H
     obtain ⟨c28b0, H⟩ := H
     replace H := iD H
     obtain ⟨c29b0, H⟩ := H
     obtain ⟨y441, hy441⟩ : ∃ y_ : List (S54), y_ = (x4_1.set (x5_1 : Int).toNat (⟨x437000_2, x437001_2, x437002_2⟩ : S54)) := ⟨_, rfl⟩
     replace H : (if x5_1 < (x3_1.length : Int) then (impl_bestTokens.l0 k2 l0 (x3_1.set (x5_1 : Int).toNat x7_2) y441 (wrap64 (x5_1 - 1))) else (none)) = some r := rY hy441 H
     have Ny441 := aM hy441
     clear hy441
     replace H := iD H
     obtain ⟨c31b0, H⟩ := H
     obtain ⟨y442, hy442⟩ : ∃ y_ : List Int, y_ = (x3_1.set (x5_1 : Int).toNat x7_2) := ⟨_, rfl⟩
     replace H : (impl_bestTokens.l0 k2 l0 y442 y441 (wrap64 (x5_1 - 1))) = some r := rY hy442 H
     have Ny442 := aM hy442
     clear hy442
     have H' := aM H
     clear H
     obtain ⟨⟨hcz33_0, hcz33_1, hcz33_2⟩, hfz33_0, hfz33_1, hfz33_2⟩ := cf3 BK436
     have p30 : 0 ≤ (x5_1 : Int) := oD
     have q30 : (x5_1 : Int) < ((x4_1.length : Int) : Int) := oD
     obtain ⟨go30, co30, eo30, gb30, gl30, cl30, HG30⟩ := Kd.R_form HO_4.out (by omega)
     (first | cases eo30 | (injection eo30 with ea_ en_ ec_; (first | subst ea_ | (injection ea_ with ea_; subst ea_)); subst ec_; clear en_))
     have GB30 := aM gb30
     have GG30 := aM HG30
     clear gb30 gl30 HG30
     obtain ⟨ce30, hcl30, hM30, hcc30, hfr30⟩ := Kd.R_elem HO_4.out z54 (x5_1 : Int) p30 q30
     obtain rfl := k54_openM hM30
     have hx30_0 : wr.cell? ⟨go30, (x5_1 : Int).toNat * 3, none⟩ = some (.int .i64 ((rd_T54 x4_1 x5_1).f0)) := hcc30 0 _ rfl
     have hx30_1 : wr.cell? ⟨go30, (x5_1 : Int).toNat * 3 + 1, none⟩ = some (.int .i64 ((rd_T54 x4_1 x5_1).f1)) := hcc30 1 _ rfl
     have hx30_2 : wr.cell? ⟨go30, (x5_1 : Int).toNat * 3 + 2, none⟩ = some (.int .i64 ((rd_T54 x4_1 x5_1).f2)) := hcc30 2 _ rfl
     have hf30_0 : wr.frozen? ⟨go30, (x5_1 : Int).toNat * 3, none⟩ = false := hfr30 0
     have hf30_1 : wr.frozen? ⟨go30, (x5_1 : Int).toNat * 3 + 1, none⟩ = false := hfr30 1
     have hf30_2 : wr.frozen? ⟨go30, (x5_1 : Int).toNat * 3 + 2, none⟩ = false := hfr30 2
     (try clear hcl30); (try clear hcc30); (try clear hfr30); (try clear hM30)
     replace p30 := eq_true p30
     replace q30 := eq_true q30
     have HX34 := aM (show Kd.R k54 54 wr w.heap.size (fun k_ => k_ ≠ gb436) (.slice (some ⟨go30, 0, none⟩) x4_1.length co30) x4_1 from (qR HO_4.out))
     obtain ⟨ce34, hcl34, hM34, hcc34, hfr34⟩ := Kd.R_elem HX34.out z54 (x5_1 : Int) oD (by have h_ : (x5_1 : Int) < ((x4_1.length : Int) : Int) := oD; first | exact h_ | (have e_ := (Kd.R_reads' HO_4.out).1; omega) | simpa using h_)
     obtain rfl := k54_openM hM34
     have HP34 := Kd.R_seg HX34.out (x5_1 : Int) oD (by have h_ : (x5_1 : Int) < ((x4_1.length : Int) : Int) := oD; first | exact h_ | (have e_ := (Kd.R_reads' HO_4.out).1; omega) | simpa using h_) (seg := [.int .i64 x437000_2, .int .i64 x437001_2, .int .i64 x437002_2]) (j := 0) hcl34 hcc34 (show 3 ≤ 3 from by decide) (x' := (⟨x437000_2, x437001_2, x437002_2⟩ : S54)) (k54_mkM _ _ _ (⟨x437000_2, x437001_2, x437002_2⟩ : S54) ) (fun _ hk => hk)
     have hx34_0 := hcc34 0 _ rfl
     (try simp only [show (k54).sz = 3 from rfl, Nat.mul_one, Nat.add_zero] at hx34_0)
     have hf34_0 := hfr34 0
     (try simp only [show (k54).sz = 3 from rfl, Nat.mul_one, Nat.add_zero] at hf34_0)
     have hx34_1 := hcc34 1 _ rfl
     (try simp only [show (k54).sz = 3 from rfl, Nat.mul_one, Nat.add_zero] at hx34_1)
     have hf34_1 := hfr34 1
     (try simp only [show (k54).sz = 3 from rfl, Nat.mul_one, Nat.add_zero] at hf34_1)
     have hx34_2 := hcc34 2 _ rfl
     (try simp only [show (k54).sz = 3 from rfl, Nat.mul_one, Nat.add_zero] at hx34_2)
     have hf34_2 := hfr34 2
     (try simp only [show (k54).sz = 3 from rfl, Nat.mul_one, Nat.add_zero] at hf34_2)
     (try clear hcl34); (try clear hcc34); (try clear hfr34); (try clear hM34)
     go_wp2_with (first | ((with_reducible refine gate_store (t := 54) (p := 70) rfl ?_); refine store_event (t := 54) (p := 70) (v := ?vo_w35) (w1 := (((wr.setCell ⟨go30, (x5_1 : Int).toNat * 3, none⟩ (.int .i64 x437000_2)).setCell ⟨go30, (x5_1 : Int).toNat * 3 + 1, none⟩ (.int .i64 x437001_2)).setCell ⟨go30, (x5_1 : Int).toNat * 3 + 2, none⟩ (.int .i64 x437002_2))) ?hg ?ho ?hn ?hr ?_; (case ho => rfl); (case hg => rfl); (case hn => rfl); (case hr => first | (go_simp; done) | (go_simp; rfl)); intro w35 hw; have hg : wr.grownBy w35 (some go30) := (by rw [hw]; exact HP34.2); have hp_ : Kd.R k54 54 w35 w.heap.size (fun k_ => k_ ≠ gb436) (.slice (some ⟨go30, 0, none⟩) x4_1.length co30) y441 := (by rw [hw, Ny441.out]; exact HP34.1); clear HP34; replace HO_3 := aM (Kd.R_over' (v := (.slice (some ⟨go30, 0, none⟩) x4_1.length co30)) (qR HO_3.out) (Kd.R_typed HO_4.out) (by decide) hg); replace BK436 := aM (blk_grown (g := gb436) (o := .cells #[.int .i64 x437000_2, .int .i64 x437001_2, .int .i64 x437002_2] 54 (0, 0)) (qB BK436.out) hg (Kd.R_away HO_4.out (fun _ hk => hk))); replace HO_4 := aM (hp_); replace HB := aM ((by rw [hw]; exact below_set (below_set (below_set (HB.out) GB30.out) GB30.out) GB30.out : Below w.heap.size w w35)); clear hg hw hp_; have p32 : 0 ≤ (x5_1 : Int) := oD; have q32 : (x5_1 : Int) < ((x3_1.length : Int) : Int) := oD; obtain ⟨go32, co32, eo32, gb32, gl32, cl32, HG32⟩ := Kd.R_form HO_3.out (by omega); (first | cases eo32 | (injection eo32 with ea_ en_ ec_; (first | subst ea_ | (injection ea_ with ea_; subst ea_)); subst ec_; clear en_)); have GB32 := aM gb32; have GG32 := aM HG32; clear gb32 gl32 HG32; (first | simp only [add_plain] at hx437_0 | skip); (first | simp only [add_plain] at hx440_0 | skip); obtain ⟨hx32_0, hf32_0⟩ := Kd.R_celln 0 HO_3.out (x5_1 : Int) p32 q32; replace p32 := eq_true p32; replace q32 := eq_true q32; obtain ⟨hy36_, hz36_⟩ := Kd.R_celln 0 HO_3.out (x5_1 : Int) oD oD; have HP36 := Kd.R_putg HO_3.out (x5_1 : Int) x7_2) | ((with_reducible refine gate_store (t := 3) (p := 71) rfl ?_); refine store_event (t := 3) (p := 71) (v := ?vo_w37) (w1 := (w35.setCell ⟨go32, (x5_1 : Int).toNat, none⟩ (.int .i64 x7_2))) ?hg ?ho ?hn ?hr ?_; (case ho => rfl); (case hg => rfl); (case hn => rfl); (case hr => first | (go_simp; done) | (go_simp; rfl)); intro w37 hw; have hg : w35.grownBy w37 (some go32) := (by rw [hw]; exact HP36.2); have hp_ : Kd.R (Kd.int .i64) 3 w37 w.heap.size (fun _ => True) (.slice (some ⟨go32, 0, none⟩) x3_1.length co20) y442 := (by rw [hw, Ny442.out]; exact HP36.1); clear HP36; replace HO_4 := aM (Kd.R_over' (v := (.slice (some ⟨go32, 0, none⟩) x3_1.length co20)) (qR HO_4.out) (Kd.R_typed HO_3.out) (by decide) hg); replace BK436 := gB BK436 hg (Kd.R_ne HO_3.out BK436.out (by decide)); replace HO_3 := aM (hp_); replace HB := aM ((by rw [hw]; exact below_set (HB.out) GB32.out : Below w.heap.size w w37)); clear hg hw hp_))
     go_roundg k2
     case measure => have := HK1.out; have := HK2.out; omega
     case rel => exact ⟨(y442), (y441), (wrap64 (x5_1 - 1)), qE, H', ⟨by have := HK1.out; have := HK2.out; omega⟩, ⟨by refine qR ?_; exact HO_3.out⟩, ⟨by refine qR ?_; exact Kd.R_mono HO_4.out (fun _ hk => trivial)⟩, ⟨by exact qW HB.out⟩⟩
def spec_validToken.f (a0_0 : Int) (a0_1 : Int) (a0_2 : Int) (a1 : Int) : Option (Bool) := if a0_1 = 0 then (if a0_2 = 0 then ((spec_inRange.f a0_0 0 255).bind fun t108 => (some t108)) else (some false)) else (if a0_0 = 0 then ((spec_inRange.f a0_1 3 18).bind fun t109 => (if t109 = true then ((spec_inRange.f a0_2 1 (mn a1 64)).bind fun t110 => (some t110)) else (some false))) else (some false))
set_option maxHeartbeats 8000000 in
set_option maxRecDepth 100000 in
theorem spec_validToken.calls (a0_0 : Int) (a0_1 : Int) (a0_2 : Int) (a1 : Int) (r : Bool) (w : World) (h : spec_validToken.f a0_0 a0_1 a0_2 a1 = some r) :
  Calls Try.prog 60 #[.agg #[.int .i64 a0_0, .int .i64 a0_1, .int .i64 a0_2], .int .i64 a1] w fun e w' => e = .returned (.bool r) ∧ Below w.heap.size w w' := by
 have hu54 := Try.underlying54
 have HB := aM (Below.refl w.heap.size w)
 unfold spec_validToken.f at h
 have H := h
 clear h
 by_cases c3 : a0_1 = 0
 ·rw [if_pos c3] at H
  have c3b0 : (a0_1 == 0) = true := beq_iff_eq.mpr c3
  have c3b1 : (a0_1 != 0) = false := bne_eq_false_iff_eq.mpr c3
  clear c3
  by_cases c4 : a0_2 = 0
  rotate_left
  ·rw [if_neg c4] at H
   have c4b0 : (a0_2 == 0) = false := beq_eq_false_iff_ne.mpr c4
   have c4b1 : (a0_2 != 0) = true := bne_iff_ne.mpr c4
   obtain rfl := Option.some.inj H
   go_enter Try.func60, Try.ntmps60
   go_wp2_with (first | ((with_reducible refine gate_dst (N := 2) rfl ?_); (try (refine gate_guard (by rfl) ?_; dsimp only)); refine bxE (N := 2) (cs := #[.int .i64 a0_0, .int .i64 a0_1, .int .i64 a0_2]) (t := 54) ?_; intro gb107 hg w8 hbox hb; have BK107 := aM (hbox); have GW107 := gW hg HB; have GE107 := gW hg HB; replace HB := bS HB hb; clear hb hbox hg; obtain ⟨⟨hcz9_0, hcz9_1, hcz9_2⟩, hfz9_0, hfz9_1, hfz9_2⟩ := cf3 BK107))
   go_ret
   exact ⟨qX, by exact qW HB.out⟩
  rw [if_pos c4] at H
  have c4b0 : (a0_2 == 0) = true := beq_iff_eq.mpr c4
  have c4b1 : (a0_2 != 0) = false := bne_eq_false_iff_eq.mpr c4
  clear c4
  replace H := Option.bind_eq_some_iff.mp H
  obtain ⟨t108, A50, H⟩ := H
  replace H : (some t108) = some r := H
  have A5 := aM A50
  clear A50
  obtain rfl := Option.some.inj H
  go_enter Try.func60, Try.ntmps60
  go_wp2_with (first | ((with_reducible refine gate_dst (N := 2) rfl ?_); (try (refine gate_guard (by rfl) ?_; dsimp only)); refine bxE (N := 2) (cs := #[.int .i64 a0_0, .int .i64 a0_1, .int .i64 a0_2]) (t := 54) ?_; intro gb107 hg w6 hbox hb; have BK107 := aM (hbox); have GW107 := gW hg HB; have GE107 := gW hg HB; replace HB := bS HB hb; clear hb hbox hg; obtain ⟨⟨hcz7_0, hcz7_1, hcz7_2⟩, hfz7_0, hfz7_1, hfz7_2⟩ := cf3 BK107) | (go_at_call 59; (with_reducible refine (spec_inRange.calls a0_0 0 255 t108 _ A5.out).mono ?_); rintro e w' ⟨rfl, ⟨nd, rfl⟩⟩))
  go_ret
  exact ⟨qX, by exact qW HB.out⟩
 rw [if_neg c3] at H
 have c3b0 : (a0_1 == 0) = false := beq_eq_false_iff_ne.mpr c3
 have c3b1 : (a0_1 != 0) = true := bne_iff_ne.mpr c3
 by_cases c10 : a0_0 = 0
 rotate_left
 ·rw [if_neg c10] at H
  have c10b0 : (a0_0 == 0) = false := beq_eq_false_iff_ne.mpr c10
  have c10b1 : (a0_0 != 0) = true := bne_iff_ne.mpr c10
  obtain rfl := Option.some.inj H
  go_enter Try.func60, Try.ntmps60
  go_wp2_with (first | ((with_reducible refine gate_dst (N := 2) rfl ?_); (try (refine gate_guard (by rfl) ?_; dsimp only)); refine bxE (N := 2) (cs := #[.int .i64 a0_0, .int .i64 a0_1, .int .i64 a0_2]) (t := 54) ?_; intro gb107 hg w19 hbox hb; have BK107 := aM (hbox); have GW107 := gW hg HB; have GE107 := gW hg HB; replace HB := bS HB hb; clear hb hbox hg; obtain ⟨⟨hcz20_0, hcz20_1, hcz20_2⟩, hfz20_0, hfz20_1, hfz20_2⟩ := cf3 BK107))
  go_ret
  exact ⟨qX, by exact qW HB.out⟩
 rw [if_pos c10] at H
 have c10b0 : (a0_0 == 0) = true := beq_iff_eq.mpr c10
 have c10b1 : (a0_0 != 0) = false := bne_eq_false_iff_eq.mpr c10
 clear c10
 replace H := Option.bind_eq_some_iff.mp H
 obtain ⟨t109, A110, H⟩ := H
 replace H : (if t109 = true then ((spec_inRange.f a0_2 1 (mn a1 64)).bind fun t110 => (some t110)) else (some false)) = some r := H
 have A11 := aM A110
 clear A110
 by_cases c12 : t109 = true
 rotate_left
 ·replace c12 := Bool.eq_false_iff.mpr c12
  subst c12
  have H1 : (some false) = some r := by rw [if_neg (show ¬ (false = true) by decide)] at H; exact H
  clear H
  have H := H1
  clear H1
  obtain rfl := Option.some.inj H
  go_enter Try.func60, Try.ntmps60
  go_wp2_with (first | ((with_reducible refine gate_dst (N := 2) rfl ?_); (try (refine gate_guard (by rfl) ?_; dsimp only)); refine bxE (N := 2) (cs := #[.int .i64 a0_0, .int .i64 a0_1, .int .i64 a0_2]) (t := 54) ?_; intro gb107 hg w17 hbox hb; have BK107 := aM (hbox); have GW107 := gW hg HB; have GE107 := gW hg HB; replace HB := bS HB hb; clear hb hbox hg; obtain ⟨⟨hcz18_0, hcz18_1, hcz18_2⟩, hfz18_0, hfz18_1, hfz18_2⟩ := cf3 BK107) | (go_at_call 59; (with_reducible refine (spec_inRange.calls a0_1 3 18 false _ A11.out).mono ?_); rintro e w' ⟨rfl, ⟨nd, rfl⟩⟩))
  go_ret
  exact ⟨qX, by exact qW HB.out⟩
 subst c12
 have H1 : ((spec_inRange.f a0_2 1 (mn a1 64)).bind fun t110 => (some t110)) = some r := by rw [if_pos rfl] at H; exact H
 clear H
 have H := H1
 clear H1
 obtain ⟨ji13, hji13⟩ : ∃ j_ : Int, (mn a1 64) = j_ := ⟨_, rfl⟩
 replace H : ((spec_inRange.f a0_2 1 (ji13)).bind fun t110 => (some t110)) = some r := by first | (rw [hji13] at H; exact H) | (simp only [hji13] at H ⊢; exact H)
 (try rw [hji13] at A11)
 (try (have hji13h : ji13 ≤ 64 := by (rw [← hji13]; unfold mn; (repeat' split) <;> omega)))
 (try (have hji13g : ji13 ≤ 64 := by omega))
 have hji13_ : (if 64 < a1 then 64 else a1) = ji13 := hji13
 replace H := Option.bind_eq_some_iff.mp H
 obtain ⟨t110, A140, H⟩ := H
 replace H : (some t110) = some r := H
 have A14 := aM A140
 clear A140
 obtain rfl := Option.some.inj H
 go_enter Try.func60, Try.ntmps60
 go_wp2_with (first | ((with_reducible refine gate_dst (N := 2) rfl ?_); (try (refine gate_guard (by rfl) ?_; dsimp only)); refine bxE (N := 2) (cs := #[.int .i64 a0_0, .int .i64 a0_1, .int .i64 a0_2]) (t := 54) ?_; intro gb107 hg w15 hbox hb; have BK107 := aM (hbox); have GW107 := gW hg HB; have GE107 := gW hg HB; replace HB := bS HB hb; clear hb hbox hg; obtain ⟨⟨hcz16_0, hcz16_1, hcz16_2⟩, hfz16_0, hfz16_1, hfz16_2⟩ := cf3 BK107) | (go_at_call 59; (with_reducible refine (spec_inRange.calls a0_1 3 18 true _ A11.out).mono ?_); rintro e w' ⟨rfl, ⟨nd, rfl⟩⟩) | (go_at_call 59; (with_reducible refine (spec_inRange.calls a0_2 1 ji13 t110 _ A14.out).mono ?_); rintro e w' ⟨rfl, ⟨nd, rfl⟩⟩))
 go_ret
 exact ⟨by first | rfl | (simp [errW_none, errW_some] <;> rfl) | (simp only [← hji13]; first | rfl | (simp [errW_none, errW_some] <;> rfl)) | (simp [*, errW_none, errW_some] <;> rfl), by exact qW HB.out⟩
mutual
def spec_ExpandTokens.l0 : Nat → List (S54) → List Int → Int → Option (List Int × Bool)
 | 0, _, _, _ => none
 | k + 1, x0, x4, x5 => if x5 < (x0.length : Int) then (if 0 ≤ x5 then ((spec_validToken.f ((rd_T54 x0 x5).f0) ((rd_T54 x0 x5).f1) ((rd_T54 x0 x5).f2) (x4.length : Int)).bind fun t115 => (if t115 = true then (if ((rd_T54 x0 x5).f1) = 0 then (if x4.length < 17592186044416 then (spec_ExpandTokens.j1 k x0 (x4 ++ [(rd_T54 x0 x5).f0]) x5) else (none)) else (spec_ExpandTokens.j1 k x0 x4 x5)) else (some (([] : List Int), false)))) else (none)) else (some (x4, true))
def spec_ExpandTokens.j1 : Nat → List (S54) → List Int → Int → Option (List Int × Bool)
 | 0, _, _, _ => none
 | k + 1, x0, x4, x5 => spec_ExpandTokens.l1 k x0 x4 x5 0
def spec_ExpandTokens.l1 : Nat → List (S54) → List Int → Int → Int → Option (List Int × Bool)
 | 0, _, _, _, _ => none
 | k + 1, x0, x4, x5, x6 => if 0 ≤ x5 then (if x5 < (x0.length : Int) then (if x6 < ((rd_T54 x0 x5).f1) then (if 0 ≤ (wrap64 ((x4.length : Int) - ((rd_T54 x0 x5).f2))) then (if (wrap64 ((x4.length : Int) - ((rd_T54 x0 x5).f2))) < (x4.length : Int) then (if x4.length < 17592186044416 then (spec_ExpandTokens.l1 k x0 (x4 ++ [rd x4 (wrap64 ((x4.length : Int) - ((rd_T54 x0 x5).f2)))]) x5 (wrap64 (x6 + 1))) else (none)) else (none)) else (none)) else (if (x4.length : Int) > 1200 then (some (([] : List Int), false)) else (spec_ExpandTokens.l0 k x0 x4 (wrap64 (x5 + 1))))) else (none)) else (none)
end
def spec_ExpandTokens.f (k : Nat) (l0 : List (S54)) : Option (List Int × Bool) := spec_ExpandTokens.l0 k l0 (([] : List Int)) 0
theorem spec_ExpandTokens.mono_l : ∀ k, (∀ y0 y1 y2, LeO (spec_ExpandTokens.l0 k y0 y1 y2) (spec_ExpandTokens.l0 (k + 1) y0 y1 y2)) ∧ (∀ y0 y1 y2, LeO (spec_ExpandTokens.j1 k y0 y1 y2) (spec_ExpandTokens.j1 (k + 1) y0 y1 y2)) ∧ (∀ y0 y1 y2 y3, LeO (spec_ExpandTokens.l1 k y0 y1 y2 y3) (spec_ExpandTokens.l1 (k + 1) y0 y1 y2 y3))
 | 0 => ⟨fun _ _ _ r h => by simp [spec_ExpandTokens.l0] at h, fun _ _ _ r h => by simp [spec_ExpandTokens.j1] at h, fun _ _ _ _ r h => by simp [spec_ExpandTokens.l1] at h⟩
 | k + 1 => by
  obtain ⟨ih0, ih1, ih2⟩ := spec_ExpandTokens.mono_l k
  refine ⟨?_, ?_, ?_⟩
  all_goals intros
  all_goals first | unfold spec_ExpandTokens.l0 | unfold spec_ExpandTokens.j1 | unfold spec_ExpandTokens.l1
  all_goals repeat' first | (with_reducible first | exact ih0 _ _ _ | exact ih1 _ _ _ | exact ih2 _ _ _ _ | exact lR | exact lN | refine lI ?_ ?_ | refine lB ?_ fun _ => ?_) | exact ih0 _ _ _ | exact ih1 _ _ _ | exact ih2 _ _ _ _ | exact lN | refine lI ?_ ?_ | refine lB ?_ fun _ => ?_
theorem spec_ExpandTokens.mono : ∀ a0 k, LeO (spec_ExpandTokens.f k a0) (spec_ExpandTokens.f (k + 1) a0) := by
 intro a0 k
 obtain ⟨ih0, ih1, ih2⟩ := spec_ExpandTokens.mono_l k
 unfold spec_ExpandTokens.f
 repeat' first | (with_reducible first | exact ih0 _ _ _ | exact ih1 _ _ _ | exact ih2 _ _ _ _ | exact lR | exact lN | refine lI ?_ ?_ | refine lB ?_ fun _ => ?_) | exact ih0 _ _ _ | exact ih1 _ _ _ | exact ih2 _ _ _ _ | exact lN | refine lI ?_ ?_ | refine lB ?_ fun _ => ?_
set_option maxHeartbeats 8000000 in
set_option maxRecDepth 100000 in
theorem spec_ExpandTokens.calls (k : Nat) (A0 : Option Addr) (c0 : Nat) (l0 : List (S54)) (r1 : List Int) (r2 : Bool) (w : World) (hr0 : Kd.C k54 w A0 l0.length l0) (hc0 : l0.length ≤ c0) (h : spec_ExpandTokens.f k l0 = some (r1, r2)) :
  Calls Try.prog 38 #[.slice A0 l0.length c0] w fun e w' => ∃ v0_ : Value, e = .returned (.tuple #[v0_, .bool r2]) ∧ Kd.R (Kd.int .i64) 3 w' w.heap.size (fun _ => True) v0_ r1 ∧ Below w.heap.size w w' := by
 have hu54 := Try.underlying54
 have HR0 := aM hr0
 have HC0 := aM hc0
 clear hr0 hc0
 have HB := aM (Below.refl w.heap.size w)
 unfold spec_ExpandTokens.f at h
 have H := h
 clear h
 obtain ⟨y111, hy111⟩ : ∃ y_ : List Int, y_ = (([] : List Int)) := ⟨_, rfl⟩
 replace H : (spec_ExpandTokens.l0 k l0 y111 0) = some (r1, r2) := rY hy111 H
 have Ny111 := aM hy111
 clear hy111
 have H' := aM H
 clear H
 go_enter Try.func38, Try.ntmps38
 go_wp2_with (first | ((with_reducible refine gate_dst (N := 8) rfl ?_); refine iL ([] : List Int) [] ?_; intro v112 w2 ho3 hb hg_ hnew_; clear hg_ hnew_; (first | rw [← Ny111.out] at ho3 | (simp only [Int.reduceToNat] at ho3; rw [← Ny111.out] at ho3)); have HO113 := oR ho3 HB; replace HB := bS HB hb; clear hb ho3))
 go_loopg [4, 5] k (fun kq v4 v5 w' => ∃ (x4_1 : List Int) (x5_1 : Int), v5 = .int .i64 x5_1 ∧ Aside0 (spec_ExpandTokens.l0 kq l0 x4_1 x5_1 = some (r1, r2)) ∧ Aside0 (kq ≤ k) ∧ Aside0 (Kd.R (Kd.int .i64) 3 w' w.heap.size (fun _ => True) v4 x4_1) ∧ Aside0 (Below w.heap.size w w'))
 case atStart => exact ⟨(y111), (0), qE, H', ⟨Nat.le_refl _⟩, ⟨by refine qR ?_; exact HO113.out⟩, ⟨by exact qW HB.out⟩⟩
 case round =>
  clear H'
  obtain ⟨x4_1, x5_1, rfl, HA, HK1, HO_4, HB⟩ := hrel
  cases gk with
  | zero => exact absurd HA.out (by simp [spec_ExpandTokens.l0])
  | succ k1 =>
   have H := HA.out
   clear HA
   simp only [spec_ExpandTokens.l0] at H
   by_cases c4 : x5_1 < (l0.length : Int)
   rotate_left
   ·rw [if_neg c4] at H
    have c4b0 : decide (x5_1 < (l0.length : Int)) = false := decide_eq_false c4
    clear c4
    simp only [Option.some.injEq, Prod.mk.injEq] at H
    obtain ⟨rfl, rfl⟩ := H
    go_wp2
    go_ret2
    exact ⟨_, qX, by refine qR ?_; exact HO_4.out, by exact qW HB.out⟩
   rw [if_pos c4] at H
   have c4b0 : decide (x5_1 < (l0.length : Int)) = true := decide_eq_true c4
   clear c4
   replace H := iD H
   obtain ⟨c5b0, H⟩ := H
   replace H := Option.bind_eq_some_iff.mp H
   obtain ⟨t115, A60, H⟩ := H
   replace H : (if t115 = true then (if ((rd_T54 l0 x5_1).f1) = 0 then (if x4_1.length < 17592186044416 then (spec_ExpandTokens.j1 k1 l0 (x4_1 ++ [(rd_T54 l0 x5_1).f0]) x5_1) else (none)) else (spec_ExpandTokens.j1 k1 l0 x4_1 x5_1)) else (some (([] : List Int), false))) = some (r1, r2) := H
   have A6 := aM A60
   clear A60
   by_cases c7 : t115 = true
   rotate_left
   ·replace c7 := Bool.eq_false_iff.mpr c7
    subst c7
    have H1 : (some (([] : List Int), false)) = some (r1, r2) := by rw [if_neg (show ¬ (false = true) by decide)] at H; exact H
    clear H
    have H := H1
    clear H1
    simp only [Option.some.injEq, Prod.mk.injEq] at H
    obtain ⟨rfl, rfl⟩ := H
    have p114 : 0 ≤ (x5_1 : Int) := oD
    have q114 : x5_1 < (l0.length : Int) := oD
    obtain ⟨ad114, e114, hx114_0, hx114_1, hx114_2⟩ := at_T54 HR0.out x5_1 p114 q114
    cases e114
    replace hx114_0 := bD HB hx114_0
    replace hx114_1 := bD HB hx114_1
    replace hx114_2 := bD HB hx114_2
    replace p114 := eq_true p114
    replace q114 := eq_true q114
    obtain ⟨Ao26, co26, rfl⟩ := sL HO_4
    go_wp2_with (first | ((with_reducible refine gate_callee (f := 60) rfl ?_); refine gL (some 21) Try.func60 #[.agg #[.int .i64 ((rd_T54 l0 x5_1).f0), .int .i64 ((rd_T54 l0 x5_1).f1), .int .i64 ((rd_T54 l0 x5_1).f2)], .int .i64 (x4_1.length : Int)] ?_; (with_reducible refine (spec_validToken.calls ((rd_T54 l0 x5_1).f0) ((rd_T54 l0 x5_1).f1) ((rd_T54 l0 x5_1).f2) (x4_1.length : Int) false _ A6.out).mono ?_); rintro e w27 ⟨rfl, hb⟩; refine ⟨_, rfl, ?_⟩; replace HO_4 := aM (Kd.R_below (qR HO_4.out) hb); replace HB := bS HB hb; clear hb))
    go_ret2
    exact ⟨_, qX, qN, by exact qW HB.out⟩
   subst c7
   have H1 : (if ((rd_T54 l0 x5_1).f1) = 0 then (if x4_1.length < 17592186044416 then (spec_ExpandTokens.j1 k1 l0 (x4_1 ++ [(rd_T54 l0 x5_1).f0]) x5_1) else (none)) else (spec_ExpandTokens.j1 k1 l0 x4_1 x5_1)) = some (r1, r2) := by rw [if_pos rfl] at H; exact H
   clear H
   have H := H1
   clear H1
   have HC8 := aM H
   clear H
   have p114 : 0 ≤ (x5_1 : Int) := oD
   have q114 : x5_1 < (l0.length : Int) := oD
   obtain ⟨ad114, e114, hx114_0, hx114_1, hx114_2⟩ := at_T54 HR0.out x5_1 p114 q114
   cases e114
   replace hx114_0 := bD HB hx114_0
   replace hx114_1 := bD HB hx114_1
   replace hx114_2 := bD HB hx114_2
   replace p114 := eq_true p114
   replace q114 := eq_true q114
   obtain ⟨Ao9, co9, rfl⟩ := sL HO_4
   go_upto_if 28 with (first | ((with_reducible refine gate_callee (f := 60) rfl ?_); refine gL (some 21) Try.func60 #[.agg #[.int .i64 ((rd_T54 l0 x5_1).f0), .int .i64 ((rd_T54 l0 x5_1).f1), .int .i64 ((rd_T54 l0 x5_1).f2)], .int .i64 (x4_1.length : Int)] ?_; (with_reducible refine (spec_validToken.calls ((rd_T54 l0 x5_1).f0) ((rd_T54 l0 x5_1).f1) ((rd_T54 l0 x5_1).f2) (x4_1.length : Int) true _ A6.out).mono ?_); rintro e w10 ⟨rfl, hb⟩; refine ⟨_, rfl, ?_⟩; replace HO_4 := aM (Kd.R_below (qR HO_4.out) hb); replace HB := bS HB hb; clear hb; have p116 : 0 ≤ (x5_1 : Int) := oD; have q116 : x5_1 < (l0.length : Int) := oD; obtain ⟨ad116, e116, hx116_0, hx116_1, hx116_2⟩ := at_T54 HR0.out x5_1 p116 q116; obtain rfl : ad114 = ad116 := (by injection e116); replace hx116_0 := bD HB hx116_0; replace hx116_1 := bD HB hx116_1; replace hx116_2 := bD HB hx116_2; replace p116 := eq_true p116; replace q116 := eq_true q116))
   (try simp only [Act.put, List.setIfInBounds_toArray, List.set_cons_zero, List.set_cons_succ])
   go_cut [4] (fun v4 wc => ∃ (kq : Nat) (x4_7 : List Int), Aside0 (spec_ExpandTokens.j1 kq l0 x4_7 x5_1 = some (r1, r2)) ∧ Aside0 (kq ≤ k1) ∧ Aside0 (Kd.R (Kd.int .i64) 3 wc w.heap.size (fun _ => True) v4 x4_7) ∧ Aside0 (Below w.heap.size w wc))
   case first =>
    have H := HC8.out
    clear HC8
    by_cases c11 : ((rd_T54 l0 x5_1).f1) = 0
    rotate_left
    ·rw [if_neg c11] at H
     have c11b0 : (((rd_T54 l0 x5_1).f1) == 0) = false := beq_eq_false_iff_ne.mpr c11
     have c11b1 : (((rd_T54 l0 x5_1).f1) != 0) = true := bne_iff_ne.mpr c11
     (first | rw [c11b0] | (simp only [i64_w, i32_w]; rw [c11b0]) | skip)
     have H' := aM H
     clear H
     go_wp2
     go_meet
     case rel => exact ⟨_, (x4_1), H', ⟨by have := HK1.out; first | omega | exact Nat.le_refl _⟩, ⟨by refine qR ?_; exact HO_4.out⟩, ⟨by exact qW HB.out⟩⟩
    rw [if_pos c11] at H
    have c11b0 : (((rd_T54 l0 x5_1).f1) == 0) = true := beq_iff_eq.mpr c11
    have c11b1 : (((rd_T54 l0 x5_1).f1) != 0) = false := bne_eq_false_iff_eq.mpr c11
    clear c11
    (first | rw [c11b0] | (simp only [i64_w, i32_w]; rw [c11b0]) | skip)
    replace H := iS H
    obtain ⟨c12, H⟩ := H
    have LMc12 := aM c12
    clear c12
    obtain ⟨y118, hy118⟩ : ∃ y_ : List Int, y_ = (x4_1 ++ [(rd_T54 l0 x5_1).f0]) := ⟨_, rfl⟩
    replace H : (spec_ExpandTokens.j1 k1 l0 y118 x5_1) = some (r1, r2) := rY hy118 H
    have Ny118 := aM hy118
    clear hy118
    have H' := aM H
    clear H
    have p117 : 0 ≤ (x5_1 : Int) := oD
    have q117 : x5_1 < (l0.length : Int) := oD
    obtain ⟨ad117, e117, hx117_0, hx117_1, hx117_2⟩ := at_T54 HR0.out x5_1 p117 q117
    obtain rfl : ad114 = ad117 := (by injection e117)
    replace hx117_0 := bD HB hx117_0
    replace hx117_1 := bD HB hx117_1
    replace hx117_2 := bD HB hx117_2
    replace p117 := eq_true p117
    replace q117 := eq_true q117
    go_wp2_with (first | ((with_reducible refine gate_builtin (b := .append) (xs := #[.tmp 29, .tmp 35]) rfl ?_); at_builtin; refine Kd.R_append (Kd.int .i64) (w0 := w) w.heap.size rfl (.tmp 29) (.tmp 35) 22 3 (.int .i64 0) 8 rfl Try.underlying22 info3 rfl (by decide) (by omega) (.slice Ao9 x4_1.length co9) x4_1 ((rd_T54 l0 x5_1).f0) [.int .i64 ((rd_T54 l0 x5_1).f0)] (fun _ => True) (fun _ => False) rfl rfl ?aP (fun _ hk => hk.elim) ?aF ?aO ?aB ?aS ?aL ?_; (case aP => exact rfl); (case aB => exact (qW HB.out)); (case aF => exact (fun _ _ => trivial)); (case aO => exact (qR HO_4.out)); (case aS => exact (below_size (qW HB.out))); (case aL => have := LMc12.out; omega); intro v119 w13 ho hb hg hat; rw [← Ny118.out] at ho; replace HB := aM (hb); have HO120 := aM (ho); clear HO_4; clear ho hb hg hat))
    go_meet
    case rel => exact ⟨_, (y118), H', ⟨by have := HK1.out; first | omega | exact Nat.le_refl _⟩, ⟨by refine qR ?_; exact HO120.out⟩, ⟨by exact qW HB.out⟩⟩
   case rest =>
    clear HC8
    try clear c4
    try clear c4b0
    try clear c5b0
    try clear c7
    try clear c11
    try clear c11b0
    try clear c11b1
    try clear c12
    try clear hx114_0
    try clear hx114_1
    try clear hx114_2
    try clear hx116_0
    try clear hx116_1
    try clear hx116_2
    try clear hx117_0
    try clear hx117_1
    try clear hx117_2
    try clear p114
    try clear p116
    try clear p117
    try clear q114
    try clear q116
    try clear q117
    obtain ⟨kq, x4_7, HA, HJ7, HO_4, HB⟩ := hcut
    cases kq with
    | zero => exact absurd HA.out (by simp [spec_ExpandTokens.j1])
    | succ kj7 =>
     have H := HA.out
     clear HA
     simp only [spec_ExpandTokens.j1] at H
     have H' := aM H
     clear H
     go_wp2
     go_loopg [4, 6] kj7 (fun kq v4 v6 w' => ∃ (x4_3 : List Int) (x6_3 : Int), v6 = .int .i64 x6_3 ∧ Aside0 (spec_ExpandTokens.l1 kq l0 x4_3 x5_1 x6_3 = some (r1, r2)) ∧ Aside0 (kq ≤ kj7) ∧ Aside0 (Kd.R (Kd.int .i64) 3 w' w.heap.size (fun _ => True) v4 x4_3) ∧ Aside0 (Below w.heap.size w w'))
     case atStart => exact ⟨(x4_7), (0), qE, H', ⟨Nat.le_refl _⟩, ⟨by refine qR ?_; exact HO_4.out⟩, ⟨by exact qW HB.out⟩⟩
     case round =>
      clear H'
      try clear c4
      try clear c4b0
      try clear c5b0
      try clear c7
      try clear c11
      try clear c11b0
      try clear c11b1
      try clear c12
      try clear hx114_0
      try clear hx114_1
      try clear hx114_2
      try clear hx116_0
      try clear hx116_1
      try clear hx116_2
      try clear hx117_0
      try clear hx117_1
      try clear hx117_2
      try clear p114
      try clear p116
      try clear p117
      try clear q114
      try clear q116
      try clear q117
      obtain ⟨x4_3, x6_3, rfl, HA, HK3, HO_4, HB⟩ := hrel
      cases gk with
      | zero => exact absurd HA.out (by simp [spec_ExpandTokens.l1])
      | succ k3 =>
       have H := HA.out
       clear HA
       simp only [spec_ExpandTokens.l1] at H
       replace H := iD H
       obtain ⟨c14b0, H⟩ := H
       replace H := iD H
       obtain ⟨c15b0, H⟩ := H
       by_cases c16 : x6_3 < ((rd_T54 l0 x5_1).f1)
       rotate_left
       ·rw [if_neg c16] at H
        have c16b0 : decide (x6_3 < ((rd_T54 l0 x5_1).f1)) = false := decide_eq_false c16
        clear c16
        by_cases c23 : (x4_3.length : Int) > 1200
        ·rw [if_pos c23] at H
         have c23b0 : decide (1200 < (x4_3.length : Int)) = true := decide_eq_true c23
         have c23b1 : decide (1200 < x4_3.length) = true := decide_eq_true (by omega)
         clear c23
         simp only [Option.some.injEq, Prod.mk.injEq] at H
         obtain ⟨rfl, rfl⟩ := H
         have p121 : 0 ≤ (x5_1 : Int) := oD
         have q121 : x5_1 < (l0.length : Int) := oD
         obtain ⟨ad121, e121, hx121_0, hx121_1, hx121_2⟩ := at_T54 HR0.out x5_1 p121 q121
         obtain rfl : ad114 = ad121 := (by injection e121)
         replace hx121_0 := bD HB hx121_0
         replace hx121_1 := bD HB hx121_1
         replace hx121_2 := bD HB hx121_2
         replace p121 := eq_true p121
         replace q121 := eq_true q121
         obtain ⟨Ao24, co24, rfl⟩ := sL HO_4
         go_wp2
         go_ret2
         exact ⟨_, qX, qN, by exact qW HB.out⟩
        rw [if_neg c23] at H
        have c23b0 : decide (1200 < (x4_3.length : Int)) = false := decide_eq_false c23
        have c23b1 : decide (1200 < x4_3.length) = false := decide_eq_false (by omega)
        clear c23
        have H' := aM H
        clear H
        have p121 : 0 ≤ (x5_1 : Int) := oD
        have q121 : x5_1 < (l0.length : Int) := oD
        obtain ⟨ad121, e121, hx121_0, hx121_1, hx121_2⟩ := at_T54 HR0.out x5_1 p121 q121
        obtain rfl : ad114 = ad121 := (by injection e121)
        replace hx121_0 := bD HB hx121_0
        replace hx121_1 := bD HB hx121_1
        replace hx121_2 := bD HB hx121_2
        replace p121 := eq_true p121
        replace q121 := eq_true q121
        obtain ⟨Ao25, co25, rfl⟩ := sL HO_4
        go_wp2
        go_roundg k3
        case measure => have := HK1.out; have := HJ7.out; have := HK3.out; omega
        case rel => exact ⟨(x4_3), (wrap64 (x5_1 + 1)), qE, H', ⟨by have := HK1.out; have := HJ7.out; have := HK3.out; omega⟩, ⟨by refine qR ?_; exact HO_4.out⟩, ⟨by exact qW HB.out⟩⟩
       rw [if_pos c16] at H
       have c16b0 : decide (x6_3 < ((rd_T54 l0 x5_1).f1)) = true := decide_eq_true c16
       clear c16
       obtain ⟨ji17, hji17⟩ : ∃ j_ : Int, (wrap64 ((x4_3.length : Int) - ((rd_T54 l0 x5_1).f2))) = j_ := ⟨_, rfl⟩
       replace H : (if 0 ≤ (ji17) then (if (ji17) < (x4_3.length : Int) then (if x4_3.length < 17592186044416 then (spec_ExpandTokens.l1 k3 l0 (x4_3 ++ [rd x4_3 (ji17)]) x5_1 (wrap64 (x6_3 + 1))) else (none)) else (none)) else (none)) = some (r1, r2) := by first | (rw [hji17] at H; exact H) | (simp only [hji17] at H ⊢; exact H)
       have hji17w : (IntKind.i64.wrap ((x4_3.length : Int) - ((rd_T54 l0 x5_1).f2))) = ji17 := (i64_w _).trans hji17
       replace H := iD H
       obtain ⟨c18b0, H⟩ := H
       replace H := iD H
       obtain ⟨c19b0, H⟩ := H
       replace H := iS H
       obtain ⟨c20, H⟩ := H
       have LMc20 := aM c20
       clear c20
       obtain ⟨y124, hy124⟩ : ∃ y_ : List Int, y_ = (x4_3 ++ [rd x4_3 (ji17)]) := ⟨_, rfl⟩
       replace H : (spec_ExpandTokens.l1 k3 l0 y124 x5_1 (wrap64 (x6_3 + 1))) = some (r1, r2) := rY hy124 H
       have Ny124 := aM hy124
       clear hy124
       have H' := aM H
       clear H
       have p121 : 0 ≤ (x5_1 : Int) := oD
       have q121 : x5_1 < (l0.length : Int) := oD
       obtain ⟨ad121, e121, hx121_0, hx121_1, hx121_2⟩ := at_T54 HR0.out x5_1 p121 q121
       obtain rfl : ad114 = ad121 := (by injection e121)
       replace hx121_0 := bD HB hx121_0
       replace hx121_1 := bD HB hx121_1
       replace hx121_2 := bD HB hx121_2
       replace p121 := eq_true p121
       replace q121 := eq_true q121
       obtain ⟨Ao21, co21, rfl⟩ := sL HO_4
       have p122 : 0 ≤ (x5_1 : Int) := oD
       have q122 : x5_1 < (l0.length : Int) := oD
       obtain ⟨ad122, e122, hx122_0, hx122_1, hx122_2⟩ := at_T54 HR0.out x5_1 p122 q122
       obtain rfl : ad114 = ad122 := (by injection e122)
       replace hx122_0 := bD HB hx122_0
       replace hx122_1 := bD HB hx122_1
       replace hx122_2 := bD HB hx122_2
       replace p122 := eq_true p122
       replace q122 := eq_true q122
       obtain ⟨ad123, e123, hx123_0⟩ := Kd.at_int (Kd.R_reads' HO_4.out).2.2 (ji17) oD oD
       cases e123
       have p123 := eq_true (oD : 0 ≤ ((ji17) : Int))
       have q123 := eq_true (oD : (ji17) < (x4_3.length : Int))
       go_wp2_with (first | ((with_reducible refine gate_builtin (b := .append) (xs := #[.tmp 57, .tmp 59]) rfl ?_); at_builtin; refine Kd.R_append (Kd.int .i64) (w0 := w) w.heap.size rfl (.tmp 57) (.tmp 59) 22 3 (.int .i64 0) 8 rfl Try.underlying22 info3 rfl (by decide) (by omega) (.slice (some ad123) x4_3.length co21) x4_3 (rd x4_3 (ji17)) [.int .i64 (rd x4_3 (ji17))] (fun _ => True) (fun _ => False) rfl rfl ?aP (fun _ hk => hk.elim) ?aF ?aO ?aB ?aS ?aL ?_; (case aP => exact rfl); (case aB => exact (qW HB.out)); (case aF => exact (fun _ _ => trivial)); (case aO => exact (qR HO_4.out)); (case aS => exact (below_size (qW HB.out))); (case aL => have := LMc20.out; omega); intro v125 w22 ho hb hg hat; rw [← Ny124.out] at ho; replace HB := aM (hb); have HO126 := aM (ho); clear HO_4; clear ho hb hg hat))
       go_roundg k3
       case measure => have := HK1.out; have := HJ7.out; have := HK3.out; omega
       case rel => exact ⟨(y124), (wrap64 (x6_3 + 1)), qE, H', ⟨by have := HK1.out; have := HJ7.out; have := HK3.out; omega⟩, ⟨by refine qR ?_; exact HO126.out⟩, ⟨by exact qW HB.out⟩⟩
def spec_packTokens.l0 : Nat → List (S54) → List Int → Int → Option (List Int)
 | 0, _, _, _ => none
 | k + 1, x0, x3, x4 => if x4 < (x0.length : Int) then (if 0 ≤ x4 then (if ((rd_T54 x0 x4).f1) = 0 then ((some (([0, (rd_T54 x0 x4).f0] : List Int) : List Int)).bind fun y235 => (if x3.length + y235.length < 17592186044416 then (spec_packTokens.l0 k x0 (x3 ++ y235) (wrap64 (x4 + 1))) else (none))) else ((some (([(rd_T54 x0 x4).f1, (rd_T54 x0 x4).f2] : List Int) : List Int)).bind fun y243 => (if x3.length + y243.length < 17592186044416 then (spec_packTokens.l0 k x0 (x3 ++ y243) (wrap64 (x4 + 1))) else (none)))) else (none)) else (some x3)
def spec_packTokens.f (k : Nat) (l0 : List (S54)) : Option (List Int) := spec_packTokens.l0 k l0 (([] : List Int)) 0
theorem spec_packTokens.mono_l : ∀ k, (∀ y0 y1 y2, LeO (spec_packTokens.l0 k y0 y1 y2) (spec_packTokens.l0 (k + 1) y0 y1 y2))
 | 0 => fun _ _ _ r h => by simp [spec_packTokens.l0] at h
 | k + 1 => by
  have ih0 := spec_packTokens.mono_l k
  ·intro y0 y1 y2
   unfold spec_packTokens.l0
   repeat' first | (with_reducible first | exact ih0 _ _ _ | exact lR | exact lN | refine lI ?_ ?_ | refine lB ?_ fun _ => ?_) | exact ih0 _ _ _ | exact lN | refine lI ?_ ?_ | refine lB ?_ fun _ => ?_
theorem spec_packTokens.mono : ∀ a0 k, LeO (spec_packTokens.f k a0) (spec_packTokens.f (k + 1) a0) := by
 intro a0 k
 have ih0 := spec_packTokens.mono_l k
 unfold spec_packTokens.f
 repeat' first | (with_reducible first | exact ih0 _ _ _ | exact lR | exact lN | refine lI ?_ ?_ | refine lB ?_ fun _ => ?_) | exact ih0 _ _ _ | exact lN | refine lI ?_ ?_ | refine lB ?_ fun _ => ?_
def spec_packTokens.T7 : Bool × List (List Nat × List Nat) := (true, [([], []), ([], []), ([], []), ([1, 2], [1, 2]), ([3], [3]), ([4], [4]), ([], []), ([], []), ([6, 7], [6, 7]), ([8], [8]), ([9], [9]), ([5, 10], [5, 10]), ([0, 11], [0, 11]), ([12, 12, 0, 1, 2, 3, 4, 5, 6, 7, 8, 9, 10, 11, 12], [0, 12])])
def spec_packTokens.B7 : List Nat := [0, 0, 0, 6, 14, 30, 0, 0, 192, 448, 960, 2046, 4095, 8191]
theorem spec_packTokens.tab7 : rtab .any (opsOf Try.f63 7) = spec_packTokens.T7 := by kernel_rfl
theorem spec_packTokens.bits7 : waitsOk spec_packTokens.T7.2 spec_packTokens.B7 = true := by kernel_rfl
set_option maxHeartbeats 8000000 in
set_option maxRecDepth 100000 in
theorem spec_packTokens.calls (k : Nat) (A0 : Option Addr) (c0 : Nat) (l0 : List (S54)) (r : List Int) (w : World) (hr0 : Kd.C k54 w A0 l0.length l0) (hc0 : l0.length ≤ c0) (h : spec_packTokens.f k l0 = some r) :
  Calls Try.prog 63 #[.slice A0 l0.length c0] w fun e w' => ∃ v0_ : Value, e = .returned (v0_) ∧ Kd.R (Kd.int .i64) 3 w' w.heap.size (fun _ => True) v0_ r ∧ Below w.heap.size w w' := by
 have HR0 := aM hr0
 have HC0 := aM hc0
 clear hr0 hc0
 have HB := aM (Below.refl w.heap.size w)
 unfold spec_packTokens.f at h
 have H := h
 clear h
 obtain ⟨y230, hy230⟩ : ∃ y_ : List Int, y_ = (([] : List Int)) := ⟨_, rfl⟩
 replace H : (spec_packTokens.l0 k l0 y230 0) = some r := rY hy230 H
 have Ny230 := aM hy230
 clear hy230
 have H' := aM H
 clear H
 go_enter Try.func63, Try.ntmps63
 go_wp2_with (first | ((with_reducible refine gate_dst (N := 5) rfl ?_); refine iL ([] : List Int) [] ?_; intro v231 w2 ho3 hb hg_ hnew_; clear hg_ hnew_; (first | rw [← Ny230.out] at ho3 | (simp only [Int.reduceToNat] at ho3; rw [← Ny230.out] at ho3)); have HO232 := oR ho3 HB; replace HB := bS HB hb; clear hb ho3))
 go_loopg [3, 4] k (fun kq v3 v4 w' => ∃ (x3_1 : List Int) (x4_1 : Int), v4 = .int .i64 x4_1 ∧ Aside0 (spec_packTokens.l0 kq l0 x3_1 x4_1 = some r) ∧ Aside0 (kq ≤ k) ∧ Aside0 (Kd.R (Kd.int .i64) 3 w' w.heap.size (fun _ => True) v3 x3_1) ∧ Aside0 (Below w.heap.size w w'))
 case atStart => exact ⟨(y230), (0), qE, H', ⟨Nat.le_refl _⟩, ⟨by refine qR ?_; exact HO232.out⟩, ⟨by exact qW HB.out⟩⟩
 case round =>
  clear H'
  obtain ⟨x3_1, x4_1, rfl, HA, HK1, HO_3, HB⟩ := hrel
  cases gk with
  | zero => exact absurd HA.out (by simp [spec_packTokens.l0])
  | succ k1 =>
   have H := HA.out
   clear HA
   simp only [spec_packTokens.l0] at H
   by_cases c4 : x4_1 < (l0.length : Int)
   rotate_left
   ·rw [if_neg c4] at H
    have c4b0 : decide (x4_1 < (l0.length : Int)) = false := decide_eq_false c4
    clear c4
    obtain rfl := Option.some.inj H
    go_wp2
    go_ret
    exact ⟨_, qX, by refine qR ?_; exact HO_3.out, by exact qW HB.out⟩
   rw [if_pos c4] at H
   have c4b0 : decide (x4_1 < (l0.length : Int)) = true := decide_eq_true c4
   clear c4
   replace H := iD H
   obtain ⟨c5b0, H⟩ := H
   by_cases c6 : ((rd_T54 l0 x4_1).f1) = 0
   ·rw [if_pos c6] at H
    have c6b0 : (((rd_T54 l0 x4_1).f1) == 0) = true := beq_iff_eq.mpr c6
    have c6b1 : (((rd_T54 l0 x4_1).f1) != 0) = false := bne_eq_false_iff_eq.mpr c6
    clear c6
    obtain ⟨y235, hy235⟩ : ∃ y_ : List Int, y_ = (([0, (rd_T54 l0 x4_1).f0] : List Int)) := ⟨_, rfl⟩
    replace H : (if x3_1.length + y235.length < 17592186044416 then (spec_packTokens.l0 k1 l0 (x3_1 ++ y235) (wrap64 (x4_1 + 1))) else (none)) = some r := rY hy235 H
    have Ny235 := aM hy235
    clear hy235
    replace H := iS H
    obtain ⟨c7, H⟩ := H
    have LMc7 := aM c7
    clear c7
    obtain ⟨y238, hy238⟩ : ∃ y_ : List Int, y_ = (x3_1 ++ y235) := ⟨_, rfl⟩
    replace H : (spec_packTokens.l0 k1 l0 y238 (wrap64 (x4_1 + 1))) = some r := rY hy238 H
    have Ny238 := aM hy238
    clear hy238
    have H' := aM H
    clear H
    have p233 : 0 ≤ (x4_1 : Int) := oD
    have q233 : x4_1 < (l0.length : Int) := oD
    obtain ⟨ad233, e233, hx233_0, hx233_1, hx233_2⟩ := at_T54 HR0.out x4_1 p233 q233
    cases e233
    replace hx233_0 := bD HB hx233_0
    replace hx233_1 := bD HB hx233_1
    replace hx233_2 := bD HB hx233_2
    replace p233 := eq_true p233
    replace q233 := eq_true q233
    have p234 : 0 ≤ (x4_1 : Int) := oD
    have q234 : x4_1 < (l0.length : Int) := oD
    obtain ⟨ad234, e234, hx234_0, hx234_1, hx234_2⟩ := at_T54 HR0.out x4_1 p234 q234
    obtain rfl : ad233 = ad234 := (by injection e234)
    replace hx234_0 := bD HB hx234_0
    replace hx234_1 := bD HB hx234_1
    replace hx234_2 := bD HB hx234_2
    replace p234 := eq_true p234
    replace q234 := eq_true q234
    go_wp2_with (first | ((with_reducible refine gate_dst (N := 24) rfl ?_); refine iL ([0, (rd_T54 l0 x4_1).f0] : List Int) [.int .i64 0, .int .i64 ((rd_T54 l0 x4_1).f0)] ?_; intro v236 w8 ho9 hb hg_ hnew_; clear hg_ hnew_; (first | rw [← Ny235.out] at ho9 | (simp only [Int.reduceToNat] at ho9; rw [← Ny235.out] at ho9)); have HO237 := nR ho9 HO_3 HB; replace HO_3 := aM (Kd.R_elder' (qR HO_3.out) (Kd.R_base ho9) hb); replace HB := bS HB hb; clear hb ho9; obtain ⟨Ao11, co11, rfl⟩ := sL HO237) | ((with_reducible refine gate_builtin (b := .append) (xs := #[.tmp 18, .tmp 24]) rfl ?_); at_builtin; refine Kd.R_append_rows (Kd.int .i64) (w0 := w) w.heap.size rfl (.tmp 18) (.tmp 24) 22 3 (.int .i64 0) 8 rfl Try.underlying22 info3 rfl (by decide) (by omega) u3 x3_1 y235 _ _ _ (fun k_ => some k_ ≠ (.slice Ao11 y235.length co11 : Value).ownBlock) (fun _ => False) rfl rfl ?aO ?aR (fun _ _ h => h) (fun _ h => h.elim) ?aF ?aB ?aS ?aL ?_; (case aR => exact qC (Kd.R_reads' HO237.out).2.2); (case aB => exact (qW HB.out)); (case aF => exact (fun k_ hk => Kd.fresh' (Kd.R_lt (qR HO237.out)) k_ hk)); (case aO => exact (by refine qR ?_; exact Kd.R_mono HO_3.out (fun _ hk => hk.2))); (case aS => exact (below_size (qW HB.out))); (case aL => have := LMc7.out; omega); intro v239 w10 ho hb hg hat; rw [← Ny238.out] at ho; replace HO237 := aM (Kd.R_after (ok := (fun _ => True)) (qR HO237.out) hg hat); replace HB := aM (hb); have HO240 := aM (ho); clear HO_3; clear ho hb hg hat))
    go_roundg k1
    case measure => have := HK1.out; omega
    case rel => exact ⟨(y238), (wrap64 (x4_1 + 1)), qE, H', ⟨by have := HK1.out; omega⟩, ⟨by refine qR ?_; exact Kd.R_mono HO240.out (fun _ hk => trivial)⟩, ⟨by exact qW HB.out⟩⟩
   rw [if_neg c6] at H
   have c6b0 : (((rd_T54 l0 x4_1).f1) == 0) = false := beq_eq_false_iff_ne.mpr c6
   have c6b1 : (((rd_T54 l0 x4_1).f1) != 0) = true := bne_iff_ne.mpr c6
   obtain ⟨y243, hy243⟩ : ∃ y_ : List Int, y_ = (([(rd_T54 l0 x4_1).f1, (rd_T54 l0 x4_1).f2] : List Int)) := ⟨_, rfl⟩
   replace H : (if x3_1.length + y243.length < 17592186044416 then (spec_packTokens.l0 k1 l0 (x3_1 ++ y243) (wrap64 (x4_1 + 1))) else (none)) = some r := rY hy243 H
   have Ny243 := aM hy243
   clear hy243
   replace H := iS H
   obtain ⟨c12, H⟩ := H
   have LMc12 := aM c12
   clear c12
   obtain ⟨y246, hy246⟩ : ∃ y_ : List Int, y_ = (x3_1 ++ y243) := ⟨_, rfl⟩
   replace H : (spec_packTokens.l0 k1 l0 y246 (wrap64 (x4_1 + 1))) = some r := rY hy246 H
   have Ny246 := aM hy246
   clear hy246
   have H' := aM H
   clear H
   have p233 : 0 ≤ (x4_1 : Int) := oD
   have q233 : x4_1 < (l0.length : Int) := oD
   obtain ⟨ad233, e233, hx233_0, hx233_1, hx233_2⟩ := at_T54 HR0.out x4_1 p233 q233
   cases e233
   replace hx233_0 := bD HB hx233_0
   replace hx233_1 := bD HB hx233_1
   replace hx233_2 := bD HB hx233_2
   replace p233 := eq_true p233
   replace q233 := eq_true q233
   try go_wp2
   replace HO_3 := aM (Kd.R_drew HO_3.out)
   replace HB := aM (below_drew1 HB.out)
   have p241 : 0 ≤ (x4_1 : Int) := oD
   have q241 : x4_1 < (l0.length : Int) := oD
   obtain ⟨ad241, e241, hx241_0, hx241_1, hx241_2⟩ := at_T54 HR0.out x4_1 p241 q241
   have hw241_2 := hx241_2
   have hw241_1 := hx241_1
   have hw241_0 := hx241_0
   obtain rfl : ad233 = ad241 := (by injection e241)
   replace hx241_0 := bD HB hx241_0
   replace hx241_1 := bD HB hx241_1
   replace hx241_2 := bD HB hx241_2
   replace p241 := eq_true p241
   replace q241 := eq_true q241
   have p242 : 0 ≤ (x4_1 : Int) := oD
   have q242 : x4_1 < (l0.length : Int) := oD
   obtain ⟨ad242, e242, hx242_0, hx242_1, hx242_2⟩ := at_T54 HR0.out x4_1 p242 q242
   have hw242_2 := hx242_2
   have hw242_1 := hx242_1
   have hw242_0 := hx242_0
   obtain rfl : ad233 = ad242 := (by injection e242)
   replace hx242_0 := bD HB hx242_0
   replace hx242_1 := bD HB hx242_1
   replace hx242_2 := bD HB hx242_2
   replace p242 := eq_true p242
   replace q242 := eq_true q242
   refine start_ (n := 14) (S := fun w' => w'.cell? (ad233.add ((x4_1).toNat * 3)) = some (.int .i64 ((rd_T54 l0 x4_1).f0)) ∧ w'.cell? ⟨(ad233.add ((x4_1).toNat * 3)).block, (ad233.add ((x4_1).toNat * 3)).off + 1, none⟩ = some (.int .i64 ((rd_T54 l0 x4_1).f1)) ∧ w'.cell? ⟨(ad233.add ((x4_1).toNat * 3)).block, (ad233.add ((x4_1).toNat * 3)).off + 2, none⟩ = some (.int .i64 ((rd_T54 l0 x4_1).f2)) ∧ w'.cell? (ad233.add ((x4_1).toNat * 3)) = some (.int .i64 ((rd_T54 l0 x4_1).f0)) ∧ w'.cell? ⟨(ad233.add ((x4_1).toNat * 3)).block, (ad233.add ((x4_1).toNat * 3)).off + 1, none⟩ = some (.int .i64 ((rd_T54 l0 x4_1).f1)) ∧ w'.cell? ⟨(ad233.add ((x4_1).toNat * 3)).block, (ad233.add ((x4_1).toNat * 3)).off + 2, none⟩ = some (.int .i64 ((rd_T54 l0 x4_1).f2))) (ds := []) (bA 14 0) (by kernel_rfl) rfl rfl ⟨(bC HB hw241_0), (bC HB hw241_1), (bC HB hw241_2), (bC HB hw242_0), (bC HB hw242_1), (bC HB hw242_2)⟩ (fun hHeld => ?_); refine with_tabW spec_packTokens.tab7 spec_packTokens.bits7 (fun HT_ HW_ => ?_)
   generalize wr.drew = w13 at HO_3 HB hx241_0 hx241_1 hx241_2 hx242_0 hx242_1 hx242_2 hHeld ⊢
   refine pQ 0 26 HT_ (bA 14 1) ?_
   refine pQ 1 27 HT_ (bA 14 3) ?_
   refine pQ 2 28 HT_ (bA 14 7) ?_
   refine pQ 3 29 HT_ (bA 14 15) ?_
   refine pQ 4 30 HT_ (bA 14 31) ?_
   refine pQ 6 32 HT_ (bA 14 95) ?_
   refine pQ 7 33 HT_ (bA 14 223) ?_
   refine pQ 8 34 HT_ (bA 14 479) ?_
   refine pQ 9 35 HT_ (bA 14 991) ?_
   refine take_ (i := 5) (N := some 31) (v := ?_) (a' := ?_) (bA 14 1023) rfl rfl (take_ofW HT_.out HW_.out (by kernel_rfl)) (fun _ _ _ h => h) (Or.inl ⟨by rfl, ?_⟩) hHeld ?_ ?_
   rotate_left
   ·rintro w' ⟨s0, s1, s2, s3, s4, s5⟩
    go_simp
    with_reducible rfl
   rotate_left
   ·refine pZ ?_
    rfl
   refine take_ (i := 10) (N := some 36) (v := ?_) (a' := ?_) (bA 14 2047) rfl rfl (take_ofW HT_.out HW_.out (by kernel_rfl)) (fun _ _ _ h => h) (Or.inl ⟨by rfl, ?_⟩) hHeld ?_ ?_
   rotate_left
   ·rintro w' ⟨s0, s1, s2, s3, s4, s5⟩
    go_simp
    with_reducible rfl
   rotate_left
   ·refine pZ ?_
    rfl
   refine one_ (i := 11) (N := some 37) (bA 14 4095) rfl rfl (one_of HT_.out (by kernel_rfl)) (by decide) (fun K hK => ?_)
   refine Kd.R_lit_step (Kd.int .i64) _ 3 ?hg (N := 37) ?hd (xs := ([(rd_T54 l0 x4_1).f1, (rd_T54 l0 x4_1).f2] : List Int)) (inner := [.int .i64 ((rd_T54 l0 x4_1).f1), .int .i64 ((rd_T54 l0 x4_1).f2)]) (ok := fun _ => True) (okp := fun _ => True) ?hr ?hp (fun _ hk => hk) trivial (Below.refl _ _) (Nat.le_refl _) (by simp) ?_; (case hd => rfl); (case hg => rfl); (case hr => first | (go_simp; done) | (go_simp; rfl)); (case hp => exact (Reps.one (show Kd.M (Kd.int .i64) _ _ _ ((rd_T54 l0 x4_1).f1) [.int .i64 ((rd_T54 l0 x4_1).f1)] from rfl) (Reps.one (show Kd.M (Kd.int .i64) _ _ _ ((rd_T54 l0 x4_1).f2) [.int .i64 ((rd_T54 l0 x4_1).f2)] from rfl) (Reps.none _ _))))
   intro v244 w14 ho15 hb hg_ hnew_
   clear hg_ hnew_
   (first | rw [← Ny243.out] at ho15 | (simp only [Int.reduceToNat] at ho15; rw [← Ny243.out] at ho15))
   have HO245 := nR ho15 HO_3 HB
   replace HO_3 := aM (Kd.R_elder' (qR HO_3.out) (Kd.R_base ho15) hb)
   replace HB := bS HB hb
   clear hb ho15
   obtain ⟨Ao17, co17, eo17⟩ := Kd.R_slice HO245.out
   (first | subst eo17 | (injection eo17 with f1_ f2_ f3_; have f4_ := f1_.symm; have f5_ := f3_.symm; clear f1_ f2_ f3_; subst f4_; subst f5_))
   refine hK.out _ _ ⟨(bC HB hw241_0), (bC HB hw241_1), (bC HB hw241_2), (bC HB hw242_0), (bC HB hw242_1), (bC HB hw242_2)⟩ (fun hHeld => ?_)
   clear hK K
   refine norm_ (a' := ?_) ?_ ?_
   rotate_left
   ·show Act.put _ (some 37) _ = _
    refine pZ ?_
    rfl
   refine one_ (i := 12) (N := some 38) (bA 14 8191) rfl rfl (one_of HT_.out (by kernel_rfl)) (by decide) (fun K hK => ?_)
   refine Kd.R_append_rows_step (Kd.int .i64) (w0 := w) w.heap.size (by rfl) (.tmp 26) (.tmp 37) 22 3 (.int .i64 0) 8 rfl Try.underlying22 info3 rfl (by decide) (by omega) u3 x3_1 y243 _ _ _ (fun k_ => some k_ ≠ (.slice Ao17 y243.length co17 : Value).ownBlock) (fun _ => False) rfl rfl ?aO ?aR (fun _ _ h => h) (fun _ h => h.elim) ?aF ?aB ?aS ?aL ?_
   (case aR => exact qC (Kd.R_reads' HO245.out).2.2)
   (case aB => exact (qW HB.out))
   (case aF => exact (fun k_ hk => Kd.fresh' (Kd.R_lt (qR HO245.out)) k_ hk))
   (case aO => exact (by refine qR ?_; exact Kd.R_mono HO_3.out (fun _ hk => hk.2)))
   (case aS => exact (below_size (qW HB.out)))
   (case aL => have := LMc12.out; omega)
   intro v247 w16 ho hb hg hat
   rw [← Ny246.out] at ho
   replace HO245 := aM (Kd.R_after (ok := (fun _ => True)) (qR HO245.out) hg hat)
   replace HB := aM (hb)
   have HO248 := aM (ho)
   clear HO_3
   clear ho hb hg hat
   refine hK.out _ _ ⟨(bC HB hw241_0), (bC HB hw241_1), (bC HB hw241_2), (bC HB hw242_0), (bC HB hw242_1), (bC HB hw242_2)⟩ (fun hHeld => ?_)
   clear hK K
   refine norm_ (a' := ?_) ?_ ?_
   rotate_left
   ·show Act.put _ (some 38) _ = _
    refine pZ ?_
    rfl
   refine pQ 13 3 HT_ (bA 14 16383) ?_
   refine done_ (done_of HT_.out (by kernel_rfl)) ?_
   try go_wp2
   go_roundg k1
   case measure => have := HK1.out; omega
   case rel => exact ⟨(y246), (wrap64 (x4_1 + 1)), qE, H', ⟨by have := HK1.out; omega⟩, ⟨by refine qR ?_; exact Kd.R_mono HO248.out (fun _ hk => trivial)⟩, ⟨by exact qW HB.out⟩⟩
mutual
def impl_expandTokens.l0 : Nat → List Int → List (S54) → Int → Int → Option (List Int × Bool)
 | 0, _, _, _, _ => none
 | k + 1, x4, x8, x9, x10 => if x10 < x9 then (if 0 ≤ x10 then (if x10 < (x8.length : Int) then (if ((rd_T54 x8 x10).f1) = 0 then (if ((rd_T54 x8 x10).f2) = 0 then (if ((rd_T54 x8 x10).f0) ≥ 0 then (impl_expandTokens.j1 k x4 x8 x9 x10 (decide (((rd_T54 x8 x10).f0) ≤ 255)) ((rd_T54 x8 x10).f0) ((rd_T54 x8 x10).f1) ((rd_T54 x8 x10).f2)) else (impl_expandTokens.j1 k x4 x8 x9 x10 false ((rd_T54 x8 x10).f0) ((rd_T54 x8 x10).f1) ((rd_T54 x8 x10).f2))) else (impl_expandTokens.j1 k x4 x8 x9 x10 false ((rd_T54 x8 x10).f0) ((rd_T54 x8 x10).f1) ((rd_T54 x8 x10).f2))) else (impl_expandTokens.j1 k x4 x8 x9 x10 false ((rd_T54 x8 x10).f0) ((rd_T54 x8 x10).f1) ((rd_T54 x8 x10).f2))) else (none)) else (none)) else (some (x4, true))
def impl_expandTokens.j1 : Nat → List Int → List (S54) → Int → Int → Bool → Int → Int → Int → Option (List Int × Bool)
 | 0, _, _, _, _, _, _, _, _ => none
 | k + 1, x4, x8, x9, x10, x14, x350000, x350001, x350002 => if x14 = true then (if x4.length < 17592186044416 then ((some (x4 ++ [x350000] : List Int)).bind fun y350 => (if (y350.length : Int) > 1200 then (some (([] : List Int), false)) else (impl_expandTokens.l0 k y350 x8 x9 (wrap64 (x10 + 1))))) else (none)) else (if x350000 = 0 then (if x350001 ≥ 3 then (if x350001 ≤ 18 then (if x350002 ≥ 1 then (if x350002 ≤ 64 then (impl_expandTokens.j2 k x4 x8 x9 x10 (decide (x350002 ≤ (x4.length : Int))) x350000 x350001 x350002) else (impl_expandTokens.j2 k x4 x8 x9 x10 false x350000 x350001 x350002)) else (impl_expandTokens.j2 k x4 x8 x9 x10 false x350000 x350001 x350002)) else (impl_expandTokens.j2 k x4 x8 x9 x10 false x350000 x350001 x350002)) else (impl_expandTokens.j2 k x4 x8 x9 x10 false x350000 x350001 x350002)) else (impl_expandTokens.j2 k x4 x8 x9 x10 false x350000 x350001 x350002))
def impl_expandTokens.j2 : Nat → List Int → List (S54) → Int → Int → Bool → Int → Int → Int → Option (List Int × Bool)
 | 0, _, _, _, _, _, _, _, _ => none
 | k + 1, x4, x8, x9, x10, x38, x350000, x350001, x350002 => if x38 = true then (impl_expandTokens.l1 k x4 x8 x9 x10 x350001 0 x350000 x350001 x350002) else (some (([] : List Int), false))
def impl_expandTokens.l1 : Nat → List Int → List (S54) → Int → Int → Int → Int → Int → Int → Int → Option (List Int × Bool)
 | 0, _, _, _, _, _, _, _, _, _ => none
 | k + 1, x4, x8, x9, x10, x70, x71, x350000, x350001, x350002 => if x71 < x70 then (if 0 ≤ (wrap64 ((x4.length : Int) - x350002)) then (if (wrap64 ((x4.length : Int) - x350002)) < (x4.length : Int) then (if x4.length < 17592186044416 then (impl_expandTokens.l1 k (x4 ++ [rd x4 (wrap64 ((x4.length : Int) - x350002))]) x8 x9 x10 x70 (wrap64 (x71 + 1)) x350000 x350001 x350002) else (none)) else (none)) else (none)) else (if (x4.length : Int) > 1200 then (some (([] : List Int), false)) else (impl_expandTokens.l0 k x4 x8 x9 (wrap64 (x10 + 1))))
end
def impl_expandTokens.f (k : Nat) (l0 : List (S54)) : Option (List Int × Bool) := impl_expandTokens.l0 k (([] : List Int)) l0 (l0.length : Int) 0
theorem impl_expandTokens.mono_l : ∀ k, (∀ y0 y1 y2 y3, LeO (impl_expandTokens.l0 k y0 y1 y2 y3) (impl_expandTokens.l0 (k + 1) y0 y1 y2 y3)) ∧ (∀ y0 y1 y2 y3 y4 y5 y6 y7, LeO (impl_expandTokens.j1 k y0 y1 y2 y3 y4 y5 y6 y7) (impl_expandTokens.j1 (k + 1) y0 y1 y2 y3 y4 y5 y6 y7)) ∧ (∀ y0 y1 y2 y3 y4 y5 y6 y7, LeO (impl_expandTokens.j2 k y0 y1 y2 y3 y4 y5 y6 y7) (impl_expandTokens.j2 (k + 1) y0 y1 y2 y3 y4 y5 y6 y7)) ∧ (∀ y0 y1 y2 y3 y4 y5 y6 y7 y8, LeO (impl_expandTokens.l1 k y0 y1 y2 y3 y4 y5 y6 y7 y8) (impl_expandTokens.l1 (k + 1) y0 y1 y2 y3 y4 y5 y6 y7 y8))
 | 0 => ⟨fun _ _ _ _ r h => by simp [impl_expandTokens.l0] at h, fun _ _ _ _ _ _ _ _ r h => by simp [impl_expandTokens.j1] at h, fun _ _ _ _ _ _ _ _ r h => by simp [impl_expandTokens.j2] at h, fun _ _ _ _ _ _ _ _ _ r h => by simp [impl_expandTokens.l1] at h⟩
 | k + 1 => by
  obtain ⟨ih0, ih1, ih2, ih3⟩ := impl_expandTokens.mono_l k
  refine ⟨?_, ?_, ?_, ?_⟩
  all_goals intros
  all_goals first | unfold impl_expandTokens.l0 | unfold impl_expandTokens.j1 | unfold impl_expandTokens.j2 | unfold impl_expandTokens.l1
  all_goals repeat' first | (with_reducible first | exact ih0 _ _ _ _ | exact ih1 _ _ _ _ _ _ _ _ | exact ih2 _ _ _ _ _ _ _ _ | exact ih3 _ _ _ _ _ _ _ _ _ | exact lR | exact lN | refine lI ?_ ?_ | refine lB ?_ fun _ => ?_) | exact ih0 _ _ _ _ | exact ih1 _ _ _ _ _ _ _ _ | exact ih2 _ _ _ _ _ _ _ _ | exact ih3 _ _ _ _ _ _ _ _ _ | exact lN | refine lI ?_ ?_ | refine lB ?_ fun _ => ?_
theorem impl_expandTokens.mono : ∀ a0 k, LeO (impl_expandTokens.f k a0) (impl_expandTokens.f (k + 1) a0) := by
 intro a0 k
 obtain ⟨ih0, ih1, ih2, ih3⟩ := impl_expandTokens.mono_l k
 unfold impl_expandTokens.f
 repeat' first | (with_reducible first | exact ih0 _ _ _ _ | exact ih1 _ _ _ _ _ _ _ _ | exact ih2 _ _ _ _ _ _ _ _ | exact ih3 _ _ _ _ _ _ _ _ _ | exact lR | exact lN | refine lI ?_ ?_ | refine lB ?_ fun _ => ?_) | exact ih0 _ _ _ _ | exact ih1 _ _ _ _ _ _ _ _ | exact ih2 _ _ _ _ _ _ _ _ | exact ih3 _ _ _ _ _ _ _ _ _ | exact lN | refine lI ?_ ?_ | refine lB ?_ fun _ => ?_
set_option maxHeartbeats 8000000 in
set_option maxRecDepth 100000 in
theorem impl_expandTokens.calls (k : Nat) (A0 : Option Addr) (c0 : Nat) (l0 : List (S54)) (r1 : List Int) (r2 : Bool) (w : World) (hr0 : Kd.C k54 w A0 l0.length l0) (hc0 : l0.length ≤ c0) (h : impl_expandTokens.f k l0 = some (r1, r2)) :
  Calls Try.prog 44 #[.slice A0 l0.length c0] w fun e w' => ∃ v0_ : Value, e = .returned (.tuple #[v0_, .bool r2]) ∧ Kd.R (Kd.int .i64) 3 w' w.heap.size (fun _ => True) v0_ r1 ∧ Below w.heap.size w w' := by
 have hu54 := Try.underlying54
 have HR0 := aM hr0
 have HC0 := aM hc0
 clear hr0 hc0
 have HB := aM (Below.refl w.heap.size w)
 unfold impl_expandTokens.f at h
 have H := h
 clear h
 obtain ⟨y345, hy345⟩ : ∃ y_ : List Int, y_ = (([] : List Int)) := ⟨_, rfl⟩
 replace H : (impl_expandTokens.l0 k y345 l0 (l0.length : Int) 0) = some (r1, r2) := rY hy345 H
 have Ny345 := aM hy345
 clear hy345
 have H' := aM H
 clear H
 go_enter Try.func44, Try.ntmps44
 go_wp2_with (first | ((with_reducible refine gate_dst (N := 7) rfl ?_); (try (refine gate_guard (by rfl) ?_; dsimp only)); refine iL ([] : List Int) [] ?_; intro v346 w2 ho3 hb hg_ hnew_; clear hg_ hnew_; (first | rw [← Ny345.out] at ho3 | (simp only [Int.reduceToNat] at ho3; rw [← Ny345.out] at ho3)); have HO347 := oR ho3 HB; replace HB := bS HB hb; clear hb ho3))
 go_loopg [4, 10] k (fun kq v4 v10 w' => ∃ (x4_1 : List Int) (x10_1 : Int), v10 = .int .i64 x10_1 ∧ Aside0 (impl_expandTokens.l0 kq x4_1 l0 (l0.length : Int) x10_1 = some (r1, r2)) ∧ Aside0 (kq ≤ k) ∧ Aside0 (Kd.R (Kd.int .i64) 3 w' w.heap.size (fun _ => True) v4 x4_1) ∧ Aside0 (Below w.heap.size w w'))
 case atStart => exact ⟨(y345), (0), qE, H', ⟨Nat.le_refl _⟩, ⟨by refine qR ?_; exact HO347.out⟩, ⟨by exact qW HB.out⟩⟩
 case round =>
  clear H'
  obtain ⟨x4_1, x10_1, rfl, HA, HK1, HO_4, HB⟩ := hrel
  cases gk with
  | zero => exact absurd HA.out (by simp [impl_expandTokens.l0])
  | succ k1 =>
   have H := HA.out
   clear HA
   simp only [impl_expandTokens.l0] at H
   by_cases c4 : x10_1 < (l0.length : Int)
   rotate_left
   ·rw [if_neg c4] at H
    have c4b0 : decide (x10_1 < (l0.length : Int)) = false := decide_eq_false c4
    clear c4
    simp only [Option.some.injEq, Prod.mk.injEq] at H
    obtain ⟨rfl, rfl⟩ := H
    go_wp2
    go_ret2
    exact ⟨_, qX, by refine qR ?_; exact HO_4.out, by exact qW HB.out⟩
   rw [if_pos c4] at H
   have c4b0 : decide (x10_1 < (l0.length : Int)) = true := decide_eq_true c4
   clear c4
   replace H := iD H
   obtain ⟨c5b0, H⟩ := H
   replace H := iD H
   obtain ⟨c6b0, H⟩ := H
   have HC7 := aM H
   clear H
   have p348 : 0 ≤ (x10_1 : Int) := oD
   have q348 : x10_1 < (l0.length : Int) := oD
   obtain ⟨ad348, e348, hx348_0, hx348_1, hx348_2⟩ := at_T54 HR0.out x10_1 p348 q348
   cases e348
   replace hx348_0 := bD HB hx348_0
   replace hx348_1 := bD HB hx348_1
   replace hx348_2 := bD HB hx348_2
   replace p348 := eq_true p348
   replace q348 := eq_true q348
   go_upto_region 6 with (first | ((with_reducible refine gate_dst (N := 6) rfl ?_); (try (refine gate_guard (by rfl) ?_; dsimp only)); refine bxE (N := 6) (cs := #[.int .i64 0, .int .i64 0, .int .i64 0]) (t := 54) ?_; intro gb349 hg w8 hbox hb; replace HO_4 := aM (Kd.R_below (qR HO_4.out) hb); have BK349 := aM (hbox); have GW349 := gW hg HB; have GE349 := gW hg HB; replace HB := bS HB hb; clear hb hbox hg; obtain ⟨⟨hcz9_0, hcz9_1, hcz9_2⟩, hfz9_0, hfz9_1, hfz9_2⟩ := cf3 BK349))
   (try simp only [Act.put, List.setIfInBounds_toArray, List.set_cons_zero, List.set_cons_succ])
   go_cut [14] (fun v14 wc => ∃ (kq : Nat) (x14_6 : Bool), v14 = .bool x14_6 ∧ Aside0 (impl_expandTokens.j1 kq x4_1 l0 (l0.length : Int) x10_1 x14_6 ((rd_T54 l0 x10_1).f0) ((rd_T54 l0 x10_1).f1) ((rd_T54 l0 x10_1).f2) = some (r1, r2)) ∧ Aside0 (kq ≤ k1) ∧ Aside0 (Kd.R (Kd.int .i64) 3 wc w.heap.size (fun _ => True) u4 x4_1) ∧ Aside0 (wc.heap[gb349]? = some (.cells #[.int .i64 ((rd_T54 l0 x10_1).f0), .int .i64 ((rd_T54 l0 x10_1).f1), .int .i64 ((rd_T54 l0 x10_1).f2)] 54 (0, 0))) ∧ Aside0 (Below w.heap.size w wc))
   case first =>
    have H := HC7.out
    clear HC7
    by_cases c10 : ((rd_T54 l0 x10_1).f1) = 0
    rotate_left
    ·rw [if_neg c10] at H
     have c10b0 : (((rd_T54 l0 x10_1).f1) == 0) = false := beq_eq_false_iff_ne.mpr c10
     have c10b1 : (((rd_T54 l0 x10_1).f1) != 0) = true := bne_iff_ne.mpr c10
     (first | rw [c10b0] | (simp only [i64_w, i32_w]; rw [c10b0]) | skip)
     have H' := aM H
     clear H
     obtain ⟨⟨hcz16_0, hcz16_1, hcz16_2⟩, hfz16_0, hfz16_1, hfz16_2⟩ := cf3 BK349
     go_wp2
     go_meet
     case rel => exact ⟨_, (false), qE, H', ⟨by have := HK1.out; first | omega | exact Nat.le_refl _⟩, ⟨by refine qR ?_; exact Kd.R_mono (rT HO_4 BK349) (fun _ hk => trivial)⟩, ⟨by exact bP BK349.out⟩, ⟨by exact qW HB.out⟩⟩
    rw [if_pos c10] at H
    have c10b0 : (((rd_T54 l0 x10_1).f1) == 0) = true := beq_iff_eq.mpr c10
    have c10b1 : (((rd_T54 l0 x10_1).f1) != 0) = false := bne_eq_false_iff_eq.mpr c10
    clear c10
    (first | rw [c10b0] | (simp only [i64_w, i32_w]; rw [c10b0]) | skip)
    by_cases c11 : ((rd_T54 l0 x10_1).f2) = 0
    rotate_left
    ·rw [if_neg c11] at H
     have c11b0 : (((rd_T54 l0 x10_1).f2) == 0) = false := beq_eq_false_iff_ne.mpr c11
     have c11b1 : (((rd_T54 l0 x10_1).f2) != 0) = true := bne_iff_ne.mpr c11
     have H' := aM H
     clear H
     obtain ⟨⟨hcz15_0, hcz15_1, hcz15_2⟩, hfz15_0, hfz15_1, hfz15_2⟩ := cf3 BK349
     go_wp2
     go_meet
     case rel => exact ⟨_, (false), qE, H', ⟨by have := HK1.out; first | omega | exact Nat.le_refl _⟩, ⟨by refine qR ?_; exact Kd.R_mono (rT HO_4 BK349) (fun _ hk => trivial)⟩, ⟨by exact bP BK349.out⟩, ⟨by exact qW HB.out⟩⟩
    rw [if_pos c11] at H
    have c11b0 : (((rd_T54 l0 x10_1).f2) == 0) = true := beq_iff_eq.mpr c11
    have c11b1 : (((rd_T54 l0 x10_1).f2) != 0) = false := bne_eq_false_iff_eq.mpr c11
    clear c11
    by_cases c12 : ((rd_T54 l0 x10_1).f0) ≥ 0
    rotate_left
    ·rw [if_neg c12] at H
     have c12b0 : decide (0 ≤ ((rd_T54 l0 x10_1).f0)) = false := decide_eq_false c12
     clear c12
     have H' := aM H
     clear H
     obtain ⟨⟨hcz14_0, hcz14_1, hcz14_2⟩, hfz14_0, hfz14_1, hfz14_2⟩ := cf3 BK349
     go_wp2
     go_meet
     case rel => exact ⟨_, (false), qE, H', ⟨by have := HK1.out; first | omega | exact Nat.le_refl _⟩, ⟨by refine qR ?_; exact Kd.R_mono (rT HO_4 BK349) (fun _ hk => trivial)⟩, ⟨by exact bP BK349.out⟩, ⟨by exact qW HB.out⟩⟩
    rw [if_pos c12] at H
    have c12b0 : decide (0 ≤ ((rd_T54 l0 x10_1).f0)) = true := decide_eq_true c12
    clear c12
    have H' := aM H
    clear H
    obtain ⟨⟨hcz13_0, hcz13_1, hcz13_2⟩, hfz13_0, hfz13_1, hfz13_2⟩ := cf3 BK349
    go_wp2
    go_meet
    case rel => exact ⟨_, (decide (((rd_T54 l0 x10_1).f0) ≤ 255)), qE, H', ⟨by have := HK1.out; first | omega | exact Nat.le_refl _⟩, ⟨by refine qR ?_; exact Kd.R_mono (rT HO_4 BK349) (fun _ hk => trivial)⟩, ⟨by exact bP BK349.out⟩, ⟨by exact qW HB.out⟩⟩
   case rest =>
    clear HC7
    try clear c4
    try clear c4b0
    try clear c5b0
    try clear c6b0
    try clear c10
    try clear c10b0
    try clear c10b1
    try clear c11
    try clear c11b0
    try clear c11b1
    try clear c12
    try clear c12b0
    try clear hcz13_0 hcz13_1 hcz13_2 hfz13_0 hfz13_1 hfz13_2
    try clear hcz14_0 hcz14_1 hcz14_2 hfz14_0 hfz14_1 hfz14_2
    try clear hcz15_0 hcz15_1 hcz15_2 hfz15_0 hfz15_1 hfz15_2
    try clear hcz16_0 hcz16_1 hcz16_2 hfz16_0 hfz16_1 hfz16_2
    try clear hcz9_0 hcz9_1 hcz9_2 hfz9_0 hfz9_1 hfz9_2
    try clear hx348_0
    try clear hx348_1
    try clear hx348_2
    try clear p348
    try clear q348
    obtain ⟨kq, x14_6, rfl, HA, HJ6, HO_4, BK349, HB⟩ := hcut
    cases kq with
    | zero => exact absurd HA.out (by simp [impl_expandTokens.j1])
    | succ kj6 =>
     have H := HA.out
     clear HA
     simp only [impl_expandTokens.j1] at H
     by_cases c17 : x14_6 = true
     ·subst c17
      have H1 : (if x4_1.length < 17592186044416 then ((some (x4_1 ++ [((rd_T54 l0 x10_1).f0)] : List Int)).bind fun y350 => (if (y350.length : Int) > 1200 then (some (([] : List Int), false)) else (impl_expandTokens.l0 kj6 y350 l0 (l0.length : Int) (wrap64 (x10_1 + 1))))) else (none)) = some (r1, r2) := by rw [if_pos rfl] at H; exact H
      clear H
      have H := H1
      clear H1
      replace H := iS H
      obtain ⟨c18, H⟩ := H
      have LMc18 := aM c18
      clear c18
      obtain ⟨y350, hy350⟩ : ∃ y_ : List Int, y_ = (x4_1 ++ [((rd_T54 l0 x10_1).f0)]) := ⟨_, rfl⟩
      replace H : (if (y350.length : Int) > 1200 then (some (([] : List Int), false)) else (impl_expandTokens.l0 kj6 y350 l0 (l0.length : Int) (wrap64 (x10_1 + 1)))) = some (r1, r2) := rY hy350 H
      have Ny350 := aM hy350
      clear hy350
      by_cases c19 : (y350.length : Int) > 1200
      ·rw [if_pos c19] at H
       have c19b0 : decide (1200 < (y350.length : Int)) = true := decide_eq_true c19
       have c19b1 : decide (1200 < y350.length) = true := decide_eq_true (by omega)
       clear c19
       simp only [Option.some.injEq, Prod.mk.injEq] at H
       obtain ⟨rfl, rfl⟩ := H
       obtain ⟨⟨hcz20_0, hcz20_1, hcz20_2⟩, hfz20_0, hfz20_1, hfz20_2⟩ := cf3 BK349
       go_wp2_with (first | ((with_reducible refine gate_builtin (b := .append) (xs := #[.tmp 33, .tmp 36]) rfl ?_); (try (refine gate_guard (by rfl) ?_; dsimp only)); at_builtin; refine Kd.R_append (Kd.int .i64) (w0 := w) w.heap.size rfl (.tmp 33) (.tmp 36) 22 3 (.int .i64 0) 8 rfl Try.underlying22 info3 rfl (by decide) (by omega) u4 x4_1 ((rd_T54 l0 x10_1).f0) [.int .i64 ((rd_T54 l0 x10_1).f0)] (fun _ => True) (fun _ => False) rfl rfl ?aP (fun _ hk => hk.elim) ?aF ?aO ?aB ?aS ?aL ?_; (case aP => exact rfl); (case aB => exact (qW HB.out)); (case aF => exact (fun _ _ => trivial)); (case aO => exact (qR HO_4.out)); (case aS => exact (below_size (qW HB.out))); (case aL => have := LMc18.out; omega); intro v351 w21 ho hb hg hat; rw [← Ny350.out] at ho; replace BK349 := gB BK349 hg (Kd.R_ne HO_4.out BK349.out (by decide)); replace HB := aM (hb); have HO352 := aM (ho); clear HO_4; clear ho hb hg hat; obtain ⟨Ao22, co22, rfl⟩ := sL HO352))
       go_ret2
       exact ⟨_, qX, qN, by exact qW HB.out⟩
      rw [if_neg c19] at H
      have c19b0 : decide (1200 < (y350.length : Int)) = false := decide_eq_false c19
      have c19b1 : decide (1200 < y350.length) = false := decide_eq_false (by omega)
      clear c19
      have H' := aM H
      clear H
      obtain ⟨⟨hcz23_0, hcz23_1, hcz23_2⟩, hfz23_0, hfz23_1, hfz23_2⟩ := cf3 BK349
      go_wp2_with (first | ((with_reducible refine gate_builtin (b := .append) (xs := #[.tmp 33, .tmp 36]) rfl ?_); (try (refine gate_guard (by rfl) ?_; dsimp only)); at_builtin; refine Kd.R_append (Kd.int .i64) (w0 := w) w.heap.size rfl (.tmp 33) (.tmp 36) 22 3 (.int .i64 0) 8 rfl Try.underlying22 info3 rfl (by decide) (by omega) u4 x4_1 ((rd_T54 l0 x10_1).f0) [.int .i64 ((rd_T54 l0 x10_1).f0)] (fun _ => True) (fun _ => False) rfl rfl ?aP (fun _ hk => hk.elim) ?aF ?aO ?aB ?aS ?aL ?_; (case aP => exact rfl); (case aB => exact (qW HB.out)); (case aF => exact (fun _ _ => trivial)); (case aO => exact (qR HO_4.out)); (case aS => exact (below_size (qW HB.out))); (case aL => have := LMc18.out; omega); intro v351 w24 ho hb hg hat; rw [← Ny350.out] at ho; replace BK349 := gB BK349 hg (Kd.R_ne HO_4.out BK349.out (by decide)); replace HB := aM (hb); have HO352 := aM (ho); clear HO_4; clear ho hb hg hat; obtain ⟨Ao25, co25, rfl⟩ := sL HO352))
      go_roundg kj6
      case measure => have := HK1.out; have := HJ6.out; omega
      case rel => exact ⟨(y350), (wrap64 (x10_1 + 1)), qE, H', ⟨by have := HK1.out; have := HJ6.out; omega⟩, ⟨by refine qR ?_; exact HO352.out⟩, ⟨by exact qW HB.out⟩⟩
     replace c17 := Bool.eq_false_iff.mpr c17
     subst c17
     have H1 : (if ((rd_T54 l0 x10_1).f0) = 0 then (if ((rd_T54 l0 x10_1).f1) ≥ 3 then (if ((rd_T54 l0 x10_1).f1) ≤ 18 then (if ((rd_T54 l0 x10_1).f2) ≥ 1 then (if ((rd_T54 l0 x10_1).f2) ≤ 64 then (impl_expandTokens.j2 kj6 x4_1 l0 (l0.length : Int) x10_1 (decide (((rd_T54 l0 x10_1).f2) ≤ (x4_1.length : Int))) ((rd_T54 l0 x10_1).f0) ((rd_T54 l0 x10_1).f1) ((rd_T54 l0 x10_1).f2)) else (impl_expandTokens.j2 kj6 x4_1 l0 (l0.length : Int) x10_1 false ((rd_T54 l0 x10_1).f0) ((rd_T54 l0 x10_1).f1) ((rd_T54 l0 x10_1).f2))) else (impl_expandTokens.j2 kj6 x4_1 l0 (l0.length : Int) x10_1 false ((rd_T54 l0 x10_1).f0) ((rd_T54 l0 x10_1).f1) ((rd_T54 l0 x10_1).f2))) else (impl_expandTokens.j2 kj6 x4_1 l0 (l0.length : Int) x10_1 false ((rd_T54 l0 x10_1).f0) ((rd_T54 l0 x10_1).f1) ((rd_T54 l0 x10_1).f2))) else (impl_expandTokens.j2 kj6 x4_1 l0 (l0.length : Int) x10_1 false ((rd_T54 l0 x10_1).f0) ((rd_T54 l0 x10_1).f1) ((rd_T54 l0 x10_1).f2))) else (impl_expandTokens.j2 kj6 x4_1 l0 (l0.length : Int) x10_1 false ((rd_T54 l0 x10_1).f0) ((rd_T54 l0 x10_1).f1) ((rd_T54 l0 x10_1).f2))) = some (r1, r2) := by rw [if_neg (show ¬ (false = true) by decide)] at H; exact H
     clear H
     have H := H1
     clear H1
     have HC26 := aM H
     clear H
     go_upto_region 8 with (fail)
     go_cut [38] (fun v38 wc => ∃ (kq : Nat) (x38_25 : Bool), v38 = .bool x38_25 ∧ Aside0 (impl_expandTokens.j2 kq x4_1 l0 (l0.length : Int) x10_1 x38_25 ((rd_T54 l0 x10_1).f0) ((rd_T54 l0 x10_1).f1) ((rd_T54 l0 x10_1).f2) = some (r1, r2)) ∧ Aside0 (kq ≤ kj6) ∧ Aside0 (Kd.R (Kd.int .i64) 3 wc w.heap.size (fun _ => True) u4 x4_1) ∧ Aside0 (wc.heap[gb349]? = some (.cells #[.int .i64 ((rd_T54 l0 x10_1).f0), .int .i64 ((rd_T54 l0 x10_1).f1), .int .i64 ((rd_T54 l0 x10_1).f2)] 54 (0, 0))) ∧ Aside0 (Below w.heap.size w wc))
     case first =>
      have H := HC26.out
      clear HC26
      by_cases c27 : ((rd_T54 l0 x10_1).f0) = 0
      rotate_left
      ·rw [if_neg c27] at H
       have c27b0 : (((rd_T54 l0 x10_1).f0) == 0) = false := beq_eq_false_iff_ne.mpr c27
       have c27b1 : (((rd_T54 l0 x10_1).f0) != 0) = true := bne_iff_ne.mpr c27
       (first | rw [c27b0] | (simp only [i64_w, i32_w]; rw [c27b0]) | skip)
       have H' := aM H
       clear H
       obtain ⟨⟨hcz38_0, hcz38_1, hcz38_2⟩, hfz38_0, hfz38_1, hfz38_2⟩ := cf3 BK349
       go_wp2
       go_meet
       case rel => exact ⟨_, (false), qE, H', ⟨by have := HK1.out; have := HJ6.out; first | omega | exact Nat.le_refl _⟩, ⟨by refine qR ?_; exact HO_4.out⟩, ⟨by refine qB ?_; exact BK349.out⟩, ⟨by exact qW HB.out⟩⟩
      rw [if_pos c27] at H
      have c27b0 : (((rd_T54 l0 x10_1).f0) == 0) = true := beq_iff_eq.mpr c27
      have c27b1 : (((rd_T54 l0 x10_1).f0) != 0) = false := bne_eq_false_iff_eq.mpr c27
      clear c27
      (first | rw [c27b0] | (simp only [i64_w, i32_w]; rw [c27b0]) | skip)
      by_cases c28 : ((rd_T54 l0 x10_1).f1) ≥ 3
      rotate_left
      ·rw [if_neg c28] at H
       have c28b0 : decide (3 ≤ ((rd_T54 l0 x10_1).f1)) = false := decide_eq_false c28
       clear c28
       have H' := aM H
       clear H
       obtain ⟨⟨hcz37_0, hcz37_1, hcz37_2⟩, hfz37_0, hfz37_1, hfz37_2⟩ := cf3 BK349
       go_wp2
       go_meet
       case rel => exact ⟨_, (false), qE, H', ⟨by have := HK1.out; have := HJ6.out; first | omega | exact Nat.le_refl _⟩, ⟨by refine qR ?_; exact HO_4.out⟩, ⟨by refine qB ?_; exact BK349.out⟩, ⟨by exact qW HB.out⟩⟩
      rw [if_pos c28] at H
      have c28b0 : decide (3 ≤ ((rd_T54 l0 x10_1).f1)) = true := decide_eq_true c28
      clear c28
      by_cases c29 : ((rd_T54 l0 x10_1).f1) ≤ 18
      rotate_left
      ·rw [if_neg c29] at H
       have c29b0 : decide (((rd_T54 l0 x10_1).f1) ≤ 18) = false := decide_eq_false c29
       clear c29
       have H' := aM H
       clear H
       obtain ⟨⟨hcz36_0, hcz36_1, hcz36_2⟩, hfz36_0, hfz36_1, hfz36_2⟩ := cf3 BK349
       go_wp2
       go_meet
       case rel => exact ⟨_, (false), qE, H', ⟨by have := HK1.out; have := HJ6.out; first | omega | exact Nat.le_refl _⟩, ⟨by refine qR ?_; exact HO_4.out⟩, ⟨by refine qB ?_; exact BK349.out⟩, ⟨by exact qW HB.out⟩⟩
      rw [if_pos c29] at H
      have c29b0 : decide (((rd_T54 l0 x10_1).f1) ≤ 18) = true := decide_eq_true c29
      clear c29
      by_cases c30 : ((rd_T54 l0 x10_1).f2) ≥ 1
      rotate_left
      ·rw [if_neg c30] at H
       have c30b0 : decide (1 ≤ ((rd_T54 l0 x10_1).f2)) = false := decide_eq_false c30
       clear c30
       have H' := aM H
       clear H
       obtain ⟨⟨hcz35_0, hcz35_1, hcz35_2⟩, hfz35_0, hfz35_1, hfz35_2⟩ := cf3 BK349
       go_wp2
       go_meet
       case rel => exact ⟨_, (false), qE, H', ⟨by have := HK1.out; have := HJ6.out; first | omega | exact Nat.le_refl _⟩, ⟨by refine qR ?_; exact HO_4.out⟩, ⟨by refine qB ?_; exact BK349.out⟩, ⟨by exact qW HB.out⟩⟩
      rw [if_pos c30] at H
      have c30b0 : decide (1 ≤ ((rd_T54 l0 x10_1).f2)) = true := decide_eq_true c30
      clear c30
      by_cases c31 : ((rd_T54 l0 x10_1).f2) ≤ 64
      rotate_left
      ·rw [if_neg c31] at H
       have c31b0 : decide (((rd_T54 l0 x10_1).f2) ≤ 64) = false := decide_eq_false c31
       clear c31
       have H' := aM H
       clear H
       obtain ⟨⟨hcz34_0, hcz34_1, hcz34_2⟩, hfz34_0, hfz34_1, hfz34_2⟩ := cf3 BK349
       go_wp2
       go_meet
       case rel => exact ⟨_, (false), qE, H', ⟨by have := HK1.out; have := HJ6.out; first | omega | exact Nat.le_refl _⟩, ⟨by refine qR ?_; exact HO_4.out⟩, ⟨by refine qB ?_; exact BK349.out⟩, ⟨by exact qW HB.out⟩⟩
      rw [if_pos c31] at H
      have c31b0 : decide (((rd_T54 l0 x10_1).f2) ≤ 64) = true := decide_eq_true c31
      clear c31
      have H' := aM H
      clear H
      obtain ⟨⟨hcz32_0, hcz32_1, hcz32_2⟩, hfz32_0, hfz32_1, hfz32_2⟩ := cf3 BK349
      obtain ⟨Ao33, co33, rfl⟩ := sL HO_4
      go_wp2
      go_meet
      case rel => exact ⟨_, (decide (((rd_T54 l0 x10_1).f2) ≤ (x4_1.length : Int))), qE, H', ⟨by have := HK1.out; have := HJ6.out; first | omega | exact Nat.le_refl _⟩, ⟨by refine qR ?_; exact HO_4.out⟩, ⟨by refine qB ?_; exact BK349.out⟩, ⟨by exact qW HB.out⟩⟩
     case rest =>
      clear HC26
      try clear c4
      try clear c4b0
      try clear c5b0
      try clear c6b0
      try clear c10
      try clear c10b0
      try clear c10b1
      try clear c11
      try clear c11b0
      try clear c11b1
      try clear c12
      try clear c12b0
      try clear c17
      try clear c18
      try clear c19
      try clear c19b0
      try clear c19b1
      try clear c27
      try clear c27b0
      try clear c27b1
      try clear c28
      try clear c28b0
      try clear c29
      try clear c29b0
      try clear c30
      try clear c30b0
      try clear c31
      try clear c31b0
      try clear hcz13_0 hcz13_1 hcz13_2 hfz13_0 hfz13_1 hfz13_2
      try clear hcz14_0 hcz14_1 hcz14_2 hfz14_0 hfz14_1 hfz14_2
      try clear hcz15_0 hcz15_1 hcz15_2 hfz15_0 hfz15_1 hfz15_2
      try clear hcz16_0 hcz16_1 hcz16_2 hfz16_0 hfz16_1 hfz16_2
      try clear hcz20_0 hcz20_1 hcz20_2 hfz20_0 hfz20_1 hfz20_2
      try clear hcz23_0 hcz23_1 hcz23_2 hfz23_0 hfz23_1 hfz23_2
      try clear hcz32_0 hcz32_1 hcz32_2 hfz32_0 hfz32_1 hfz32_2
      try clear hcz34_0 hcz34_1 hcz34_2 hfz34_0 hfz34_1 hfz34_2
      try clear hcz35_0 hcz35_1 hcz35_2 hfz35_0 hfz35_1 hfz35_2
      try clear hcz36_0 hcz36_1 hcz36_2 hfz36_0 hfz36_1 hfz36_2
      try clear hcz37_0 hcz37_1 hcz37_2 hfz37_0 hfz37_1 hfz37_2
      try clear hcz38_0 hcz38_1 hcz38_2 hfz38_0 hfz38_1 hfz38_2
      try clear hcz9_0 hcz9_1 hcz9_2 hfz9_0 hfz9_1 hfz9_2
      try clear hx348_0
      try clear hx348_1
      try clear hx348_2
      try clear p348
      try clear q348
      obtain ⟨kq, x38_25, rfl, HA, HJ25, HO_4, BK349, HB⟩ := hcut
      cases kq with
      | zero => exact absurd HA.out (by simp [impl_expandTokens.j2])
      | succ kj25 =>
       have H := HA.out
       clear HA
       simp only [impl_expandTokens.j2] at H
       by_cases c39 : x38_25 = true
       rotate_left
       ·replace c39 := Bool.eq_false_iff.mpr c39
        subst c39
        have H1 : (some (([] : List Int), false)) = some (r1, r2) := by rw [if_neg (show ¬ (false = true) by decide)] at H; exact H
        clear H
        have H := H1
        clear H1
        simp only [Option.some.injEq, Prod.mk.injEq] at H
        obtain ⟨rfl, rfl⟩ := H
        go_wp2
        go_ret2
        exact ⟨_, qX, qN, by exact qW HB.out⟩
       subst c39
       have H1 : (impl_expandTokens.l1 kj25 x4_1 l0 (l0.length : Int) x10_1 ((rd_T54 l0 x10_1).f1) 0 ((rd_T54 l0 x10_1).f0) ((rd_T54 l0 x10_1).f1) ((rd_T54 l0 x10_1).f2)) = some (r1, r2) := by rw [if_pos rfl] at H; exact H
       clear H
       have H := H1
       clear H1
       have H' := aM H
       clear H
       obtain ⟨⟨hcz40_0, hcz40_1, hcz40_2⟩, hfz40_0, hfz40_1, hfz40_2⟩ := cf3 BK349
       go_wp2
       go_loopg [4, 71] kj25 (fun kq v4 v71 w' => ∃ (x4_4 : List Int) (x71_4 : Int), v71 = .int .i64 x71_4 ∧ Aside0 (impl_expandTokens.l1 kq x4_4 l0 (l0.length : Int) x10_1 ((rd_T54 l0 x10_1).f1) x71_4 ((rd_T54 l0 x10_1).f0) ((rd_T54 l0 x10_1).f1) ((rd_T54 l0 x10_1).f2) = some (r1, r2)) ∧ Aside0 (kq ≤ kj25) ∧ Aside0 (Kd.R (Kd.int .i64) 3 w' w.heap.size (fun _ => True) v4 x4_4) ∧ Aside0 (w'.heap[gb349]? = some (.cells #[.int .i64 ((rd_T54 l0 x10_1).f0), .int .i64 ((rd_T54 l0 x10_1).f1), .int .i64 ((rd_T54 l0 x10_1).f2)] 54 (0, 0))) ∧ Aside0 (Below w.heap.size w w'))
       case atStart => exact ⟨(x4_1), (0), qE, H', ⟨Nat.le_refl _⟩, ⟨by refine qR ?_; exact HO_4.out⟩, ⟨by refine qB ?_; exact BK349.out⟩, ⟨by exact qW HB.out⟩⟩
       case round =>
        clear H'
        try clear c4
        try clear c4b0
        try clear c5b0
        try clear c6b0
        try clear c10
        try clear c10b0
        try clear c10b1
        try clear c11
        try clear c11b0
        try clear c11b1
        try clear c12
        try clear c12b0
        try clear c17
        try clear c18
        try clear c19
        try clear c19b0
        try clear c19b1
        try clear c27
        try clear c27b0
        try clear c27b1
        try clear c28
        try clear c28b0
        try clear c29
        try clear c29b0
        try clear c30
        try clear c30b0
        try clear c31
        try clear c31b0
        try clear c39
        try clear hcz13_0 hcz13_1 hcz13_2 hfz13_0 hfz13_1 hfz13_2
        try clear hcz14_0 hcz14_1 hcz14_2 hfz14_0 hfz14_1 hfz14_2
        try clear hcz15_0 hcz15_1 hcz15_2 hfz15_0 hfz15_1 hfz15_2
        try clear hcz16_0 hcz16_1 hcz16_2 hfz16_0 hfz16_1 hfz16_2
        try clear hcz20_0 hcz20_1 hcz20_2 hfz20_0 hfz20_1 hfz20_2
        try clear hcz23_0 hcz23_1 hcz23_2 hfz23_0 hfz23_1 hfz23_2
        try clear hcz32_0 hcz32_1 hcz32_2 hfz32_0 hfz32_1 hfz32_2
        try clear hcz34_0 hcz34_1 hcz34_2 hfz34_0 hfz34_1 hfz34_2
        try clear hcz35_0 hcz35_1 hcz35_2 hfz35_0 hfz35_1 hfz35_2
        try clear hcz36_0 hcz36_1 hcz36_2 hfz36_0 hfz36_1 hfz36_2
        try clear hcz37_0 hcz37_1 hcz37_2 hfz37_0 hfz37_1 hfz37_2
        try clear hcz38_0 hcz38_1 hcz38_2 hfz38_0 hfz38_1 hfz38_2
        try clear hcz40_0 hcz40_1 hcz40_2 hfz40_0 hfz40_1 hfz40_2
        try clear hcz9_0 hcz9_1 hcz9_2 hfz9_0 hfz9_1 hfz9_2
        try clear hx348_0
        try clear hx348_1
        try clear hx348_2
        try clear p348
        try clear q348
        obtain ⟨x4_4, x71_4, rfl, HA, HK4, HO_4, BK349, HB⟩ := hrel
        cases gk with
        | zero => exact absurd HA.out (by simp [impl_expandTokens.l1])
        | succ k4 =>
         have H := HA.out
         clear HA
         simp only [impl_expandTokens.l1] at H
         by_cases c41 : x71_4 < ((rd_T54 l0 x10_1).f1)
         rotate_left
         ·rw [if_neg c41] at H
          have c41b0 : decide (x71_4 < ((rd_T54 l0 x10_1).f1)) = false := decide_eq_false c41
          clear c41
          by_cases c49 : (x4_4.length : Int) > 1200
          ·rw [if_pos c49] at H
           have c49b0 : decide (1200 < (x4_4.length : Int)) = true := decide_eq_true c49
           have c49b1 : decide (1200 < x4_4.length) = true := decide_eq_true (by omega)
           clear c49
           simp only [Option.some.injEq, Prod.mk.injEq] at H
           obtain ⟨rfl, rfl⟩ := H
           obtain ⟨Ao50, co50, rfl⟩ := sL HO_4
           go_wp2
           go_ret2
           exact ⟨_, qX, qN, by exact qW HB.out⟩
          rw [if_neg c49] at H
          have c49b0 : decide (1200 < (x4_4.length : Int)) = false := decide_eq_false c49
          have c49b1 : decide (1200 < x4_4.length) = false := decide_eq_false (by omega)
          clear c49
          have H' := aM H
          clear H
          obtain ⟨Ao51, co51, rfl⟩ := sL HO_4
          go_wp2
          go_roundg k4
          case measure => have := HK1.out; have := HJ6.out; have := HJ25.out; have := HK4.out; omega
          case rel => exact ⟨(x4_4), (wrap64 (x10_1 + 1)), qE, H', ⟨by have := HK1.out; have := HJ6.out; have := HJ25.out; have := HK4.out; omega⟩, ⟨by refine qR ?_; exact HO_4.out⟩, ⟨by exact qW HB.out⟩⟩
         rw [if_pos c41] at H
         have c41b0 : decide (x71_4 < ((rd_T54 l0 x10_1).f1)) = true := decide_eq_true c41
         clear c41
         obtain ⟨ji42, hji42⟩ : ∃ j_ : Int, (wrap64 ((x4_4.length : Int) - ((rd_T54 l0 x10_1).f2))) = j_ := ⟨_, rfl⟩
         replace H : (if 0 ≤ (ji42) then (if (ji42) < (x4_4.length : Int) then (if x4_4.length < 17592186044416 then (impl_expandTokens.l1 k4 (x4_4 ++ [rd x4_4 (ji42)]) l0 (l0.length : Int) x10_1 ((rd_T54 l0 x10_1).f1) (wrap64 (x71_4 + 1)) ((rd_T54 l0 x10_1).f0) ((rd_T54 l0 x10_1).f1) ((rd_T54 l0 x10_1).f2)) else (none)) else (none)) else (none)) = some (r1, r2) := by first | (rw [hji42] at H; exact H) | (simp only [hji42] at H ⊢; exact H)
         have hji42w : (IntKind.i64.wrap ((x4_4.length : Int) - ((rd_T54 l0 x10_1).f2))) = ji42 := (i64_w _).trans hji42
         replace H := iD H
         obtain ⟨c43b0, H⟩ := H
         replace H := iD H
         obtain ⟨c44b0, H⟩ := H
         replace H := iS H
         obtain ⟨c45, H⟩ := H
         have LMc45 := aM c45
         clear c45
         obtain ⟨y354, hy354⟩ : ∃ y_ : List Int, y_ = (x4_4 ++ [rd x4_4 (ji42)]) := ⟨_, rfl⟩
         replace H : (impl_expandTokens.l1 k4 y354 l0 (l0.length : Int) x10_1 ((rd_T54 l0 x10_1).f1) (wrap64 (x71_4 + 1)) ((rd_T54 l0 x10_1).f0) ((rd_T54 l0 x10_1).f1) ((rd_T54 l0 x10_1).f2)) = some (r1, r2) := rY hy354 H
         have Ny354 := aM hy354
         clear hy354
         have H' := aM H
         clear H
         obtain ⟨Ao46, co46, rfl⟩ := sL HO_4
         obtain ⟨⟨hcz47_0, hcz47_1, hcz47_2⟩, hfz47_0, hfz47_1, hfz47_2⟩ := cf3 BK349
         obtain ⟨ad353, e353, hx353_0⟩ := Kd.at_int (Kd.R_reads' HO_4.out).2.2 (ji42) oD oD
         cases e353
         have p353 := eq_true (oD : 0 ≤ ((ji42) : Int))
         have q353 := eq_true (oD : (ji42) < (x4_4.length : Int))
         go_wp2_with (first | ((with_reducible refine gate_builtin (b := .append) (xs := #[.tmp 73, .tmp 82]) rfl ?_); (try (refine gate_guard (by rfl) ?_; dsimp only)); at_builtin; refine Kd.R_append (Kd.int .i64) (w0 := w) w.heap.size rfl (.tmp 73) (.tmp 82) 22 3 (.int .i64 0) 8 rfl Try.underlying22 info3 rfl (by decide) (by omega) (.slice (some ad353) x4_4.length co46) x4_4 (rd x4_4 (ji42)) [.int .i64 (rd x4_4 (ji42))] (fun _ => True) (fun _ => False) rfl rfl ?aP (fun _ hk => hk.elim) ?aF ?aO ?aB ?aS ?aL ?_; (case aP => exact rfl); (case aB => exact (qW HB.out)); (case aF => exact (fun _ _ => trivial)); (case aO => exact (qR HO_4.out)); (case aS => exact (below_size (qW HB.out))); (case aL => have := LMc45.out; omega); intro v355 w48 ho hb hg hat; rw [← Ny354.out] at ho; replace BK349 := gB BK349 hg (Kd.R_ne HO_4.out BK349.out (by decide)); replace HB := aM (hb); have HO356 := aM (ho); clear HO_4; clear ho hb hg hat))
         go_roundg k4
         case measure => have := HK1.out; have := HJ6.out; have := HJ25.out; have := HK4.out; omega
         case rel => exact ⟨(y354), (wrap64 (x71_4 + 1)), qE, H', ⟨by have := HK1.out; have := HJ6.out; have := HJ25.out; have := HK4.out; omega⟩, ⟨by refine qR ?_; exact HO356.out⟩, ⟨by refine qB ?_; exact BK349.out⟩, ⟨by exact qW HB.out⟩⟩
def spec_adler.l0 : Nat → List Int → Int → Int → Int → Option (Int)
 | 0, _, _, _, _ => none
 | k + 1, x0, x3, x4, x5 => if x5 < (x0.length : Int) then (if 0 ≤ x5 then (spec_adler.l0 k x0 (Int.tmod (wrap64 (x3 + (rd x0 x5))) 251) (Int.tmod (wrap64 (x4 + (Int.tmod (wrap64 (x3 + (rd x0 x5))) 251))) 251) (wrap64 (x5 + 1))) else (none)) else (some (wrap64 ((wrap64 (256 * x4)) + x3)))
def spec_adler.f (k : Nat) (l0 : List Int) : Option (Int) := spec_adler.l0 k l0 1 0 0
theorem spec_adler.mono_l : ∀ k, (∀ y0 y1 y2 y3, LeO (spec_adler.l0 k y0 y1 y2 y3) (spec_adler.l0 (k + 1) y0 y1 y2 y3))
 | 0 => fun _ _ _ _ r h => by simp [spec_adler.l0] at h
 | k + 1 => by
  have ih0 := spec_adler.mono_l k
  ·intro y0 y1 y2 y3
   unfold spec_adler.l0
   repeat' first | (with_reducible first | exact ih0 _ _ _ _ | exact lR | exact lN | refine lI ?_ ?_ | refine lB ?_ fun _ => ?_) | exact ih0 _ _ _ _ | exact lN | refine lI ?_ ?_ | refine lB ?_ fun _ => ?_
theorem spec_adler.mono : ∀ a0 k, LeO (spec_adler.f k a0) (spec_adler.f (k + 1) a0) := by
 intro a0 k
 have ih0 := spec_adler.mono_l k
 unfold spec_adler.f
 repeat' first | (with_reducible first | exact ih0 _ _ _ _ | exact lR | exact lN | refine lI ?_ ?_ | refine lB ?_ fun _ => ?_) | exact ih0 _ _ _ _ | exact lN | refine lI ?_ ?_ | refine lB ?_ fun _ => ?_
set_option maxHeartbeats 8000000 in
set_option maxRecDepth 100000 in
theorem spec_adler.calls (k : Nat) (A0 : Option Addr) (c0 : Nat) (l0 : List Int) (r : Int) (w : World) (hr0 : Kd.C (Kd.int .i64) w A0 l0.length l0) (hc0 : l0.length ≤ c0) (h : spec_adler.f k l0 = some r) :
  Calls Try.prog 65 #[.slice A0 l0.length c0] w fun e w' => e = .returned (.int .i64 r) ∧ Drawn0 w w' := by
 have HR0 := aM hr0
 have HC0 := aM hc0
 clear hr0 hc0
 unfold spec_adler.f at h
 have H := h
 clear h
 have H' := aM H
 clear H
 go_enter Try.func65, Try.ntmps65
 go_wp2
 go_loopg [3, 4, 5] k (fun kq v3 v4 v5 w' => ∃ (x3_1 : Int) (x4_1 : Int) (x5_1 : Int), v3 = .int .i64 x3_1 ∧ v4 = .int .i64 x4_1 ∧ v5 = .int .i64 x5_1 ∧ Aside0 (spec_adler.l0 kq l0 x3_1 x4_1 x5_1 = some r) ∧ Aside0 (kq ≤ k) ∧ Drawn0 w w')
 case atStart => exact ⟨(1), (0), (0), qE, qE, qE, H', ⟨Nat.le_refl _⟩, qD⟩
 case round =>
  clear H'
  obtain ⟨x3_1, x4_1, x5_1, rfl, rfl, rfl, HA, HK1, ⟨m1, rfl⟩⟩ := hrel
  cases gk with
  | zero => exact absurd HA.out (by simp [spec_adler.l0])
  | succ k1 =>
   have H := HA.out
   clear HA
   simp only [spec_adler.l0] at H
   by_cases c2 : x5_1 < (l0.length : Int)
   rotate_left
   ·rw [if_neg c2] at H
    have c2b0 : decide (x5_1 < (l0.length : Int)) = false := decide_eq_false c2
    clear c2
    obtain rfl := Option.some.inj H
    go_wp2
    go_ret
    exact ⟨qE, qD⟩
   rw [if_pos c2] at H
   have c2b0 : decide (x5_1 < (l0.length : Int)) = true := decide_eq_true c2
   clear c2
   replace H := iD H
   obtain ⟨c3b0, H⟩ := H
   have H' := aM H
   clear H
   obtain ⟨ad283, e283, hx283_0⟩ := Kd.at_int HR0.out x5_1 oD oD
   cases e283
   have p283 := eq_true (oD : 0 ≤ (x5_1 : Int))
   have q283 := eq_true (oD : x5_1 < (l0.length : Int))
   go_wp2
   go_roundg k1
   case measure => have := HK1.out; omega
   case rel => exact ⟨(Int.tmod (wrap64 (x3_1 + (rd l0 x5_1))) 251), (Int.tmod (wrap64 (x4_1 + (Int.tmod (wrap64 (x3_1 + (rd l0 x5_1))) 251))) 251), (wrap64 (x5_1 + 1)), qE, qE, qE, H', ⟨by have := HK1.out; omega⟩, qD⟩
def impl_checkOf.l0 : Nat → Int → Int → List Int → Int → Int → Option (Int)
 | 0, _, _, _, _, _ => none
 | k + 1, x3, x4, x7, x8, x9 => if x9 < x8 then (if 0 ≤ x9 then (if x9 < (x7.length : Int) then (impl_checkOf.l0 k (Int.tmod (wrap64 (x3 + (rd x7 x9))) 251) (Int.tmod (wrap64 (x4 + (Int.tmod (wrap64 (x3 + (rd x7 x9))) 251))) 251) x7 x8 (wrap64 (x9 + 1))) else (none)) else (none)) else (some (wrap64 ((wrap64 (256 * x4)) + x3)))
def impl_checkOf.f (k : Nat) (l0 : List Int) : Option (Int) := impl_checkOf.l0 k 1 0 l0 (l0.length : Int) 0
theorem impl_checkOf.mono_l : ∀ k, (∀ y0 y1 y2 y3 y4, LeO (impl_checkOf.l0 k y0 y1 y2 y3 y4) (impl_checkOf.l0 (k + 1) y0 y1 y2 y3 y4))
 | 0 => fun _ _ _ _ _ r h => by simp [impl_checkOf.l0] at h
 | k + 1 => by
  have ih0 := impl_checkOf.mono_l k
  ·intro y0 y1 y2 y3 y4
   unfold impl_checkOf.l0
   repeat' first | (with_reducible first | exact ih0 _ _ _ _ _ | exact lR | exact lN | refine lI ?_ ?_ | refine lB ?_ fun _ => ?_) | exact ih0 _ _ _ _ _ | exact lN | refine lI ?_ ?_ | refine lB ?_ fun _ => ?_
theorem impl_checkOf.mono : ∀ a0 k, LeO (impl_checkOf.f k a0) (impl_checkOf.f (k + 1) a0) := by
 intro a0 k
 have ih0 := impl_checkOf.mono_l k
 unfold impl_checkOf.f
 repeat' first | (with_reducible first | exact ih0 _ _ _ _ _ | exact lR | exact lN | refine lI ?_ ?_ | refine lB ?_ fun _ => ?_) | exact ih0 _ _ _ _ _ | exact lN | refine lI ?_ ?_ | refine lB ?_ fun _ => ?_
set_option maxHeartbeats 8000000 in
set_option maxRecDepth 100000 in
theorem impl_checkOf.calls (k : Nat) (A0 : Option Addr) (c0 : Nat) (l0 : List Int) (r : Int) (w : World) (hr0 : Kd.C (Kd.int .i64) w A0 l0.length l0) (hc0 : l0.length ≤ c0) (h : impl_checkOf.f k l0 = some r) :
  Calls Try.prog 70 #[.slice A0 l0.length c0] w fun e w' => e = .returned (.int .i64 r) ∧ Drawn0 w w' := by
 have HR0 := aM hr0
 have HC0 := aM hc0
 clear hr0 hc0
 unfold impl_checkOf.f at h
 have H := h
 clear h
 have H' := aM H
 clear H
 go_enter Try.func70, Try.ntmps70
 go_wp2
 go_loopg [3, 4, 9] k (fun kq v3 v4 v9 w' => ∃ (x3_1 : Int) (x4_1 : Int) (x9_1 : Int), v3 = .int .i64 x3_1 ∧ v4 = .int .i64 x4_1 ∧ v9 = .int .i64 x9_1 ∧ Aside0 (impl_checkOf.l0 kq x3_1 x4_1 l0 (l0.length : Int) x9_1 = some r) ∧ Aside0 (kq ≤ k) ∧ Drawn0 w w')
 case atStart => exact ⟨(1), (0), (0), qE, qE, qE, H', ⟨Nat.le_refl _⟩, qD⟩
 case round =>
  clear H'
  obtain ⟨x3_1, x4_1, x9_1, rfl, rfl, rfl, HA, HK1, ⟨m1, rfl⟩⟩ := hrel
  cases gk with
  | zero => exact absurd HA.out (by simp [impl_checkOf.l0])
  | succ k1 =>
   have H := HA.out
   clear HA
   simp only [impl_checkOf.l0] at H
   by_cases c2 : x9_1 < (l0.length : Int)
   rotate_left
   ·rw [if_neg c2] at H
    have c2b0 : decide (x9_1 < (l0.length : Int)) = false := decide_eq_false c2
    clear c2
    obtain rfl := Option.some.inj H
    go_wp2
    go_ret
    exact ⟨qE, qD⟩
   rw [if_pos c2] at H
   have c2b0 : decide (x9_1 < (l0.length : Int)) = true := decide_eq_true c2
   clear c2
   replace H := iD H
   obtain ⟨c3b0, H⟩ := H
   replace H := iD H
   obtain ⟨c4b0, H⟩ := H
   have H' := aM H
   clear H
   obtain ⟨ad451, e451, hx451_0⟩ := Kd.at_int HR0.out x9_1 oD oD
   cases e451
   have p451 := eq_true (oD : 0 ≤ (x9_1 : Int))
   have q451 := eq_true (oD : x9_1 < (l0.length : Int))
   go_wp2
   go_roundg k1
   case measure => have := HK1.out; omega
   case rel => exact ⟨(Int.tmod (wrap64 (x3_1 + (rd l0 x9_1))) 251), (Int.tmod (wrap64 (x4_1 + (Int.tmod (wrap64 (x3_1 + (rd l0 x9_1))) 251))) 251), (wrap64 (x9_1 + 1)), qE, qE, qE, H', ⟨by have := HK1.out; omega⟩, qD⟩
def spec_validShape.f (a0 : Int) (a1 : Int) (a2 : Int) : Option (Bool) := (spec_inRange.f a0 1 16).bind fun t104 => (if t104 = true then ((spec_inRange.f a1 1 16).bind fun t105 => (if t105 = true then ((spec_inRange.f a2 1 4).bind fun t106 => (some t106)) else (some false))) else (some false))
set_option maxHeartbeats 8000000 in
set_option maxRecDepth 100000 in
theorem spec_validShape.calls (a0 : Int) (a1 : Int) (a2 : Int) (r : Bool) (w : World) (h : spec_validShape.f a0 a1 a2 = some r) :
  Calls Try.prog 37 #[.int .i64 a0, .int .i64 a1, .int .i64 a2] w fun e w' => e = .returned (.bool r) ∧ Drawn0 w w' := by
 unfold spec_validShape.f at h
 have H := h
 clear h
 replace H := Option.bind_eq_some_iff.mp H
 obtain ⟨t104, A40, H⟩ := H
 replace H : (if t104 = true then ((spec_inRange.f a1 1 16).bind fun t105 => (if t105 = true then ((spec_inRange.f a2 1 4).bind fun t106 => (some t106)) else (some false))) else (some false)) = some r := H
 have A4 := aM A40
 clear A40
 by_cases c5 : t104 = true
 rotate_left
 ·replace c5 := Bool.eq_false_iff.mpr c5
  subst c5
  have H1 : (some false) = some r := by rw [if_neg (show ¬ (false = true) by decide)] at H; exact H
  clear H
  have H := H1
  clear H1
  obtain rfl := Option.some.inj H
  go_enter Try.func37, Try.ntmps37
  go_wp2_with (first | ((with_reducible refine gate_callee (f := 59) rfl ?_); refine gL (some 8) Try.func59 #[.int .i64 a0, .int .i64 1, .int .i64 16] ?_; (with_reducible refine (spec_inRange.calls a0 1 16 false _ A4.out).mono ?_); rintro e w' ⟨rfl, ⟨nd, rfl⟩⟩; refine ⟨_, rfl, ?_⟩))
  go_ret
  exact ⟨qE, qD⟩
 subst c5
 have H1 : ((spec_inRange.f a1 1 16).bind fun t105 => (if t105 = true then ((spec_inRange.f a2 1 4).bind fun t106 => (some t106)) else (some false))) = some r := by rw [if_pos rfl] at H; exact H
 clear H
 have H := H1
 clear H1
 replace H := Option.bind_eq_some_iff.mp H
 obtain ⟨t105, A60, H⟩ := H
 replace H : (if t105 = true then ((spec_inRange.f a2 1 4).bind fun t106 => (some t106)) else (some false)) = some r := H
 have A6 := aM A60
 clear A60
 by_cases c7 : t105 = true
 rotate_left
 ·replace c7 := Bool.eq_false_iff.mpr c7
  subst c7
  have H1 : (some false) = some r := by rw [if_neg (show ¬ (false = true) by decide)] at H; exact H
  clear H
  have H := H1
  clear H1
  obtain rfl := Option.some.inj H
  go_enter Try.func37, Try.ntmps37
  go_wp2_with (first | ((with_reducible refine gate_callee (f := 59) rfl ?_); refine gL (some 8) Try.func59 #[.int .i64 a0, .int .i64 1, .int .i64 16] ?_; (with_reducible refine (spec_inRange.calls a0 1 16 true _ A4.out).mono ?_); rintro e w' ⟨rfl, ⟨nd, rfl⟩⟩; refine ⟨_, rfl, ?_⟩) | (go_at_call 59; (with_reducible refine (spec_inRange.calls a1 1 16 false _ A6.out).mono ?_); rintro e w' ⟨rfl, ⟨nd, rfl⟩⟩))
  go_ret
  exact ⟨qE, qD⟩
 subst c7
 have H1 : ((spec_inRange.f a2 1 4).bind fun t106 => (some t106)) = some r := by rw [if_pos rfl] at H; exact H
 clear H
 have H := H1
 clear H1
 replace H := Option.bind_eq_some_iff.mp H
 obtain ⟨t106, A80, H⟩ := H
 replace H : (some t106) = some r := H
 have A8 := aM A80
 clear A80
 obtain rfl := Option.some.inj H
 go_enter Try.func37, Try.ntmps37
 go_wp2_with (first | ((with_reducible refine gate_callee (f := 59) rfl ?_); refine gL (some 8) Try.func59 #[.int .i64 a0, .int .i64 1, .int .i64 16] ?_; (with_reducible refine (spec_inRange.calls a0 1 16 true _ A4.out).mono ?_); rintro e w' ⟨rfl, ⟨nd, rfl⟩⟩; refine ⟨_, rfl, ?_⟩) | (go_at_call 59; (with_reducible refine (spec_inRange.calls a1 1 16 true _ A6.out).mono ?_); rintro e w' ⟨rfl, ⟨nd, rfl⟩⟩) | (go_at_call 59; (with_reducible refine (spec_inRange.calls a2 1 4 t106 _ A8.out).mono ?_); rintro e w' ⟨rfl, ⟨nd, rfl⟩⟩))
 go_ret
 exact ⟨qE, qD⟩
def spec_newImage.f (a0 : Int) (a1 : Int) (a2 : Int) : Option (Int × Int × Int × List Int) := if 0 ≤ (wrap64 ((wrap64 (a0 * a1)) * a2)) then (if (wrap64 ((wrap64 (a0 * a1)) * a2) : Int).toNat ≤ 35184372088832 then (some (a0, a1, a2, (List.replicate (wrap64 ((wrap64 (a0 * a1)) * a2) : Int).toNat 0))) else (none)) else (none)
set_option maxHeartbeats 8000000 in
set_option maxRecDepth 100000 in
theorem spec_newImage.calls (a0 : Int) (a1 : Int) (a2 : Int) (r1 : Int) (r2 : Int) (r3 : Int) (r4 : List Int) (w : World) (h : spec_newImage.f a0 a1 a2 = some (r1, r2, r3, r4)) :
  Calls Try.prog 61 #[.int .i64 a0, .int .i64 a1, .int .i64 a2] w fun e w' => ∃ v3_ : Value, e = .returned (.agg #[.int .i64 r1, .int .i64 r2, .int .i64 r3, v3_]) ∧ Kd.R (Kd.int .i64) 3 w' w.heap.size (fun _ => True) v3_ r4 ∧ Below w.heap.size w w' := by
 have hu24 := Try.underlying24
 have HB := aM (Below.refl w.heap.size w)
 unfold spec_newImage.f at h
 have H := h
 clear h
 obtain ⟨ji4, hji4⟩ : ∃ j_ : Int, (wrap64 ((wrap64 (a0 * a1)) * a2)) = j_ := ⟨_, rfl⟩
 replace H : (if 0 ≤ (ji4) then (if (ji4 : Int).toNat ≤ 35184372088832 then (some (a0, a1, a2, (List.replicate (ji4 : Int).toNat 0))) else (none)) else (none)) = some (r1, r2, r3, r4) := by first | (rw [hji4] at H; exact H) | (simp only [hji4] at H ⊢; exact H)
 have hji4w : (IntKind.i64.wrap ((wrap64 (a0 * a1)) * a2)) = ji4 := (i64_w _).trans hji4
 replace H := iS H
 obtain ⟨c5, H⟩ := H
 have c5b0 := eq_true c5
 have c5b1 : decide (0 ≤ (ji4)) = true := decide_eq_true c5
 clear c5
 replace H := iS H
 obtain ⟨c6, H⟩ := H
 have c6b0 := eq_true c6
 have c6b1 : decide ((ji4 : Int).toNat ≤ 35184372088832) = true := decide_eq_true c6
 clear c6
 obtain ⟨y141, hy141⟩ : ∃ y_ : List Int, y_ = (List.replicate (ji4 : Int).toNat 0) := ⟨_, rfl⟩
 replace H : (some (a0, a1, a2, y141)) = some (r1, r2, r3, r4) := rY hy141 H
 have Ny141 := aM hy141
 clear hy141
 simp only [Option.some.injEq, Prod.mk.injEq] at H
 obtain ⟨rfl, rfl, rfl, rfl⟩ := H
 go_enter Try.func61, Try.ntmps61
 go_wp2_with (first | ((with_reducible refine gate_dst (N := 6) rfl ?_); refine bxE (N := 6) (cs := #[.int .i64 0, .int .i64 0, .int .i64 0, .slice none 0 0]) (t := 24) ?_; intro gb140 hg w7 hbox hb; have BK140 := aM (hbox); have GW140 := gW hg HB; have GE140 := gW hg HB; replace HB := bS HB hb; clear hb hbox hg) | ((with_reducible refine gate_dst (N := 15) rfl ?_); refine Kd.R_make (Kd.int .i64) _ 3 rfl (N := 15) rfl 22 _ _ rfl ji4 rfl rfl Try.underlying22 (.int .i64 0) 8 info3 rfl (by decide) (by omega) 0 (ok := fun _ => True) (okp := fun _ => True) rfl (fun _ hk => hk) trivial oD (Nat.le_trans (Nat.mul_le_mul_right _ (oD : ji4.toNat ≤ 35184372088832)) (by omega)) (Below.refl _ _) (Nat.le_refl _) ?_; intro v142 w8 ho9 hb hg_ hnew_; clear hg_ hnew_; (first | rw [← Ny141.out] at ho9 | (simp only [Int.reduceToNat] at ho9; rw [← Ny141.out] at ho9)); have HO143 := oR ho9 HB; replace BK140 := bB BK140 hb; replace HB := bS HB hb; clear hb ho9; obtain ⟨Ao10, co10, rfl⟩ := sL HO143; obtain ⟨⟨hcz11_0, hcz11_1, hcz11_2, hcz11_3⟩, hfz11_0, hfz11_1, hfz11_2, hfz11_3⟩ := cf4 BK140))
 refine bodyPost_ret (results_cell_row rfl _ _ gb140 24 #[.int .i64 a0, .int .i64 a1, .int .i64 a2, .slice Ao10 y141.length co10] (0, 0) _ rfl (by exact bP BK140.out) Try.underlying24 rfl (by kernel_rfl)) rfl ?_
 exact ⟨_, by first | rfl | (simp [errW_none, errW_some] <;> rfl) | (simp only [← hji4]; first | rfl | (simp [errW_none, errW_some] <;> rfl)) | (simp [*, errW_none, errW_some] <;> rfl), by refine qR ?_; exact Kd.R_mono (rT HO143 BK140) (fun _ hk => trivial), by exact qW HB.out⟩
def spec_validImage.f (k : Nat) (a0_0 : Int) (a0_1 : Int) (a0_2 : Int) (l0_3 : List Int) : Option (Bool) := (spec_validShape.f a0_0 a0_1 a0_2).bind fun t579 => (if t579 = true then (if (l0_3.length : Int) = (wrap64 ((wrap64 (a0_0 * a0_1)) * a0_2)) then ((spec_allIn.f k l0_3 0 255).bind fun t580 => (some t580)) else (some false)) else (some false))
theorem spec_validImage.mono : ∀ a0 a1 a2 a3 k, LeO (spec_validImage.f k a0 a1 a2 a3) (spec_validImage.f (k + 1) a0 a1 a2 a3) := by
 intro a0 a1 a2 a3 k
 unfold spec_validImage.f
 repeat' first | (with_reducible first | exact spec_allIn.mono _ _ _ _ | exact lR | exact lN | refine lI ?_ ?_ | refine lB ?_ fun _ => ?_) | exact spec_allIn.mono _ _ _ _ | exact lN | refine lI ?_ ?_ | refine lB ?_ fun _ => ?_
set_option maxHeartbeats 8000000 in
set_option maxRecDepth 100000 in
theorem spec_validImage.calls (k : Nat) (a0_0 : Int) (a0_1 : Int) (a0_2 : Int) (A0_3 : Option Addr) (c0_3 : Nat) (l0_3 : List Int) (r : Bool) (w : World) (hr0_3 : Kd.C (Kd.int .i64) w A0_3 l0_3.length l0_3) (hc0_3 : l0_3.length ≤ c0_3) (h : spec_validImage.f k a0_0 a0_1 a0_2 l0_3 = some r) :
  Calls Try.prog 54 #[.agg #[.int .i64 a0_0, .int .i64 a0_1, .int .i64 a0_2, .slice A0_3 l0_3.length c0_3]] w fun e w' => e = .returned (.bool r) ∧ Below w.heap.size w w' := by
 have hu24 := Try.underlying24
 have HR0_3 := aM hr0_3
 have HC0_3 := aM hc0_3
 clear hr0_3 hc0_3
 have HB := aM (Below.refl w.heap.size w)
 unfold spec_validImage.f at h
 have H := h
 clear h
 replace H := Option.bind_eq_some_iff.mp H
 obtain ⟨t579, A20, H⟩ := H
 replace H : (if t579 = true then (if (l0_3.length : Int) = (wrap64 ((wrap64 (a0_0 * a0_1)) * a0_2)) then ((spec_allIn.f k l0_3 0 255).bind fun t580 => (some t580)) else (some false)) else (some false)) = some r := H
 have A2 := aM A20
 clear A20
 by_cases c3 : t579 = true
 rotate_left
 ·replace c3 := Bool.eq_false_iff.mpr c3
  subst c3
  have H1 : (some false) = some r := by rw [if_neg (show ¬ (false = true) by decide)] at H; exact H
  clear H
  have H := H1
  clear H1
  obtain rfl := Option.some.inj H
  go_enter Try.func54, Try.ntmps54
  go_wp2_with (first | ((with_reducible refine gate_dst (N := 1) rfl ?_); (try (refine gate_guard (by rfl) ?_; dsimp only)); refine bxE (N := 1) (cs := #[.int .i64 a0_0, .int .i64 a0_1, .int .i64 a0_2, .slice A0_3 l0_3.length c0_3]) (t := 24) ?_; intro gb578 hg w10 hbox hb; have BK578 := aM (hbox); have GW578 := gW hg HB; have GE578 := gW hg HB; replace HB := bS HB hb; clear hb hbox hg; obtain ⟨⟨hcz11_0, hcz11_1, hcz11_2, hcz11_3⟩, hfz11_0, hfz11_1, hfz11_2, hfz11_3⟩ := cf4 BK578) | ((with_reducible refine gate_callee (f := 37) rfl ?_); refine gL (some 9) Try.func37 #[.int .i64 a0_0, .int .i64 a0_1, .int .i64 a0_2] ?_; (with_reducible refine (spec_validShape.calls a0_0 a0_1 a0_2 false _ A2.out).mono ?_); rintro e w' ⟨rfl, ⟨nd, rfl⟩⟩; refine ⟨_, rfl, ?_⟩))
  go_ret
  exact ⟨qX, by exact qW HB.out⟩
 subst c3
 have H1 : (if (l0_3.length : Int) = (wrap64 ((wrap64 (a0_0 * a0_1)) * a0_2)) then ((spec_allIn.f k l0_3 0 255).bind fun t580 => (some t580)) else (some false)) = some r := by rw [if_pos rfl] at H; exact H
 clear H
 have H := H1
 clear H1
 by_cases c4 : (l0_3.length : Int) = (wrap64 ((wrap64 (a0_0 * a0_1)) * a0_2))
 rotate_left
 ·rw [if_neg c4] at H
  have c4b0 : ((l0_3.length : Int) == (wrap64 ((wrap64 (a0_0 * a0_1)) * a0_2))) = false := beq_eq_false_iff_ne.mpr c4
  have c4b1 : ((l0_3.length : Int) != (wrap64 ((wrap64 (a0_0 * a0_1)) * a0_2))) = true := bne_iff_ne.mpr c4
  obtain rfl := Option.some.inj H
  go_enter Try.func54, Try.ntmps54
  go_wp2_with (first | ((with_reducible refine gate_dst (N := 1) rfl ?_); (try (refine gate_guard (by rfl) ?_; dsimp only)); refine bxE (N := 1) (cs := #[.int .i64 a0_0, .int .i64 a0_1, .int .i64 a0_2, .slice A0_3 l0_3.length c0_3]) (t := 24) ?_; intro gb578 hg w8 hbox hb; have BK578 := aM (hbox); have GW578 := gW hg HB; have GE578 := gW hg HB; replace HB := bS HB hb; clear hb hbox hg; obtain ⟨⟨hcz9_0, hcz9_1, hcz9_2, hcz9_3⟩, hfz9_0, hfz9_1, hfz9_2, hfz9_3⟩ := cf4 BK578) | ((with_reducible refine gate_callee (f := 37) rfl ?_); refine gL (some 9) Try.func37 #[.int .i64 a0_0, .int .i64 a0_1, .int .i64 a0_2] ?_; (with_reducible refine (spec_validShape.calls a0_0 a0_1 a0_2 true _ A2.out).mono ?_); rintro e w' ⟨rfl, ⟨nd, rfl⟩⟩; refine ⟨_, rfl, ?_⟩))
  go_ret
  exact ⟨qX, by exact qW HB.out⟩
 rw [if_pos c4] at H
 have c4b0 : ((l0_3.length : Int) == (wrap64 ((wrap64 (a0_0 * a0_1)) * a0_2))) = true := beq_iff_eq.mpr c4
 have c4b1 : ((l0_3.length : Int) != (wrap64 ((wrap64 (a0_0 * a0_1)) * a0_2))) = false := bne_eq_false_iff_eq.mpr c4
 clear c4
 replace H := Option.bind_eq_some_iff.mp H
 obtain ⟨t580, A50, H⟩ := H
 replace H : (some t580) = some r := H
 have A5 := aM A50
 clear A50
 obtain rfl := Option.some.inj H
 go_enter Try.func54, Try.ntmps54
 go_wp2_with (first | ((with_reducible refine gate_dst (N := 1) rfl ?_); (try (refine gate_guard (by rfl) ?_; dsimp only)); refine bxE (N := 1) (cs := #[.int .i64 a0_0, .int .i64 a0_1, .int .i64 a0_2, .slice A0_3 l0_3.length c0_3]) (t := 24) ?_; intro gb578 hg w6 hbox hb; have BK578 := aM (hbox); have GW578 := gW hg HB; have GE578 := gW hg HB; replace HB := bS HB hb; clear hb hbox hg; obtain ⟨⟨hcz7_0, hcz7_1, hcz7_2, hcz7_3⟩, hfz7_0, hfz7_1, hfz7_2, hfz7_3⟩ := cf4 BK578) | ((with_reducible refine gate_callee (f := 37) rfl ?_); refine gL (some 9) Try.func37 #[.int .i64 a0_0, .int .i64 a0_1, .int .i64 a0_2] ?_; (with_reducible refine (spec_validShape.calls a0_0 a0_1 a0_2 true _ A2.out).mono ?_); rintro e w' ⟨rfl, ⟨nd, rfl⟩⟩; refine ⟨_, rfl, ?_⟩) | (go_at_call 57; (with_reducible refine (spec_allIn.calls k _ _ l0_3 0 255 t580 _ ?side1 ?side2 A5.out).mono ?_); (case side1 => exact qC (Kd.C_below HR0_3.out (qW HB.out))); (case side2 => exact HC0_3.out); rintro e w' ⟨rfl, ⟨nd, rfl⟩⟩))
 go_ret
 exact ⟨qX, by exact qW HB.out⟩
def impl_isSide.f (a0 : Int) : Option (Bool) := if a0 ≥ 1 then (some (decide (a0 ≤ 16))) else (some false)
set_option maxHeartbeats 8000000 in
set_option maxRecDepth 100000 in
theorem impl_isSide.calls (a0 : Int) (r : Bool) (w : World) (h : impl_isSide.f a0 = some r) :
  Calls Try.prog 84 #[.int .i64 a0] w fun e w' => e = .returned (.bool r) ∧ Drawn0 w w' := by
 unfold impl_isSide.f at h
 have H := h
 clear h
 by_cases c2 : a0 ≥ 1
 ·rw [if_pos c2] at H
  have c2b0 : decide (1 ≤ a0) = true := decide_eq_true c2
  clear c2
  obtain rfl := Option.some.inj H
  go_enter Try.func84, Try.ntmps84
  go_wp2
  go_ret
  exact ⟨qE, qD⟩
 rw [if_neg c2] at H
 have c2b0 : decide (1 ≤ a0) = false := decide_eq_false c2
 clear c2
 obtain rfl := Option.some.inj H
 go_enter Try.func84, Try.ntmps84
 go_wp2
 go_ret
 exact ⟨qE, qD⟩
def impl_isShape.f (a0 : Int) (a1 : Int) (a2 : Int) : Option (Bool) := (impl_isSide.f a0).bind fun t357 => (if t357 = true then ((impl_isSide.f a1).bind fun t358 => (if t358 = true then (if a2 ≥ 1 then (some (decide (a2 ≤ 4))) else (some false)) else (some false))) else (some false))
set_option maxHeartbeats 8000000 in
set_option maxRecDepth 100000 in
theorem impl_isShape.calls (a0 : Int) (a1 : Int) (a2 : Int) (r : Bool) (w : World) (h : impl_isShape.f a0 a1 a2 = some r) :
  Calls Try.prog 67 #[.int .i64 a0, .int .i64 a1, .int .i64 a2] w fun e w' => e = .returned (.bool r) ∧ Drawn0 w w' := by
 unfold impl_isShape.f at h
 have H := h
 clear h
 replace H := Option.bind_eq_some_iff.mp H
 obtain ⟨t357, A40, H⟩ := H
 replace H : (if t357 = true then ((impl_isSide.f a1).bind fun t358 => (if t358 = true then (if a2 ≥ 1 then (some (decide (a2 ≤ 4))) else (some false)) else (some false))) else (some false)) = some r := H
 have A4 := aM A40
 clear A40
 by_cases c5 : t357 = true
 rotate_left
 ·replace c5 := Bool.eq_false_iff.mpr c5
  subst c5
  have H1 : (some false) = some r := by rw [if_neg (show ¬ (false = true) by decide)] at H; exact H
  clear H
  have H := H1
  clear H1
  obtain rfl := Option.some.inj H
  go_enter Try.func67, Try.ntmps67
  go_wp2_with (first | ((with_reducible refine gate_callee (f := 84) rfl ?_); refine gL (some 8) Try.func84 #[.int .i64 a0] ?_; (with_reducible refine (impl_isSide.calls a0 false _ A4.out).mono ?_); rintro e w' ⟨rfl, ⟨nd, rfl⟩⟩; refine ⟨_, rfl, ?_⟩))
  go_ret
  exact ⟨qE, qD⟩
 subst c5
 have H1 : ((impl_isSide.f a1).bind fun t358 => (if t358 = true then (if a2 ≥ 1 then (some (decide (a2 ≤ 4))) else (some false)) else (some false))) = some r := by rw [if_pos rfl] at H; exact H
 clear H
 have H := H1
 clear H1
 replace H := Option.bind_eq_some_iff.mp H
 obtain ⟨t358, A60, H⟩ := H
 replace H : (if t358 = true then (if a2 ≥ 1 then (some (decide (a2 ≤ 4))) else (some false)) else (some false)) = some r := H
 have A6 := aM A60
 clear A60
 by_cases c7 : t358 = true
 rotate_left
 ·replace c7 := Bool.eq_false_iff.mpr c7
  subst c7
  have H1 : (some false) = some r := by rw [if_neg (show ¬ (false = true) by decide)] at H; exact H
  clear H
  have H := H1
  clear H1
  obtain rfl := Option.some.inj H
  go_enter Try.func67, Try.ntmps67
  go_wp2_with (first | ((with_reducible refine gate_callee (f := 84) rfl ?_); refine gL (some 8) Try.func84 #[.int .i64 a0] ?_; (with_reducible refine (impl_isSide.calls a0 true _ A4.out).mono ?_); rintro e w' ⟨rfl, ⟨nd, rfl⟩⟩; refine ⟨_, rfl, ?_⟩) | (go_at_call 84; (with_reducible refine (impl_isSide.calls a1 false _ A6.out).mono ?_); rintro e w' ⟨rfl, ⟨nd, rfl⟩⟩))
  go_ret
  exact ⟨qE, qD⟩
 subst c7
 have H1 : (if a2 ≥ 1 then (some (decide (a2 ≤ 4))) else (some false)) = some r := by rw [if_pos rfl] at H; exact H
 clear H
 have H := H1
 clear H1
 by_cases c8 : a2 ≥ 1
 ·rw [if_pos c8] at H
  have c8b0 : decide (1 ≤ a2) = true := decide_eq_true c8
  clear c8
  obtain rfl := Option.some.inj H
  go_enter Try.func67, Try.ntmps67
  go_wp2_with (first | ((with_reducible refine gate_callee (f := 84) rfl ?_); refine gL (some 8) Try.func84 #[.int .i64 a0] ?_; (with_reducible refine (impl_isSide.calls a0 true _ A4.out).mono ?_); rintro e w' ⟨rfl, ⟨nd, rfl⟩⟩; refine ⟨_, rfl, ?_⟩) | (go_at_call 84; (with_reducible refine (impl_isSide.calls a1 true _ A6.out).mono ?_); rintro e w' ⟨rfl, ⟨nd, rfl⟩⟩))
  go_ret
  exact ⟨qE, qD⟩
 rw [if_neg c8] at H
 have c8b0 : decide (1 ≤ a2) = false := decide_eq_false c8
 clear c8
 obtain rfl := Option.some.inj H
 go_enter Try.func67, Try.ntmps67
 go_wp2_with (first | ((with_reducible refine gate_callee (f := 84) rfl ?_); refine gL (some 8) Try.func84 #[.int .i64 a0] ?_; (with_reducible refine (impl_isSide.calls a0 true _ A4.out).mono ?_); rintro e w' ⟨rfl, ⟨nd, rfl⟩⟩; refine ⟨_, rfl, ?_⟩) | (go_at_call 84; (with_reducible refine (impl_isSide.calls a1 true _ A6.out).mono ?_); rintro e w' ⟨rfl, ⟨nd, rfl⟩⟩))
 go_ret
 exact ⟨qE, qD⟩
def impl_isImage.f (a0_0 : Int) (a0_1 : Int) (a0_2 : Int) (l0_3 : List Int) : Option (Bool) := (impl_isShape.f a0_0 a0_1 a0_2).bind fun t723 => (if t723 = true then (if (l0_3.length : Int) = (wrap64 ((wrap64 (a0_0 * a0_1)) * a0_2)) then ((impl_areBytes.f l0_3).bind fun t724 => (some t724)) else (some false)) else (some false))
set_option maxHeartbeats 8000000 in
set_option maxRecDepth 100000 in
theorem impl_isImage.calls (a0_0 : Int) (a0_1 : Int) (a0_2 : Int) (A0_3 : Option Addr) (c0_3 : Nat) (l0_3 : List Int) (r : Bool) (w : World) (hr0_3 : Kd.C (Kd.int .i64) w A0_3 l0_3.length l0_3) (hc0_3 : l0_3.length ≤ c0_3) (h : impl_isImage.f a0_0 a0_1 a0_2 l0_3 = some r) :
  Calls Try.prog 52 #[.agg #[.int .i64 a0_0, .int .i64 a0_1, .int .i64 a0_2, .slice A0_3 l0_3.length c0_3]] w fun e w' => e = .returned (.bool r) ∧ Below w.heap.size w w' := by
 have hu24 := Try.underlying24
 have HR0_3 := aM hr0_3
 have HC0_3 := aM hc0_3
 clear hr0_3 hc0_3
 have HB := aM (Below.refl w.heap.size w)
 unfold impl_isImage.f at h
 have H := h
 clear h
 replace H := Option.bind_eq_some_iff.mp H
 obtain ⟨t723, A20, H⟩ := H
 replace H : (if t723 = true then (if (l0_3.length : Int) = (wrap64 ((wrap64 (a0_0 * a0_1)) * a0_2)) then ((impl_areBytes.f l0_3).bind fun t724 => (some t724)) else (some false)) else (some false)) = some r := H
 have A2 := aM A20
 clear A20
 by_cases c3 : t723 = true
 rotate_left
 ·replace c3 := Bool.eq_false_iff.mpr c3
  subst c3
  have H1 : (some false) = some r := by rw [if_neg (show ¬ (false = true) by decide)] at H; exact H
  clear H
  have H := H1
  clear H1
  obtain rfl := Option.some.inj H
  go_enter Try.func52, Try.ntmps52
  go_wp2_with (first | ((with_reducible refine gate_dst (N := 1) rfl ?_); (try (refine gate_guard (by rfl) ?_; dsimp only)); refine bxE (N := 1) (cs := #[.int .i64 a0_0, .int .i64 a0_1, .int .i64 a0_2, .slice A0_3 l0_3.length c0_3]) (t := 24) ?_; intro gb722 hg w10 hbox hb; have BK722 := aM (hbox); have GW722 := gW hg HB; have GE722 := gW hg HB; replace HB := bS HB hb; clear hb hbox hg; obtain ⟨⟨hcz11_0, hcz11_1, hcz11_2, hcz11_3⟩, hfz11_0, hfz11_1, hfz11_2, hfz11_3⟩ := cf4 BK722) | ((with_reducible refine gate_callee (f := 67) rfl ?_); refine gL (some 9) Try.func67 #[.int .i64 a0_0, .int .i64 a0_1, .int .i64 a0_2] ?_; (with_reducible refine (impl_isShape.calls a0_0 a0_1 a0_2 false _ A2.out).mono ?_); rintro e w' ⟨rfl, ⟨nd, rfl⟩⟩; refine ⟨_, rfl, ?_⟩))
  go_ret
  exact ⟨qX, by exact qW HB.out⟩
 subst c3
 have H1 : (if (l0_3.length : Int) = (wrap64 ((wrap64 (a0_0 * a0_1)) * a0_2)) then ((impl_areBytes.f l0_3).bind fun t724 => (some t724)) else (some false)) = some r := by rw [if_pos rfl] at H; exact H
 clear H
 have H := H1
 clear H1
 by_cases c4 : (l0_3.length : Int) = (wrap64 ((wrap64 (a0_0 * a0_1)) * a0_2))
 rotate_left
 ·rw [if_neg c4] at H
  have c4b0 : ((l0_3.length : Int) == (wrap64 ((wrap64 (a0_0 * a0_1)) * a0_2))) = false := beq_eq_false_iff_ne.mpr c4
  have c4b1 : ((l0_3.length : Int) != (wrap64 ((wrap64 (a0_0 * a0_1)) * a0_2))) = true := bne_iff_ne.mpr c4
  obtain rfl := Option.some.inj H
  go_enter Try.func52, Try.ntmps52
  go_wp2_with (first | ((with_reducible refine gate_dst (N := 1) rfl ?_); (try (refine gate_guard (by rfl) ?_; dsimp only)); refine bxE (N := 1) (cs := #[.int .i64 a0_0, .int .i64 a0_1, .int .i64 a0_2, .slice A0_3 l0_3.length c0_3]) (t := 24) ?_; intro gb722 hg w8 hbox hb; have BK722 := aM (hbox); have GW722 := gW hg HB; have GE722 := gW hg HB; replace HB := bS HB hb; clear hb hbox hg; obtain ⟨⟨hcz9_0, hcz9_1, hcz9_2, hcz9_3⟩, hfz9_0, hfz9_1, hfz9_2, hfz9_3⟩ := cf4 BK722) | ((with_reducible refine gate_callee (f := 67) rfl ?_); refine gL (some 9) Try.func67 #[.int .i64 a0_0, .int .i64 a0_1, .int .i64 a0_2] ?_; (with_reducible refine (impl_isShape.calls a0_0 a0_1 a0_2 true _ A2.out).mono ?_); rintro e w' ⟨rfl, ⟨nd, rfl⟩⟩; refine ⟨_, rfl, ?_⟩))
  go_ret
  exact ⟨qX, by exact qW HB.out⟩
 rw [if_pos c4] at H
 have c4b0 : ((l0_3.length : Int) == (wrap64 ((wrap64 (a0_0 * a0_1)) * a0_2))) = true := beq_iff_eq.mpr c4
 have c4b1 : ((l0_3.length : Int) != (wrap64 ((wrap64 (a0_0 * a0_1)) * a0_2))) = false := bne_eq_false_iff_eq.mpr c4
 clear c4
 replace H := Option.bind_eq_some_iff.mp H
 obtain ⟨t724, A50, H⟩ := H
 replace H : (some t724) = some r := H
 have A5 := aM A50
 clear A50
 obtain rfl := Option.some.inj H
 go_enter Try.func52, Try.ntmps52
 go_wp2_with (first | ((with_reducible refine gate_dst (N := 1) rfl ?_); (try (refine gate_guard (by rfl) ?_; dsimp only)); refine bxE (N := 1) (cs := #[.int .i64 a0_0, .int .i64 a0_1, .int .i64 a0_2, .slice A0_3 l0_3.length c0_3]) (t := 24) ?_; intro gb722 hg w6 hbox hb; have BK722 := aM (hbox); have GW722 := gW hg HB; have GE722 := gW hg HB; replace HB := bS HB hb; clear hb hbox hg; obtain ⟨⟨hcz7_0, hcz7_1, hcz7_2, hcz7_3⟩, hfz7_0, hfz7_1, hfz7_2, hfz7_3⟩ := cf4 BK722) | ((with_reducible refine gate_callee (f := 67) rfl ?_); refine gL (some 9) Try.func67 #[.int .i64 a0_0, .int .i64 a0_1, .int .i64 a0_2] ?_; (with_reducible refine (impl_isShape.calls a0_0 a0_1 a0_2 true _ A2.out).mono ?_); rintro e w' ⟨rfl, ⟨nd, rfl⟩⟩; refine ⟨_, rfl, ?_⟩) | (go_at_call 66; (with_reducible refine (impl_areBytes.calls _ _ l0_3 t724 _ ?side1 ?side2 A5.out).mono ?_); (case side1 => exact qC (Kd.C_below HR0_3.out (qW HB.out))); (case side2 => exact HC0_3.out); rintro e w' ⟨rfl, ⟨nd, rfl⟩⟩))
 go_ret
 exact ⟨qX, by exact qW HB.out⟩
def ImgOk (a0 a1 a2 : Int) (l : List Int) : Prop := (1 ≤ a0 ∧ a0 ≤ 16) ∧ (1 ≤ a1 ∧ a1 ≤ 16) ∧ (1 ≤ a2 ∧ a2 ≤ 4) ∧ (l.length : Int) = a0 * a1 * a2 ∧ ∀ x ∈ l, 0 ≤ x ∧ x ≤ 255
theorem img_bounds {a0 a1 a2 : Int} (h0 : 1 ≤ a0 ∧ a0 ≤ 16) (h1 : 1 ≤ a1 ∧ a1 ≤ 16) (h2 : 1 ≤ a2 ∧ a2 ≤ 4) : 1 ≤ a0 * a1 ∧ a0 * a1 ≤ 256 ∧ 1 ≤ a0 * a1 * a2 ∧ a0 * a1 * a2 ≤ 1024 := by
 have p1 : 1 * 1 ≤ a0 * a1 := Int.mul_le_mul h0.1 h1.1 (by omega) (by omega)
 have p2 : a0 * a1 ≤ 16 * 16 := Int.mul_le_mul h0.2 h1.2 (by omega) (by omega)
 have p3 : 1 * 1 ≤ a0 * a1 * a2 := Int.mul_le_mul (by omega) h2.1 (by omega) (by omega)
 have p4 : a0 * a1 * a2 ≤ 256 * 4 := Int.mul_le_mul (by omega) h2.2 (by omega) (by omega)
 omega
theorem isSide_some (a : Int) : impl_isSide.f a = some (decide (1 ≤ a ∧ a ≤ 16)) := by
 unfold impl_isSide.f
 split
 ·rename_i h; simp [show 1 ≤ a from h]
 rename_i h; simp [show ¬ 1 ≤ a from h]
theorem isShape_some (a b c : Int) : impl_isShape.f a b c = some (decide ((1 ≤ a ∧ a ≤ 16) ∧ (1 ≤ b ∧ b ≤ 16) ∧ (1 ≤ c ∧ c ≤ 4))) := by
 unfold impl_isShape.f
 rw [isSide_some, isSide_some]
 simp only [Option.bind_some, decide_eq_true_eq]
 by_cases h1 : 1 ≤ a ∧ a ≤ 16 <;> by_cases h2 : 1 ≤ b ∧ b ≤ 16 <;> by_cases h3 : 1 ≤ c
 rotate_left
 ·rw [if_pos h1, if_pos h2, if_neg h3]; simp [h1, h2, h3]
 ·rw [if_pos h1, if_neg h2]; simp [h1, h2]
 ·rw [if_pos h1, if_neg h2]; simp [h1, h2]
 ·rw [if_neg h1]; simp [h1]
 ·rw [if_neg h1]; simp [h1]
 ·rw [if_neg h1]; simp [h1]
 ·rw [if_neg h1]; simp [h1]
 rw [if_pos h1, if_pos h2, if_pos h3]; simp [h1, h2, h3]
theorem wrap_small {x : Int} (h0 : -9223372036854775808 ≤ x) (h1 : x ≤ 9223372036854775807) : wrap64 x = x := by
 unfold wrap64
 omega
theorem any_bytes (l : List Int) : (!(l.any fun n => decide (n < 0) || decide (255 < n))) = true ↔ ∀ x ∈ l, 0 ≤ x ∧ x ≤ 255 := by
 simp only [Bool.not_eq_true', List.any_eq_false, Bool.or_eq_true, decide_eq_true_eq, not_or, Int.not_lt]
theorem isImage_some (a b c : Int) (l : List Int) : ∃ r, impl_isImage.f a b c l = some r ∧ (r = true ↔ ImgOk a b c l) := by
 unfold impl_isImage.f
 rw [isShape_some]
 simp only [Option.bind_some, decide_eq_true_eq]
 by_cases h : (1 ≤ a ∧ a ≤ 16) ∧ (1 ≤ b ∧ b ≤ 16) ∧ (1 ≤ c ∧ c ≤ 4)
 rotate_left
 ·rw [if_neg h]
  exact ⟨_, rfl, by simp, fun e => absurd ⟨e.1, e.2.1, e.2.2.1⟩ h⟩
 rw [if_pos h]
 have hb := img_bounds h.1 h.2.1 h.2.2
 rw [wrap_small (x := a * b) (by omega) (by omega), wrap_small (x := a * b * c) (by omega) (by omega)]
 by_cases hl : (l.length : Int) = a * b * c
 rotate_left
 ·rw [if_neg hl]
  exact ⟨_, rfl, by simp, fun e => absurd e.2.2.2.1 hl⟩
 rw [if_pos hl]
 unfold impl_areBytes.f
 simp only [Option.bind_some]
 exact ⟨_, rfl, (any_bytes l).trans ⟨fun e => ⟨h.1, h.2.1, h.2.2, hl, e⟩, fun e => e.2.2.2.2⟩⟩
theorem isImage_true {a b c : Int} {l : List Int} (h : impl_isImage.f a b c l = some true) : ImgOk a b c l := by
 obtain ⟨r, hr, hi⟩ := isImage_some a b c l
 rw [h] at hr
 exact hi.1 (Option.some.inj hr).symm
theorem pix_fits {a0 a1 a2 x y : Int} (h1 : 0 ≤ a0) (h2 : 0 ≤ a2) (hx : x < a0) (hy0 : 0 ≤ y) (hy : y < a1) : (y * a0 + x) * a2 + a2 ≤ a0 * a1 * a2 := by
 have e1 : y * a0 + x + 1 ≤ a0 * a1 := by
  have : (y + 1) * a0 ≤ a1 * a0 := Int.mul_le_mul_of_nonneg_right (by omega) h1
  rw [Int.add_mul, Int.one_mul] at this
  rw [Int.mul_comm a0 a1]
  omega
 have e2 : (y * a0 + x + 1) * a2 ≤ a0 * a1 * a2 := Int.mul_le_mul_of_nonneg_right e1 h2
 rw [Int.add_mul, Int.one_mul] at e2
 exact e2
theorem scaled {x a n : Int} (hx : 0 ≤ x) (hx' : x < n) (ha : 0 ≤ a) (ha' : a ≤ 16) (hn : n ≤ 16) : 0 ≤ x * a ∧ x * a ≤ 256 ∧ 0 ≤ x * a / n ∧ (1 ≤ a → x * a / n < a) ∧ x * a / n ≤ 256 := by
 have p1 : 0 ≤ x * a := Int.mul_nonneg hx ha
 have p2 : x * a ≤ 16 * 16 := Int.mul_le_mul (by omega) ha' ha (by omega)
 refine ⟨p1, by omega, Int.ediv_nonneg p1 (by omega), fun h1 => ?_, ?_⟩
 rotate_left
 ·exact Int.le_trans (Int.ediv_le_self _ p1) (by omega)
 refine Int.ediv_lt_of_lt_mul (by omega) ?_
 rw [Int.mul_comm a n]
 exact Int.mul_lt_mul_of_pos_right hx' (by omega)
theorem isSide_true {a : Int} (h : impl_isSide.f a = some true) : 1 ≤ a ∧ a ≤ 16 := by
 rw [isSide_some] at h
 exact of_decide_eq_true (Option.some.inj h)
def spec_distance.f (a0 : Int) : Option (Int) := if a0 < 0 then (some (wrap64 (-a0))) else (some a0)
set_option maxHeartbeats 8000000 in
set_option maxRecDepth 100000 in
theorem spec_distance.calls (a0 : Int) (r : Int) (w : World) (h : spec_distance.f a0 = some r) :
  Calls Try.prog 92 #[.int .i64 a0] w fun e w' => e = .returned (.int .i64 r) ∧ Drawn0 w w' := by
 unfold spec_distance.f at h
 have H := h
 clear h
 by_cases c2 : a0 < 0
 ·rw [if_pos c2] at H
  have c2b0 : decide (a0 < 0) = true := decide_eq_true c2
  clear c2
  obtain rfl := Option.some.inj H
  go_enter Try.func92, Try.ntmps92
  go_wp2
  go_ret
  exact ⟨qE, qD⟩
 rw [if_neg c2] at H
 have c2b0 : decide (a0 < 0) = false := decide_eq_false c2
 clear c2
 obtain rfl := Option.some.inj H
 go_enter Try.func92, Try.ntmps92
 go_wp2
 go_ret
 exact ⟨qE, qD⟩
end Go.Proofs.Ytchahbdmdcllaaa.P
