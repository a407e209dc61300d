/- Contracts and row, written by a program of this place out of the translation: the call answers true and its argument reads as before, for every input; no condition. -/
import Derived.Test.YtbldmekplkjfiaaK0
namespace Go.Proofs.Ytbldmekplkjfiaa.P
open Go.RowKit Go.Proofs.YtbldmekplkjfiaaW.PrintWords Go.Proofs.YtbldmekplkjfiaaW.PrintLast Go.Proofs.YtbldmekplkjfiaaW.PrintMore
attribute [local go_sem] max2_int min2_int max_two min_two max_three min_three max_four min_four   -- for this text's walks alone
set_option linter.unusedVariables false
set_option linter.unusedSimpArgs false
def spec_inRange.f (a0 : Int) (a1 : Int) (a2 : Int) : Option (Bool) := if a1 ≤ a0 then (some (decide (a0 ≤ a2))) else (some false)
set_option maxHeartbeats 8000000 in
set_option maxRecDepth 100000 in
theorem spec_inRange.calls (a0 : Int) (a1 : Int) (a2 : Int) (r : Bool) (w : World) (h : spec_inRange.f a0 a1 a2 = some r) :
  Calls Try.prog 46 #[.int .i64 a0, .int .i64 a1, .int .i64 a2] w fun e w' => e = .returned (.bool r) ∧ Drawn0 w w' := by
 unfold spec_inRange.f at h
 have H := h
 clear h
 by_cases c4 : a1 ≤ a0
 ·rw [if_pos c4] at H
  have c4b0 : decide (a1 ≤ a0) = true := decide_eq_true c4
  clear c4
  obtain rfl := Option.some.inj H
  go_enter Try.func46, Try.ntmps46
  go_wp2
  go_ret
  exact ⟨qE, qD⟩
 rw [if_neg c4] at H
 have c4b0 : decide (a1 ≤ a0) = false := decide_eq_false c4
 clear c4
 obtain rfl := Option.some.inj H
 go_enter Try.func46, Try.ntmps46
 go_wp2
 go_ret
 exact ⟨qE, qD⟩
def spec_allIn.l0 : Nat → List Int → Int → Int → Int → Option (Bool)
 | 0, _, _, _, _ => none
 | k + 1, x0, x1, x2, x7 => if x7 < (x0.length : Int) then (if 0 ≤ x7 then ((spec_inRange.f (rd x0 x7) x1 x2).bind fun t156 => (if t156 = true then (spec_allIn.l0 k x0 x1 x2 (wrap64 (x7 + 1))) else (some false))) else (none)) else (some true)
def spec_allIn.f (k : Nat) (l0 : List Int) (a1 : Int) (a2 : Int) : Option (Bool) := spec_allIn.l0 k l0 a1 a2 0
theorem spec_allIn.mono_l : ∀ k, (∀ y0 y1 y2 y3, LeO (spec_allIn.l0 k y0 y1 y2 y3) (spec_allIn.l0 (k + 1) y0 y1 y2 y3))
 | 0 => fun _ _ _ _ r h => by simp [spec_allIn.l0] at h
 | k + 1 => by
  have ih0 := spec_allIn.mono_l k
  ·intro y0 y1 y2 y3
   unfold spec_allIn.l0
   repeat' first | (with_reducible first | exact ih0 _ _ _ _ | exact lR | exact lN | refine lI ?_ ?_ | refine lB ?_ fun _ => ?_) | exact ih0 _ _ _ _ | exact lN | refine lI ?_ ?_ | refine lB ?_ fun _ => ?_
theorem spec_allIn.mono : ∀ a0 a1 a2 k, LeO (spec_allIn.f k a0 a1 a2) (spec_allIn.f (k + 1) a0 a1 a2) := by
 intro a0 a1 a2 k
 have ih0 := spec_allIn.mono_l k
 unfold spec_allIn.f
 repeat' first | (with_reducible first | exact ih0 _ _ _ _ | exact lR | exact lN | refine lI ?_ ?_ | refine lB ?_ fun _ => ?_) | exact ih0 _ _ _ _ | exact lN | refine lI ?_ ?_ | refine lB ?_ fun _ => ?_
set_option maxHeartbeats 8000000 in
set_option maxRecDepth 100000 in
theorem spec_allIn.calls (k : Nat) (A0 : Option Addr) (c0 : Nat) (l0 : List Int) (a1 : Int) (a2 : Int) (r : Bool) (w : World) (hr0 : Kd.C (Kd.int .i64) w A0 l0.length l0) (hc0 : l0.length ≤ c0) (h : spec_allIn.f k l0 a1 a2 = some r) :
  Calls Try.prog 66 #[.slice A0 l0.length c0, .int .i64 a1, .int .i64 a2] w fun e w' => e = .returned (.bool r) ∧ Drawn0 w w' := by
 have HR0 := aM hr0
 have HC0 := aM hc0
 clear hr0 hc0
 unfold spec_allIn.f at h
 have H := h
 clear h
 have H' := aM H
 clear H
 go_enter Try.func66, Try.ntmps66
 go_wp2
 go_loopg [7] k (fun kq v7 w' => ∃ (x7_1 : Int), v7 = .int .i64 x7_1 ∧ Aside0 (spec_allIn.l0 kq l0 a1 a2 x7_1 = some r) ∧ Aside0 (kq ≤ k) ∧ Drawn0 w w')
 case atStart => exact ⟨(0), qE, H', ⟨Nat.le_refl _⟩, qD⟩
 case round =>
  clear H'
  obtain ⟨x7_1, rfl, HA, HK1, ⟨m1, rfl⟩⟩ := hrel
  cases gk with
  | zero => exact absurd HA.out (by simp [spec_allIn.l0])
  | succ k1 =>
   have H := HA.out
   clear HA
   simp only [spec_allIn.l0] at H
   by_cases c4 : x7_1 < (l0.length : Int)
   rotate_left
   ·rw [if_neg c4] at H
    have c4b0 : decide (x7_1 < (l0.length : Int)) = false := decide_eq_false c4
    clear c4
    obtain rfl := Option.some.inj H
    go_wp2
    go_ret
    exact ⟨qE, qD⟩
   rw [if_pos c4] at H
   have c4b0 : decide (x7_1 < (l0.length : Int)) = true := decide_eq_true c4
   clear c4
   replace H := iD H
   obtain ⟨c5b0, H⟩ := H
   replace H := Option.bind_eq_some_iff.mp H
   obtain ⟨t156, A60, H⟩ := H
   replace H : (if t156 = true then (spec_allIn.l0 k1 l0 a1 a2 (wrap64 (x7_1 + 1))) else (some false)) = some r := H
   have A6 := aM A60
   clear A60
   by_cases c7 : t156 = true
   rotate_left
   ·replace c7 := Bool.eq_false_iff.mpr c7
    subst c7
    have H1 : (some false) = some r := by rw [if_neg (show ¬ (false = true) by decide)] at H; exact H
    clear H
    have H := H1
    clear H1
    obtain rfl := Option.some.inj H
    obtain ⟨ad155, e155, hx155_0⟩ := Kd.at_int HR0.out x7_1 oD oD
    cases e155
    have p155 := eq_true (oD : 0 ≤ (x7_1 : Int))
    have q155 := eq_true (oD : x7_1 < (l0.length : Int))
    go_wp2_with (first | ((with_reducible refine gate_callee (f := 46) rfl ?_); refine gL (some 20) Try.func46 #[.int .i64 (rd l0 x7_1), .int .i64 a1, .int .i64 a2] ?_; (with_reducible refine (spec_inRange.calls (rd l0 x7_1) a1 a2 false _ A6.out).mono ?_); rintro e w' ⟨rfl, ⟨nd, rfl⟩⟩; refine ⟨_, rfl, ?_⟩))
    go_ret
    exact ⟨qE, qD⟩
   subst c7
   have H1 : (spec_allIn.l0 k1 l0 a1 a2 (wrap64 (x7_1 + 1))) = some r := by rw [if_pos rfl] at H; exact H
   clear H
   have H := H1
   clear H1
   have H' := aM H
   clear H
   obtain ⟨ad155, e155, hx155_0⟩ := Kd.at_int HR0.out x7_1 oD oD
   cases e155
   have p155 := eq_true (oD : 0 ≤ (x7_1 : Int))
   have q155 := eq_true (oD : x7_1 < (l0.length : Int))
   go_wp2_with (first | ((with_reducible refine gate_callee (f := 46) rfl ?_); refine gL (some 20) Try.func46 #[.int .i64 (rd l0 x7_1), .int .i64 a1, .int .i64 a2] ?_; (with_reducible refine (spec_inRange.calls (rd l0 x7_1) a1 a2 true _ A6.out).mono ?_); rintro e w' ⟨rfl, ⟨nd, rfl⟩⟩; refine ⟨_, rfl, ?_⟩))
   go_roundg k1
   case measure => have := HK1.out; omega
   case rel => exact ⟨(wrap64 (x7_1 + 1)), qE, H', ⟨by have := HK1.out; omega⟩, qD⟩
def laws_toIntS.l0 : Nat → List Int → List Int → Int → Option (List Int)
 | 0, _, _, _ => none
 | k + 1, x0, x3, x4 => if x4 < (x0.length : Int) then (if 0 ≤ x4 then (if x4 < (x3.length : Int) then (laws_toIntS.l0 k x0 (x3.set (x4 : Int).toNat (rd x0 x4)) (wrap64 (x4 + 1))) else (none)) else (none)) else (some x3)
def laws_toIntS.f (k : Nat) (l0 : List Int) : Option (List Int) := if 0 ≤ (l0.length : Int) then (if ((l0.length : Int) : Int).toNat ≤ 35184372088832 then (laws_toIntS.l0 k l0 (List.replicate ((l0.length : Int) : Int).toNat 0) 0) else (none)) else (none)
theorem laws_toIntS.mono_l : ∀ k, (∀ y0 y1 y2, LeO (laws_toIntS.l0 k y0 y1 y2) (laws_toIntS.l0 (k + 1) y0 y1 y2))
 | 0 => fun _ _ _ r h => by simp [laws_toIntS.l0] at h
 | k + 1 => by
  have ih0 := laws_toIntS.mono_l k
  ·intro y0 y1 y2
   unfold laws_toIntS.l0
   repeat' first | (with_reducible first | exact ih0 _ _ _ | exact lR | exact lN | refine lI ?_ ?_ | refine lB ?_ fun _ => ?_) | exact ih0 _ _ _ | exact lN | refine lI ?_ ?_ | refine lB ?_ fun _ => ?_
theorem laws_toIntS.mono : ∀ a0 k, LeO (laws_toIntS.f k a0) (laws_toIntS.f (k + 1) a0) := by
 intro a0 k
 have ih0 := laws_toIntS.mono_l k
 unfold laws_toIntS.f
 repeat' first | (with_reducible first | exact ih0 _ _ _ | exact lR | exact lN | refine lI ?_ ?_ | refine lB ?_ fun _ => ?_) | exact ih0 _ _ _ | exact lN | refine lI ?_ ?_ | refine lB ?_ fun _ => ?_
set_option maxHeartbeats 8000000 in
set_option maxRecDepth 100000 in
theorem laws_toIntS.calls (k : Nat) (A0 : Option Addr) (c0 : Nat) (l0 : List Int) (r : List Int) (w : World) (hr0 : Kd.C (Kd.int .i64) w A0 l0.length l0) (hc0 : l0.length ≤ c0) (h : laws_toIntS.f k l0 = some r) :
  Calls Try.prog 19 #[.slice A0 l0.length c0] w fun e w' => ∃ v0_ : Value, e = .returned (v0_) ∧ Kd.R (Kd.int .i64) 3 w' w.heap.size (fun _ => True) v0_ r ∧ Below w.heap.size w w' := by
 have HR0 := aM hr0
 have HC0 := aM hc0
 clear hr0 hc0
 have HB := aM (Below.refl w.heap.size w)
 unfold laws_toIntS.f at h
 have H := h
 clear h
 replace H := iS H
 obtain ⟨c2, H⟩ := H
 have c2b0 := eq_true c2
 have c2b1 : decide (0 ≤ (l0.length : Int)) = true := decide_eq_true c2
 clear c2
 replace H := iS H
 obtain ⟨c3, H⟩ := H
 have c3b0 := eq_true c3
 have c3b1 : decide (((l0.length : Int) : Int).toNat ≤ 35184372088832) = true := decide_eq_true c3
 clear c3
 obtain ⟨y161, hy161⟩ : ∃ y_ : List Int, y_ = (List.replicate ((l0.length : Int) : Int).toNat 0) := ⟨_, rfl⟩
 replace H : (laws_toIntS.l0 k l0 y161 0) = some r := rY hy161 H
 have Ny161 := aM hy161
 clear hy161
 have H' := aM H
 clear H
 go_enter Try.func19, Try.ntmps19
 go_wp2_with (first | ((with_reducible refine gate_dst (N := 7) rfl ?_); refine Kd.R_make (Kd.int .i64) _ 3 rfl (N := 7) rfl 28 _ _ rfl (l0.length : Int) rfl rfl Try.underlying28 (.int .i64 0) 8 info3 rfl (by decide) (by omega) 0 (ok := fun _ => True) (okp := fun _ => True) rfl (fun _ hk => hk) trivial oD (Nat.le_trans (Nat.mul_le_mul_right _ (oD : (l0.length : Int).toNat ≤ 35184372088832)) (by omega)) (Below.refl _ _) (Nat.le_refl _) ?_; intro v162 w4 ho5 hb hg_ hnew_; clear hg_ hnew_; (first | rw [← Ny161.out] at ho5 | (simp only [Int.reduceToNat] at ho5; rw [← Ny161.out] at ho5)); have HO163 := oR ho5 HB; replace HB := bS HB hb; clear hb ho5))
 go_loopg [4] k (fun kq v4 w' => ∃ (x3_1 : List Int) (x4_1 : Int), v4 = .int .i64 x4_1 ∧ Aside0 (laws_toIntS.l0 kq l0 x3_1 x4_1 = some r) ∧ Aside0 (kq ≤ k) ∧ Aside0 (Kd.R (Kd.int .i64) 3 w' w.heap.size (fun _ => True) v162 x3_1) ∧ Aside0 (Below w.heap.size w w'))
 case atStart => exact ⟨(y161), (0), qE, H', ⟨Nat.le_refl _⟩, ⟨by refine qR ?_; exact HO163.out⟩, ⟨by exact qW HB.out⟩⟩
 case round =>
  clear H'
  try clear c2
  try clear c2b0
  try clear c2b1
  try clear c3
  try clear c3b0
  try clear c3b1
  obtain ⟨x3_1, x4_1, rfl, HA, HK1, HO_3, HB⟩ := hrel
  cases gk with
  | zero => exact absurd HA.out (by simp [laws_toIntS.l0])
  | succ k1 =>
   have H := HA.out
   clear HA
   simp only [laws_toIntS.l0] at H
   by_cases c6 : x4_1 < (l0.length : Int)
   rotate_left
   ·rw [if_neg c6] at H
    have c6b0 : decide (x4_1 < (l0.length : Int)) = false := decide_eq_false c6
    clear c6
    obtain rfl := Option.some.inj H
    go_wp2
    go_ret
    exact ⟨_, qX, by refine qR ?_; exact HO_3.out, by exact qW HB.out⟩
   rw [if_pos c6] at H
   have c6b0 : decide (x4_1 < (l0.length : Int)) = true := decide_eq_true c6
   clear c6
   replace H := iD H
   obtain ⟨c7b0, H⟩ := H
   replace H := iD H
   obtain ⟨c8b0, H⟩ := H
   obtain ⟨y165, hy165⟩ : ∃ y_ : List Int, y_ = (x3_1.set (x4_1 : Int).toNat (rd l0 x4_1)) := ⟨_, rfl⟩
   replace H : (laws_toIntS.l0 k1 l0 y165 (wrap64 (x4_1 + 1))) = some r := rY hy165 H
   have Ny165 := aM hy165
   clear hy165
   have H' := aM H
   clear H
   obtain ⟨ad164, e164, hx164_0⟩ := Kd.at_int HR0.out x4_1 oD oD
   cases e164
   replace hx164_0 := bD HB hx164_0
   have p164 := eq_true (oD : 0 ≤ (x4_1 : Int))
   have q164 := eq_true (oD : x4_1 < (l0.length : Int))
   have p9 : 0 ≤ (x4_1 : Int) := oD
   have q9 : (x4_1 : Int) < ((x3_1.length : Int) : Int) := oD
   obtain ⟨go9, co9, eo9, gb9, gl9, cl9, HG9⟩ := Kd.R_form HO_3.out (by omega)
   (first | cases eo9 | (injection eo9 with ea_ en_ ec_; (first | subst ea_ | (injection ea_ with ea_; subst ea_)); subst ec_; clear en_))
   have GB9 := aM gb9
   have GG9 := aM HG9
   clear gb9 gl9 HG9
   obtain ⟨hx9_0, hf9_0⟩ := Kd.R_celln 0 HO_3.out (x4_1 : Int) p9 q9
   replace p9 := eq_true p9
   replace q9 := eq_true q9
   have HP10 := Kd.R_putg HO_3.out (x4_1 : Int) (rd l0 x4_1)
   go_wp2_with (first | ((with_reducible refine gate_store (t := 3) (p := 20) rfl ?_); refine store_event (t := 3) (p := 20) (v := ?vo_w11) (w1 := (wr.setCell ⟨go9, (x4_1 : Int).toNat, none⟩ (.int .i64 (rd l0 x4_1)))) ?hg ?ho ?hn ?hr ?_; (case ho => rfl); (case hg => rfl); (case hn => rfl); (case hr => first | (go_simp; done) | (go_simp; rfl)); intro w11 hw; have hg : wr.grownBy w11 (some go9) := (by rw [hw]; exact HP10.2); have hp_ : Kd.R (Kd.int .i64) 3 w11 w.heap.size (fun _ => True) (.slice (some ⟨go9, 0, none⟩) x3_1.length co9) y165 := (by rw [hw, Ny165.out]; exact HP10.1); clear HP10; replace HO_3 := aM (hp_); replace HB := aM ((by rw [hw]; exact below_set (HB.out) GB9.out : Below w.heap.size w w11)); clear hg hw hp_))
   go_roundg k1
   case measure => have := HK1.out; omega
   case rel => exact ⟨(y165), (wrap64 (x4_1 + 1)), qE, H', ⟨by have := HK1.out; omega⟩, ⟨by refine qR ?_; exact HO_3.out⟩, ⟨by exact qW HB.out⟩⟩
def idxOf (p : Int → Bool) (l : List Int) : Int := if l.any p = true then (l.findIdx p : Int) else -1
theorem idxOf_hit (p : Int → Bool) (l : List Int) (k : Nat) (hk : k < l.length) (h : p (l.getD k 0) = true) (hn : ∀ j, j < k → p (l.getD j 0) = false) : idxOf p l = k := by
 have hx : l.findIdx p = k := by
  rw [List.findIdx_eq hk]
  refine ⟨by simpa [List.getD_eq_getElem?_getD, List.getElem?_eq_getElem hk] using h, fun j hj => ?_⟩
  have := hn j hj
  simpa [List.getD_eq_getElem?_getD, List.getElem?_eq_getElem (show j < l.length by omega)] using this
 have ha : l.any p = true := List.any_eq_true.2 ⟨l[k], List.getElem_mem hk, by simpa [List.getD_eq_getElem?_getD, List.getElem?_eq_getElem hk] using h⟩
 unfold idxOf
 rw [if_pos ha, hx]
theorem idxOf_miss (p : Int → Bool) (l : List Int) (hn : ∀ j, j < l.length → p (l.getD j 0) = false) : idxOf p l = -1 := by
 have ha : ¬ (l.any p = true) := by
  intro h
  obtain ⟨x, hx, hp⟩ := List.any_eq_true.1 h
  obtain ⟨j, hj, rfl⟩ := List.getElem_of_mem hx
  have := hn j hj
  simp [List.getD_eq_getElem?_getD, List.getElem?_eq_getElem hj, hp] at this
 unfold idxOf
 rw [if_neg ha]
theorem idxOf_nonneg (p : Int → Bool) (l : List Int) : decide (0 ≤ idxOf p l) = l.any p := by
 unfold idxOf
 cases h : l.any p <;> simp
def PredI (g : Nat) (lb : Array Value) (p : Int → Bool) (w : World) : Prop :=
 ∀ (W : World) (x : Int), Below w.heap.size w W → Calls Try.prog g (#[.int .i64 x] ++ lb) W fun e w' => e = .returned (.bool (p x)) ∧ Drawn0 W w'
set_option maxHeartbeats 8000000 in
set_option maxRecDepth 100000 in
theorem indexFuncInt.calls (g : Nat) (lb : Array Value) (eg : ∀ args w, (callFunc g args).run Try.prog w = .ok (.enter g args) w) (p : Int → Bool) (A0 : Option Addr) (c0 : Nat) (l0 : List Int) (w : World)
  (hp : PredI g lb p w) (hr0 : Kd.C (Kd.int .i64) w A0 l0.length l0) (hc0 : l0.length ≤ c0) :
  Calls Try.prog 93 #[.slice A0 l0.length c0, .func (.func g) #[] lb] w fun e w' => e = .returned (.int .i64 (idxOf p l0)) ∧ Drawn0 w w' := by
 have hm : l0.length ≤ 9223372036854775807 := Kd.C_max hr0
 have HR0 := aM hr0
 have HP := aM hp
 clear hr0 hp
 go_enter Try.func93, Try.ntmps93
 go_wp2
 go_loopg [5, 8] l0.length (fun gg _ s8 wr => ∃ kk q : Nat, kk ≤ l0.length ∧ l0.length - kk ≤ gg ∧ s8 = .int .i64 kk ∧ wr = w.drewN q ∧ Aside0 (∀ j, j < kk → p (l0.getD j 0) = false))
 case atStart => exact ⟨0, 0, Nat.zero_le _, by omega, rfl, rfl, ⟨fun j hj => absurd hj (Nat.not_lt_zero _)⟩⟩
 case round =>
  obtain ⟨kk, q, hkk, hg, rfl, rfl, NO⟩ := hrel
  by_cases hlt : kk < l0.length
  rotate_left
  ·have hltz : ¬ (kk : Int) < (l0.length : Int) := by omega
   have : kk = l0.length := by omega
   subst this
   go_wp2
   go_ret
   refine ⟨?_, ⟨⟨q, rfl⟩⟩⟩
   rw [idxOf_miss p l0 NO.out]
   rfl
  have hltz : (kk : Int) < (l0.length : Int) := by omega
  obtain ⟨ad, e1, hcell⟩ := Kd.at_int HR0.out (kk : Int) (by omega) hltz
  cases e1
  simp only [Int.toNat_natCast] at hcell
  have hb : Below w.heap.size w (w.drewN q) := pw_below_drewN (Below.refl _ _) q
  have hcall := HP.out (w.drewN q) (rd l0 kk) hb
  have hrd : rd l0 (kk : Int) = l0.getD kk 0 := by simp [rd]
  have HRD := aM hrd
  clear hrd hb
  cases hq : p (rd l0 kk) with
  | true =>
   rw [hq] at hcall
   have HQ := aM hq
   clear hq
   go_wp2_with (go_at_fn g; refine hcall.mono ?_; rintro e w' ⟨rfl, ⟨q', rfl⟩⟩)
   go_ret
   refine ⟨?_, ⟨⟨q + q', by first | rfl | rw [World.drewN_drewN]⟩⟩⟩
   rw [idxOf_hit p l0 kk hlt (by rw [← HRD.out]; exact HQ.out) NO.out]
   rfl
  | false =>
   rw [hq] at hcall
   have HQ := aM hq
   clear hq
   go_wp2_with (go_at_fn g; refine hcall.mono ?_; rintro e w' ⟨rfl, ⟨q', rfl⟩⟩)
   go_roundg (l0.length - (kk + 1))
   case measure => omega
   case rel =>
    refine ⟨kk + 1, q + q', by omega, by omega, by go_num, by first | rfl | rw [World.drewN_drewN], ⟨fun j hj => ?_⟩⟩
    by_cases e : j = kk
    rotate_left
    ·exact NO.out j (by omega)
    subst e
    rw [← HRD.out]; exact HQ.out
set_option maxHeartbeats 8000000 in
set_option maxRecDepth 100000 in
theorem containsFuncInt.calls (g : Nat) (lb : Array Value) (eg : ∀ args w, (callFunc g args).run Try.prog w = .ok (.enter g args) w) (p : Int → Bool) (A0 : Option Addr) (c0 : Nat) (l0 : List Int) (w : World)
  (hp : PredI g lb p w) (hr0 : Kd.C (Kd.int .i64) w A0 l0.length l0) (hc0 : l0.length ≤ c0) :
  Calls Try.prog 86 #[.slice A0 l0.length c0, .func (.func g) #[] lb] w fun e w' => e = .returned (.bool (l0.any p)) ∧ Drawn0 w w' := by
 rw [← idxOf_nonneg p l0]
 go_enter Try.func86, Try.ntmps86
 go_wp2_with (go_at_call 93; refine (indexFuncInt.calls g lb eg p _ _ l0 _ hp hr0 hc0).mono ?_; rintro e w' ⟨rfl, ⟨q, rfl⟩⟩)
 go_ret
 exact ⟨rfl, ⟨⟨q, rfl⟩⟩⟩
theorem areBytesTest (w : World) : PredI 87 #[] (fun n => decide (n < 0) || decide (255 < n)) w := fun W x _ => by
 by_cases h1 : x < 0
 ·have e : ((fun n : Int => decide (n < 0) || decide (255 < n)) x) = true := by show (decide (x < 0) || decide (255 < x)) = _; rw [decide_eq_true h1]; rfl
  rw [e]
  go_enter Try.func87, Try.ntmps87
  go_wp2
  go_ret
  exact ⟨rfl, Drawn0.refl _⟩
 ·have e : ((fun n : Int => decide (n < 0) || decide (255 < n)) x) = decide (255 < x) := by show (decide (x < 0) || decide (255 < x)) = _; rw [decide_eq_false h1]; rfl
  rw [e]
  go_enter Try.func87, Try.ntmps87
  go_wp2
  go_ret
  exact ⟨rfl, Drawn0.refl _⟩
def impl_areBytes.f (l0 : List Int) : Option (Bool) := some (!(l0.any fun n => decide (n < 0) || decide (255 < n)))
set_option maxHeartbeats 8000000 in
set_option maxRecDepth 100000 in
theorem impl_areBytes.calls (A0 : Option Addr) (c0 : Nat) (l0 : List Int) (r : Bool) (w : World) (hr0 : Kd.C (Kd.int .i64) w A0 l0.length l0) (hc0 : l0.length ≤ c0) (h : impl_areBytes.f l0 = some r) :
  Calls Try.prog 61 #[.slice A0 l0.length c0] w fun e w' => e = .returned (.bool r) ∧ Drawn0 w w' := by
 obtain rfl := Option.some.inj h
 clear h
 have hC := containsFuncInt.calls 87 #[] (enters_of Try.func87 (by kernel_rfl) rfl) (fun n => decide (n < 0) || decide (255 < n)) A0 c0 l0 w (areBytesTest w) hr0 hc0
 generalize (l0.any fun n => decide (n < 0) || decide (255 < n)) = b at hC ⊢
 go_enter Try.func61, Try.ntmps61
 go_wp2_with (go_at_call 86; refine hC.mono ?_; rintro e w' ⟨rfl, ⟨q, rfl⟩⟩)
 go_ret
 exact ⟨rfl, ⟨⟨q, rfl⟩⟩⟩
def laws_eqIntS.l0 : Nat → List Int → List Int → Int → Option (Bool)
 | 0, _, _, _ => none
 | k + 1, x0, x1, x5 => if x5 < (x0.length : Int) then (if 0 ≤ x5 then (if x5 < (x1.length : Int) then (if (rd x0 x5) = (rd x1 x5) then (laws_eqIntS.l0 k x0 x1 (wrap64 (x5 + 1))) else (some false)) else (none)) else (none)) else (some true)
def laws_eqIntS.f (k : Nat) (l0 : List Int) (l1 : List Int) : Option (Bool) := if (l0.length : Int) = (l1.length : Int) then (laws_eqIntS.l0 k l0 l1 0) else (some false)
theorem laws_eqIntS.mono_l : ∀ k, (∀ y0 y1 y2, LeO (laws_eqIntS.l0 k y0 y1 y2) (laws_eqIntS.l0 (k + 1) y0 y1 y2))
 | 0 => fun _ _ _ r h => by simp [laws_eqIntS.l0] at h
 | k + 1 => by
  have ih0 := laws_eqIntS.mono_l k
  ·intro y0 y1 y2
   unfold laws_eqIntS.l0
   repeat' first | (with_reducible first | exact ih0 _ _ _ | exact lR | exact lN | refine lI ?_ ?_ | refine lB ?_ fun _ => ?_) | exact ih0 _ _ _ | exact lN | refine lI ?_ ?_ | refine lB ?_ fun _ => ?_
theorem laws_eqIntS.mono : ∀ a0 a1 k, LeO (laws_eqIntS.f k a0 a1) (laws_eqIntS.f (k + 1) a0 a1) := by
 intro a0 a1 k
 have ih0 := laws_eqIntS.mono_l k
 unfold laws_eqIntS.f
 repeat' first | (with_reducible first | exact ih0 _ _ _ | exact lR | exact lN | refine lI ?_ ?_ | refine lB ?_ fun _ => ?_) | exact ih0 _ _ _ | exact lN | refine lI ?_ ?_ | refine lB ?_ fun _ => ?_
set_option maxHeartbeats 8000000 in
set_option maxRecDepth 100000 in
theorem laws_eqIntS.calls (k : Nat) (A0 : Option Addr) (c0 : Nat) (l0 : List Int) (A1 : Option Addr) (c1 : Nat) (l1 : List Int) (r : Bool) (w : World) (hr0 : Kd.C (Kd.int .i64) w A0 l0.length l0) (hc0 : l0.length ≤ c0) (hr1 : Kd.C (Kd.int .i64) w A1 l1.length l1) (hc1 : l1.length ≤ c1) (h : laws_eqIntS.f k l0 l1 = some r) :
  Calls Try.prog 21 #[.slice A0 l0.length c0, .slice A1 l1.length c1] w fun e w' => e = .returned (.bool r) ∧ Drawn0 w w' := by
 have HR0 := aM hr0
 have HC0 := aM hc0
 clear hr0 hc0
 have HR1 := aM hr1
 have HC1 := aM hc1
 clear hr1 hc1
 unfold laws_eqIntS.f at h
 have H := h
 clear h
 by_cases c3 : (l0.length : Int) = (l1.length : Int)
 rotate_left
 ·rw [if_neg c3] at H
  have c3b0 : ((l0.length : Int) == (l1.length : Int)) = false := beq_eq_false_iff_ne.mpr c3
  have c3b1 : ((l0.length : Int) != (l1.length : Int)) = true := bne_iff_ne.mpr c3
  have c3b2 : (l0.length == l1.length) = false := by first | simpa using c3 | (simp at c3 ⊢; omega)
  obtain rfl := Option.some.inj H
  go_enter Try.func21, Try.ntmps21
  go_wp2
  repeat (go_quiet (fail); try go_wp2)
  go_ret
  exact ⟨qE, qD⟩
 rw [if_pos c3] at H
 have c3b0 : ((l0.length : Int) == (l1.length : Int)) = true := beq_iff_eq.mpr c3
 have c3b1 : ((l0.length : Int) != (l1.length : Int)) = false := bne_eq_false_iff_eq.mpr c3
 have c3b2 : (l0.length == l1.length) = true := by first | simpa using c3 | (simp at c3 ⊢; omega)
 clear c3
 have H' := aM H
 clear H
 go_enter Try.func21, Try.ntmps21
 go_wp2
 repeat (go_quiet (fail); try go_wp2)
 go_loopg [5] k (fun kq v5 w' => ∃ (x5_1 : Int), v5 = .int .i64 x5_1 ∧ Aside0 (laws_eqIntS.l0 kq l0 l1 x5_1 = some r) ∧ Aside0 (kq ≤ k) ∧ Drawn0 w w')
 case atStart => exact ⟨(0), qE, H', ⟨Nat.le_refl _⟩, qD⟩
 case round =>
  clear H'
  try clear c1
  try clear c3
  try clear c3b0
  try clear c3b1
  try clear c3b2
  obtain ⟨x5_1, rfl, HA, HK1, ⟨m1, rfl⟩⟩ := hrel
  cases gk with
  | zero => exact absurd HA.out (by simp [laws_eqIntS.l0])
  | succ k1 =>
   have H := HA.out
   clear HA
   simp only [laws_eqIntS.l0] at H
   by_cases c4 : x5_1 < (l0.length : Int)
   rotate_left
   ·rw [if_neg c4] at H
    have c4b0 : decide (x5_1 < (l0.length : Int)) = false := decide_eq_false c4
    clear c4
    obtain rfl := Option.some.inj H
    go_wp2
    repeat (go_quiet (fail); try go_wp2)
    go_ret
    exact ⟨qE, qD⟩
   rw [if_pos c4] at H
   have c4b0 : decide (x5_1 < (l0.length : Int)) = true := decide_eq_true c4
   clear c4
   replace H := iD H
   obtain ⟨c5b0, H⟩ := H
   replace H := iD H
   obtain ⟨c6b0, H⟩ := H
   by_cases c7 : (rd l0 x5_1) = (rd l1 x5_1)
   rotate_left
   ·rw [if_neg c7] at H
    have c7b0 : ((rd l0 x5_1) == (rd l1 x5_1)) = false := beq_eq_false_iff_ne.mpr c7
    have c7b1 : ((rd l0 x5_1) != (rd l1 x5_1)) = true := bne_iff_ne.mpr c7
    obtain rfl := Option.some.inj H
    obtain ⟨ad170, e170, hx170_0⟩ := Kd.at_int HR0.out x5_1 oD oD
    cases e170
    have p170 := eq_true (oD : 0 ≤ (x5_1 : Int))
    have q170 := eq_true (oD : x5_1 < (l0.length : Int))
    obtain ⟨ad171, e171, hx171_0⟩ := Kd.at_int HR1.out x5_1 oD oD
    cases e171
    have p171 := eq_true (oD : 0 ≤ (x5_1 : Int))
    have q171 := eq_true (oD : x5_1 < (l1.length : Int))
    go_wp2
    repeat (go_quiet (fail); try go_wp2)
    go_ret
    exact ⟨qE, qD⟩
   rw [if_pos c7] at H
   have c7b0 : ((rd l0 x5_1) == (rd l1 x5_1)) = true := beq_iff_eq.mpr c7
   have c7b1 : ((rd l0 x5_1) != (rd l1 x5_1)) = false := bne_eq_false_iff_eq.mpr c7
   clear c7
   have H' := aM H
   clear H
   obtain ⟨ad170, e170, hx170_0⟩ := Kd.at_int HR0.out x5_1 oD oD
   cases e170
   have p170 := eq_true (oD : 0 ≤ (x5_1 : Int))
   have q170 := eq_true (oD : x5_1 < (l0.length : Int))
   obtain ⟨ad171, e171, hx171_0⟩ := Kd.at_int HR1.out x5_1 oD oD
   cases e171
   have p171 := eq_true (oD : 0 ≤ (x5_1 : Int))
   have q171 := eq_true (oD : x5_1 < (l1.length : Int))
   go_wp2
   repeat (go_quiet (fail); try go_wp2)
   go_roundg k1
   case measure => have := HK1.out; omega
   case rel => exact ⟨(wrap64 (x5_1 + 1)), qE, H', ⟨by have := HK1.out; omega⟩, qD⟩
def laws_markIntS.l0 : Nat → List Int → Int → Int → Option (Int × List Int)
 | 0, _, _, _ => none
 | k + 1, x0, x1, x5 => if x5 < (x0.length : Int) then (if 0 ≤ x5 then (laws_markIntS.l0 k (x0.set (x5 : Int).toNat x1) (wrap64 (x1 + 1)) (wrap64 (x5 + 1))) else (none)) else (some (x1, x0))
def laws_markIntS.f (k : Nat) (l0 : List Int) (a1 : Int) : Option (Int × List Int) := laws_markIntS.l0 k l0 a1 0
theorem laws_markIntS.mono_l : ∀ k, (∀ y0 y1 y2, LeO (laws_markIntS.l0 k y0 y1 y2) (laws_markIntS.l0 (k + 1) y0 y1 y2))
 | 0 => fun _ _ _ r h => by simp [laws_markIntS.l0] at h
 | k + 1 => by
  have ih0 := laws_markIntS.mono_l k
  ·intro y0 y1 y2
   unfold laws_markIntS.l0
   repeat' first | (with_reducible first | exact ih0 _ _ _ | exact lR | exact lN | refine lI ?_ ?_ | refine lB ?_ fun _ => ?_) | exact ih0 _ _ _ | exact lN | refine lI ?_ ?_ | refine lB ?_ fun _ => ?_
theorem laws_markIntS.mono : ∀ a0 a1 k, LeO (laws_markIntS.f k a0 a1) (laws_markIntS.f (k + 1) a0 a1) := by
 intro a0 a1 k
 have ih0 := laws_markIntS.mono_l k
 unfold laws_markIntS.f
 repeat' first | (with_reducible first | exact ih0 _ _ _ | exact lR | exact lN | refine lI ?_ ?_ | refine lB ?_ fun _ => ?_) | exact ih0 _ _ _ | exact lN | refine lI ?_ ?_ | refine lB ?_ fun _ => ?_
set_option maxHeartbeats 8000000 in
set_option maxRecDepth 100000 in
theorem laws_markIntS.calls (k : Nat) (P0_ : Nat → Prop) (u9000_ : Value) (l0 : List Int) (a1 : Int) (r1 : Int) (r2 : List Int) (w0 w : World) (hB : Below w0.heap.size w0 w) (ho0 : Kd.R (Kd.int .i64) 3 w w0.heap.size P0_ u9000_ l0) (h : laws_markIntS.f k l0 a1 = some (r1, r2)) :
  Calls Try.prog 25 #[u9000_, .int .i64 a1] w fun e w' => e = .returned (.int .i64 r1) ∧ Kd.R (Kd.int .i64) 3 w' w0.heap.size (fun k_ => (P0_ k_ ∨ w.heap.size ≤ k_)) u9000_ r2 ∧ Below w0.heap.size w0 w' ∧ Kept w w' (fun k_ => P0_ k_) := by
 have HO0 := aM (show Kd.R (Kd.int .i64) 3 w w0.heap.size (fun k_ => (P0_ k_ ∨ w.heap.size ≤ k_)) u9000_ l0 from Kd.R_mono ho0 (fun k_ hk => (.inl hk)))
 have HK := aM (Kept.refl w (fun k_ => P0_ k_))
 have HW0 := aM hB.size
 have HB := aM hB
 clear hB
 unfold laws_markIntS.f at h
 have H := h
 clear h
 have H' := aM H
 clear H
 go_enter Try.func25, Try.ntmps25
 go_wp2
 go_loopg [1, 5] k (fun kq v1 v5 w' => ∃ (x0_1 : List Int) (x1_1 : Int) (x5_1 : Int), v1 = .int .i64 x1_1 ∧ v5 = .int .i64 x5_1 ∧ Aside0 (laws_markIntS.l0 kq x0_1 x1_1 x5_1 = some (r1, r2)) ∧ Aside0 (kq ≤ k) ∧ Aside0 (Kd.R (Kd.int .i64) 3 w' w0.heap.size (fun k_ => (P0_ k_ ∨ w.heap.size ≤ k_)) u9000_ x0_1) ∧ Aside0 (Kept w w' (fun k_ => P0_ k_)) ∧ Aside0 (Below w0.heap.size w0 w'))
 case atStart => exact ⟨(l0), (a1), (0), qE, qE, H', ⟨Nat.le_refl _⟩, ⟨by refine qR ?_; exact HO0.out⟩, ⟨kP HK.out⟩, ⟨by exact qW HB.out⟩⟩
 case round =>
  clear H'
  obtain ⟨x0_1, x1_1, x5_1, rfl, rfl, HA, HK1, HO_0, HK, HB⟩ := hrel
  cases gk with
  | zero => exact absurd HA.out (by simp [laws_markIntS.l0])
  | succ k1 =>
   have H := HA.out
   clear HA
   simp only [laws_markIntS.l0] at H
   by_cases c3 : x5_1 < (x0_1.length : Int)
   rotate_left
   ·rw [if_neg c3] at H
    have c3b0 : decide (x5_1 < (x0_1.length : Int)) = false := decide_eq_false c3
    clear c3
    simp only [Option.some.injEq, Prod.mk.injEq] at H
    obtain ⟨rfl, rfl⟩ := H
    obtain ⟨Ao9, co9, rfl⟩ := sL HO_0
    go_wp2
    go_ret
    exact ⟨qX, by refine qR ?_; exact HO_0.out, by exact qW HB.out, kP HK.out⟩
   rw [if_pos c3] at H
   have c3b0 : decide (x5_1 < (x0_1.length : Int)) = true := decide_eq_true c3
   clear c3
   replace H := iD H
   obtain ⟨c4b0, H⟩ := H
   obtain ⟨y285, hy285⟩ : ∃ y_ : List Int, y_ = (x0_1.set (x5_1 : Int).toNat x1_1) := ⟨_, rfl⟩
   replace H : (laws_markIntS.l0 k1 y285 (wrap64 (x1_1 + 1)) (wrap64 (x5_1 + 1))) = some (r1, r2) := rY hy285 H
   have Ny285 := aM hy285
   clear hy285
   have H' := aM H
   clear H
   obtain ⟨Ao6, co6, rfl⟩ := sL HO_0
   have p5 : 0 ≤ (x5_1 : Int) := oD
   have q5 : (x5_1 : Int) < ((x0_1.length : Int) : Int) := oD
   obtain ⟨go5, co5, eo5, gb5, gl5, cl5, HG5⟩ := Kd.R_form HO_0.out (by omega)
   (first | cases eo5 | (injection eo5 with ea_ en_ ec_; (first | subst ea_ | (injection ea_ with ea_; subst ea_)); subst ec_; clear en_))
   have GB5 := aM gb5
   have GG5 := aM HG5
   clear gb5 gl5 HG5
   have HMgo5 := aM (show (P0_ go5 ∨ w.heap.size ≤ go5) from (HO_0.out.1 _ rfl))
   obtain ⟨hx5_0, hf5_0⟩ := Kd.R_celln 0 HO_0.out (x5_1 : Int) p5 q5
   replace p5 := eq_true p5
   replace q5 := eq_true q5
   have HP7 := Kd.R_putg HO_0.out (x5_1 : Int) x1_1
   go_wp2_with (first | ((with_reducible refine gate_store (t := 3) (p := 15) rfl ?_); refine store_event (t := 3) (p := 15) (v := ?vo_w8) (w1 := (wr.setCell ⟨go5, (x5_1 : Int).toNat, none⟩ (.int .i64 x1_1))) ?hg ?ho ?hn ?hr ?_; (case ho => rfl); (case hg => rfl); (case hn => rfl); (case hr => first | (go_simp; done) | (go_simp; rfl)); intro w8 hw; have hg : wr.grownBy w8 (some go5) := (by rw [hw]; exact HP7.2); have hp_ : Kd.R (Kd.int .i64) 3 w8 w0.heap.size (fun k_ => (P0_ k_ ∨ w.heap.size ≤ k_)) (.slice (some ⟨go5, 0, none⟩) x0_1.length co6) y285 := (by rw [hw, Ny285.out]; exact HP7.1); clear HP7; replace HB := aM ((by rw [hw]; exact below_set (HB.out) GB5.out : Below w0.heap.size w0 w8)); replace HK := aM (Kept.of_grown (S := (fun k_ => P0_ k_)) hg (kP HK.out) (fun k_ e_ => (HO_0.out.1 k_ e_))); replace HO_0 := aM (hp_); clear hg hw hp_))
   go_roundg k1
   case measure => have := HK1.out; omega
   case rel => exact ⟨(y285), (wrap64 (x1_1 + 1)), (wrap64 (x5_1 + 1)), qE, qE, H', ⟨by have := HK1.out; omega⟩, ⟨by refine qR ?_; exact HO_0.out⟩, ⟨kP HK.out⟩, ⟨by exact qW HB.out⟩⟩
def laws_heldIntS.l0 : Nat → List Int → Int → Int → Option (Int)
 | 0, _, _, _ => none
 | k + 1, x0, x1, x5 => if x5 < (x0.length : Int) then (if 0 ≤ x5 then (if (rd x0 x5) = x1 then (laws_heldIntS.l0 k x0 (wrap64 (x1 + 1)) (wrap64 (x5 + 1))) else (some (-1))) else (none)) else (some x1)
def laws_heldIntS.f (k : Nat) (l0 : List Int) (a1 : Int) : Option (Int) := laws_heldIntS.l0 k l0 a1 0
theorem laws_heldIntS.mono_l : ∀ k, (∀ y0 y1 y2, LeO (laws_heldIntS.l0 k y0 y1 y2) (laws_heldIntS.l0 (k + 1) y0 y1 y2))
 | 0 => fun _ _ _ r h => by simp [laws_heldIntS.l0] at h
 | k + 1 => by
  have ih0 := laws_heldIntS.mono_l k
  ·intro y0 y1 y2
   unfold laws_heldIntS.l0
   repeat' first | (with_reducible first | exact ih0 _ _ _ | exact lR | exact lN | refine lI ?_ ?_ | refine lB ?_ fun _ => ?_) | exact ih0 _ _ _ | exact lN | refine lI ?_ ?_ | refine lB ?_ fun _ => ?_
theorem laws_heldIntS.mono : ∀ a0 a1 k, LeO (laws_heldIntS.f k a0 a1) (laws_heldIntS.f (k + 1) a0 a1) := by
 intro a0 a1 k
 have ih0 := laws_heldIntS.mono_l k
 unfold laws_heldIntS.f
 repeat' first | (with_reducible first | exact ih0 _ _ _ | exact lR | exact lN | refine lI ?_ ?_ | refine lB ?_ fun _ => ?_) | exact ih0 _ _ _ | exact lN | refine lI ?_ ?_ | refine lB ?_ fun _ => ?_
set_option maxHeartbeats 8000000 in
set_option maxRecDepth 100000 in
theorem laws_heldIntS.calls (k : Nat) (A0 : Option Addr) (c0 : Nat) (l0 : List Int) (a1 : Int) (r : Int) (w : World) (hr0 : Kd.C (Kd.int .i64) w A0 l0.length l0) (hc0 : l0.length ≤ c0) (h : laws_heldIntS.f k l0 a1 = some r) :
  Calls Try.prog 26 #[.slice A0 l0.length c0, .int .i64 a1] w fun e w' => e = .returned (.int .i64 r) ∧ Drawn0 w w' := by
 have HR0 := aM hr0
 have HC0 := aM hc0
 clear hr0 hc0
 unfold laws_heldIntS.f at h
 have H := h
 clear h
 have H' := aM H
 clear H
 go_enter Try.func26, Try.ntmps26
 go_wp2
 go_loopg [1, 5] k (fun kq v1 v5 w' => ∃ (x1_1 : Int) (x5_1 : Int), v1 = .int .i64 x1_1 ∧ v5 = .int .i64 x5_1 ∧ Aside0 (laws_heldIntS.l0 kq l0 x1_1 x5_1 = some r) ∧ Aside0 (kq ≤ k) ∧ Drawn0 w w')
 case atStart => exact ⟨(a1), (0), qE, qE, H', ⟨Nat.le_refl _⟩, qD⟩
 case round =>
  clear H'
  obtain ⟨x1_1, x5_1, rfl, rfl, HA, HK1, ⟨m1, rfl⟩⟩ := hrel
  cases gk with
  | zero => exact absurd HA.out (by simp [laws_heldIntS.l0])
  | succ k1 =>
   have H := HA.out
   clear HA
   simp only [laws_heldIntS.l0] at H
   by_cases c3 : x5_1 < (l0.length : Int)
   rotate_left
   ·rw [if_neg c3] at H
    have c3b0 : decide (x5_1 < (l0.length : Int)) = false := decide_eq_false c3
    clear c3
    obtain rfl := Option.some.inj H
    go_wp2
    go_ret
    exact ⟨qE, qD⟩
   rw [if_pos c3] at H
   have c3b0 : decide (x5_1 < (l0.length : Int)) = true := decide_eq_true c3
   clear c3
   replace H := iD H
   obtain ⟨c4b0, H⟩ := H
   by_cases c5 : (rd l0 x5_1) = x1_1
   rotate_left
   ·rw [if_neg c5] at H
    have c5b0 : ((rd l0 x5_1) == x1_1) = false := beq_eq_false_iff_ne.mpr c5
    have c5b1 : ((rd l0 x5_1) != x1_1) = true := bne_iff_ne.mpr c5
    obtain rfl := Option.some.inj H
    obtain ⟨ad286, e286, hx286_0⟩ := Kd.at_int HR0.out x5_1 oD oD
    cases e286
    have p286 := eq_true (oD : 0 ≤ (x5_1 : Int))
    have q286 := eq_true (oD : x5_1 < (l0.length : Int))
    go_wp2
    go_ret
    exact ⟨qE, qD⟩
   rw [if_pos c5] at H
   have c5b0 : ((rd l0 x5_1) == x1_1) = true := beq_iff_eq.mpr c5
   have c5b1 : ((rd l0 x5_1) != x1_1) = false := bne_eq_false_iff_eq.mpr c5
   clear c5
   have H' := aM H
   clear H
   obtain ⟨ad286, e286, hx286_0⟩ := Kd.at_int HR0.out x5_1 oD oD
   cases e286
   have p286 := eq_true (oD : 0 ≤ (x5_1 : Int))
   have q286 := eq_true (oD : x5_1 < (l0.length : Int))
   go_wp2
   go_roundg k1
   case measure => have := HK1.out; omega
   case rel => exact ⟨(wrap64 (x1_1 + 1)), (wrap64 (x5_1 + 1)), qE, qE, H', ⟨by have := HK1.out; omega⟩, qD⟩
def laws_equalInts.l0 : Nat → List Int → List Int → Int → Option (Bool)
 | 0, _, _, _ => none
 | k + 1, x0, x1, x5 => if x5 < (x0.length : Int) then (if 0 ≤ x5 then (if x5 < (x1.length : Int) then (if (rd x0 x5) = (rd x1 x5) then (laws_equalInts.l0 k x0 x1 (wrap64 (x5 + 1))) else (some false)) else (none)) else (none)) else (some true)
def laws_equalInts.f (k : Nat) (l0 : List Int) (l1 : List Int) : Option (Bool) := if (l0.length : Int) = (l1.length : Int) then (laws_equalInts.l0 k l0 l1 0) else (some false)
theorem laws_equalInts.mono_l : ∀ k, (∀ y0 y1 y2, LeO (laws_equalInts.l0 k y0 y1 y2) (laws_equalInts.l0 (k + 1) y0 y1 y2))
 | 0 => fun _ _ _ r h => by simp [laws_equalInts.l0] at h
 | k + 1 => by
  have ih0 := laws_equalInts.mono_l k
  ·intro y0 y1 y2
   unfold laws_equalInts.l0
   repeat' first | (with_reducible first | exact ih0 _ _ _ | exact lR | exact lN | refine lI ?_ ?_ | refine lB ?_ fun _ => ?_) | exact ih0 _ _ _ | exact lN | refine lI ?_ ?_ | refine lB ?_ fun _ => ?_
theorem laws_equalInts.mono : ∀ a0 a1 k, LeO (laws_equalInts.f k a0 a1) (laws_equalInts.f (k + 1) a0 a1) := by
 intro a0 a1 k
 have ih0 := laws_equalInts.mono_l k
 unfold laws_equalInts.f
 repeat' first | (with_reducible first | exact ih0 _ _ _ | exact lR | exact lN | refine lI ?_ ?_ | refine lB ?_ fun _ => ?_) | exact ih0 _ _ _ | exact lN | refine lI ?_ ?_ | refine lB ?_ fun _ => ?_
set_option maxHeartbeats 8000000 in
set_option maxRecDepth 100000 in
theorem laws_equalInts.calls (k : Nat) (A0 : Option Addr) (c0 : Nat) (l0 : List Int) (A1 : Option Addr) (c1 : Nat) (l1 : List Int) (r : Bool) (w : World) (hr0 : Kd.C (Kd.int .i64) w A0 l0.length l0) (hc0 : l0.length ≤ c0) (hr1 : Kd.C (Kd.int .i64) w A1 l1.length l1) (hc1 : l1.length ≤ c1) (h : laws_equalInts.f k l0 l1 = some r) :
  Calls Try.prog 28 #[.slice A0 l0.length c0, .slice A1 l1.length c1] w fun e w' => e = .returned (.bool r) ∧ Drawn0 w w' := by
 have HR0 := aM hr0
 have HC0 := aM hc0
 clear hr0 hc0
 have HR1 := aM hr1
 have HC1 := aM hc1
 clear hr1 hc1
 unfold laws_equalInts.f at h
 have H := h
 clear h
 by_cases c3 : (l0.length : Int) = (l1.length : Int)
 rotate_left
 ·rw [if_neg c3] at H
  have c3b0 : ((l0.length : Int) == (l1.length : Int)) = false := beq_eq_false_iff_ne.mpr c3
  have c3b1 : ((l0.length : Int) != (l1.length : Int)) = true := bne_iff_ne.mpr c3
  have c3b2 : (l0.length == l1.length) = false := by first | simpa using c3 | (simp at c3 ⊢; omega)
  obtain rfl := Option.some.inj H
  go_enter Try.func28, Try.ntmps28
  go_wp2
  repeat (go_quiet (fail); try go_wp2)
  go_ret
  exact ⟨qE, qD⟩
 rw [if_pos c3] at H
 have c3b0 : ((l0.length : Int) == (l1.length : Int)) = true := beq_iff_eq.mpr c3
 have c3b1 : ((l0.length : Int) != (l1.length : Int)) = false := bne_eq_false_iff_eq.mpr c3
 have c3b2 : (l0.length == l1.length) = true := by first | simpa using c3 | (simp at c3 ⊢; omega)
 clear c3
 have H' := aM H
 clear H
 go_enter Try.func28, Try.ntmps28
 go_wp2
 repeat (go_quiet (fail); try go_wp2)
 go_loopg [5] k (fun kq v5 w' => ∃ (x5_1 : Int), v5 = .int .i64 x5_1 ∧ Aside0 (laws_equalInts.l0 kq l0 l1 x5_1 = some r) ∧ Aside0 (kq ≤ k) ∧ Drawn0 w w')
 case atStart => exact ⟨(0), qE, H', ⟨Nat.le_refl _⟩, qD⟩
 case round =>
  clear H'
  try clear c1
  try clear c3
  try clear c3b0
  try clear c3b1
  try clear c3b2
  obtain ⟨x5_1, rfl, HA, HK1, ⟨m1, rfl⟩⟩ := hrel
  cases gk with
  | zero => exact absurd HA.out (by simp [laws_equalInts.l0])
  | succ k1 =>
   have H := HA.out
   clear HA
   simp only [laws_equalInts.l0] at H
   by_cases c4 : x5_1 < (l0.length : Int)
   rotate_left
   ·rw [if_neg c4] at H
    have c4b0 : decide (x5_1 < (l0.length : Int)) = false := decide_eq_false c4
    clear c4
    obtain rfl := Option.some.inj H
    go_wp2
    repeat (go_quiet (fail); try go_wp2)
    go_ret
    exact ⟨qE, qD⟩
   rw [if_pos c4] at H
   have c4b0 : decide (x5_1 < (l0.length : Int)) = true := decide_eq_true c4
   clear c4
   replace H := iD H
   obtain ⟨c5b0, H⟩ := H
   replace H := iD H
   obtain ⟨c6b0, H⟩ := H
   by_cases c7 : (rd l0 x5_1) = (rd l1 x5_1)
   rotate_left
   ·rw [if_neg c7] at H
    have c7b0 : ((rd l0 x5_1) == (rd l1 x5_1)) = false := beq_eq_false_iff_ne.mpr c7
    have c7b1 : ((rd l0 x5_1) != (rd l1 x5_1)) = true := bne_iff_ne.mpr c7
    obtain rfl := Option.some.inj H
    obtain ⟨ad337, e337, hx337_0⟩ := Kd.at_int HR0.out x5_1 oD oD
    cases e337
    have p337 := eq_true (oD : 0 ≤ (x5_1 : Int))
    have q337 := eq_true (oD : x5_1 < (l0.length : Int))
    obtain ⟨ad338, e338, hx338_0⟩ := Kd.at_int HR1.out x5_1 oD oD
    cases e338
    have p338 := eq_true (oD : 0 ≤ (x5_1 : Int))
    have q338 := eq_true (oD : x5_1 < (l1.length : Int))
    go_wp2
    repeat (go_quiet (fail); try go_wp2)
    go_ret
    exact ⟨qE, qD⟩
   rw [if_pos c7] at H
   have c7b0 : ((rd l0 x5_1) == (rd l1 x5_1)) = true := beq_iff_eq.mpr c7
   have c7b1 : ((rd l0 x5_1) != (rd l1 x5_1)) = false := bne_eq_false_iff_eq.mpr c7
   clear c7
   have H' := aM H
   clear H
   obtain ⟨ad337, e337, hx337_0⟩ := Kd.at_int HR0.out x5_1 oD oD
   cases e337
   have p337 := eq_true (oD : 0 ≤ (x5_1 : Int))
   have q337 := eq_true (oD : x5_1 < (l0.length : Int))
   obtain ⟨ad338, e338, hx338_0⟩ := Kd.at_int HR1.out x5_1 oD oD
   cases e338
   have p338 := eq_true (oD : 0 ≤ (x5_1 : Int))
   have q338 := eq_true (oD : x5_1 < (l1.length : Int))
   go_wp2
   repeat (go_quiet (fail); try go_wp2)
   go_roundg k1
   case measure => have := HK1.out; omega
   case rel => exact ⟨(wrap64 (x5_1 + 1)), qE, H', ⟨by have := HK1.out; omega⟩, qD⟩
def spec_newImage.f (a0 : Int) (a1 : Int) (a2 : Int) : Option (Int × Int × Int × List Int) := if 0 ≤ (wrap64 ((wrap64 (a0 * a1)) * a2)) then (if (wrap64 ((wrap64 (a0 * a1)) * a2) : Int).toNat ≤ 35184372088832 then (some (a0, a1, a2, (List.replicate (wrap64 ((wrap64 (a0 * a1)) * a2) : Int).toNat 0))) else (none)) else (none)
set_option maxHeartbeats 8000000 in
set_option maxRecDepth 100000 in
theorem spec_newImage.calls (a0 : Int) (a1 : Int) (a2 : Int) (r1 : Int) (r2 : Int) (r3 : Int) (r4 : List Int) (w : World) (h : spec_newImage.f a0 a1 a2 = some (r1, r2, r3, r4)) :
  Calls Try.prog 77 #[.int .i64 a0, .int .i64 a1, .int .i64 a2] w fun e w' => ∃ v3_ : Value, e = .returned (.agg #[.int .i64 r1, .int .i64 r2, .int .i64 r3, v3_]) ∧ Kd.R (Kd.int .i64) 3 w' w.heap.size (fun _ => True) v3_ r4 ∧ Below w.heap.size w w' := by
 have hu48 := Try.underlying48
 have HB := aM (Below.refl w.heap.size w)
 unfold spec_newImage.f at h
 have H := h
 clear h
 obtain ⟨ji4, hji4⟩ : ∃ j_ : Int, (wrap64 ((wrap64 (a0 * a1)) * a2)) = j_ := ⟨_, rfl⟩
 replace H : (if 0 ≤ (ji4) then (if (ji4 : Int).toNat ≤ 35184372088832 then (some (a0, a1, a2, (List.replicate (ji4 : Int).toNat 0))) else (none)) else (none)) = some (r1, r2, r3, r4) := by first | (rw [hji4] at H; exact H) | (simp only [hji4] at H ⊢; exact H)
 have hji4w : (IntKind.i64.wrap ((wrap64 (a0 * a1)) * a2)) = ji4 := (i64_w _).trans hji4
 replace H := iS H
 obtain ⟨c5, H⟩ := H
 have c5b0 := eq_true c5
 have c5b1 : decide (0 ≤ (ji4)) = true := decide_eq_true c5
 clear c5
 replace H := iS H
 obtain ⟨c6, H⟩ := H
 have c6b0 := eq_true c6
 have c6b1 : decide ((ji4 : Int).toNat ≤ 35184372088832) = true := decide_eq_true c6
 clear c6
 obtain ⟨y631, hy631⟩ : ∃ y_ : List Int, y_ = (List.replicate (ji4 : Int).toNat 0) := ⟨_, rfl⟩
 replace H : (some (a0, a1, a2, y631)) = some (r1, r2, r3, r4) := rY hy631 H
 have Ny631 := aM hy631
 clear hy631
 simp only [Option.some.injEq, Prod.mk.injEq] at H
 obtain ⟨rfl, rfl, rfl, rfl⟩ := H
 go_enter Try.func77, Try.ntmps77
 go_wp2_with (first | ((with_reducible refine gate_dst (N := 6) rfl ?_); refine bxE (N := 6) (cs := #[.int .i64 0, .int .i64 0, .int .i64 0, .slice none 0 0]) (t := 48) ?_; intro gb630 hg w7 hbox hb; have BK630 := aM (hbox); have GW630 := gW hg HB; have GE630 := gW hg HB; replace HB := bS HB hb; clear hb hbox hg) | ((with_reducible refine gate_dst (N := 15) rfl ?_); refine Kd.R_make (Kd.int .i64) _ 3 rfl (N := 15) rfl 28 _ _ rfl ji4 rfl rfl Try.underlying28 (.int .i64 0) 8 info3 rfl (by decide) (by omega) 0 (ok := fun _ => True) (okp := fun _ => True) rfl (fun _ hk => hk) trivial oD (Nat.le_trans (Nat.mul_le_mul_right _ (oD : ji4.toNat ≤ 35184372088832)) (by omega)) (Below.refl _ _) (Nat.le_refl _) ?_; intro v632 w8 ho9 hb hg_ hnew_; clear hg_ hnew_; (first | rw [← Ny631.out] at ho9 | (simp only [Int.reduceToNat] at ho9; rw [← Ny631.out] at ho9)); have HO633 := oR ho9 HB; replace BK630 := bB BK630 hb; replace HB := bS HB hb; clear hb ho9; obtain ⟨Ao10, co10, rfl⟩ := sL HO633; obtain ⟨⟨hcz11_0, hcz11_1, hcz11_2, hcz11_3⟩, hfz11_0, hfz11_1, hfz11_2, hfz11_3⟩ := cf4 BK630))
 refine bodyPost_ret (results_cell_row rfl _ _ gb630 48 #[.int .i64 a0, .int .i64 a1, .int .i64 a2, .slice Ao10 y631.length co10] (0, 0) _ rfl (by exact bP BK630.out) Try.underlying48 rfl (by kernel_rfl)) rfl ?_
 exact ⟨_, by first | rfl | (simp [errW_none, errW_some] <;> rfl) | (simp only [← hji4]; first | rfl | (simp [errW_none, errW_some] <;> rfl)) | (simp [*, errW_none, errW_some] <;> rfl), by refine qR ?_; exact Kd.R_mono (rT HO633 BK630) (fun _ hk => trivial), by exact qW HB.out⟩
def impl_isSide.f (a0 : Int) : Option (Bool) := if a0 ≥ 1 then (some (decide (a0 ≤ 16))) else (some false)
set_option maxHeartbeats 8000000 in
set_option maxRecDepth 100000 in
theorem impl_isSide.calls (a0 : Int) (r : Bool) (w : World) (h : impl_isSide.f a0 = some r) :
  Calls Try.prog 75 #[.int .i64 a0] w fun e w' => e = .returned (.bool r) ∧ Drawn0 w w' := by
 unfold impl_isSide.f at h
 have H := h
 clear h
 by_cases c2 : a0 ≥ 1
 ·rw [if_pos c2] at H
  have c2b0 : decide (1 ≤ a0) = true := decide_eq_true c2
  clear c2
  obtain rfl := Option.some.inj H
  go_enter Try.func75, Try.ntmps75
  go_wp2
  go_ret
  exact ⟨qE, qD⟩
 rw [if_neg c2] at H
 have c2b0 : decide (1 ≤ a0) = false := decide_eq_false c2
 clear c2
 obtain rfl := Option.some.inj H
 go_enter Try.func75, Try.ntmps75
 go_wp2
 go_ret
 exact ⟨qE, qD⟩
def impl_isShape.f (a0 : Int) (a1 : Int) (a2 : Int) : Option (Bool) := (impl_isSide.f a0).bind fun t646 => (if t646 = true then ((impl_isSide.f a1).bind fun t647 => (if t647 = true then (if a2 ≥ 1 then (some (decide (a2 ≤ 4))) else (some false)) else (some false))) else (some false))
set_option maxHeartbeats 8000000 in
set_option maxRecDepth 100000 in
theorem impl_isShape.calls (a0 : Int) (a1 : Int) (a2 : Int) (r : Bool) (w : World) (h : impl_isShape.f a0 a1 a2 = some r) :
  Calls Try.prog 91 #[.int .i64 a0, .int .i64 a1, .int .i64 a2] w fun e w' => e = .returned (.bool r) ∧ Drawn0 w w' := by
 unfold impl_isShape.f at h
 have H := h
 clear h
 replace H := Option.bind_eq_some_iff.mp H
 obtain ⟨t646, A40, H⟩ := H
 replace H : (if t646 = true then ((impl_isSide.f a1).bind fun t647 => (if t647 = true then (if a2 ≥ 1 then (some (decide (a2 ≤ 4))) else (some false)) else (some false))) else (some false)) = some r := H
 have A4 := aM A40
 clear A40
 by_cases c5 : t646 = true
 rotate_left
 ·replace c5 := Bool.eq_false_iff.mpr c5
  subst c5
  have H1 : (some false) = some r := by rw [if_neg (show ¬ (false = true) by decide)] at H; exact H
  clear H
  have H := H1
  clear H1
  obtain rfl := Option.some.inj H
  go_enter Try.func91, Try.ntmps91
  go_wp2_with (first | ((with_reducible refine gate_callee (f := 75) rfl ?_); refine gL (some 8) Try.func75 #[.int .i64 a0] ?_; (with_reducible refine (impl_isSide.calls a0 false _ A4.out).mono ?_); rintro e w' ⟨rfl, ⟨nd, rfl⟩⟩; refine ⟨_, rfl, ?_⟩))
  go_ret
  exact ⟨qE, qD⟩
 subst c5
 have H1 : ((impl_isSide.f a1).bind fun t647 => (if t647 = true then (if a2 ≥ 1 then (some (decide (a2 ≤ 4))) else (some false)) else (some false))) = some r := by rw [if_pos rfl] at H; exact H
 clear H
 have H := H1
 clear H1
 replace H := Option.bind_eq_some_iff.mp H
 obtain ⟨t647, A60, H⟩ := H
 replace H : (if t647 = true then (if a2 ≥ 1 then (some (decide (a2 ≤ 4))) else (some false)) else (some false)) = some r := H
 have A6 := aM A60
 clear A60
 by_cases c7 : t647 = true
 rotate_left
 ·replace c7 := Bool.eq_false_iff.mpr c7
  subst c7
  have H1 : (some false) = some r := by rw [if_neg (show ¬ (false = true) by decide)] at H; exact H
  clear H
  have H := H1
  clear H1
  obtain rfl := Option.some.inj H
  go_enter Try.func91, Try.ntmps91
  go_wp2_with (first | ((with_reducible refine gate_callee (f := 75) rfl ?_); refine gL (some 8) Try.func75 #[.int .i64 a0] ?_; (with_reducible refine (impl_isSide.calls a0 true _ A4.out).mono ?_); rintro e w' ⟨rfl, ⟨nd, rfl⟩⟩; refine ⟨_, rfl, ?_⟩) | (go_at_call 75; (with_reducible refine (impl_isSide.calls a1 false _ A6.out).mono ?_); rintro e w' ⟨rfl, ⟨nd, rfl⟩⟩))
  go_ret
  exact ⟨qE, qD⟩
 subst c7
 have H1 : (if a2 ≥ 1 then (some (decide (a2 ≤ 4))) else (some false)) = some r := by rw [if_pos rfl] at H; exact H
 clear H
 have H := H1
 clear H1
 by_cases c8 : a2 ≥ 1
 ·rw [if_pos c8] at H
  have c8b0 : decide (1 ≤ a2) = true := decide_eq_true c8
  clear c8
  obtain rfl := Option.some.inj H
  go_enter Try.func91, Try.ntmps91
  go_wp2_with (first | ((with_reducible refine gate_callee (f := 75) rfl ?_); refine gL (some 8) Try.func75 #[.int .i64 a0] ?_; (with_reducible refine (impl_isSide.calls a0 true _ A4.out).mono ?_); rintro e w' ⟨rfl, ⟨nd, rfl⟩⟩; refine ⟨_, rfl, ?_⟩) | (go_at_call 75; (with_reducible refine (impl_isSide.calls a1 true _ A6.out).mono ?_); rintro e w' ⟨rfl, ⟨nd, rfl⟩⟩))
  go_ret
  exact ⟨qE, qD⟩
 rw [if_neg c8] at H
 have c8b0 : decide (1 ≤ a2) = false := decide_eq_false c8
 clear c8
 obtain rfl := Option.some.inj H
 go_enter Try.func91, Try.ntmps91
 go_wp2_with (first | ((with_reducible refine gate_callee (f := 75) rfl ?_); refine gL (some 8) Try.func75 #[.int .i64 a0] ?_; (with_reducible refine (impl_isSide.calls a0 true _ A4.out).mono ?_); rintro e w' ⟨rfl, ⟨nd, rfl⟩⟩; refine ⟨_, rfl, ?_⟩) | (go_at_call 75; (with_reducible refine (impl_isSide.calls a1 true _ A6.out).mono ?_); rintro e w' ⟨rfl, ⟨nd, rfl⟩⟩))
 go_ret
 exact ⟨qE, qD⟩
def impl_isImage.f (a0_0 : Int) (a0_1 : Int) (a0_2 : Int) (l0_3 : List Int) : Option (Bool) := (impl_isShape.f a0_0 a0_1 a0_2).bind fun t649 => (if t649 = true then (if (l0_3.length : Int) = (wrap64 ((wrap64 (a0_0 * a0_1)) * a0_2)) then ((impl_areBytes.f l0_3).bind fun t650 => (some t650)) else (some false)) else (some false))
set_option maxHeartbeats 8000000 in
set_option maxRecDepth 100000 in
theorem impl_isImage.calls (a0_0 : Int) (a0_1 : Int) (a0_2 : Int) (A0_3 : Option Addr) (c0_3 : Nat) (l0_3 : List Int) (r : Bool) (w : World) (hr0_3 : Kd.C (Kd.int .i64) w A0_3 l0_3.length l0_3) (hc0_3 : l0_3.length ≤ c0_3) (h : impl_isImage.f a0_0 a0_1 a0_2 l0_3 = some r) :
  Calls Try.prog 78 #[.agg #[.int .i64 a0_0, .int .i64 a0_1, .int .i64 a0_2, .slice A0_3 l0_3.length c0_3]] w fun e w' => e = .returned (.bool r) ∧ Below w.heap.size w w' := by
 have hu48 := Try.underlying48
 have HR0_3 := aM hr0_3
 have HC0_3 := aM hc0_3
 clear hr0_3 hc0_3
 have HB := aM (Below.refl w.heap.size w)
 unfold impl_isImage.f at h
 have H := h
 clear h
 replace H := Option.bind_eq_some_iff.mp H
 obtain ⟨t649, A20, H⟩ := H
 replace H : (if t649 = true then (if (l0_3.length : Int) = (wrap64 ((wrap64 (a0_0 * a0_1)) * a0_2)) then ((impl_areBytes.f l0_3).bind fun t650 => (some t650)) else (some false)) else (some false)) = some r := H
 have A2 := aM A20
 clear A20
 by_cases c3 : t649 = true
 rotate_left
 ·replace c3 := Bool.eq_false_iff.mpr c3
  subst c3
  have H1 : (some false) = some r := by rw [if_neg (show ¬ (false = true) by decide)] at H; exact H
  clear H
  have H := H1
  clear H1
  obtain rfl := Option.some.inj H
  go_enter Try.func78, Try.ntmps78
  go_wp2_with (first | ((with_reducible refine gate_dst (N := 1) rfl ?_); (try (refine gate_guard (by rfl) ?_; dsimp only)); refine bxE (N := 1) (cs := #[.int .i64 a0_0, .int .i64 a0_1, .int .i64 a0_2, .slice A0_3 l0_3.length c0_3]) (t := 48) ?_; intro gb648 hg w10 hbox hb; have BK648 := aM (hbox); have GW648 := gW hg HB; have GE648 := gW hg HB; replace HB := bS HB hb; clear hb hbox hg; obtain ⟨⟨hcz11_0, hcz11_1, hcz11_2, hcz11_3⟩, hfz11_0, hfz11_1, hfz11_2, hfz11_3⟩ := cf4 BK648) | ((with_reducible refine gate_callee (f := 91) rfl ?_); refine gL (some 9) Try.func91 #[.int .i64 a0_0, .int .i64 a0_1, .int .i64 a0_2] ?_; (with_reducible refine (impl_isShape.calls a0_0 a0_1 a0_2 false _ A2.out).mono ?_); rintro e w' ⟨rfl, ⟨nd, rfl⟩⟩; refine ⟨_, rfl, ?_⟩))
  go_ret
  exact ⟨qX, by exact qW HB.out⟩
 subst c3
 have H1 : (if (l0_3.length : Int) = (wrap64 ((wrap64 (a0_0 * a0_1)) * a0_2)) then ((impl_areBytes.f l0_3).bind fun t650 => (some t650)) else (some false)) = some r := by rw [if_pos rfl] at H; exact H
 clear H
 have H := H1
 clear H1
 by_cases c4 : (l0_3.length : Int) = (wrap64 ((wrap64 (a0_0 * a0_1)) * a0_2))
 rotate_left
 ·rw [if_neg c4] at H
  have c4b0 : ((l0_3.length : Int) == (wrap64 ((wrap64 (a0_0 * a0_1)) * a0_2))) = false := beq_eq_false_iff_ne.mpr c4
  have c4b1 : ((l0_3.length : Int) != (wrap64 ((wrap64 (a0_0 * a0_1)) * a0_2))) = true := bne_iff_ne.mpr c4
  obtain rfl := Option.some.inj H
  go_enter Try.func78, Try.ntmps78
  go_wp2_with (first | ((with_reducible refine gate_dst (N := 1) rfl ?_); (try (refine gate_guard (by rfl) ?_; dsimp only)); refine bxE (N := 1) (cs := #[.int .i64 a0_0, .int .i64 a0_1, .int .i64 a0_2, .slice A0_3 l0_3.length c0_3]) (t := 48) ?_; intro gb648 hg w8 hbox hb; have BK648 := aM (hbox); have GW648 := gW hg HB; have GE648 := gW hg HB; replace HB := bS HB hb; clear hb hbox hg; obtain ⟨⟨hcz9_0, hcz9_1, hcz9_2, hcz9_3⟩, hfz9_0, hfz9_1, hfz9_2, hfz9_3⟩ := cf4 BK648) | ((with_reducible refine gate_callee (f := 91) rfl ?_); refine gL (some 9) Try.func91 #[.int .i64 a0_0, .int .i64 a0_1, .int .i64 a0_2] ?_; (with_reducible refine (impl_isShape.calls a0_0 a0_1 a0_2 true _ A2.out).mono ?_); rintro e w' ⟨rfl, ⟨nd, rfl⟩⟩; refine ⟨_, rfl, ?_⟩))
  go_ret
  exact ⟨qX, by exact qW HB.out⟩
 rw [if_pos c4] at H
 have c4b0 : ((l0_3.length : Int) == (wrap64 ((wrap64 (a0_0 * a0_1)) * a0_2))) = true := beq_iff_eq.mpr c4
 have c4b1 : ((l0_3.length : Int) != (wrap64 ((wrap64 (a0_0 * a0_1)) * a0_2))) = false := bne_eq_false_iff_eq.mpr c4
 clear c4
 replace H := Option.bind_eq_some_iff.mp H
 obtain ⟨t650, A50, H⟩ := H
 replace H : (some t650) = some r := H
 have A5 := aM A50
 clear A50
 obtain rfl := Option.some.inj H
 go_enter Try.func78, Try.ntmps78
 go_wp2_with (first | ((with_reducible refine gate_dst (N := 1) rfl ?_); (try (refine gate_guard (by rfl) ?_; dsimp only)); refine bxE (N := 1) (cs := #[.int .i64 a0_0, .int .i64 a0_1, .int .i64 a0_2, .slice A0_3 l0_3.length c0_3]) (t := 48) ?_; intro gb648 hg w6 hbox hb; have BK648 := aM (hbox); have GW648 := gW hg HB; have GE648 := gW hg HB; replace HB := bS HB hb; clear hb hbox hg; obtain ⟨⟨hcz7_0, hcz7_1, hcz7_2, hcz7_3⟩, hfz7_0, hfz7_1, hfz7_2, hfz7_3⟩ := cf4 BK648) | ((with_reducible refine gate_callee (f := 91) rfl ?_); refine gL (some 9) Try.func91 #[.int .i64 a0_0, .int .i64 a0_1, .int .i64 a0_2] ?_; (with_reducible refine (impl_isShape.calls a0_0 a0_1 a0_2 true _ A2.out).mono ?_); rintro e w' ⟨rfl, ⟨nd, rfl⟩⟩; refine ⟨_, rfl, ?_⟩) | (go_at_call 61; (with_reducible refine (impl_areBytes.calls _ _ l0_3 t650 _ ?side1 ?side2 A5.out).mono ?_); (case side1 => exact qC (Kd.C_below HR0_3.out (qW HB.out))); (case side2 => exact HC0_3.out); rintro e w' ⟨rfl, ⟨nd, rfl⟩⟩))
 go_ret
 exact ⟨qX, by exact qW HB.out⟩
def ImgOk (a0 a1 a2 : Int) (l : List Int) : Prop := (1 ≤ a0 ∧ a0 ≤ 16) ∧ (1 ≤ a1 ∧ a1 ≤ 16) ∧ (1 ≤ a2 ∧ a2 ≤ 4) ∧ (l.length : Int) = a0 * a1 * a2 ∧ ∀ x ∈ l, 0 ≤ x ∧ x ≤ 255
theorem img_bounds {a0 a1 a2 : Int} (h0 : 1 ≤ a0 ∧ a0 ≤ 16) (h1 : 1 ≤ a1 ∧ a1 ≤ 16) (h2 : 1 ≤ a2 ∧ a2 ≤ 4) : 1 ≤ a0 * a1 ∧ a0 * a1 ≤ 256 ∧ 1 ≤ a0 * a1 * a2 ∧ a0 * a1 * a2 ≤ 1024 := by
 have p1 : 1 * 1 ≤ a0 * a1 := Int.mul_le_mul h0.1 h1.1 (by omega) (by omega)
 have p2 : a0 * a1 ≤ 16 * 16 := Int.mul_le_mul h0.2 h1.2 (by omega) (by omega)
 have p3 : 1 * 1 ≤ a0 * a1 * a2 := Int.mul_le_mul (by omega) h2.1 (by omega) (by omega)
 have p4 : a0 * a1 * a2 ≤ 256 * 4 := Int.mul_le_mul (by omega) h2.2 (by omega) (by omega)
 omega
theorem isSide_some (a : Int) : impl_isSide.f a = some (decide (1 ≤ a ∧ a ≤ 16)) := by
 unfold impl_isSide.f
 split
 ·rename_i h; simp [show 1 ≤ a from h]
 rename_i h; simp [show ¬ 1 ≤ a from h]
theorem isShape_some (a b c : Int) : impl_isShape.f a b c = some (decide ((1 ≤ a ∧ a ≤ 16) ∧ (1 ≤ b ∧ b ≤ 16) ∧ (1 ≤ c ∧ c ≤ 4))) := by
 unfold impl_isShape.f
 rw [isSide_some, isSide_some]
 simp only [Option.bind_some, decide_eq_true_eq]
 by_cases h1 : 1 ≤ a ∧ a ≤ 16 <;> by_cases h2 : 1 ≤ b ∧ b ≤ 16 <;> by_cases h3 : 1 ≤ c
 rotate_left
 ·rw [if_pos h1, if_pos h2, if_neg h3]; simp [h1, h2, h3]
 ·rw [if_pos h1, if_neg h2]; simp [h1, h2]
 ·rw [if_pos h1, if_neg h2]; simp [h1, h2]
 ·rw [if_neg h1]; simp [h1]
 ·rw [if_neg h1]; simp [h1]
 ·rw [if_neg h1]; simp [h1]
 ·rw [if_neg h1]; simp [h1]
 rw [if_pos h1, if_pos h2, if_pos h3]; simp [h1, h2, h3]
theorem wrap_small {x : Int} (h0 : -9223372036854775808 ≤ x) (h1 : x ≤ 9223372036854775807) : wrap64 x = x := by
 unfold wrap64
 omega
theorem any_bytes (l : List Int) : (!(l.any fun n => decide (n < 0) || decide (255 < n))) = true ↔ ∀ x ∈ l, 0 ≤ x ∧ x ≤ 255 := by
 simp only [Bool.not_eq_true', List.any_eq_false, Bool.or_eq_true, decide_eq_true_eq, not_or, Int.not_lt]
theorem isImage_some (a b c : Int) (l : List Int) : ∃ r, impl_isImage.f a b c l = some r ∧ (r = true ↔ ImgOk a b c l) := by
 unfold impl_isImage.f
 rw [isShape_some]
 simp only [Option.bind_some, decide_eq_true_eq]
 by_cases h : (1 ≤ a ∧ a ≤ 16) ∧ (1 ≤ b ∧ b ≤ 16) ∧ (1 ≤ c ∧ c ≤ 4)
 rotate_left
 ·rw [if_neg h]
  exact ⟨_, rfl, by simp, fun e => absurd ⟨e.1, e.2.1, e.2.2.1⟩ h⟩
 rw [if_pos h]
 have hb := img_bounds h.1 h.2.1 h.2.2
 rw [wrap_small (x := a * b) (by omega) (by omega), wrap_small (x := a * b * c) (by omega) (by omega)]
 by_cases hl : (l.length : Int) = a * b * c
 rotate_left
 ·rw [if_neg hl]
  exact ⟨_, rfl, by simp, fun e => absurd e.2.2.2.1 hl⟩
 rw [if_pos hl]
 unfold impl_areBytes.f
 simp only [Option.bind_some]
 exact ⟨_, rfl, (any_bytes l).trans ⟨fun e => ⟨h.1, h.2.1, h.2.2, hl, e⟩, fun e => e.2.2.2.2⟩⟩
theorem isImage_true {a b c : Int} {l : List Int} (h : impl_isImage.f a b c l = some true) : ImgOk a b c l := by
 obtain ⟨r, hr, hi⟩ := isImage_some a b c l
 rw [h] at hr
 exact hi.1 (Option.some.inj hr).symm
theorem pix_fits {a0 a1 a2 x y : Int} (h1 : 0 ≤ a0) (h2 : 0 ≤ a2) (hx : x < a0) (hy0 : 0 ≤ y) (hy : y < a1) : (y * a0 + x) * a2 + a2 ≤ a0 * a1 * a2 := by
 have e1 : y * a0 + x + 1 ≤ a0 * a1 := by
  have : (y + 1) * a0 ≤ a1 * a0 := Int.mul_le_mul_of_nonneg_right (by omega) h1
  rw [Int.add_mul, Int.one_mul] at this
  rw [Int.mul_comm a0 a1]
  omega
 have e2 : (y * a0 + x + 1) * a2 ≤ a0 * a1 * a2 := Int.mul_le_mul_of_nonneg_right e1 h2
 rw [Int.add_mul, Int.one_mul] at e2
 exact e2
theorem scaled {x a n : Int} (hx : 0 ≤ x) (hx' : x < n) (ha : 0 ≤ a) (ha' : a ≤ 16) (hn : n ≤ 16) : 0 ≤ x * a ∧ x * a ≤ 256 ∧ 0 ≤ x * a / n ∧ (1 ≤ a → x * a / n < a) ∧ x * a / n ≤ 256 := by
 have p1 : 0 ≤ x * a := Int.mul_nonneg hx ha
 have p2 : x * a ≤ 16 * 16 := Int.mul_le_mul (by omega) ha' ha (by omega)
 refine ⟨p1, by omega, Int.ediv_nonneg p1 (by omega), fun h1 => ?_, ?_⟩
 rotate_left
 ·exact Int.le_trans (Int.ediv_le_self _ p1) (by omega)
 refine Int.ediv_lt_of_lt_mul (by omega) ?_
 rw [Int.mul_comm a n]
 exact Int.mul_lt_mul_of_pos_right hx' (by omega)
theorem isSide_true {a : Int} (h : impl_isSide.f a = some true) : 1 ≤ a ∧ a ≤ 16 := by
 rw [isSide_some] at h
 exact of_decide_eq_true (Option.some.inj h)
mutual
def impl_FillImage.j0 : Nat → Int → Int → List Int → Bool → Int → Int → Int → Option (Int × Int × Int × List Int)
 | 0, _, _, _, _, _, _, _ => none
 | k + 1, x0, x1, x2, x35, x618000, x618001, x618002 => if x35 = true then (some (0, 0, 0, ([] : List Int))) else (impl_FillImage.l0 k x2 (wrap64 (x0 * x1)) 0 x618000 x618001 x618002 ([] : List Int))
def impl_FillImage.l0 : Nat → List Int → Int → Int → Int → Int → Int → List Int → Option (Int × Int × Int × List Int)
 | 0, _, _, _, _, _, _, _ => none
 | k + 1, x2, x39, x40, x618000, x618001, x618002, x618003 => if x40 < x39 then (if x618003.length + x2.length < 17592186044416 then (impl_FillImage.l0 k x2 x39 (wrap64 (x40 + 1)) x618000 x618001 x618002 (x618003 ++ x2)) else (none)) else (some (x618000, x618001, x618002, x618003))
end
def impl_FillImage.f (k : Nat) (a0 : Int) (a1 : Int) (l2 : List Int) : Option (Int × Int × Int × List Int) := (impl_isSide.f a0).bind fun t618 => (if t618 = true then ((impl_isSide.f a1).bind fun t619 => (if t619 = true then (if (l2.length : Int) < 1 then (impl_FillImage.j0 k a0 a1 l2 true a0 a1 (l2.length : Int)) else (if (l2.length : Int) > 4 then (impl_FillImage.j0 k a0 a1 l2 true a0 a1 (l2.length : Int)) else ((impl_areBytes.f l2).bind fun t620 => (impl_FillImage.j0 k a0 a1 l2 (!t620) a0 a1 (l2.length : Int))))) else (impl_FillImage.j0 k a0 a1 l2 true a0 a1 (l2.length : Int)))) else (impl_FillImage.j0 k a0 a1 l2 true a0 a1 (l2.length : Int)))
theorem impl_FillImage.mono_l : ∀ k, (∀ y0 y1 y2 y3 y4 y5 y6, LeO (impl_FillImage.j0 k y0 y1 y2 y3 y4 y5 y6) (impl_FillImage.j0 (k + 1) y0 y1 y2 y3 y4 y5 y6)) ∧ (∀ y0 y1 y2 y3 y4 y5 y6, LeO (impl_FillImage.l0 k y0 y1 y2 y3 y4 y5 y6) (impl_FillImage.l0 (k + 1) y0 y1 y2 y3 y4 y5 y6))
 | 0 => ⟨fun _ _ _ _ _ _ _ r h => by simp [impl_FillImage.j0] at h, fun _ _ _ _ _ _ _ r h => by simp [impl_FillImage.l0] at h⟩
 | k + 1 => by
  obtain ⟨ih0, ih1⟩ := impl_FillImage.mono_l k
  refine ⟨?_, ?_⟩
  all_goals intros
  all_goals first | unfold impl_FillImage.j0 | unfold impl_FillImage.l0
  all_goals repeat' first | (with_reducible first | exact ih0 _ _ _ _ _ _ _ | exact ih1 _ _ _ _ _ _ _ | exact lR | exact lN | refine lI ?_ ?_ | refine lB ?_ fun _ => ?_) | exact ih0 _ _ _ _ _ _ _ | exact ih1 _ _ _ _ _ _ _ | exact lN | refine lI ?_ ?_ | refine lB ?_ fun _ => ?_
theorem impl_FillImage.mono : ∀ a0 a1 a2 k, LeO (impl_FillImage.f k a0 a1 a2) (impl_FillImage.f (k + 1) a0 a1 a2) := by
 intro a0 a1 a2 k
 obtain ⟨ih0, ih1⟩ := impl_FillImage.mono_l k
 unfold impl_FillImage.f
 repeat' first | (with_reducible first | exact ih0 _ _ _ _ _ _ _ | exact ih1 _ _ _ _ _ _ _ | exact lR | exact lN | refine lI ?_ ?_ | refine lB ?_ fun _ => ?_) | exact ih0 _ _ _ _ _ _ _ | exact ih1 _ _ _ _ _ _ _ | exact lN | refine lI ?_ ?_ | refine lB ?_ fun _ => ?_
set_option maxHeartbeats 8000000 in
set_option maxRecDepth 100000 in
theorem impl_FillImage.calls (k : Nat) (a0 : Int) (a1 : Int) (A2 : Option Addr) (c2 : Nat) (l2 : List Int) (r1 : Int) (r2 : Int) (r3 : Int) (r4 : List Int) (w : World) (hr2 : Kd.C (Kd.int .i64) w A2 l2.length l2) (hc2 : l2.length ≤ c2) (h : impl_FillImage.f k a0 a1 l2 = some (r1, r2, r3, r4)) :
  Calls Try.prog 39 #[.int .i64 a0, .int .i64 a1, .slice A2 l2.length c2] w fun e w' => ∃ v3_ : Value, e = .returned (.agg #[.int .i64 r1, .int .i64 r2, .int .i64 r3, v3_]) ∧ Kd.R (Kd.int .i64) 3 w' w.heap.size (fun _ => True) v3_ r4 ∧ Below w.heap.size w w' := by
 have hu48 := Try.underlying48
 have HR2 := aM hr2
 have HC2 := aM hc2
 clear hr2 hc2
 have HB := aM (Below.refl w.heap.size w)
 unfold impl_FillImage.f at h
 have H := h
 clear h
 have HC4 := aM H
 clear H
 go_enter Try.func39, Try.ntmps39
 go_upto_region 2 with (first | ((with_reducible refine gate_dst (N := 6) rfl ?_); (try (refine gate_guard (by rfl) ?_; dsimp only)); refine bxE (N := 6) (cs := #[.int .i64 0, .int .i64 0, .int .i64 0, .slice none 0 0]) (t := 48) ?_; intro gb616 hg w5 hbox hb; have BK616 := aM (hbox); have GW616 := gW hg HB; have GE616 := gW hg HB; replace HB := bS HB hb; clear hb hbox hg) | ((with_reducible refine gate_dst (N := 7) rfl ?_); (try (refine gate_guard (by rfl) ?_; dsimp only)); refine bxE (N := 7) (cs := #[.int .i64 0, .int .i64 0, .int .i64 0, .slice none 0 0]) (t := 48) ?_; intro gb617 hg w6 hbox hb; have BK617 := aM (hbox); have GW617 := gW hg HB; have GE617 := gW hg HB; replace HB := bS HB hb; have NB616_617 := nL hg BK616; have NB617_616 := nG hg BK616; replace BK616 := bB BK616 hb; clear hb hbox hg; have hnb7 := NB617_616.out; have hnc7 := NB616_617.out; obtain ⟨⟨hcz8_0, hcz8_1, hcz8_2, hcz8_3⟩, hfz8_0, hfz8_1, hfz8_2, hfz8_3⟩ := cf4 BK617))
 (try simp only [Act.put, List.setIfInBounds_toArray, List.set_cons_zero, List.set_cons_succ])
 go_cut [35] (fun v35 wc => ∃ (kq : Nat) (x35_3 : Bool), v35 = .bool x35_3 ∧ Aside0 (impl_FillImage.j0 kq a0 a1 l2 x35_3 a0 a1 (l2.length : Int) = some (r1, r2, r3, r4)) ∧ Aside0 (kq ≤ k) ∧ Aside0 (wc.heap[gb616]? = some (.cells #[.int .i64 0, .int .i64 0, .int .i64 0, (.slice none 0 0)] 48 (0, 0))) ∧ Aside0 (wc.heap[gb617]? = some (.cells #[.int .i64 a0, .int .i64 a1, .int .i64 (l2.length : Int), (.slice none 0 0)] 48 (0, 0))) ∧ Aside0 (Below w.heap.size w wc))
 case first =>
  have H := HC4.out
  clear HC4
  replace H := Option.bind_eq_some_iff.mp H
  obtain ⟨t618, A90, H⟩ := H
  replace H : (if t618 = true then ((impl_isSide.f a1).bind fun t619 => (if t619 = true then (if (l2.length : Int) < 1 then (impl_FillImage.j0 k a0 a1 l2 true a0 a1 (l2.length : Int)) else (if (l2.length : Int) > 4 then (impl_FillImage.j0 k a0 a1 l2 true a0 a1 (l2.length : Int)) else ((impl_areBytes.f l2).bind fun t620 => (impl_FillImage.j0 k a0 a1 l2 (!t620) a0 a1 (l2.length : Int))))) else (impl_FillImage.j0 k a0 a1 l2 true a0 a1 (l2.length : Int)))) else (impl_FillImage.j0 k a0 a1 l2 true a0 a1 (l2.length : Int))) = some (r1, r2, r3, r4) := H
  have A9 := aM A90
  clear A90
  by_cases c10 : t618 = true
  rotate_left
  ·replace c10 := Bool.eq_false_iff.mpr c10
   subst c10
   have H1 : (impl_FillImage.j0 k a0 a1 l2 true a0 a1 (l2.length : Int)) = some (r1, r2, r3, r4) := by rw [if_neg (show ¬ (false = true) by decide)] at H; exact H
   clear H
   have H := H1
   clear H1
   have H' := aM H
   clear H
   go_wp2_with (first | ((with_reducible refine gate_callee (f := 75) rfl ?_); refine gL (some 14) Try.func75 #[.int .i64 a0] ?_; (with_reducible refine (impl_isSide.calls a0 false _ A9.out).mono ?_); rintro e w' ⟨rfl, ⟨nd, rfl⟩⟩; refine ⟨_, rfl, ?_⟩))
   go_meet
   case rel => exact ⟨_, (true), qE, H', ⟨by first | omega | exact Nat.le_refl _⟩, ⟨by refine qB ?_; refine blk_far ?_ NB616_617.out _; refine qB ?_; refine blk_far ?_ NB616_617.out _; refine qB ?_; refine blk_far ?_ NB616_617.out _; refine qB ?_; refine blk_far ?_ NB616_617.out _; refine qB ?_; exact BK616.out⟩, ⟨by exact bP BK617.out⟩, ⟨by exact qW HB.out⟩⟩
  subst c10
  have H1 : ((impl_isSide.f a1).bind fun t619 => (if t619 = true then (if (l2.length : Int) < 1 then (impl_FillImage.j0 k a0 a1 l2 true a0 a1 (l2.length : Int)) else (if (l2.length : Int) > 4 then (impl_FillImage.j0 k a0 a1 l2 true a0 a1 (l2.length : Int)) else ((impl_areBytes.f l2).bind fun t620 => (impl_FillImage.j0 k a0 a1 l2 (!t620) a0 a1 (l2.length : Int))))) else (impl_FillImage.j0 k a0 a1 l2 true a0 a1 (l2.length : Int)))) = some (r1, r2, r3, r4) := by rw [if_pos rfl] at H; exact H
  clear H
  have H := H1
  clear H1
  replace H := Option.bind_eq_some_iff.mp H
  obtain ⟨t619, A110, H⟩ := H
  replace H : (if t619 = true then (if (l2.length : Int) < 1 then (impl_FillImage.j0 k a0 a1 l2 true a0 a1 (l2.length : Int)) else (if (l2.length : Int) > 4 then (impl_FillImage.j0 k a0 a1 l2 true a0 a1 (l2.length : Int)) else ((impl_areBytes.f l2).bind fun t620 => (impl_FillImage.j0 k a0 a1 l2 (!t620) a0 a1 (l2.length : Int))))) else (impl_FillImage.j0 k a0 a1 l2 true a0 a1 (l2.length : Int))) = some (r1, r2, r3, r4) := H
  have A11 := aM A110
  clear A110
  by_cases c12 : t619 = true
  rotate_left
  ·replace c12 := Bool.eq_false_iff.mpr c12
   subst c12
   have H1 : (impl_FillImage.j0 k a0 a1 l2 true a0 a1 (l2.length : Int)) = some (r1, r2, r3, r4) := by rw [if_neg (show ¬ (false = true) by decide)] at H; exact H
   clear H
   have H := H1
   clear H1
   have H' := aM H
   clear H
   go_wp2_with (first | ((with_reducible refine gate_callee (f := 75) rfl ?_); refine gL (some 14) Try.func75 #[.int .i64 a0] ?_; (with_reducible refine (impl_isSide.calls a0 true _ A9.out).mono ?_); rintro e w' ⟨rfl, ⟨nd, rfl⟩⟩; refine ⟨_, rfl, ?_⟩) | (go_at_call 75; (with_reducible refine (impl_isSide.calls a1 false _ A11.out).mono ?_); rintro e w' ⟨rfl, ⟨nd, rfl⟩⟩))
   go_meet
   case rel => exact ⟨_, (true), qE, H', ⟨by first | omega | exact Nat.le_refl _⟩, ⟨by refine qB ?_; refine blk_far ?_ NB616_617.out _; refine qB ?_; refine blk_far ?_ NB616_617.out _; refine qB ?_; refine blk_far ?_ NB616_617.out _; refine qB ?_; refine blk_far ?_ NB616_617.out _; refine qB ?_; exact BK616.out⟩, ⟨by exact bP BK617.out⟩, ⟨by exact qW HB.out⟩⟩
  subst c12
  have H1 : (if (l2.length : Int) < 1 then (impl_FillImage.j0 k a0 a1 l2 true a0 a1 (l2.length : Int)) else (if (l2.length : Int) > 4 then (impl_FillImage.j0 k a0 a1 l2 true a0 a1 (l2.length : Int)) else ((impl_areBytes.f l2).bind fun t620 => (impl_FillImage.j0 k a0 a1 l2 (!t620) a0 a1 (l2.length : Int))))) = some (r1, r2, r3, r4) := by rw [if_pos rfl] at H; exact H
  clear H
  have H := H1
  clear H1
  by_cases c13 : (l2.length : Int) < 1
  ·rw [if_pos c13] at H
   have c13b0 : decide ((l2.length : Int) < 1) = true := decide_eq_true c13
   have c13b1 : decide (l2.length < 1) = true := decide_eq_true (by omega)
   clear c13
   (first | rw [c13b0] | (simp only [i64_w, i32_w]; rw [c13b0]) | skip)
   have H' := aM H
   clear H
   go_wp2_with (first | ((with_reducible refine gate_callee (f := 75) rfl ?_); refine gL (some 14) Try.func75 #[.int .i64 a0] ?_; (with_reducible refine (impl_isSide.calls a0 true _ A9.out).mono ?_); rintro e w' ⟨rfl, ⟨nd, rfl⟩⟩; refine ⟨_, rfl, ?_⟩) | (go_at_call 75; (with_reducible refine (impl_isSide.calls a1 true _ A11.out).mono ?_); rintro e w' ⟨rfl, ⟨nd, rfl⟩⟩))
   go_meet
   case rel => exact ⟨_, (true), qE, H', ⟨by first | omega | exact Nat.le_refl _⟩, ⟨by refine qB ?_; refine blk_far ?_ NB616_617.out _; refine qB ?_; refine blk_far ?_ NB616_617.out _; refine qB ?_; refine blk_far ?_ NB616_617.out _; refine qB ?_; refine blk_far ?_ NB616_617.out _; refine qB ?_; exact BK616.out⟩, ⟨by exact bP BK617.out⟩, ⟨by exact qW HB.out⟩⟩
  rw [if_neg c13] at H
  have c13b0 : decide ((l2.length : Int) < 1) = false := decide_eq_false c13
  have c13b1 : decide (l2.length < 1) = false := decide_eq_false (by omega)
  clear c13
  (first | rw [c13b0] | (simp only [i64_w, i32_w]; rw [c13b0]) | skip)
  by_cases c14 : (l2.length : Int) > 4
  ·rw [if_pos c14] at H
   have c14b0 : decide (4 < (l2.length : Int)) = true := decide_eq_true c14
   have c14b1 : decide (4 < l2.length) = true := decide_eq_true (by omega)
   clear c14
   have H' := aM H
   clear H
   go_wp2_with (first | ((with_reducible refine gate_callee (f := 75) rfl ?_); refine gL (some 14) Try.func75 #[.int .i64 a0] ?_; (with_reducible refine (impl_isSide.calls a0 true _ A9.out).mono ?_); rintro e w' ⟨rfl, ⟨nd, rfl⟩⟩; refine ⟨_, rfl, ?_⟩) | (go_at_call 75; (with_reducible refine (impl_isSide.calls a1 true _ A11.out).mono ?_); rintro e w' ⟨rfl, ⟨nd, rfl⟩⟩))
   go_meet
   case rel => exact ⟨_, (true), qE, H', ⟨by first | omega | exact Nat.le_refl _⟩, ⟨by refine qB ?_; refine blk_far ?_ NB616_617.out _; refine qB ?_; refine blk_far ?_ NB616_617.out _; refine qB ?_; refine blk_far ?_ NB616_617.out _; refine qB ?_; refine blk_far ?_ NB616_617.out _; refine qB ?_; exact BK616.out⟩, ⟨by exact bP BK617.out⟩, ⟨by exact qW HB.out⟩⟩
  rw [if_neg c14] at H
  have c14b0 : decide (4 < (l2.length : Int)) = false := decide_eq_false c14
  have c14b1 : decide (4 < l2.length) = false := decide_eq_false (by omega)
  clear c14
  replace H := Option.bind_eq_some_iff.mp H
  obtain ⟨t620, A150, H⟩ := H
  replace H : (impl_FillImage.j0 k a0 a1 l2 (!t620) a0 a1 (l2.length : Int)) = some (r1, r2, r3, r4) := H
  have A15 := aM A150
  clear A150
  have H' := aM H
  clear H
  go_wp2_with (first | ((with_reducible refine gate_callee (f := 75) rfl ?_); refine gL (some 14) Try.func75 #[.int .i64 a0] ?_; (with_reducible refine (impl_isSide.calls a0 true _ A9.out).mono ?_); rintro e w' ⟨rfl, ⟨nd, rfl⟩⟩; refine ⟨_, rfl, ?_⟩) | (go_at_call 75; (with_reducible refine (impl_isSide.calls a1 true _ A11.out).mono ?_); rintro e w' ⟨rfl, ⟨nd, rfl⟩⟩) | (go_at_call 61; (with_reducible refine (impl_areBytes.calls _ _ l2 t620 _ ?side1 ?side2 A15.out).mono ?_); (case side1 => exact Kd.C_below HR2.out (qW HB.out)); (case side2 => exact HC2.out); rintro e w' ⟨rfl, ⟨nd, rfl⟩⟩))
  go_meet
  case rel => exact ⟨_, (!t620), qE, H', ⟨by first | omega | exact Nat.le_refl _⟩, ⟨by refine qB ?_; refine blk_far ?_ NB616_617.out _; refine qB ?_; refine blk_far ?_ NB616_617.out _; refine qB ?_; refine blk_far ?_ NB616_617.out _; refine qB ?_; refine blk_far ?_ NB616_617.out _; refine qB ?_; exact BK616.out⟩, ⟨by exact bP BK617.out⟩, ⟨by exact qW HB.out⟩⟩
 case rest =>
  clear HC4
  try clear c2
  try clear c10
  try clear c12
  try clear c13
  try clear c13b0
  try clear c13b1
  try clear c14
  try clear c14b0
  try clear c14b1
  try clear hcz8_0 hcz8_1 hcz8_2 hcz8_3 hfz8_0 hfz8_1 hfz8_2 hfz8_3
  obtain ⟨kq, x35_3, rfl, HA, HJ3, BK616, BK617, HB⟩ := hcut
  cases kq with
  | zero => exact absurd HA.out (by simp [impl_FillImage.j0])
  | succ kj3 =>
   have H := HA.out
   clear HA
   simp only [impl_FillImage.j0] at H
   by_cases c16 : x35_3 = true
   ·subst c16
    have H1 : (some (0, 0, 0, ([] : List Int))) = some (r1, r2, r3, r4) := by rw [if_pos rfl] at H; exact H
    clear H
    have H := H1
    clear H1
    simp only [Option.some.injEq, Prod.mk.injEq] at H
    obtain ⟨rfl, rfl, rfl, rfl⟩ := H
    have hnb17 := NB616_617.out
    have hnc17 := NB617_616.out
    obtain ⟨⟨hcz18_0, hcz18_1, hcz18_2, hcz18_3⟩, hfz18_0, hfz18_1, hfz18_2, hfz18_3⟩ := cf4 BK616
    go_wp2
    refine bodyPost_ret (results_cell_row rfl _ _ gb616 48 #[.int .i64 0, .int .i64 0, .int .i64 0, .slice none 0 0] (0, 0) _ rfl (by exact bP BK616.out) Try.underlying48 rfl (by kernel_rfl)) rfl ?_
    exact ⟨_, qX, qN, by exact qW HB.out⟩
   replace c16 := Bool.eq_false_iff.mpr c16
   subst c16
   have H1 : (impl_FillImage.l0 kj3 l2 (wrap64 (a0 * a1)) 0 a0 a1 (l2.length : Int) ([] : List Int)) = some (r1, r2, r3, r4) := by rw [if_neg (show ¬ (false = true) by decide)] at H; exact H
   clear H
   have H := H1
   clear H1
   have H' := aM H
   clear H
   go_wp2
   go_loopg [40] kj3 (fun kq v40 w' => ∃ (x40_2 : Int) (x618003_2 : List Int) (u618003 : Value), v40 = .int .i64 x40_2 ∧ Aside0 (impl_FillImage.l0 kq l2 (wrap64 (a0 * a1)) x40_2 a0 a1 (l2.length : Int) x618003_2 = some (r1, r2, r3, r4)) ∧ Aside0 (kq ≤ kj3) ∧ Aside0 (Kd.R (Kd.int .i64) 3 w' w.heap.size (fun _ => True) u618003 x618003_2) ∧ Aside0 (w'.heap[gb616]? = some (.cells #[.int .i64 0, .int .i64 0, .int .i64 0, (.slice none 0 0)] 48 (0, 0))) ∧ Aside0 (w'.heap[gb617]? = some (.cells #[.int .i64 a0, .int .i64 a1, .int .i64 (l2.length : Int), u618003] 48 (0, 0))) ∧ Aside0 (Below w.heap.size w w'))
   case atStart => exact ⟨(0), (([] : List Int)), (.slice none 0 0), qE, H', ⟨Nat.le_refl _⟩, ⟨qN⟩, ⟨by refine qB ?_; exact BK616.out⟩, ⟨by refine qB ?_; exact BK617.out⟩, ⟨by exact qW HB.out⟩⟩
   case round =>
    clear H'
    try clear c2
    try clear c10
    try clear c12
    try clear c13
    try clear c13b0
    try clear c13b1
    try clear c14
    try clear c14b0
    try clear c14b1
    try clear c16
    try clear hcz18_0 hcz18_1 hcz18_2 hcz18_3 hfz18_0 hfz18_1 hfz18_2 hfz18_3
    try clear hcz8_0 hcz8_1 hcz8_2 hcz8_3 hfz8_0 hfz8_1 hfz8_2 hfz8_3
    obtain ⟨x40_2, x618003_2, u618003, rfl, HA, HK2, HO_618003, BK616, BK617, HB⟩ := hrel
    cases gk with
    | zero => exact absurd HA.out (by simp [impl_FillImage.l0])
    | succ k2 =>
     have H := HA.out
     clear HA
     simp only [impl_FillImage.l0] at H
     by_cases c19 : x40_2 < (wrap64 (a0 * a1))
     rotate_left
     ·rw [if_neg c19] at H
      have c19b0 : decide (x40_2 < (wrap64 (a0 * a1))) = false := decide_eq_false c19
      clear c19
      simp only [Option.some.injEq, Prod.mk.injEq] at H
      obtain ⟨rfl, rfl, rfl, rfl⟩ := H
      have hnb26 := NB617_616.out
      have hnc26 := NB616_617.out
      obtain ⟨⟨hcz27_0, hcz27_1, hcz27_2, hcz27_3⟩, hfz27_0, hfz27_1, hfz27_2, hfz27_3⟩ := cf4 BK617
      obtain ⟨⟨hcz28_0, hcz28_1, hcz28_2, hcz28_3⟩, hfz28_0, hfz28_1, hfz28_2, hfz28_3⟩ := cf4 BK616
      obtain ⟨Ao29, co29, rfl⟩ := sL HO_618003
      go_wp2
      refine bodyPost_ret (results_cell_row rfl _ _ gb616 48 #[.int .i64 a0, .int .i64 a1, .int .i64 (l2.length : Int), .slice Ao29 x618003_2.length co29] (0, 0) _ rfl (by exact bP BK616.out) Try.underlying48 rfl (by kernel_rfl)) rfl ?_
      exact ⟨_, qX, by refine qR ?_; exact Kd.R_mono (rT HO_618003 BK616) (fun _ hk => trivial), by exact qW HB.out⟩
     rw [if_pos c19] at H
     have c19b0 : decide (x40_2 < (wrap64 (a0 * a1))) = true := decide_eq_true c19
     clear c19
     replace H := iS H
     obtain ⟨c20, H⟩ := H
     have LMc20 := aM c20
     clear c20
     obtain ⟨y621, hy621⟩ : ∃ y_ : List Int, y_ = (x618003_2 ++ l2) := ⟨_, rfl⟩
     replace H : (impl_FillImage.l0 k2 l2 (wrap64 (a0 * a1)) (wrap64 (x40_2 + 1)) a0 a1 (l2.length : Int) y621) = some (r1, r2, r3, r4) := rY hy621 H
     have Ny621 := aM hy621
     clear hy621
     have H' := aM H
     clear H
     have hnb21 := NB617_616.out
     have hnc21 := NB616_617.out
     obtain ⟨⟨hcz22_0, hcz22_1, hcz22_2, hcz22_3⟩, hfz22_0, hfz22_1, hfz22_2, hfz22_3⟩ := cf4 BK617
     go_wp2_with (first | ((with_reducible refine gate_builtin (b := .append) (xs := #[.tmp 43, .tmp 44]) rfl ?_); (try (refine gate_guard (by rfl) ?_; dsimp only)); at_builtin; refine Kd.R_append_rows (Kd.int .i64) (w0 := w) w.heap.size rfl (.tmp 43) (.tmp 44) 28 3 (.int .i64 0) 8 rfl Try.underlying28 info3 rfl (by decide) (by omega) u618003 x618003_2 l2 _ _ _ (fun _ => True) (fun _ => False) rfl rfl ?aO ?aR (fun _ _ h => h) (fun _ h => h.elim) ?aF ?aB ?aS ?aL ?_; (case aR => exact qC (Kd.C_below HR2.out HB.out)); (case aB => exact (qW HB.out)); (case aF => exact (fun _ _ => trivial)); (case aO => exact (qR HO_618003.out)); (case aS => exact (below_size (qW HB.out))); (case aL => have := LMc20.out; omega); intro v622 w23 ho hb hg hat; rw [← Ny621.out] at ho; replace BK616 := gB BK616 hg (Kd.R_ne HO_618003.out BK616.out (by decide)); replace BK617 := gB BK617 hg (Kd.R_ne HO_618003.out BK617.out (by decide)); replace HB := aM (hb); have HO623 := aM (ho); clear HO_618003; clear ho hb hg hat; obtain ⟨Ao24, co24, rfl⟩ := sL HO623; obtain ⟨⟨hcz25_0, hcz25_1, hcz25_2, hcz25_3⟩, hfz25_0, hfz25_1, hfz25_2, hfz25_3⟩ := cf4 BK617))
     go_roundg k2
     case measure => have := HJ3.out; have := HK2.out; omega
     case rel => exact ⟨(wrap64 (x40_2 + 1)), (y621), (.slice Ao24 y621.length co24), qE, H', ⟨by have := HJ3.out; have := HK2.out; omega⟩, ⟨by refine qR ?_; exact Kd.R_mono (rT HO623 BK617) (fun _ hk => trivial)⟩, ⟨by refine qB ?_; refine blk_far ?_ NB616_617.out _; refine qB ?_; exact BK616.out⟩, ⟨by exact bP BK617.out⟩, ⟨by exact qW HB.out⟩⟩
def spec_validShape.f (a0 : Int) (a1 : Int) (a2 : Int) : Option (Bool) := (spec_inRange.f a0 1 16).bind fun t627 => (if t627 = true then ((spec_inRange.f a1 1 16).bind fun t628 => (if t628 = true then ((spec_inRange.f a2 1 4).bind fun t629 => (some t629)) else (some false))) else (some false))
set_option maxHeartbeats 8000000 in
set_option maxRecDepth 100000 in
theorem spec_validShape.calls (a0 : Int) (a1 : Int) (a2 : Int) (r : Bool) (w : World) (h : spec_validShape.f a0 a1 a2 = some r) :
  Calls Try.prog 76 #[.int .i64 a0, .int .i64 a1, .int .i64 a2] w fun e w' => e = .returned (.bool r) ∧ Drawn0 w w' := by
 unfold spec_validShape.f at h
 have H := h
 clear h
 replace H := Option.bind_eq_some_iff.mp H
 obtain ⟨t627, A40, H⟩ := H
 replace H : (if t627 = true then ((spec_inRange.f a1 1 16).bind fun t628 => (if t628 = true then ((spec_inRange.f a2 1 4).bind fun t629 => (some t629)) else (some false))) else (some false)) = some r := H
 have A4 := aM A40
 clear A40
 by_cases c5 : t627 = true
 rotate_left
 ·replace c5 := Bool.eq_false_iff.mpr c5
  subst c5
  have H1 : (some false) = some r := by rw [if_neg (show ¬ (false = true) by decide)] at H; exact H
  clear H
  have H := H1
  clear H1
  obtain rfl := Option.some.inj H
  go_enter Try.func76, Try.ntmps76
  go_wp2_with (first | ((with_reducible refine gate_callee (f := 46) rfl ?_); refine gL (some 8) Try.func46 #[.int .i64 a0, .int .i64 1, .int .i64 16] ?_; (with_reducible refine (spec_inRange.calls a0 1 16 false _ A4.out).mono ?_); rintro e w' ⟨rfl, ⟨nd, rfl⟩⟩; refine ⟨_, rfl, ?_⟩))
  go_ret
  exact ⟨qE, qD⟩
 subst c5
 have H1 : ((spec_inRange.f a1 1 16).bind fun t628 => (if t628 = true then ((spec_inRange.f a2 1 4).bind fun t629 => (some t629)) else (some false))) = some r := by rw [if_pos rfl] at H; exact H
 clear H
 have H := H1
 clear H1
 replace H := Option.bind_eq_some_iff.mp H
 obtain ⟨t628, A60, H⟩ := H
 replace H : (if t628 = true then ((spec_inRange.f a2 1 4).bind fun t629 => (some t629)) else (some false)) = some r := H
 have A6 := aM A60
 clear A60
 by_cases c7 : t628 = true
 rotate_left
 ·replace c7 := Bool.eq_false_iff.mpr c7
  subst c7
  have H1 : (some false) = some r := by rw [if_neg (show ¬ (false = true) by decide)] at H; exact H
  clear H
  have H := H1
  clear H1
  obtain rfl := Option.some.inj H
  go_enter Try.func76, Try.ntmps76
  go_wp2_with (first | ((with_reducible refine gate_callee (f := 46) rfl ?_); refine gL (some 8) Try.func46 #[.int .i64 a0, .int .i64 1, .int .i64 16] ?_; (with_reducible refine (spec_inRange.calls a0 1 16 true _ A4.out).mono ?_); rintro e w' ⟨rfl, ⟨nd, rfl⟩⟩; refine ⟨_, rfl, ?_⟩) | (go_at_call 46; (with_reducible refine (spec_inRange.calls a1 1 16 false _ A6.out).mono ?_); rintro e w' ⟨rfl, ⟨nd, rfl⟩⟩))
  go_ret
  exact ⟨qE, qD⟩
 subst c7
 have H1 : ((spec_inRange.f a2 1 4).bind fun t629 => (some t629)) = some r := by rw [if_pos rfl] at H; exact H
 clear H
 have H := H1
 clear H1
 replace H := Option.bind_eq_some_iff.mp H
 obtain ⟨t629, A80, H⟩ := H
 replace H : (some t629) = some r := H
 have A8 := aM A80
 clear A80
 obtain rfl := Option.some.inj H
 go_enter Try.func76, Try.ntmps76
 go_wp2_with (first | ((with_reducible refine gate_callee (f := 46) rfl ?_); refine gL (some 8) Try.func46 #[.int .i64 a0, .int .i64 1, .int .i64 16] ?_; (with_reducible refine (spec_inRange.calls a0 1 16 true _ A4.out).mono ?_); rintro e w' ⟨rfl, ⟨nd, rfl⟩⟩; refine ⟨_, rfl, ?_⟩) | (go_at_call 46; (with_reducible refine (spec_inRange.calls a1 1 16 true _ A6.out).mono ?_); rintro e w' ⟨rfl, ⟨nd, rfl⟩⟩) | (go_at_call 46; (with_reducible refine (spec_inRange.calls a2 1 4 t629 _ A8.out).mono ?_); rintro e w' ⟨rfl, ⟨nd, rfl⟩⟩))
 go_ret
 exact ⟨qE, qD⟩
mutual
def spec_FillImage.j0 : Nat → Int → Int → List Int → Bool → Option (Int × Int × Int × List Int)
 | 0, _, _, _, _ => none
 | k + 1, x0, x1, x2, x19 => if x19 = true then (some (0, 0, 0, ([] : List Int))) else ((spec_newImage.f x0 x1 (x2.length : Int)).bind fun bt637 => (spec_FillImage.l0 k x2 0 bt637.1 bt637.2.1 bt637.2.2.1 bt637.2.2.2))
def spec_FillImage.l0 : Nat → List Int → Int → Int → Int → Int → List Int → Option (Int × Int × Int × List Int)
 | 0, _, _, _, _, _, _ => none
 | k + 1, x2, x8, x644000, x644001, x644002, x644003 => if x8 < (x644003.length : Int) then (if (x2.length : Int) = 0 then (none) else (if 0 ≤ (Int.tmod x8 (x2.length : Int)) then (if (Int.tmod x8 (x2.length : Int)) < (x2.length : Int) then (if 0 ≤ x8 then (spec_FillImage.l0 k x2 (wrap64 (x8 + 1)) x644000 x644001 x644002 (x644003.set (x8 : Int).toNat (rd x2 (Int.tmod x8 (x2.length : Int))))) else (none)) else (none)) else (none))) else (some (x644000, x644001, x644002, x644003))
end
def spec_FillImage.f (k : Nat) (a0 : Int) (a1 : Int) (l2 : List Int) : Option (Int × Int × Int × List Int) := (spec_validShape.f a0 a1 (l2.length : Int)).bind fun t635 => (if t635 = true then ((spec_allIn.f k l2 0 255).bind fun t636 => (spec_FillImage.j0 k a0 a1 l2 (!t636))) else (spec_FillImage.j0 k a0 a1 l2 true))
theorem spec_FillImage.mono_l : ∀ k, (∀ y0 y1 y2 y3, LeO (spec_FillImage.j0 k y0 y1 y2 y3) (spec_FillImage.j0 (k + 1) y0 y1 y2 y3)) ∧ (∀ y0 y1 y2 y3 y4 y5, LeO (spec_FillImage.l0 k y0 y1 y2 y3 y4 y5) (spec_FillImage.l0 (k + 1) y0 y1 y2 y3 y4 y5))
 | 0 => ⟨fun _ _ _ _ r h => by simp [spec_FillImage.j0] at h, fun _ _ _ _ _ _ r h => by simp [spec_FillImage.l0] at h⟩
 | k + 1 => by
  obtain ⟨ih0, ih1⟩ := spec_FillImage.mono_l k
  refine ⟨?_, ?_⟩
  all_goals intros
  all_goals first | unfold spec_FillImage.j0 | unfold spec_FillImage.l0
  all_goals repeat' first | (with_reducible first | exact ih0 _ _ _ _ | exact ih1 _ _ _ _ _ _ | exact spec_allIn.mono _ _ _ _ | exact lR | exact lN | refine lI ?_ ?_ | refine lB ?_ fun _ => ?_) | exact ih0 _ _ _ _ | exact ih1 _ _ _ _ _ _ | exact spec_allIn.mono _ _ _ _ | exact lN | refine lI ?_ ?_ | refine lB ?_ fun _ => ?_
theorem spec_FillImage.mono : ∀ a0 a1 a2 k, LeO (spec_FillImage.f k a0 a1 a2) (spec_FillImage.f (k + 1) a0 a1 a2) := by
 intro a0 a1 a2 k
 obtain ⟨ih0, ih1⟩ := spec_FillImage.mono_l k
 unfold spec_FillImage.f
 repeat' first | (with_reducible first | exact ih0 _ _ _ _ | exact ih1 _ _ _ _ _ _ | exact spec_allIn.mono _ _ _ _ | exact lR | exact lN | refine lI ?_ ?_ | refine lB ?_ fun _ => ?_) | exact ih0 _ _ _ _ | exact ih1 _ _ _ _ _ _ | exact spec_allIn.mono _ _ _ _ | exact lN | refine lI ?_ ?_ | refine lB ?_ fun _ => ?_
def spec_FillImage.T7 : Bool × List (List Nat × List Nat) := (true, [([], []), ([0], [0]), ([], []), ([], []), ([], []), ([], []), ([5], [5]), ([4, 6], [4, 6]), ([3, 7], [3, 7]), ([8], [8]), ([1, 2, 0, 1, 2, 3, 4, 5, 6, 7, 8, 9], [1, 2]), ([10, 9, 0, 1, 2, 3, 4, 5, 6, 7, 8, 9], [9, 10])])
def spec_FillImage.B7 : List Nat := [0, 1, 0, 0, 0, 0, 32, 112, 248, 504, 1023, 2047]
theorem spec_FillImage.tab7 : rtab .any (opsOf Try.f41 7) = spec_FillImage.T7 := by kernel_rfl
theorem spec_FillImage.bits7 : waitsOk spec_FillImage.T7.2 spec_FillImage.B7 = true := by kernel_rfl
set_option maxHeartbeats 8000000 in
set_option maxRecDepth 100000 in
theorem spec_FillImage.calls (k : Nat) (a0 : Int) (a1 : Int) (A2 : Option Addr) (c2 : Nat) (l2 : List Int) (r1 : Int) (r2 : Int) (r3 : Int) (r4 : List Int) (w : World) (hr2 : Kd.C (Kd.int .i64) w A2 l2.length l2) (hc2 : l2.length ≤ c2) (h : spec_FillImage.f k a0 a1 l2 = some (r1, r2, r3, r4)) :
  Calls Try.prog 41 #[.int .i64 a0, .int .i64 a1, .slice A2 l2.length c2] w fun e w' => ∃ v3_ : Value, e = .returned (.agg #[.int .i64 r1, .int .i64 r2, .int .i64 r3, v3_]) ∧ Kd.R (Kd.int .i64) 3 w' w.heap.size (fun _ => True) v3_ r4 ∧ Below w.heap.size w w' := by
 have hu48 := Try.underlying48
 have HR2 := aM hr2
 have HC2 := aM hc2
 clear hr2 hc2
 have HB := aM (Below.refl w.heap.size w)
 unfold spec_FillImage.f at h
 have H := h
 clear h
 have HC4 := aM H
 clear H
 go_enter Try.func41, Try.ntmps41
 go_upto_region 1 with (first | ((with_reducible refine gate_dst (N := 6) rfl ?_); refine bxE (N := 6) (cs := #[.int .i64 0, .int .i64 0, .int .i64 0, .slice none 0 0]) (t := 48) ?_; intro gb634 hg w5 hbox hb; have BK634 := aM (hbox); have GW634 := gW hg HB; have GE634 := gW hg HB; replace HB := bS HB hb; clear hb hbox hg))
 (try simp only [Act.put, List.setIfInBounds_toArray, List.set_cons_zero, List.set_cons_succ])
 go_cut [19] (fun v19 wc => ∃ (kq : Nat) (x19_3 : Bool), v19 = .bool x19_3 ∧ Aside0 (spec_FillImage.j0 kq a0 a1 l2 x19_3 = some (r1, r2, r3, r4)) ∧ Aside0 (kq ≤ k) ∧ Aside0 (wc.heap[gb634]? = some (.cells #[.int .i64 0, .int .i64 0, .int .i64 0, (.slice none 0 0)] 48 (0, 0))) ∧ Aside0 (Below w.heap.size w wc))
 case first =>
  have H := HC4.out
  clear HC4
  replace H := Option.bind_eq_some_iff.mp H
  obtain ⟨t635, A60, H⟩ := H
  replace H : (if t635 = true then ((spec_allIn.f k l2 0 255).bind fun t636 => (spec_FillImage.j0 k a0 a1 l2 (!t636))) else (spec_FillImage.j0 k a0 a1 l2 true)) = some (r1, r2, r3, r4) := H
  have A6 := aM A60
  clear A60
  by_cases c7 : t635 = true
  rotate_left
  ·replace c7 := Bool.eq_false_iff.mpr c7
   subst c7
   have H1 : (spec_FillImage.j0 k a0 a1 l2 true) = some (r1, r2, r3, r4) := by rw [if_neg (show ¬ (false = true) by decide)] at H; exact H
   clear H
   have H := H1
   clear H1
   have H' := aM H
   clear H
   go_wp2_with (first | ((with_reducible refine gate_callee (f := 76) rfl ?_); refine gL (some 13) Try.func76 #[.int .i64 a0, .int .i64 a1, .int .i64 (l2.length : Int)] ?_; (with_reducible refine (spec_validShape.calls a0 a1 (l2.length : Int) false _ A6.out).mono ?_); rintro e w' ⟨rfl, ⟨nd, rfl⟩⟩; refine ⟨_, rfl, ?_⟩))
   go_meet
   case rel => exact ⟨_, (true), qE, H', ⟨by first | omega | exact Nat.le_refl _⟩, ⟨by refine qB ?_; exact BK634.out⟩, ⟨by exact qW HB.out⟩⟩
  subst c7
  have H1 : ((spec_allIn.f k l2 0 255).bind fun t636 => (spec_FillImage.j0 k a0 a1 l2 (!t636))) = some (r1, r2, r3, r4) := by rw [if_pos rfl] at H; exact H
  clear H
  have H := H1
  clear H1
  replace H := Option.bind_eq_some_iff.mp H
  obtain ⟨t636, A80, H⟩ := H
  replace H : (spec_FillImage.j0 k a0 a1 l2 (!t636)) = some (r1, r2, r3, r4) := H
  have A8 := aM A80
  clear A80
  have H' := aM H
  clear H
  go_wp2_with (first | ((with_reducible refine gate_callee (f := 76) rfl ?_); refine gL (some 13) Try.func76 #[.int .i64 a0, .int .i64 a1, .int .i64 (l2.length : Int)] ?_; (with_reducible refine (spec_validShape.calls a0 a1 (l2.length : Int) true _ A6.out).mono ?_); rintro e w' ⟨rfl, ⟨nd, rfl⟩⟩; refine ⟨_, rfl, ?_⟩) | (go_at_call 66; (with_reducible refine (spec_allIn.calls k _ _ l2 0 255 t636 _ ?side1 ?side2 A8.out).mono ?_); (case side1 => exact qC (Kd.C_below HR2.out (qW HB.out))); (case side2 => exact HC2.out); rintro e w' ⟨rfl, ⟨nd, rfl⟩⟩))
  go_meet
  case rel => exact ⟨_, (!t636), qE, H', ⟨by first | omega | exact Nat.le_refl _⟩, ⟨by refine qB ?_; exact BK634.out⟩, ⟨by exact qW HB.out⟩⟩
 case rest =>
  clear HC4
  try clear c2
  try clear c7
  obtain ⟨kq, x19_3, rfl, HA, HJ3, BK634, HB⟩ := hcut
  cases kq with
  | zero => exact absurd HA.out (by simp [spec_FillImage.j0])
  | succ kj3 =>
   have H := HA.out
   clear HA
   simp only [spec_FillImage.j0] at H
   by_cases c9 : x19_3 = true
   ·subst c9
    have H1 : (some (0, 0, 0, ([] : List Int))) = some (r1, r2, r3, r4) := by rw [if_pos rfl] at H; exact H
    clear H
    have H := H1
    clear H1
    simp only [Option.some.injEq, Prod.mk.injEq] at H
    obtain ⟨rfl, rfl, rfl, rfl⟩ := H
    obtain ⟨⟨hcz10_0, hcz10_1, hcz10_2, hcz10_3⟩, hfz10_0, hfz10_1, hfz10_2, hfz10_3⟩ := cf4 BK634
    go_wp2
    refine bodyPost_ret (results_cell_row rfl _ _ gb634 48 #[.int .i64 0, .int .i64 0, .int .i64 0, .slice none 0 0] (0, 0) _ rfl (by exact bP BK634.out) Try.underlying48 rfl (by kernel_rfl)) rfl ?_
    exact ⟨_, qX, qN, by exact qW HB.out⟩
   replace c9 := Bool.eq_false_iff.mpr c9
   subst c9
   have H1 : ((spec_newImage.f a0 a1 (l2.length : Int)).bind fun bt637 => (spec_FillImage.l0 kj3 l2 0 bt637.1 bt637.2.1 bt637.2.2.1 bt637.2.2.2)) = some (r1, r2, r3, r4) := by rw [if_neg (show ¬ (false = true) by decide)] at H; exact H
   clear H
   have H := H1
   clear H1
   replace H := Option.bind_eq_some_iff.mp H
   obtain ⟨⟨t637, t638, t639, t640⟩, A110, H⟩ := H
   replace H : (spec_FillImage.l0 kj3 l2 0 t637 t638 t639 t640) = some (r1, r2, r3, r4) := H
   have A11 := aM A110
   clear A110
   have H' := aM H
   clear H
   go_wp2_with (first | ((with_reducible refine gate_callee (f := 77) rfl ?_); refine gL (some 25) Try.func77 #[.int .i64 a0, .int .i64 a1, .int .i64 (l2.length : Int)] ?_; (with_reducible refine (spec_newImage.calls a0 a1 (l2.length : Int) t637 t638 t639 t640 _ A11.out).mono ?_); rintro e w12 ⟨v641, rfl, ho0, hb⟩; refine ⟨_, rfl, ?_⟩; have HO642 := oR ho0 HB; replace BK634 := bB BK634 hb; replace HB := bS HB hb; clear hb ho0) | ((with_reducible refine gate_dst (N := 7) rfl ?_); refine bxE (N := 7) (cs := #[.int .i64 0, .int .i64 0, .int .i64 0, .slice none 0 0]) (t := 48) ?_; intro gb643 hg w13 hbox hb; replace HO642 := aM (Kd.R_below (qR HO642.out) hb); have BK643 := aM (hbox); have GW643 := gW hg HB; have GE643 := gW hg HB; replace HB := bS HB hb; have NB634_643 := nL hg BK634; have NB643_634 := nG hg BK634; replace BK634 := bB BK634 hb; clear hb hbox hg; have hnb14 := NB643_634.out; have hnc14 := NB634_643.out; obtain ⟨⟨hcz15_0, hcz15_1, hcz15_2, hcz15_3⟩, hfz15_0, hfz15_1, hfz15_2, hfz15_3⟩ := cf4 BK643; obtain ⟨Ao16, co16, rfl⟩ := sL HO642))
   go_loopg [8] kj3 (fun kq v8 w' => ∃ (x8_2 : Int) (x644003_2 : List Int) (u644003 : Value), v8 = .int .i64 x8_2 ∧ Aside0 (spec_FillImage.l0 kq l2 x8_2 t637 t638 t639 x644003_2 = some (r1, r2, r3, r4)) ∧ Aside0 (kq ≤ kj3) ∧ Aside0 (Kd.R (Kd.int .i64) 3 w' w.heap.size (fun _ => True) u644003 x644003_2) ∧ Aside0 (w'.heap[gb634]? = some (.cells #[.int .i64 0, .int .i64 0, .int .i64 0, (.slice none 0 0)] 48 (0, 0))) ∧ Aside0 (w'.heap[gb643]? = some (.cells #[.int .i64 t637, .int .i64 t638, .int .i64 t639, u644003] 48 (0, 0))) ∧ Aside0 (Below w.heap.size w w'))
   case atStart => exact ⟨(0), (t640), (.slice Ao16 t640.length co16), qE, H', ⟨Nat.le_refl _⟩, ⟨by refine qR ?_; exact Kd.R_mono (rT HO642 BK643) (fun _ hk => trivial)⟩, ⟨by refine qB ?_; refine blk_far ?_ NB634_643.out _; refine qB ?_; refine blk_far ?_ NB634_643.out _; refine qB ?_; refine blk_far ?_ NB634_643.out _; refine qB ?_; refine blk_far ?_ NB634_643.out _; refine qB ?_; exact BK634.out⟩, ⟨by exact bP BK643.out⟩, ⟨by exact qW HB.out⟩⟩
   case round =>
    clear H'
    try clear c2
    try clear c7
    try clear c9
    try clear hcz10_0 hcz10_1 hcz10_2 hcz10_3 hfz10_0 hfz10_1 hfz10_2 hfz10_3
    try clear hcz15_0 hcz15_1 hcz15_2 hcz15_3 hfz15_0 hfz15_1 hfz15_2 hfz15_3
    obtain ⟨x8_2, x644003_2, u644003, rfl, HA, HK2, HO_644003, BK634, BK643, HB⟩ := hrel
    cases gk with
    | zero => exact absurd HA.out (by simp [spec_FillImage.l0])
    | succ k2 =>
     have H := HA.out
     clear HA
     simp only [spec_FillImage.l0] at H
     by_cases c17 : x8_2 < (x644003_2.length : Int)
     rotate_left
     ·rw [if_neg c17] at H
      have c17b0 : decide (x8_2 < (x644003_2.length : Int)) = false := decide_eq_false c17
      clear c17
      simp only [Option.some.injEq, Prod.mk.injEq] at H
      obtain ⟨rfl, rfl, rfl, rfl⟩ := H
      have hnb29 := NB643_634.out
      have hnc29 := NB634_643.out
      obtain ⟨⟨hcz30_0, hcz30_1, hcz30_2, hcz30_3⟩, hfz30_0, hfz30_1, hfz30_2, hfz30_3⟩ := cf4 BK643
      obtain ⟨Ao31, co31, rfl⟩ := sL HO_644003
      obtain ⟨⟨hcz32_0, hcz32_1, hcz32_2, hcz32_3⟩, hfz32_0, hfz32_1, hfz32_2, hfz32_3⟩ := cf4 BK634
      go_wp2
      refine bodyPost_ret (results_cell_row rfl _ _ gb634 48 #[.int .i64 t637, .int .i64 t638, .int .i64 t639, .slice Ao31 x644003_2.length co31] (0, 0) _ rfl (by exact bP BK634.out) Try.underlying48 rfl (by kernel_rfl)) rfl ?_
      exact ⟨_, qX, by refine qR ?_; exact Kd.R_mono (rT HO_644003 BK634) (fun _ hk => trivial), by exact qW HB.out⟩
     rw [if_pos c17] at H
     have c17b0 : decide (x8_2 < (x644003_2.length : Int)) = true := decide_eq_true c17
     clear c17
     by_cases c18 : (l2.length : Int) = 0
     ·rw [if_pos c18] at H
      exact absurd H (by simp)
     rw [if_neg c18] at H
     have c18b0 : ((l2.length : Int) == 0) = false := beq_eq_false_iff_ne.mpr c18
     have c18b1 : ((l2.length : Int) != 0) = true := bne_iff_ne.mpr c18
     have c18b2 : ¬ (l2 = []) := fun h_ => c18 (by rw [h_]; rfl)
     obtain ⟨ji19, hji19⟩ : ∃ j_ : Int, (Int.tmod x8_2 (l2.length : Int)) = j_ := ⟨_, rfl⟩
     replace H : (if 0 ≤ (ji19) then (if (ji19) < (l2.length : Int) then (if 0 ≤ x8_2 then (spec_FillImage.l0 k2 l2 (wrap64 (x8_2 + 1)) t637 t638 t639 (x644003_2.set (x8_2 : Int).toNat (rd l2 (ji19)))) else (none)) else (none)) else (none)) = some (r1, r2, r3, r4) := by first | (rw [hji19] at H; exact H) | (simp only [hji19] at H ⊢; exact H)
     replace H := iD H
     obtain ⟨c20b0, H⟩ := H
     replace H := iD H
     obtain ⟨c21b0, H⟩ := H
     replace H := iD H
     obtain ⟨c22b0, H⟩ := H
     obtain ⟨y645, hy645⟩ : ∃ y_ : List Int, y_ = (x644003_2.set (x8_2 : Int).toNat (rd l2 (ji19))) := ⟨_, rfl⟩
     replace H : (spec_FillImage.l0 k2 l2 (wrap64 (x8_2 + 1)) t637 t638 t639 y645) = some (r1, r2, r3, r4) := rY hy645 H
     have Ny645 := aM hy645
     clear hy645
     have H' := aM H
     clear H
     have hnb24 := NB643_634.out
     have hnc24 := NB634_643.out
     obtain ⟨⟨hcz25_0, hcz25_1, hcz25_2, hcz25_3⟩, hfz25_0, hfz25_1, hfz25_2, hfz25_3⟩ := cf4 BK643
     obtain ⟨Ao26, co26, rfl⟩ := sL HO_644003
     try go_wp2
     replace HO_644003 := aM (Kd.R_drew HO_644003.out)
     replace BK634 := aM (blk_drew BK634.out)
     replace BK643 := aM (blk_drew BK643.out)
     replace HB := aM (below_drew1 HB.out)
     obtain ⟨ad644, e644, hx644_0⟩ := Kd.at_int HR2.out (ji19) oD oD
     have hw644_0 := hx644_0
     cases e644
     replace hx644_0 := bD HB hx644_0
     have p644 := eq_true (oD : 0 ≤ ((ji19) : Int))
     have q644 := eq_true (oD : (ji19) < (l2.length : Int))
     have p23 : 0 ≤ (x8_2 : Int) := oD
     have q23 : (x8_2 : Int) < ((x644003_2.length : Int) : Int) := oD
     obtain ⟨go23, co23, eo23, gb23, gl23, cl23, HG23⟩ := Kd.R_form HO_644003.out (by omega)
     (first | cases eo23 | (injection eo23 with ea_ en_ ec_; (first | subst ea_ | (injection ea_ with ea_; subst ea_)); subst ec_; clear en_))
     have GB23 := aM gb23
     have GG23 := aM HG23
     clear gb23 gl23 HG23
     obtain ⟨hx23_0, hf23_0⟩ := Kd.R_celln 0 HO_644003.out (x8_2 : Int) p23 q23
     replace p23 := eq_true p23
     replace q23 := eq_true q23
     have HP28 := Kd.R_putn HO_644003.out (x8_2 : Int) (rd l2 (ji19))
     rw [← Ny645.out] at HP28
     have HQ28 := aM HP28
     clear HP28
     refine start_ (n := 12) (S := fun w' => w'.cell? ⟨gb643, 0, none⟩ = some (.int .i64 t637) ∧ w'.cell? ⟨gb643, 1, none⟩ = some (.int .i64 t638) ∧ w'.cell? ⟨gb643, 2, none⟩ = some (.int .i64 t639) ∧ w'.cell? ⟨gb643, 3, none⟩ = some (.slice (some ⟨go23, 0, none⟩) x644003_2.length co26) ∧ w'.cell? (ad644.add ((ji19)).toNat) = some (.int .i64 (rd l2 (ji19)))) (ds := [11]) (bA 12 0) (by kernel_rfl) rfl rfl ⟨(blk_cell BK643.out 0).trans rfl, (blk_cell BK643.out 1).trans rfl, (blk_cell BK643.out 2).trans rfl, (blk_cell BK643.out 3).trans rfl, (bC HB hw644_0)⟩ (fun hHeld => ?_); refine with_tabW spec_FillImage.tab7 spec_FillImage.bits7 (fun HT_ HW_ => ?_)
     generalize wr.drew = w27 at HO_644003 BK634 BK643 HB GG23 HQ28 hf23_0 hx23_0 hx644_0 hHeld ⊢
     refine pQ 0 33 HT_ (bA 12 1) ?_
     refine pQ 2 35 HT_ (bA 12 5) ?_
     refine pQ 3 36 HT_ (bA 12 13) ?_
     refine pQ 4 37 HT_ (bA 12 29) ?_
     refine pQ 5 38 HT_ (bA 12 61) ?_
     refine pQ 6 39 HT_ (bA 12 125) ?_
     refine pQ 7 40 HT_ (bA 12 253) ?_
     refine pQ 8 41 HT_ (bA 12 509) ?_
     refine take_ (i := 1) (N := some 34) (v := ?_) (a' := ?_) (bA 12 511) rfl rfl (take_ofW HT_.out HW_.out (by kernel_rfl)) (fun _ _ _ h => h) (Or.inl ⟨by rfl, ?_⟩) hHeld ?_ ?_
     rotate_left
     ·rintro w' ⟨s0, s1, s2, s3, s4⟩
      go_simp
      with_reducible rfl
     rotate_left
     ·refine pZ ?_
      rfl
     refine take_ (i := 9) (N := some 42) (v := ?_) (a' := ?_) (bA 12 1023) rfl rfl (take_ofW HT_.out HW_.out (by kernel_rfl)) (fun _ _ _ h => h) (Or.inl ⟨by rfl, ?_⟩) hHeld ?_ ?_
     rotate_left
     ·rintro w' ⟨s0, s1, s2, s3, s4⟩
      go_simp
      with_reducible rfl
     rotate_left
     ·refine pZ ?_
      rfl
     refine pQ 10 43 HT_ (bA 12 2047) ?_
     refine last_ (i := 11) (N := none) (bA 12 4095) rfl rfl (one_of HT_.out (by kernel_rfl)) (by decide) (fun K hK => ?_)
     refine skip_ (w1 := ?_) (by rfl) rfl ?_ ?_
     rotate_left
     ·go_simp
      rfl
     refine hK.out _ _ ?_
     clear hK K
     refine done_ (done_of HT_.out (by kernel_rfl)) ?_
     try go_wp2
     go_roundg k2
     case measure => have := HJ3.out; have := HK2.out; omega
     case rel => exact ⟨(wrap64 (x8_2 + 1)), (y645), (.slice (some ⟨go23, 0, none⟩) x644003_2.length co26), qE, H', ⟨by have := HJ3.out; have := HK2.out; omega⟩, ⟨by refine qR ?_; exact HQ28.out⟩, ⟨by refine qB ?_; refine blk_far ?_ (by have h_ := Kd.R_ne HO_644003.out BK634.out (by decide); intro e_; exact h_ (by rw [e_]; rfl)) _; refine qB ?_; exact BK634.out⟩, ⟨by refine qB ?_; refine blk_far ?_ (by have h_ := Kd.R_ne HO_644003.out BK643.out (by decide); intro e_; exact h_ (by rw [e_]; rfl)) _; refine qB ?_; exact BK643.out⟩, ⟨by exact qW HB.out⟩⟩
def pixOf (l : List Int) (n p x y : Int) : List Int := (l.take ((y * n + x) * p + p).toNat).drop ((y * n + x) * p).toNat
set_option maxHeartbeats 8000000 in
set_option maxRecDepth 100000 in
theorem impl_at.calls2 (a0_0 : Int) (a0_1 : Int) (a0_2 : Int) (A0_3 : Option Addr) (c0_3 : Nat) (l0_3 : List Int) (a1 : Int) (a2 : Int) (w : World) (hr0_3 : Kd.C (Kd.int .i64) w A0_3 l0_3.length l0_3) (hc0_3 : l0_3.length ≤ c0_3)
  (h0 : 0 ≤ a0_0) (h0' : a0_0 ≤ 16) (h2 : 0 ≤ a0_2) (h2' : a0_2 ≤ 16) (hx : 0 ≤ a1) (hx' : a1 ≤ 1000) (hy : 0 ≤ a2) (hy' : a2 ≤ 1000) (hi : (a2 * a0_0 + a1) * a0_2 + a0_2 ≤ (l0_3.length : Int)) :
  Calls Try.prog 79 #[.agg #[.int .i64 a0_0, .int .i64 a0_1, .int .i64 a0_2, .slice A0_3 l0_3.length c0_3], .int .i64 a1, .int .i64 a2] w fun e w' => ∃ (A : Option Addr) (c : Nat), e = .returned (.slice A (pixOf l0_3 a0_0 a0_2 a1 a2).length c) ∧ Kd.C (Kd.int .i64) w' A (pixOf l0_3 a0_0 a0_2 a1 a2).length (pixOf l0_3 a0_0 a0_2 a1 a2) ∧ (pixOf l0_3 a0_0 a0_2 a1 a2).length ≤ c ∧ Below w.heap.size w w' ∧ ∀ W : World, Kd.C (Kd.int .i64) W A0_3 l0_3.length l0_3 → Kd.C (Kd.int .i64) W A (pixOf l0_3 a0_0 a0_2 a1 a2).length (pixOf l0_3 a0_0 a0_2 a1 a2) := by
 have hu26 := Try.underlying48
 have HB := aM (Below.refl w.heap.size w)
 have m1 : 0 ≤ a2 * a0_0 := Int.mul_nonneg hy h0
 have m1' : a2 * a0_0 ≤ 1000 * 16 := Int.mul_le_mul hy' h0' h0 (by omega)
 have m2 : 0 ≤ (a2 * a0_0 + a1) * a0_2 := Int.mul_nonneg (by omega) h2
 have m2' : (a2 * a0_0 + a1) * a0_2 ≤ 17000 * 16 := Int.mul_le_mul (by omega) h2' h2 (by omega)
 obtain ⟨i010, hi010, _, hsz10, _⟩ := info_parts info3
 obtain ⟨A10, hcut10, hA10, hC10⟩ := print_mid_of (P := Try.prog) (Value.int .i64) 0 28 3 .i64 .i64 Try.underlying28 hi010 hsz10 A0_3 c0_3 l0_3 ((a2 * a0_0 + a1) * a0_2) ((a2 * a0_0 + a1) * a0_2 + a0_2) m2 (by omega) hi hc0_3
 have HR := aM (Kd.C_of_reads (h1 := fun _ => rfl) (hA10 _ (Kd.reads_of_C hr0_3)))
 have HC := aM hC10
 have HA := aM (fun (W : World) (h : Kd.C (Kd.int .i64) W A0_3 l0_3.length l0_3) => Kd.C_of_reads (d := (0 : Int)) (h1 := fun _ => rfl) (hA10 W (Kd.reads_of_C h)))
 change ∀ W : World, (Instr.slice _ _ _ _ _).run _ W = .ok (.slice A10 (pixOf l0_3 a0_0 a0_2 a1 a2).length _) W at hcut10
 change Aside0 (Kd.C _ w A10 (pixOf l0_3 a0_0 a0_2 a1 a2).length (pixOf l0_3 a0_0 a0_2 a1 a2)) at HR
 change Aside0 (∀ W : World, Kd.C (Kd.int .i64) W A0_3 l0_3.length l0_3 → Kd.C (Kd.int .i64) W A10 (pixOf l0_3 a0_0 a0_2 a1 a2).length (pixOf l0_3 a0_0 a0_2 a1 a2)) at HA
 change Aside0 ((pixOf l0_3 a0_0 a0_2 a1 a2).length ≤ _) at HC
 clear hA10 hC10 hi010 hsz10 hr0_3 hc0_3 hi
 generalize pixOf l0_3 a0_0 a0_2 a1 a2 = px at hcut10 HR HC HA ⊢
 go_enter Try.func79, Try.ntmps79
 go_wp2_with (first | ((with_reducible refine gate_dst (N := 3) rfl ?_); refine bxE (N := 3) (cs := #[.int .i64 a0_0, .int .i64 a0_1, .int .i64 a0_2, .slice A0_3 l0_3.length c0_3]) (t := 48) ?_; intro gb hg w8 hbox hb; have n0_ := aM (below_step HB.out hb); have n1_ := aM (hbox); have HR2 := aM (Kd.C_below HR.out hb); clear HB HR; have HB := n0_; have BK := n1_; have HR := HR2; clear n0_ n1_ HR2; clear hb hbox hg; have hcz9_0 : w8.cell? ⟨gb, 0, none⟩ = some (.int .i64 a0_0) := (blk_cell BK.out 0).trans rfl; have hcz9_1 : w8.cell? ⟨gb, 1, none⟩ = some (.int .i64 a0_1) := (blk_cell BK.out 1).trans rfl; have hcz9_2 : w8.cell? ⟨gb, 2, none⟩ = some (.int .i64 a0_2) := (blk_cell BK.out 2).trans rfl; have hcz9_3 : w8.cell? ⟨gb, 3, none⟩ = some (.slice A0_3 l0_3.length c0_3) := (blk_cell BK.out 3).trans rfl))
 go_ret
 exact ⟨A10, _, rfl, by exact qC HR.out, HC.out, by exact qW HB.out, HA.out⟩
theorem impl_at.calls (a0_0 : Int) (a0_1 : Int) (a0_2 : Int) (A0_3 : Option Addr) (c0_3 : Nat) (l0_3 : List Int) (a1 : Int) (a2 : Int) (w : World) (hr0_3 : Kd.C (Kd.int .i64) w A0_3 l0_3.length l0_3) (hc0_3 : l0_3.length ≤ c0_3)
  (h0 : 0 ≤ a0_0) (h0' : a0_0 ≤ 16) (h2 : 0 ≤ a0_2) (h2' : a0_2 ≤ 16) (hx : 0 ≤ a1) (hx' : a1 ≤ 1000) (hy : 0 ≤ a2) (hy' : a2 ≤ 1000) (hi : (a2 * a0_0 + a1) * a0_2 + a0_2 ≤ (l0_3.length : Int)) :
  Calls Try.prog 79 #[.agg #[.int .i64 a0_0, .int .i64 a0_1, .int .i64 a0_2, .slice A0_3 l0_3.length c0_3], .int .i64 a1, .int .i64 a2] w fun e w' => ∃ (A : Option Addr) (c : Nat), e = .returned (.slice A (pixOf l0_3 a0_0 a0_2 a1 a2).length c) ∧ Kd.C (Kd.int .i64) w' A (pixOf l0_3 a0_0 a0_2 a1 a2).length (pixOf l0_3 a0_0 a0_2 a1 a2) ∧ (pixOf l0_3 a0_0 a0_2 a1 a2).length ≤ c ∧ Below w.heap.size w w' := by
 exact (impl_at.calls2 a0_0 a0_1 a0_2 A0_3 c0_3 l0_3 a1 a2 w hr0_3 hc0_3 h0 h0' h2 h2' hx hx' hy hy' hi).mono fun e w' ⟨A, c, h1, h2, h3, h4, _⟩ => ⟨A, c, h1, h2, h3, h4⟩
theorem pixOf_len (l : List Int) (n p x y : Int) (hp : 0 ≤ p) (hp' : p ≤ 4) : (pixOf l n p x y).length ≤ 100 := by
 unfold pixOf
 rw [List.length_drop, List.length_take]
 omega
theorem pixOf_length {l : List Int} {n p x y : Int} (h0 : 0 ≤ (y * n + x) * p) (hp : 0 ≤ p) (h : (y * n + x) * p + p ≤ (l.length : Int)) : ((pixOf l n p x y).length : Int) = p := by
 unfold pixOf
 rw [List.length_drop, List.length_take]
 omega
theorem pixOf_mem {l : List Int} {n p x y v : Int} (h : v ∈ pixOf l n p x y) : v ∈ l := by
 unfold pixOf at h
 exact List.mem_of_mem_take (List.mem_of_mem_drop h)
end Go.Proofs.Ytbldmekplkjfiaa.P
