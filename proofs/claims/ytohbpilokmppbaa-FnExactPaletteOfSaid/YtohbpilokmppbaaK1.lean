/- Contracts and row, written by a program of this place out of the translation: the call answers true and its argument reads as before, for every input; no condition. -/
import Derived.Test.YtohbpilokmppbaaK0
namespace Go.Proofs.Ytohbpilokmppbaa.P
open Go.RowKit Go.Proofs.YtohbpilokmppbaaW.PrintWords Go.Proofs.YtohbpilokmppbaaW.PrintLast Go.Proofs.YtohbpilokmppbaaW.PrintMore
attribute [local go_sem] max2_int min2_int max_two min_two max_three min_three max_four min_four   -- for this text's walks alone
set_option linter.unusedVariables false
set_option linter.unusedSimpArgs false
def spec_inRange.f (a0 : Int) (a1 : Int) (a2 : Int) : Option (Bool) := if a1 ≤ a0 then (some (decide (a0 ≤ a2))) else (some false)
set_option maxHeartbeats 8000000 in
set_option maxRecDepth 100000 in
theorem spec_inRange.calls (a0 : Int) (a1 : Int) (a2 : Int) (r : Bool) (w : World) (h : spec_inRange.f a0 a1 a2 = some r) :
  Calls Try.prog 59 #[.int .i64 a0, .int .i64 a1, .int .i64 a2] w fun e w' => e = .returned (.bool r) ∧ Drawn0 w w' := by
 unfold spec_inRange.f at h
 have H := h
 clear h
 by_cases c4 : a1 ≤ a0
 ·rw [if_pos c4] at H
  have c4b0 : decide (a1 ≤ a0) = true := decide_eq_true c4
  clear c4
  obtain rfl := Option.some.inj H
  go_enter Try.func59, Try.ntmps59
  go_wp2
  go_ret
  exact ⟨qE, qD⟩
 rw [if_neg c4] at H
 have c4b0 : decide (a1 ≤ a0) = false := decide_eq_false c4
 clear c4
 obtain rfl := Option.some.inj H
 go_enter Try.func59, Try.ntmps59
 go_wp2
 go_ret
 exact ⟨qE, qD⟩
def spec_allIn.l0 : Nat → List Int → Int → Int → Int → Option (Bool)
 | 0, _, _, _, _ => none
 | k + 1, x0, x1, x2, x7 => if x7 < (x0.length : Int) then (if 0 ≤ x7 then ((spec_inRange.f (rd x0 x7) x1 x2).bind fun t104 => (if t104 = true then (spec_allIn.l0 k x0 x1 x2 (wrap64 (x7 + 1))) else (some false))) else (none)) else (some true)
def spec_allIn.f (k : Nat) (l0 : List Int) (a1 : Int) (a2 : Int) : Option (Bool) := spec_allIn.l0 k l0 a1 a2 0
theorem spec_allIn.mono_l : ∀ k, (∀ y0 y1 y2 y3, LeO (spec_allIn.l0 k y0 y1 y2 y3) (spec_allIn.l0 (k + 1) y0 y1 y2 y3))
 | 0 => fun _ _ _ _ r h => by simp [spec_allIn.l0] at h
 | k + 1 => by
  have ih0 := spec_allIn.mono_l k
  ·intro y0 y1 y2 y3
   unfold spec_allIn.l0
   repeat' first | (with_reducible first | exact ih0 _ _ _ _ | exact lR | exact lN | refine lI ?_ ?_ | refine lB ?_ fun _ => ?_) | exact ih0 _ _ _ _ | exact lN | refine lI ?_ ?_ | refine lB ?_ fun _ => ?_
theorem spec_allIn.mono : ∀ a0 a1 a2 k, LeO (spec_allIn.f k a0 a1 a2) (spec_allIn.f (k + 1) a0 a1 a2) := by
 intro a0 a1 a2 k
 have ih0 := spec_allIn.mono_l k
 unfold spec_allIn.f
 repeat' first | (with_reducible first | exact ih0 _ _ _ _ | exact lR | exact lN | refine lI ?_ ?_ | refine lB ?_ fun _ => ?_) | exact ih0 _ _ _ _ | exact lN | refine lI ?_ ?_ | refine lB ?_ fun _ => ?_
set_option maxHeartbeats 8000000 in
set_option maxRecDepth 100000 in
theorem spec_allIn.calls (k : Nat) (A0 : Option Addr) (c0 : Nat) (l0 : List Int) (a1 : Int) (a2 : Int) (r : Bool) (w : World) (hr0 : Kd.C (Kd.int .i64) w A0 l0.length l0) (hc0 : l0.length ≤ c0) (h : spec_allIn.f k l0 a1 a2 = some r) :
  Calls Try.prog 61 #[.slice A0 l0.length c0, .int .i64 a1, .int .i64 a2] w fun e w' => e = .returned (.bool r) ∧ Drawn0 w w' := by
 have HR0 := aM hr0
 have HC0 := aM hc0
 clear hr0 hc0
 unfold spec_allIn.f at h
 have H := h
 clear h
 have H' := aM H
 clear H
 go_enter Try.func61, Try.ntmps61
 go_wp2
 go_loopg [7] k (fun kq v7 w' => ∃ (x7_1 : Int), v7 = .int .i64 x7_1 ∧ Aside0 (spec_allIn.l0 kq l0 a1 a2 x7_1 = some r) ∧ Aside0 (kq ≤ k) ∧ Drawn0 w w')
 case atStart => exact ⟨(0), qE, H', ⟨Nat.le_refl _⟩, qD⟩
 case round =>
  clear H'
  obtain ⟨x7_1, rfl, HA, HK1, ⟨m1, rfl⟩⟩ := hrel
  cases gk with
  | zero => exact absurd HA.out (by simp [spec_allIn.l0])
  | succ k1 =>
   have H := HA.out
   clear HA
   simp only [spec_allIn.l0] at H
   by_cases c4 : x7_1 < (l0.length : Int)
   rotate_left
   ·rw [if_neg c4] at H
    have c4b0 : decide (x7_1 < (l0.length : Int)) = false := decide_eq_false c4
    clear c4
    obtain rfl := Option.some.inj H
    go_wp2
    go_ret
    exact ⟨qE, qD⟩
   rw [if_pos c4] at H
   have c4b0 : decide (x7_1 < (l0.length : Int)) = true := decide_eq_true c4
   clear c4
   replace H := iD H
   obtain ⟨c5b0, H⟩ := H
   replace H := Option.bind_eq_some_iff.mp H
   obtain ⟨t104, A60, H⟩ := H
   replace H : (if t104 = true then (spec_allIn.l0 k1 l0 a1 a2 (wrap64 (x7_1 + 1))) else (some false)) = some r := H
   have A6 := aM A60
   clear A60
   by_cases c7 : t104 = true
   rotate_left
   ·replace c7 := Bool.eq_false_iff.mpr c7
    subst c7
    have H1 : (some false) = some r := by rw [if_neg (show ¬ (false = true) by decide)] at H; exact H
    clear H
    have H := H1
    clear H1
    obtain rfl := Option.some.inj H
    obtain ⟨ad103, e103, hx103_0⟩ := Kd.at_int HR0.out x7_1 oD oD
    cases e103
    have p103 := eq_true (oD : 0 ≤ (x7_1 : Int))
    have q103 := eq_true (oD : x7_1 < (l0.length : Int))
    go_wp2_with (first | ((with_reducible refine gate_callee (f := 59) rfl ?_); refine gL (some 20) Try.func59 #[.int .i64 (rd l0 x7_1), .int .i64 a1, .int .i64 a2] ?_; (with_reducible refine (spec_inRange.calls (rd l0 x7_1) a1 a2 false _ A6.out).mono ?_); rintro e w' ⟨rfl, ⟨nd, rfl⟩⟩; refine ⟨_, rfl, ?_⟩))
    go_ret
    exact ⟨qE, qD⟩
   subst c7
   have H1 : (spec_allIn.l0 k1 l0 a1 a2 (wrap64 (x7_1 + 1))) = some r := by rw [if_pos rfl] at H; exact H
   clear H
   have H := H1
   clear H1
   have H' := aM H
   clear H
   obtain ⟨ad103, e103, hx103_0⟩ := Kd.at_int HR0.out x7_1 oD oD
   cases e103
   have p103 := eq_true (oD : 0 ≤ (x7_1 : Int))
   have q103 := eq_true (oD : x7_1 < (l0.length : Int))
   go_wp2_with (first | ((with_reducible refine gate_callee (f := 59) rfl ?_); refine gL (some 20) Try.func59 #[.int .i64 (rd l0 x7_1), .int .i64 a1, .int .i64 a2] ?_; (with_reducible refine (spec_inRange.calls (rd l0 x7_1) a1 a2 true _ A6.out).mono ?_); rintro e w' ⟨rfl, ⟨nd, rfl⟩⟩; refine ⟨_, rfl, ?_⟩))
   go_roundg k1
   case measure => have := HK1.out; omega
   case rel => exact ⟨(wrap64 (x7_1 + 1)), qE, H', ⟨by have := HK1.out; omega⟩, qD⟩
def laws_toIntS.l0 : Nat → List Int → List Int → Int → Option (List Int)
 | 0, _, _, _ => none
 | k + 1, x0, x3, x4 => if x4 < (x0.length : Int) then (if 0 ≤ x4 then (if x4 < (x3.length : Int) then (laws_toIntS.l0 k x0 (x3.set (x4 : Int).toNat (rd x0 x4)) (wrap64 (x4 + 1))) else (none)) else (none)) else (some x3)
def laws_toIntS.f (k : Nat) (l0 : List Int) : Option (List Int) := if 0 ≤ (l0.length : Int) then (if ((l0.length : Int) : Int).toNat ≤ 35184372088832 then (laws_toIntS.l0 k l0 (List.replicate ((l0.length : Int) : Int).toNat 0) 0) else (none)) else (none)
theorem laws_toIntS.mono_l : ∀ k, (∀ y0 y1 y2, LeO (laws_toIntS.l0 k y0 y1 y2) (laws_toIntS.l0 (k + 1) y0 y1 y2))
 | 0 => fun _ _ _ r h => by simp [laws_toIntS.l0] at h
 | k + 1 => by
  have ih0 := laws_toIntS.mono_l k
  ·intro y0 y1 y2
   unfold laws_toIntS.l0
   repeat' first | (with_reducible first | exact ih0 _ _ _ | exact lR | exact lN | refine lI ?_ ?_ | refine lB ?_ fun _ => ?_) | exact ih0 _ _ _ | exact lN | refine lI ?_ ?_ | refine lB ?_ fun _ => ?_
theorem laws_toIntS.mono : ∀ a0 k, LeO (laws_toIntS.f k a0) (laws_toIntS.f (k + 1) a0) := by
 intro a0 k
 have ih0 := laws_toIntS.mono_l k
 unfold laws_toIntS.f
 repeat' first | (with_reducible first | exact ih0 _ _ _ | exact lR | exact lN | refine lI ?_ ?_ | refine lB ?_ fun _ => ?_) | exact ih0 _ _ _ | exact lN | refine lI ?_ ?_ | refine lB ?_ fun _ => ?_
set_option maxHeartbeats 8000000 in
set_option maxRecDepth 100000 in
theorem laws_toIntS.calls (k : Nat) (A0 : Option Addr) (c0 : Nat) (l0 : List Int) (r : List Int) (w : World) (hr0 : Kd.C (Kd.int .i64) w A0 l0.length l0) (hc0 : l0.length ≤ c0) (h : laws_toIntS.f k l0 = some r) :
  Calls Try.prog 42 #[.slice A0 l0.length c0] w fun e w' => ∃ v0_ : Value, e = .returned (v0_) ∧ Kd.R (Kd.int .i64) 3 w' w.heap.size (fun _ => True) v0_ r ∧ Below w.heap.size w w' := by
 have HR0 := aM hr0
 have HC0 := aM hc0
 clear hr0 hc0
 have HB := aM (Below.refl w.heap.size w)
 unfold laws_toIntS.f at h
 have H := h
 clear h
 replace H := iS H
 obtain ⟨c2, H⟩ := H
 have c2b0 := eq_true c2
 have c2b1 : decide (0 ≤ (l0.length : Int)) = true := decide_eq_true c2
 clear c2
 replace H := iS H
 obtain ⟨c3, H⟩ := H
 have c3b0 := eq_true c3
 have c3b1 : decide (((l0.length : Int) : Int).toNat ≤ 35184372088832) = true := decide_eq_true c3
 clear c3
 obtain ⟨y141, hy141⟩ : ∃ y_ : List Int, y_ = (List.replicate ((l0.length : Int) : Int).toNat 0) := ⟨_, rfl⟩
 replace H : (laws_toIntS.l0 k l0 y141 0) = some r := rY hy141 H
 have Ny141 := aM hy141
 clear hy141
 have H' := aM H
 clear H
 go_enter Try.func42, Try.ntmps42
 go_wp2_with (first | ((with_reducible refine gate_dst (N := 7) rfl ?_); refine Kd.R_make (Kd.int .i64) _ 3 rfl (N := 7) rfl 22 _ _ rfl (l0.length : Int) rfl rfl Try.underlying22 (.int .i64 0) 8 info3 rfl (by decide) (by omega) 0 (ok := fun _ => True) (okp := fun _ => True) rfl (fun _ hk => hk) trivial oD (Nat.le_trans (Nat.mul_le_mul_right _ (oD : (l0.length : Int).toNat ≤ 35184372088832)) (by omega)) (Below.refl _ _) (Nat.le_refl _) ?_; intro v142 w4 ho5 hb hg_ hnew_; clear hg_ hnew_; (first | rw [← Ny141.out] at ho5 | (simp only [Int.reduceToNat] at ho5; rw [← Ny141.out] at ho5)); have HO143 := oR ho5 HB; replace HB := bS HB hb; clear hb ho5))
 go_loopg [4] k (fun kq v4 w' => ∃ (x3_1 : List Int) (x4_1 : Int), v4 = .int .i64 x4_1 ∧ Aside0 (laws_toIntS.l0 kq l0 x3_1 x4_1 = some r) ∧ Aside0 (kq ≤ k) ∧ Aside0 (Kd.R (Kd.int .i64) 3 w' w.heap.size (fun _ => True) v142 x3_1) ∧ Aside0 (Below w.heap.size w w'))
 case atStart => exact ⟨(y141), (0), qE, H', ⟨Nat.le_refl _⟩, ⟨by refine qR ?_; exact HO143.out⟩, ⟨by exact qW HB.out⟩⟩
 case round =>
  clear H'
  try clear c2
  try clear c2b0
  try clear c2b1
  try clear c3
  try clear c3b0
  try clear c3b1
  obtain ⟨x3_1, x4_1, rfl, HA, HK1, HO_3, HB⟩ := hrel
  cases gk with
  | zero => exact absurd HA.out (by simp [laws_toIntS.l0])
  | succ k1 =>
   have H := HA.out
   clear HA
   simp only [laws_toIntS.l0] at H
   by_cases c6 : x4_1 < (l0.length : Int)
   rotate_left
   ·rw [if_neg c6] at H
    have c6b0 : decide (x4_1 < (l0.length : Int)) = false := decide_eq_false c6
    clear c6
    obtain rfl := Option.some.inj H
    go_wp2
    go_ret
    exact ⟨_, qX, by refine qR ?_; exact HO_3.out, by exact qW HB.out⟩
   rw [if_pos c6] at H
   have c6b0 : decide (x4_1 < (l0.length : Int)) = true := decide_eq_true c6
   clear c6
   replace H := iD H
   obtain ⟨c7b0, H⟩ := H
   replace H := iD H
   obtain ⟨c8b0, H⟩ := H
   obtain ⟨y145, hy145⟩ : ∃ y_ : List Int, y_ = (x3_1.set (x4_1 : Int).toNat (rd l0 x4_1)) := ⟨_, rfl⟩
   replace H : (laws_toIntS.l0 k1 l0 y145 (wrap64 (x4_1 + 1))) = some r := rY hy145 H
   have Ny145 := aM hy145
   clear hy145
   have H' := aM H
   clear H
   obtain ⟨ad144, e144, hx144_0⟩ := Kd.at_int HR0.out x4_1 oD oD
   cases e144
   replace hx144_0 := bD HB hx144_0
   have p144 := eq_true (oD : 0 ≤ (x4_1 : Int))
   have q144 := eq_true (oD : x4_1 < (l0.length : Int))
   have p9 : 0 ≤ (x4_1 : Int) := oD
   have q9 : (x4_1 : Int) < ((x3_1.length : Int) : Int) := oD
   obtain ⟨go9, co9, eo9, gb9, gl9, cl9, HG9⟩ := Kd.R_form HO_3.out (by omega)
   (first | cases eo9 | (injection eo9 with ea_ en_ ec_; (first | subst ea_ | (injection ea_ with ea_; subst ea_)); subst ec_; clear en_))
   have GB9 := aM gb9
   have GG9 := aM HG9
   clear gb9 gl9 HG9
   obtain ⟨hx9_0, hf9_0⟩ := Kd.R_celln 0 HO_3.out (x4_1 : Int) p9 q9
   replace p9 := eq_true p9
   replace q9 := eq_true q9
   have HP10 := Kd.R_putg HO_3.out (x4_1 : Int) (rd l0 x4_1)
   go_wp2_with (first | ((with_reducible refine gate_store (t := 3) (p := 20) rfl ?_); refine store_event (t := 3) (p := 20) (v := ?vo_w11) (w1 := (wr.setCell ⟨go9, (x4_1 : Int).toNat, none⟩ (.int .i64 (rd l0 x4_1)))) ?hg ?ho ?hn ?hr ?_; (case ho => rfl); (case hg => rfl); (case hn => rfl); (case hr => first | (go_simp; done) | (go_simp; rfl)); intro w11 hw; have hg : wr.grownBy w11 (some go9) := (by rw [hw]; exact HP10.2); have hp_ : Kd.R (Kd.int .i64) 3 w11 w.heap.size (fun _ => True) (.slice (some ⟨go9, 0, none⟩) x3_1.length co9) y145 := (by rw [hw, Ny145.out]; exact HP10.1); clear HP10; replace HO_3 := aM (hp_); replace HB := aM ((by rw [hw]; exact below_set (HB.out) GB9.out : Below w.heap.size w w11)); clear hg hw hp_))
   go_roundg k1
   case measure => have := HK1.out; omega
   case rel => exact ⟨(y145), (wrap64 (x4_1 + 1)), qE, H', ⟨by have := HK1.out; omega⟩, ⟨by refine qR ?_; exact HO_3.out⟩, ⟨by exact qW HB.out⟩⟩
def idxOf (p : Int → Bool) (l : List Int) : Int := if l.any p = true then (l.findIdx p : Int) else -1
theorem idxOf_hit (p : Int → Bool) (l : List Int) (k : Nat) (hk : k < l.length) (h : p (l.getD k 0) = true) (hn : ∀ j, j < k → p (l.getD j 0) = false) : idxOf p l = k := by
 have hx : l.findIdx p = k := by
  rw [List.findIdx_eq hk]
  refine ⟨by simpa [List.getD_eq_getElem?_getD, List.getElem?_eq_getElem hk] using h, fun j hj => ?_⟩
  have := hn j hj
  simpa [List.getD_eq_getElem?_getD, List.getElem?_eq_getElem (show j < l.length by omega)] using this
 have ha : l.any p = true := List.any_eq_true.2 ⟨l[k], List.getElem_mem hk, by simpa [List.getD_eq_getElem?_getD, List.getElem?_eq_getElem hk] using h⟩
 unfold idxOf
 rw [if_pos ha, hx]
theorem idxOf_miss (p : Int → Bool) (l : List Int) (hn : ∀ j, j < l.length → p (l.getD j 0) = false) : idxOf p l = -1 := by
 have ha : ¬ (l.any p = true) := by
  intro h
  obtain ⟨x, hx, hp⟩ := List.any_eq_true.1 h
  obtain ⟨j, hj, rfl⟩ := List.getElem_of_mem hx
  have := hn j hj
  simp [List.getD_eq_getElem?_getD, List.getElem?_eq_getElem hj, hp] at this
 unfold idxOf
 rw [if_neg ha]
theorem idxOf_nonneg (p : Int → Bool) (l : List Int) : decide (0 ≤ idxOf p l) = l.any p := by
 unfold idxOf
 cases h : l.any p <;> simp
def PredI (g : Nat) (lb : Array Value) (p : Int → Bool) (w : World) : Prop :=
 ∀ (W : World) (x : Int), Below w.heap.size w W → Calls Try.prog g (#[.int .i64 x] ++ lb) W fun e w' => e = .returned (.bool (p x)) ∧ Drawn0 W w'
set_option maxHeartbeats 8000000 in
set_option maxRecDepth 100000 in
theorem indexFuncInt.calls (g : Nat) (lb : Array Value) (eg : ∀ args w, (callFunc g args).run Try.prog w = .ok (.enter g args) w) (p : Int → Bool) (A0 : Option Addr) (c0 : Nat) (l0 : List Int) (w : World)
  (hp : PredI g lb p w) (hr0 : Kd.C (Kd.int .i64) w A0 l0.length l0) (hc0 : l0.length ≤ c0) :
  Calls Try.prog 93 #[.slice A0 l0.length c0, .func (.func g) #[] lb] w fun e w' => e = .returned (.int .i64 (idxOf p l0)) ∧ Drawn0 w w' := by
 have hm : l0.length ≤ 9223372036854775807 := Kd.C_max hr0
 have HR0 := aM hr0
 have HP := aM hp
 clear hr0 hp
 go_enter Try.func93, Try.ntmps93
 go_wp2
 go_loopg [5, 8] l0.length (fun gg _ s8 wr => ∃ kk q : Nat, kk ≤ l0.length ∧ l0.length - kk ≤ gg ∧ s8 = .int .i64 kk ∧ wr = w.drewN q ∧ Aside0 (∀ j, j < kk → p (l0.getD j 0) = false))
 case atStart => exact ⟨0, 0, Nat.zero_le _, by omega, rfl, rfl, ⟨fun j hj => absurd hj (Nat.not_lt_zero _)⟩⟩
 case round =>
  obtain ⟨kk, q, hkk, hg, rfl, rfl, NO⟩ := hrel
  by_cases hlt : kk < l0.length
  rotate_left
  ·have hltz : ¬ (kk : Int) < (l0.length : Int) := by omega
   have : kk = l0.length := by omega
   subst this
   go_wp2
   go_ret
   refine ⟨?_, ⟨⟨q, rfl⟩⟩⟩
   rw [idxOf_miss p l0 NO.out]
   rfl
  have hltz : (kk : Int) < (l0.length : Int) := by omega
  obtain ⟨ad, e1, hcell⟩ := Kd.at_int HR0.out (kk : Int) (by omega) hltz
  cases e1
  simp only [Int.toNat_natCast] at hcell
  have hb : Below w.heap.size w (w.drewN q) := pw_below_drewN (Below.refl _ _) q
  have hcall := HP.out (w.drewN q) (rd l0 kk) hb
  have hrd : rd l0 (kk : Int) = l0.getD kk 0 := by simp [rd]
  have HRD := aM hrd
  clear hrd hb
  cases hq : p (rd l0 kk) with
  | true =>
   rw [hq] at hcall
   have HQ := aM hq
   clear hq
   go_wp2_with (go_at_fn g; refine hcall.mono ?_; rintro e w' ⟨rfl, ⟨q', rfl⟩⟩)
   go_ret
   refine ⟨?_, ⟨⟨q + q', by first | rfl | rw [World.drewN_drewN]⟩⟩⟩
   rw [idxOf_hit p l0 kk hlt (by rw [← HRD.out]; exact HQ.out) NO.out]
   rfl
  | false =>
   rw [hq] at hcall
   have HQ := aM hq
   clear hq
   go_wp2_with (go_at_fn g; refine hcall.mono ?_; rintro e w' ⟨rfl, ⟨q', rfl⟩⟩)
   go_roundg (l0.length - (kk + 1))
   case measure => omega
   case rel =>
    refine ⟨kk + 1, q + q', by omega, by omega, by go_num, by first | rfl | rw [World.drewN_drewN], ⟨fun j hj => ?_⟩⟩
    by_cases e : j = kk
    rotate_left
    ·exact NO.out j (by omega)
    subst e
    rw [← HRD.out]; exact HQ.out
set_option maxHeartbeats 8000000 in
set_option maxRecDepth 100000 in
theorem containsFuncInt.calls (g : Nat) (lb : Array Value) (eg : ∀ args w, (callFunc g args).run Try.prog w = .ok (.enter g args) w) (p : Int → Bool) (A0 : Option Addr) (c0 : Nat) (l0 : List Int) (w : World)
  (hp : PredI g lb p w) (hr0 : Kd.C (Kd.int .i64) w A0 l0.length l0) (hc0 : l0.length ≤ c0) :
  Calls Try.prog 85 #[.slice A0 l0.length c0, .func (.func g) #[] lb] w fun e w' => e = .returned (.bool (l0.any p)) ∧ Drawn0 w w' := by
 rw [← idxOf_nonneg p l0]
 go_enter Try.func85, Try.ntmps85
 go_wp2_with (go_at_call 93; refine (indexFuncInt.calls g lb eg p _ _ l0 _ hp hr0 hc0).mono ?_; rintro e w' ⟨rfl, ⟨q, rfl⟩⟩)
 go_ret
 exact ⟨rfl, ⟨⟨q, rfl⟩⟩⟩
theorem areBytesTest (w : World) : PredI 86 #[] (fun n => decide (n < 0) || decide (255 < n)) w := fun W x _ => by
 by_cases h1 : x < 0
 ·have e : ((fun n : Int => decide (n < 0) || decide (255 < n)) x) = true := by show (decide (x < 0) || decide (255 < x)) = _; rw [decide_eq_true h1]; rfl
  rw [e]
  go_enter Try.func86, Try.ntmps86
  go_wp2
  go_ret
  exact ⟨rfl, Drawn0.refl _⟩
 ·have e : ((fun n : Int => decide (n < 0) || decide (255 < n)) x) = decide (255 < x) := by show (decide (x < 0) || decide (255 < x)) = _; rw [decide_eq_false h1]; rfl
  rw [e]
  go_enter Try.func86, Try.ntmps86
  go_wp2
  go_ret
  exact ⟨rfl, Drawn0.refl _⟩
def impl_areBytes.f (l0 : List Int) : Option (Bool) := some (!(l0.any fun n => decide (n < 0) || decide (255 < n)))
set_option maxHeartbeats 8000000 in
set_option maxRecDepth 100000 in
theorem impl_areBytes.calls (A0 : Option Addr) (c0 : Nat) (l0 : List Int) (r : Bool) (w : World) (hr0 : Kd.C (Kd.int .i64) w A0 l0.length l0) (hc0 : l0.length ≤ c0) (h : impl_areBytes.f l0 = some r) :
  Calls Try.prog 68 #[.slice A0 l0.length c0] w fun e w' => e = .returned (.bool r) ∧ Drawn0 w w' := by
 obtain rfl := Option.some.inj h
 clear h
 have hC := containsFuncInt.calls 86 #[] (enters_of Try.func86 (by kernel_rfl) rfl) (fun n => decide (n < 0) || decide (255 < n)) A0 c0 l0 w (areBytesTest w) hr0 hc0
 generalize (l0.any fun n => decide (n < 0) || decide (255 < n)) = b at hC ⊢
 go_enter Try.func68, Try.ntmps68
 go_wp2_with (go_at_call 85; refine hC.mono ?_; rintro e w' ⟨rfl, ⟨q, rfl⟩⟩)
 go_ret
 exact ⟨rfl, ⟨⟨q, rfl⟩⟩⟩
def laws_eqIntS.l0 : Nat → List Int → List Int → Int → Option (Bool)
 | 0, _, _, _ => none
 | k + 1, x0, x1, x5 => if x5 < (x0.length : Int) then (if 0 ≤ x5 then (if x5 < (x1.length : Int) then (if (rd x0 x5) = (rd x1 x5) then (laws_eqIntS.l0 k x0 x1 (wrap64 (x5 + 1))) else (some false)) else (none)) else (none)) else (some true)
def laws_eqIntS.f (k : Nat) (l0 : List Int) (l1 : List Int) : Option (Bool) := if (l0.length : Int) = (l1.length : Int) then (laws_eqIntS.l0 k l0 l1 0) else (some false)
theorem laws_eqIntS.mono_l : ∀ k, (∀ y0 y1 y2, LeO (laws_eqIntS.l0 k y0 y1 y2) (laws_eqIntS.l0 (k + 1) y0 y1 y2))
 | 0 => fun _ _ _ r h => by simp [laws_eqIntS.l0] at h
 | k + 1 => by
  have ih0 := laws_eqIntS.mono_l k
  ·intro y0 y1 y2
   unfold laws_eqIntS.l0
   repeat' first | (with_reducible first | exact ih0 _ _ _ | exact lR | exact lN | refine lI ?_ ?_ | refine lB ?_ fun _ => ?_) | exact ih0 _ _ _ | exact lN | refine lI ?_ ?_ | refine lB ?_ fun _ => ?_
theorem laws_eqIntS.mono : ∀ a0 a1 k, LeO (laws_eqIntS.f k a0 a1) (laws_eqIntS.f (k + 1) a0 a1) := by
 intro a0 a1 k
 have ih0 := laws_eqIntS.mono_l k
 unfold laws_eqIntS.f
 repeat' first | (with_reducible first | exact ih0 _ _ _ | exact lR | exact lN | refine lI ?_ ?_ | refine lB ?_ fun _ => ?_) | exact ih0 _ _ _ | exact lN | refine lI ?_ ?_ | refine lB ?_ fun _ => ?_
set_option maxHeartbeats 8000000 in
set_option maxRecDepth 100000 in
theorem laws_eqIntS.calls (k : Nat) (A0 : Option Addr) (c0 : Nat) (l0 : List Int) (A1 : Option Addr) (c1 : Nat) (l1 : List Int) (r : Bool) (w : World) (hr0 : Kd.C (Kd.int .i64) w A0 l0.length l0) (hc0 : l0.length ≤ c0) (hr1 : Kd.C (Kd.int .i64) w A1 l1.length l1) (hc1 : l1.length ≤ c1) (h : laws_eqIntS.f k l0 l1 = some r) :
  Calls Try.prog 48 #[.slice A0 l0.length c0, .slice A1 l1.length c1] w fun e w' => e = .returned (.bool r) ∧ Drawn0 w w' := by
 have HR0 := aM hr0
 have HC0 := aM hc0
 clear hr0 hc0
 have HR1 := aM hr1
 have HC1 := aM hc1
 clear hr1 hc1
 unfold laws_eqIntS.f at h
 have H := h
 clear h
 by_cases c3 : (l0.length : Int) = (l1.length : Int)
 rotate_left
 ·rw [if_neg c3] at H
  have c3b0 : ((l0.length : Int) == (l1.length : Int)) = false := beq_eq_false_iff_ne.mpr c3
  have c3b1 : ((l0.length : Int) != (l1.length : Int)) = true := bne_iff_ne.mpr c3
  have c3b2 : (l0.length == l1.length) = false := by first | simpa using c3 | (simp at c3 ⊢; omega)
  obtain rfl := Option.some.inj H
  go_enter Try.func48, Try.ntmps48
  go_wp2
  repeat (go_quiet (fail); try go_wp2)
  go_ret
  exact ⟨qE, qD⟩
 rw [if_pos c3] at H
 have c3b0 : ((l0.length : Int) == (l1.length : Int)) = true := beq_iff_eq.mpr c3
 have c3b1 : ((l0.length : Int) != (l1.length : Int)) = false := bne_eq_false_iff_eq.mpr c3
 have c3b2 : (l0.length == l1.length) = true := by first | simpa using c3 | (simp at c3 ⊢; omega)
 clear c3
 have H' := aM H
 clear H
 go_enter Try.func48, Try.ntmps48
 go_wp2
 repeat (go_quiet (fail); try go_wp2)
 go_loopg [5] k (fun kq v5 w' => ∃ (x5_1 : Int), v5 = .int .i64 x5_1 ∧ Aside0 (laws_eqIntS.l0 kq l0 l1 x5_1 = some r) ∧ Aside0 (kq ≤ k) ∧ Drawn0 w w')
 case atStart => exact ⟨(0), qE, H', ⟨Nat.le_refl _⟩, qD⟩
 case round =>
  clear H'
  try clear c1
  try clear c3
  try clear c3b0
  try clear c3b1
  try clear c3b2
  obtain ⟨x5_1, rfl, HA, HK1, ⟨m1, rfl⟩⟩ := hrel
  cases gk with
  | zero => exact absurd HA.out (by simp [laws_eqIntS.l0])
  | succ k1 =>
   have H := HA.out
   clear HA
   simp only [laws_eqIntS.l0] at H
   by_cases c4 : x5_1 < (l0.length : Int)
   rotate_left
   ·rw [if_neg c4] at H
    have c4b0 : decide (x5_1 < (l0.length : Int)) = false := decide_eq_false c4
    clear c4
    obtain rfl := Option.some.inj H
    go_wp2
    repeat (go_quiet (fail); try go_wp2)
    go_ret
    exact ⟨qE, qD⟩
   rw [if_pos c4] at H
   have c4b0 : decide (x5_1 < (l0.length : Int)) = true := decide_eq_true c4
   clear c4
   replace H := iD H
   obtain ⟨c5b0, H⟩ := H
   replace H := iD H
   obtain ⟨c6b0, H⟩ := H
   by_cases c7 : (rd l0 x5_1) = (rd l1 x5_1)
   rotate_left
   ·rw [if_neg c7] at H
    have c7b0 : ((rd l0 x5_1) == (rd l1 x5_1)) = false := beq_eq_false_iff_ne.mpr c7
    have c7b1 : ((rd l0 x5_1) != (rd l1 x5_1)) = true := bne_iff_ne.mpr c7
    obtain rfl := Option.some.inj H
    obtain ⟨ad159, e159, hx159_0⟩ := Kd.at_int HR0.out x5_1 oD oD
    cases e159
    have p159 := eq_true (oD : 0 ≤ (x5_1 : Int))
    have q159 := eq_true (oD : x5_1 < (l0.length : Int))
    obtain ⟨ad160, e160, hx160_0⟩ := Kd.at_int HR1.out x5_1 oD oD
    cases e160
    have p160 := eq_true (oD : 0 ≤ (x5_1 : Int))
    have q160 := eq_true (oD : x5_1 < (l1.length : Int))
    go_wp2
    repeat (go_quiet (fail); try go_wp2)
    go_ret
    exact ⟨qE, qD⟩
   rw [if_pos c7] at H
   have c7b0 : ((rd l0 x5_1) == (rd l1 x5_1)) = true := beq_iff_eq.mpr c7
   have c7b1 : ((rd l0 x5_1) != (rd l1 x5_1)) = false := bne_eq_false_iff_eq.mpr c7
   clear c7
   have H' := aM H
   clear H
   obtain ⟨ad159, e159, hx159_0⟩ := Kd.at_int HR0.out x5_1 oD oD
   cases e159
   have p159 := eq_true (oD : 0 ≤ (x5_1 : Int))
   have q159 := eq_true (oD : x5_1 < (l0.length : Int))
   obtain ⟨ad160, e160, hx160_0⟩ := Kd.at_int HR1.out x5_1 oD oD
   cases e160
   have p160 := eq_true (oD : 0 ≤ (x5_1 : Int))
   have q160 := eq_true (oD : x5_1 < (l1.length : Int))
   go_wp2
   repeat (go_quiet (fail); try go_wp2)
   go_roundg k1
   case measure => have := HK1.out; omega
   case rel => exact ⟨(wrap64 (x5_1 + 1)), qE, H', ⟨by have := HK1.out; omega⟩, qD⟩
def laws_markIntS.l0 : Nat → List Int → Int → Int → Option (Int × List Int)
 | 0, _, _, _ => none
 | k + 1, x0, x1, x5 => if x5 < (x0.length : Int) then (if 0 ≤ x5 then (laws_markIntS.l0 k (x0.set (x5 : Int).toNat x1) (wrap64 (x1 + 1)) (wrap64 (x5 + 1))) else (none)) else (some (x1, x0))
def laws_markIntS.f (k : Nat) (l0 : List Int) (a1 : Int) : Option (Int × List Int) := laws_markIntS.l0 k l0 a1 0
theorem laws_markIntS.mono_l : ∀ k, (∀ y0 y1 y2, LeO (laws_markIntS.l0 k y0 y1 y2) (laws_markIntS.l0 (k + 1) y0 y1 y2))
 | 0 => fun _ _ _ r h => by simp [laws_markIntS.l0] at h
 | k + 1 => by
  have ih0 := laws_markIntS.mono_l k
  ·intro y0 y1 y2
   unfold laws_markIntS.l0
   repeat' first | (with_reducible first | exact ih0 _ _ _ | exact lR | exact lN | refine lI ?_ ?_ | refine lB ?_ fun _ => ?_) | exact ih0 _ _ _ | exact lN | refine lI ?_ ?_ | refine lB ?_ fun _ => ?_
theorem laws_markIntS.mono : ∀ a0 a1 k, LeO (laws_markIntS.f k a0 a1) (laws_markIntS.f (k + 1) a0 a1) := by
 intro a0 a1 k
 have ih0 := laws_markIntS.mono_l k
 unfold laws_markIntS.f
 repeat' first | (with_reducible first | exact ih0 _ _ _ | exact lR | exact lN | refine lI ?_ ?_ | refine lB ?_ fun _ => ?_) | exact ih0 _ _ _ | exact lN | refine lI ?_ ?_ | refine lB ?_ fun _ => ?_
set_option maxHeartbeats 8000000 in
set_option maxRecDepth 100000 in
theorem laws_markIntS.calls (k : Nat) (P0_ : Nat → Prop) (u9000_ : Value) (l0 : List Int) (a1 : Int) (r1 : Int) (r2 : List Int) (w0 w : World) (hB : Below w0.heap.size w0 w) (ho0 : Kd.R (Kd.int .i64) 3 w w0.heap.size P0_ u9000_ l0) (h : laws_markIntS.f k l0 a1 = some (r1, r2)) :
  Calls Try.prog 49 #[u9000_, .int .i64 a1] w fun e w' => e = .returned (.int .i64 r1) ∧ Kd.R (Kd.int .i64) 3 w' w0.heap.size (fun k_ => (P0_ k_ ∨ w.heap.size ≤ k_)) u9000_ r2 ∧ Below w0.heap.size w0 w' ∧ Kept w w' (fun k_ => P0_ k_) := by
 have HO0 := aM (show Kd.R (Kd.int .i64) 3 w w0.heap.size (fun k_ => (P0_ k_ ∨ w.heap.size ≤ k_)) u9000_ l0 from Kd.R_mono ho0 (fun k_ hk => (.inl hk)))
 have HK := aM (Kept.refl w (fun k_ => P0_ k_))
 have HW0 := aM hB.size
 have HB := aM hB
 clear hB
 unfold laws_markIntS.f at h
 have H := h
 clear h
 have H' := aM H
 clear H
 go_enter Try.func49, Try.ntmps49
 go_wp2
 go_loopg [1, 5] k (fun kq v1 v5 w' => ∃ (x0_1 : List Int) (x1_1 : Int) (x5_1 : Int), v1 = .int .i64 x1_1 ∧ v5 = .int .i64 x5_1 ∧ Aside0 (laws_markIntS.l0 kq x0_1 x1_1 x5_1 = some (r1, r2)) ∧ Aside0 (kq ≤ k) ∧ Aside0 (Kd.R (Kd.int .i64) 3 w' w0.heap.size (fun k_ => (P0_ k_ ∨ w.heap.size ≤ k_)) u9000_ x0_1) ∧ Aside0 (Kept w w' (fun k_ => P0_ k_)) ∧ Aside0 (Below w0.heap.size w0 w'))
 case atStart => exact ⟨(l0), (a1), (0), qE, qE, H', ⟨Nat.le_refl _⟩, ⟨by refine qR ?_; exact HO0.out⟩, ⟨kP HK.out⟩, ⟨by exact qW HB.out⟩⟩
 case round =>
  clear H'
  obtain ⟨x0_1, x1_1, x5_1, rfl, rfl, HA, HK1, HO_0, HK, HB⟩ := hrel
  cases gk with
  | zero => exact absurd HA.out (by simp [laws_markIntS.l0])
  | succ k1 =>
   have H := HA.out
   clear HA
   simp only [laws_markIntS.l0] at H
   by_cases c3 : x5_1 < (x0_1.length : Int)
   rotate_left
   ·rw [if_neg c3] at H
    have c3b0 : decide (x5_1 < (x0_1.length : Int)) = false := decide_eq_false c3
    clear c3
    simp only [Option.some.injEq, Prod.mk.injEq] at H
    obtain ⟨rfl, rfl⟩ := H
    obtain ⟨Ao9, co9, rfl⟩ := sL HO_0
    go_wp2
    go_ret
    exact ⟨qX, by refine qR ?_; exact HO_0.out, by exact qW HB.out, kP HK.out⟩
   rw [if_pos c3] at H
   have c3b0 : decide (x5_1 < (x0_1.length : Int)) = true := decide_eq_true c3
   clear c3
   replace H := iD H
   obtain ⟨c4b0, H⟩ := H
   obtain ⟨y167, hy167⟩ : ∃ y_ : List Int, y_ = (x0_1.set (x5_1 : Int).toNat x1_1) := ⟨_, rfl⟩
   replace H : (laws_markIntS.l0 k1 y167 (wrap64 (x1_1 + 1)) (wrap64 (x5_1 + 1))) = some (r1, r2) := rY hy167 H
   have Ny167 := aM hy167
   clear hy167
   have H' := aM H
   clear H
   obtain ⟨Ao6, co6, rfl⟩ := sL HO_0
   have p5 : 0 ≤ (x5_1 : Int) := oD
   have q5 : (x5_1 : Int) < ((x0_1.length : Int) : Int) := oD
   obtain ⟨go5, co5, eo5, gb5, gl5, cl5, HG5⟩ := Kd.R_form HO_0.out (by omega)
   (first | cases eo5 | (injection eo5 with ea_ en_ ec_; (first | subst ea_ | (injection ea_ with ea_; subst ea_)); subst ec_; clear en_))
   have GB5 := aM gb5
   have GG5 := aM HG5
   clear gb5 gl5 HG5
   have HMgo5 := aM (show (P0_ go5 ∨ w.heap.size ≤ go5) from (HO_0.out.1 _ rfl))
   obtain ⟨hx5_0, hf5_0⟩ := Kd.R_celln 0 HO_0.out (x5_1 : Int) p5 q5
   replace p5 := eq_true p5
   replace q5 := eq_true q5
   have HP7 := Kd.R_putg HO_0.out (x5_1 : Int) x1_1
   go_wp2_with (first | ((with_reducible refine gate_store (t := 3) (p := 15) rfl ?_); refine store_event (t := 3) (p := 15) (v := ?vo_w8) (w1 := (wr.setCell ⟨go5, (x5_1 : Int).toNat, none⟩ (.int .i64 x1_1))) ?hg ?ho ?hn ?hr ?_; (case ho => rfl); (case hg => rfl); (case hn => rfl); (case hr => first | (go_simp; done) | (go_simp; rfl)); intro w8 hw; have hg : wr.grownBy w8 (some go5) := (by rw [hw]; exact HP7.2); have hp_ : Kd.R (Kd.int .i64) 3 w8 w0.heap.size (fun k_ => (P0_ k_ ∨ w.heap.size ≤ k_)) (.slice (some ⟨go5, 0, none⟩) x0_1.length co6) y167 := (by rw [hw, Ny167.out]; exact HP7.1); clear HP7; replace HB := aM ((by rw [hw]; exact below_set (HB.out) GB5.out : Below w0.heap.size w0 w8)); replace HK := aM (Kept.of_grown (S := (fun k_ => P0_ k_)) hg (kP HK.out) (fun k_ e_ => (HO_0.out.1 k_ e_))); replace HO_0 := aM (hp_); clear hg hw hp_))
   go_roundg k1
   case measure => have := HK1.out; omega
   case rel => exact ⟨(y167), (wrap64 (x1_1 + 1)), (wrap64 (x5_1 + 1)), qE, qE, H', ⟨by have := HK1.out; omega⟩, ⟨by refine qR ?_; exact HO_0.out⟩, ⟨kP HK.out⟩, ⟨by exact qW HB.out⟩⟩
def laws_heldIntS.l0 : Nat → List Int → Int → Int → Option (Int)
 | 0, _, _, _ => none
 | k + 1, x0, x1, x5 => if x5 < (x0.length : Int) then (if 0 ≤ x5 then (if (rd x0 x5) = x1 then (laws_heldIntS.l0 k x0 (wrap64 (x1 + 1)) (wrap64 (x5 + 1))) else (some (-1))) else (none)) else (some x1)
def laws_heldIntS.f (k : Nat) (l0 : List Int) (a1 : Int) : Option (Int) := laws_heldIntS.l0 k l0 a1 0
theorem laws_heldIntS.mono_l : ∀ k, (∀ y0 y1 y2, LeO (laws_heldIntS.l0 k y0 y1 y2) (laws_heldIntS.l0 (k + 1) y0 y1 y2))
 | 0 => fun _ _ _ r h => by simp [laws_heldIntS.l0] at h
 | k + 1 => by
  have ih0 := laws_heldIntS.mono_l k
  ·intro y0 y1 y2
   unfold laws_heldIntS.l0
   repeat' first | (with_reducible first | exact ih0 _ _ _ | exact lR | exact lN | refine lI ?_ ?_ | refine lB ?_ fun _ => ?_) | exact ih0 _ _ _ | exact lN | refine lI ?_ ?_ | refine lB ?_ fun _ => ?_
theorem laws_heldIntS.mono : ∀ a0 a1 k, LeO (laws_heldIntS.f k a0 a1) (laws_heldIntS.f (k + 1) a0 a1) := by
 intro a0 a1 k
 have ih0 := laws_heldIntS.mono_l k
 unfold laws_heldIntS.f
 repeat' first | (with_reducible first | exact ih0 _ _ _ | exact lR | exact lN | refine lI ?_ ?_ | refine lB ?_ fun _ => ?_) | exact ih0 _ _ _ | exact lN | refine lI ?_ ?_ | refine lB ?_ fun _ => ?_
set_option maxHeartbeats 8000000 in
set_option maxRecDepth 100000 in
theorem laws_heldIntS.calls (k : Nat) (A0 : Option Addr) (c0 : Nat) (l0 : List Int) (a1 : Int) (r : Int) (w : World) (hr0 : Kd.C (Kd.int .i64) w A0 l0.length l0) (hc0 : l0.length ≤ c0) (h : laws_heldIntS.f k l0 a1 = some r) :
  Calls Try.prog 50 #[.slice A0 l0.length c0, .int .i64 a1] w fun e w' => e = .returned (.int .i64 r) ∧ Drawn0 w w' := by
 have HR0 := aM hr0
 have HC0 := aM hc0
 clear hr0 hc0
 unfold laws_heldIntS.f at h
 have H := h
 clear h
 have H' := aM H
 clear H
 go_enter Try.func50, Try.ntmps50
 go_wp2
 go_loopg [1, 5] k (fun kq v1 v5 w' => ∃ (x1_1 : Int) (x5_1 : Int), v1 = .int .i64 x1_1 ∧ v5 = .int .i64 x5_1 ∧ Aside0 (laws_heldIntS.l0 kq l0 x1_1 x5_1 = some r) ∧ Aside0 (kq ≤ k) ∧ Drawn0 w w')
 case atStart => exact ⟨(a1), (0), qE, qE, H', ⟨Nat.le_refl _⟩, qD⟩
 case round =>
  clear H'
  obtain ⟨x1_1, x5_1, rfl, rfl, HA, HK1, ⟨m1, rfl⟩⟩ := hrel
  cases gk with
  | zero => exact absurd HA.out (by simp [laws_heldIntS.l0])
  | succ k1 =>
   have H := HA.out
   clear HA
   simp only [laws_heldIntS.l0] at H
   by_cases c3 : x5_1 < (l0.length : Int)
   rotate_left
   ·rw [if_neg c3] at H
    have c3b0 : decide (x5_1 < (l0.length : Int)) = false := decide_eq_false c3
    clear c3
    obtain rfl := Option.some.inj H
    go_wp2
    go_ret
    exact ⟨qE, qD⟩
   rw [if_pos c3] at H
   have c3b0 : decide (x5_1 < (l0.length : Int)) = true := decide_eq_true c3
   clear c3
   replace H := iD H
   obtain ⟨c4b0, H⟩ := H
   by_cases c5 : (rd l0 x5_1) = x1_1
   rotate_left
   ·rw [if_neg c5] at H
    have c5b0 : ((rd l0 x5_1) == x1_1) = false := beq_eq_false_iff_ne.mpr c5
    have c5b1 : ((rd l0 x5_1) != x1_1) = true := bne_iff_ne.mpr c5
    obtain rfl := Option.some.inj H
    obtain ⟨ad171, e171, hx171_0⟩ := Kd.at_int HR0.out x5_1 oD oD
    cases e171
    have p171 := eq_true (oD : 0 ≤ (x5_1 : Int))
    have q171 := eq_true (oD : x5_1 < (l0.length : Int))
    go_wp2
    go_ret
    exact ⟨qE, qD⟩
   rw [if_pos c5] at H
   have c5b0 : ((rd l0 x5_1) == x1_1) = true := beq_iff_eq.mpr c5
   have c5b1 : ((rd l0 x5_1) != x1_1) = false := bne_eq_false_iff_eq.mpr c5
   clear c5
   have H' := aM H
   clear H
   obtain ⟨ad171, e171, hx171_0⟩ := Kd.at_int HR0.out x5_1 oD oD
   cases e171
   have p171 := eq_true (oD : 0 ≤ (x5_1 : Int))
   have q171 := eq_true (oD : x5_1 < (l0.length : Int))
   go_wp2
   go_roundg k1
   case measure => have := HK1.out; omega
   case rel => exact ⟨(wrap64 (x1_1 + 1)), (wrap64 (x5_1 + 1)), qE, qE, H', ⟨by have := HK1.out; omega⟩, qD⟩
def laws_equalInts.l0 : Nat → List Int → List Int → Int → Option (Bool)
 | 0, _, _, _ => none
 | k + 1, x0, x1, x5 => if x5 < (x0.length : Int) then (if 0 ≤ x5 then (if x5 < (x1.length : Int) then (if (rd x0 x5) = (rd x1 x5) then (laws_equalInts.l0 k x0 x1 (wrap64 (x5 + 1))) else (some false)) else (none)) else (none)) else (some true)
def laws_equalInts.f (k : Nat) (l0 : List Int) (l1 : List Int) : Option (Bool) := if (l0.length : Int) = (l1.length : Int) then (laws_equalInts.l0 k l0 l1 0) else (some false)
theorem laws_equalInts.mono_l : ∀ k, (∀ y0 y1 y2, LeO (laws_equalInts.l0 k y0 y1 y2) (laws_equalInts.l0 (k + 1) y0 y1 y2))
 | 0 => fun _ _ _ r h => by simp [laws_equalInts.l0] at h
 | k + 1 => by
  have ih0 := laws_equalInts.mono_l k
  ·intro y0 y1 y2
   unfold laws_equalInts.l0
   repeat' first | (with_reducible first | exact ih0 _ _ _ | exact lR | exact lN | refine lI ?_ ?_ | refine lB ?_ fun _ => ?_) | exact ih0 _ _ _ | exact lN | refine lI ?_ ?_ | refine lB ?_ fun _ => ?_
theorem laws_equalInts.mono : ∀ a0 a1 k, LeO (laws_equalInts.f k a0 a1) (laws_equalInts.f (k + 1) a0 a1) := by
 intro a0 a1 k
 have ih0 := laws_equalInts.mono_l k
 unfold laws_equalInts.f
 repeat' first | (with_reducible first | exact ih0 _ _ _ | exact lR | exact lN | refine lI ?_ ?_ | refine lB ?_ fun _ => ?_) | exact ih0 _ _ _ | exact lN | refine lI ?_ ?_ | refine lB ?_ fun _ => ?_
set_option maxHeartbeats 8000000 in
set_option maxRecDepth 100000 in
theorem laws_equalInts.calls (k : Nat) (A0 : Option Addr) (c0 : Nat) (l0 : List Int) (A1 : Option Addr) (c1 : Nat) (l1 : List Int) (r : Bool) (w : World) (hr0 : Kd.C (Kd.int .i64) w A0 l0.length l0) (hc0 : l0.length ≤ c0) (hr1 : Kd.C (Kd.int .i64) w A1 l1.length l1) (hc1 : l1.length ≤ c1) (h : laws_equalInts.f k l0 l1 = some r) :
  Calls Try.prog 23 #[.slice A0 l0.length c0, .slice A1 l1.length c1] w fun e w' => e = .returned (.bool r) ∧ Drawn0 w w' := by
 have HR0 := aM hr0
 have HC0 := aM hc0
 clear hr0 hc0
 have HR1 := aM hr1
 have HC1 := aM hc1
 clear hr1 hc1
 unfold laws_equalInts.f at h
 have H := h
 clear h
 by_cases c3 : (l0.length : Int) = (l1.length : Int)
 rotate_left
 ·rw [if_neg c3] at H
  have c3b0 : ((l0.length : Int) == (l1.length : Int)) = false := beq_eq_false_iff_ne.mpr c3
  have c3b1 : ((l0.length : Int) != (l1.length : Int)) = true := bne_iff_ne.mpr c3
  have c3b2 : (l0.length == l1.length) = false := by first | simpa using c3 | (simp at c3 ⊢; omega)
  obtain rfl := Option.some.inj H
  go_enter Try.func23, Try.ntmps23
  go_wp2
  repeat (go_quiet (fail); try go_wp2)
  go_ret
  exact ⟨qE, qD⟩
 rw [if_pos c3] at H
 have c3b0 : ((l0.length : Int) == (l1.length : Int)) = true := beq_iff_eq.mpr c3
 have c3b1 : ((l0.length : Int) != (l1.length : Int)) = false := bne_eq_false_iff_eq.mpr c3
 have c3b2 : (l0.length == l1.length) = true := by first | simpa using c3 | (simp at c3 ⊢; omega)
 clear c3
 have H' := aM H
 clear H
 go_enter Try.func23, Try.ntmps23
 go_wp2
 repeat (go_quiet (fail); try go_wp2)
 go_loopg [5] k (fun kq v5 w' => ∃ (x5_1 : Int), v5 = .int .i64 x5_1 ∧ Aside0 (laws_equalInts.l0 kq l0 l1 x5_1 = some r) ∧ Aside0 (kq ≤ k) ∧ Drawn0 w w')
 case atStart => exact ⟨(0), qE, H', ⟨Nat.le_refl _⟩, qD⟩
 case round =>
  clear H'
  try clear c1
  try clear c3
  try clear c3b0
  try clear c3b1
  try clear c3b2
  obtain ⟨x5_1, rfl, HA, HK1, ⟨m1, rfl⟩⟩ := hrel
  cases gk with
  | zero => exact absurd HA.out (by simp [laws_equalInts.l0])
  | succ k1 =>
   have H := HA.out
   clear HA
   simp only [laws_equalInts.l0] at H
   by_cases c4 : x5_1 < (l0.length : Int)
   rotate_left
   ·rw [if_neg c4] at H
    have c4b0 : decide (x5_1 < (l0.length : Int)) = false := decide_eq_false c4
    clear c4
    obtain rfl := Option.some.inj H
    go_wp2
    repeat (go_quiet (fail); try go_wp2)
    go_ret
    exact ⟨qE, qD⟩
   rw [if_pos c4] at H
   have c4b0 : decide (x5_1 < (l0.length : Int)) = true := decide_eq_true c4
   clear c4
   replace H := iD H
   obtain ⟨c5b0, H⟩ := H
   replace H := iD H
   obtain ⟨c6b0, H⟩ := H
   by_cases c7 : (rd l0 x5_1) = (rd l1 x5_1)
   rotate_left
   ·rw [if_neg c7] at H
    have c7b0 : ((rd l0 x5_1) == (rd l1 x5_1)) = false := beq_eq_false_iff_ne.mpr c7
    have c7b1 : ((rd l0 x5_1) != (rd l1 x5_1)) = true := bne_iff_ne.mpr c7
    obtain rfl := Option.some.inj H
    obtain ⟨ad324, e324, hx324_0⟩ := Kd.at_int HR0.out x5_1 oD oD
    cases e324
    have p324 := eq_true (oD : 0 ≤ (x5_1 : Int))
    have q324 := eq_true (oD : x5_1 < (l0.length : Int))
    obtain ⟨ad325, e325, hx325_0⟩ := Kd.at_int HR1.out x5_1 oD oD
    cases e325
    have p325 := eq_true (oD : 0 ≤ (x5_1 : Int))
    have q325 := eq_true (oD : x5_1 < (l1.length : Int))
    go_wp2
    repeat (go_quiet (fail); try go_wp2)
    go_ret
    exact ⟨qE, qD⟩
   rw [if_pos c7] at H
   have c7b0 : ((rd l0 x5_1) == (rd l1 x5_1)) = true := beq_iff_eq.mpr c7
   have c7b1 : ((rd l0 x5_1) != (rd l1 x5_1)) = false := bne_eq_false_iff_eq.mpr c7
   clear c7
   have H' := aM H
   clear H
   obtain ⟨ad324, e324, hx324_0⟩ := Kd.at_int HR0.out x5_1 oD oD
   cases e324
   have p324 := eq_true (oD : 0 ≤ (x5_1 : Int))
   have q324 := eq_true (oD : x5_1 < (l0.length : Int))
   obtain ⟨ad325, e325, hx325_0⟩ := Kd.at_int HR1.out x5_1 oD oD
   cases e325
   have p325 := eq_true (oD : 0 ≤ (x5_1 : Int))
   have q325 := eq_true (oD : x5_1 < (l1.length : Int))
   go_wp2
   repeat (go_quiet (fail); try go_wp2)
   go_roundg k1
   case measure => have := HK1.out; omega
   case rel => exact ⟨(wrap64 (x5_1 + 1)), qE, H', ⟨by have := HK1.out; omega⟩, qD⟩
def spec_validShape.f (a0 : Int) (a1 : Int) (a2 : Int) : Option (Bool) := (spec_inRange.f a0 1 16).bind fun t105 => (if t105 = true then ((spec_inRange.f a1 1 16).bind fun t106 => (if t106 = true then ((spec_inRange.f a2 1 4).bind fun t107 => (some t107)) else (some false))) else (some false))
set_option maxHeartbeats 8000000 in
set_option maxRecDepth 100000 in
theorem spec_validShape.calls (a0 : Int) (a1 : Int) (a2 : Int) (r : Bool) (w : World) (h : spec_validShape.f a0 a1 a2 = some r) :
  Calls Try.prog 75 #[.int .i64 a0, .int .i64 a1, .int .i64 a2] w fun e w' => e = .returned (.bool r) ∧ Drawn0 w w' := by
 unfold spec_validShape.f at h
 have H := h
 clear h
 replace H := Option.bind_eq_some_iff.mp H
 obtain ⟨t105, A40, H⟩ := H
 replace H : (if t105 = true then ((spec_inRange.f a1 1 16).bind fun t106 => (if t106 = true then ((spec_inRange.f a2 1 4).bind fun t107 => (some t107)) else (some false))) else (some false)) = some r := H
 have A4 := aM A40
 clear A40
 by_cases c5 : t105 = true
 rotate_left
 ·replace c5 := Bool.eq_false_iff.mpr c5
  subst c5
  have H1 : (some false) = some r := by rw [if_neg (show ¬ (false = true) by decide)] at H; exact H
  clear H
  have H := H1
  clear H1
  obtain rfl := Option.some.inj H
  go_enter Try.func75, Try.ntmps75
  go_wp2_with (first | ((with_reducible refine gate_callee (f := 59) rfl ?_); refine gL (some 8) Try.func59 #[.int .i64 a0, .int .i64 1, .int .i64 16] ?_; (with_reducible refine (spec_inRange.calls a0 1 16 false _ A4.out).mono ?_); rintro e w' ⟨rfl, ⟨nd, rfl⟩⟩; refine ⟨_, rfl, ?_⟩))
  go_ret
  exact ⟨qE, qD⟩
 subst c5
 have H1 : ((spec_inRange.f a1 1 16).bind fun t106 => (if t106 = true then ((spec_inRange.f a2 1 4).bind fun t107 => (some t107)) else (some false))) = some r := by rw [if_pos rfl] at H; exact H
 clear H
 have H := H1
 clear H1
 replace H := Option.bind_eq_some_iff.mp H
 obtain ⟨t106, A60, H⟩ := H
 replace H : (if t106 = true then ((spec_inRange.f a2 1 4).bind fun t107 => (some t107)) else (some false)) = some r := H
 have A6 := aM A60
 clear A60
 by_cases c7 : t106 = true
 rotate_left
 ·replace c7 := Bool.eq_false_iff.mpr c7
  subst c7
  have H1 : (some false) = some r := by rw [if_neg (show ¬ (false = true) by decide)] at H; exact H
  clear H
  have H := H1
  clear H1
  obtain rfl := Option.some.inj H
  go_enter Try.func75, Try.ntmps75
  go_wp2_with (first | ((with_reducible refine gate_callee (f := 59) rfl ?_); refine gL (some 8) Try.func59 #[.int .i64 a0, .int .i64 1, .int .i64 16] ?_; (with_reducible refine (spec_inRange.calls a0 1 16 true _ A4.out).mono ?_); rintro e w' ⟨rfl, ⟨nd, rfl⟩⟩; refine ⟨_, rfl, ?_⟩) | (go_at_call 59; (with_reducible refine (spec_inRange.calls a1 1 16 false _ A6.out).mono ?_); rintro e w' ⟨rfl, ⟨nd, rfl⟩⟩))
  go_ret
  exact ⟨qE, qD⟩
 subst c7
 have H1 : ((spec_inRange.f a2 1 4).bind fun t107 => (some t107)) = some r := by rw [if_pos rfl] at H; exact H
 clear H
 have H := H1
 clear H1
 replace H := Option.bind_eq_some_iff.mp H
 obtain ⟨t107, A80, H⟩ := H
 replace H : (some t107) = some r := H
 have A8 := aM A80
 clear A80
 obtain rfl := Option.some.inj H
 go_enter Try.func75, Try.ntmps75
 go_wp2_with (first | ((with_reducible refine gate_callee (f := 59) rfl ?_); refine gL (some 8) Try.func59 #[.int .i64 a0, .int .i64 1, .int .i64 16] ?_; (with_reducible refine (spec_inRange.calls a0 1 16 true _ A4.out).mono ?_); rintro e w' ⟨rfl, ⟨nd, rfl⟩⟩; refine ⟨_, rfl, ?_⟩) | (go_at_call 59; (with_reducible refine (spec_inRange.calls a1 1 16 true _ A6.out).mono ?_); rintro e w' ⟨rfl, ⟨nd, rfl⟩⟩) | (go_at_call 59; (with_reducible refine (spec_inRange.calls a2 1 4 t107 _ A8.out).mono ?_); rintro e w' ⟨rfl, ⟨nd, rfl⟩⟩))
 go_ret
 exact ⟨qE, qD⟩
def spec_validImage.f (k : Nat) (a0_0 : Int) (a0_1 : Int) (a0_2 : Int) (l0_3 : List Int) : Option (Bool) := (spec_validShape.f a0_0 a0_1 a0_2).bind fun t109 => (if t109 = true then (if (l0_3.length : Int) = (wrap64 ((wrap64 (a0_0 * a0_1)) * a0_2)) then ((spec_allIn.f k l0_3 0 255).bind fun t110 => (some t110)) else (some false)) else (some false))
theorem spec_validImage.mono : ∀ a0 a1 a2 a3 k, LeO (spec_validImage.f k a0 a1 a2 a3) (spec_validImage.f (k + 1) a0 a1 a2 a3) := by
 intro a0 a1 a2 a3 k
 unfold spec_validImage.f
 repeat' first | (with_reducible first | exact spec_allIn.mono _ _ _ _ | exact lR | exact lN | refine lI ?_ ?_ | refine lB ?_ fun _ => ?_) | exact spec_allIn.mono _ _ _ _ | exact lN | refine lI ?_ ?_ | refine lB ?_ fun _ => ?_
set_option maxHeartbeats 8000000 in
set_option maxRecDepth 100000 in
theorem spec_validImage.calls (k : Nat) (a0_0 : Int) (a0_1 : Int) (a0_2 : Int) (A0_3 : Option Addr) (c0_3 : Nat) (l0_3 : List Int) (r : Bool) (w : World) (hr0_3 : Kd.C (Kd.int .i64) w A0_3 l0_3.length l0_3) (hc0_3 : l0_3.length ≤ c0_3) (h : spec_validImage.f k a0_0 a0_1 a0_2 l0_3 = some r) :
  Calls Try.prog 40 #[.agg #[.int .i64 a0_0, .int .i64 a0_1, .int .i64 a0_2, .slice A0_3 l0_3.length c0_3]] w fun e w' => e = .returned (.bool r) ∧ Below w.heap.size w w' := by
 have hu29 := Try.underlying29
 have HR0_3 := aM hr0_3
 have HC0_3 := aM hc0_3
 clear hr0_3 hc0_3
 have HB := aM (Below.refl w.heap.size w)
 unfold spec_validImage.f at h
 have H := h
 clear h
 replace H := Option.bind_eq_some_iff.mp H
 obtain ⟨t109, A20, H⟩ := H
 replace H : (if t109 = true then (if (l0_3.length : Int) = (wrap64 ((wrap64 (a0_0 * a0_1)) * a0_2)) then ((spec_allIn.f k l0_3 0 255).bind fun t110 => (some t110)) else (some false)) else (some false)) = some r := H
 have A2 := aM A20
 clear A20
 by_cases c3 : t109 = true
 rotate_left
 ·replace c3 := Bool.eq_false_iff.mpr c3
  subst c3
  have H1 : (some false) = some r := by rw [if_neg (show ¬ (false = true) by decide)] at H; exact H
  clear H
  have H := H1
  clear H1
  obtain rfl := Option.some.inj H
  go_enter Try.func40, Try.ntmps40
  go_wp2_with (first | ((with_reducible refine gate_dst (N := 1) rfl ?_); (try (refine gate_guard (by rfl) ?_; dsimp only)); refine bxE (N := 1) (cs := #[.int .i64 a0_0, .int .i64 a0_1, .int .i64 a0_2, .slice A0_3 l0_3.length c0_3]) (t := 29) ?_; intro gb108 hg w10 hbox hb; have BK108 := aM (hbox); have GW108 := gW hg HB; have GE108 := gW hg HB; replace HB := bS HB hb; clear hb hbox hg; obtain ⟨⟨hcz11_0, hcz11_1, hcz11_2, hcz11_3⟩, hfz11_0, hfz11_1, hfz11_2, hfz11_3⟩ := cf4 BK108) | ((with_reducible refine gate_callee (f := 75) rfl ?_); refine gL (some 9) Try.func75 #[.int .i64 a0_0, .int .i64 a0_1, .int .i64 a0_2] ?_; (with_reducible refine (spec_validShape.calls a0_0 a0_1 a0_2 false _ A2.out).mono ?_); rintro e w' ⟨rfl, ⟨nd, rfl⟩⟩; refine ⟨_, rfl, ?_⟩))
  go_ret
  exact ⟨qX, by exact qW HB.out⟩
 subst c3
 have H1 : (if (l0_3.length : Int) = (wrap64 ((wrap64 (a0_0 * a0_1)) * a0_2)) then ((spec_allIn.f k l0_3 0 255).bind fun t110 => (some t110)) else (some false)) = some r := by rw [if_pos rfl] at H; exact H
 clear H
 have H := H1
 clear H1
 by_cases c4 : (l0_3.length : Int) = (wrap64 ((wrap64 (a0_0 * a0_1)) * a0_2))
 rotate_left
 ·rw [if_neg c4] at H
  have c4b0 : ((l0_3.length : Int) == (wrap64 ((wrap64 (a0_0 * a0_1)) * a0_2))) = false := beq_eq_false_iff_ne.mpr c4
  have c4b1 : ((l0_3.length : Int) != (wrap64 ((wrap64 (a0_0 * a0_1)) * a0_2))) = true := bne_iff_ne.mpr c4
  obtain rfl := Option.some.inj H
  go_enter Try.func40, Try.ntmps40
  go_wp2_with (first | ((with_reducible refine gate_dst (N := 1) rfl ?_); (try (refine gate_guard (by rfl) ?_; dsimp only)); refine bxE (N := 1) (cs := #[.int .i64 a0_0, .int .i64 a0_1, .int .i64 a0_2, .slice A0_3 l0_3.length c0_3]) (t := 29) ?_; intro gb108 hg w8 hbox hb; have BK108 := aM (hbox); have GW108 := gW hg HB; have GE108 := gW hg HB; replace HB := bS HB hb; clear hb hbox hg; obtain ⟨⟨hcz9_0, hcz9_1, hcz9_2, hcz9_3⟩, hfz9_0, hfz9_1, hfz9_2, hfz9_3⟩ := cf4 BK108) | ((with_reducible refine gate_callee (f := 75) rfl ?_); refine gL (some 9) Try.func75 #[.int .i64 a0_0, .int .i64 a0_1, .int .i64 a0_2] ?_; (with_reducible refine (spec_validShape.calls a0_0 a0_1 a0_2 true _ A2.out).mono ?_); rintro e w' ⟨rfl, ⟨nd, rfl⟩⟩; refine ⟨_, rfl, ?_⟩))
  go_ret
  exact ⟨qX, by exact qW HB.out⟩
 rw [if_pos c4] at H
 have c4b0 : ((l0_3.length : Int) == (wrap64 ((wrap64 (a0_0 * a0_1)) * a0_2))) = true := beq_iff_eq.mpr c4
 have c4b1 : ((l0_3.length : Int) != (wrap64 ((wrap64 (a0_0 * a0_1)) * a0_2))) = false := bne_eq_false_iff_eq.mpr c4
 clear c4
 replace H := Option.bind_eq_some_iff.mp H
 obtain ⟨t110, A50, H⟩ := H
 replace H : (some t110) = some r := H
 have A5 := aM A50
 clear A50
 obtain rfl := Option.some.inj H
 go_enter Try.func40, Try.ntmps40
 go_wp2_with (first | ((with_reducible refine gate_dst (N := 1) rfl ?_); (try (refine gate_guard (by rfl) ?_; dsimp only)); refine bxE (N := 1) (cs := #[.int .i64 a0_0, .int .i64 a0_1, .int .i64 a0_2, .slice A0_3 l0_3.length c0_3]) (t := 29) ?_; intro gb108 hg w6 hbox hb; have BK108 := aM (hbox); have GW108 := gW hg HB; have GE108 := gW hg HB; replace HB := bS HB hb; clear hb hbox hg; obtain ⟨⟨hcz7_0, hcz7_1, hcz7_2, hcz7_3⟩, hfz7_0, hfz7_1, hfz7_2, hfz7_3⟩ := cf4 BK108) | ((with_reducible refine gate_callee (f := 75) rfl ?_); refine gL (some 9) Try.func75 #[.int .i64 a0_0, .int .i64 a0_1, .int .i64 a0_2] ?_; (with_reducible refine (spec_validShape.calls a0_0 a0_1 a0_2 true _ A2.out).mono ?_); rintro e w' ⟨rfl, ⟨nd, rfl⟩⟩; refine ⟨_, rfl, ?_⟩) | (go_at_call 61; (with_reducible refine (spec_allIn.calls k _ _ l0_3 0 255 t110 _ ?side1 ?side2 A5.out).mono ?_); (case side1 => exact qC (Kd.C_below HR0_3.out (qW HB.out))); (case side2 => exact HC0_3.out); rintro e w' ⟨rfl, ⟨nd, rfl⟩⟩))
 go_ret
 exact ⟨qX, by exact qW HB.out⟩
def impl_isSide.f (a0 : Int) : Option (Bool) := if a0 ≥ 1 then (some (decide (a0 ≤ 16))) else (some false)
set_option maxHeartbeats 8000000 in
set_option maxRecDepth 100000 in
theorem impl_isSide.calls (a0 : Int) (r : Bool) (w : World) (h : impl_isSide.f a0 = some r) :
  Calls Try.prog 91 #[.int .i64 a0] w fun e w' => e = .returned (.bool r) ∧ Drawn0 w w' := by
 unfold impl_isSide.f at h
 have H := h
 clear h
 by_cases c2 : a0 ≥ 1
 ·rw [if_pos c2] at H
  have c2b0 : decide (1 ≤ a0) = true := decide_eq_true c2
  clear c2
  obtain rfl := Option.some.inj H
  go_enter Try.func91, Try.ntmps91
  go_wp2
  go_ret
  exact ⟨qE, qD⟩
 rw [if_neg c2] at H
 have c2b0 : decide (1 ≤ a0) = false := decide_eq_false c2
 clear c2
 obtain rfl := Option.some.inj H
 go_enter Try.func91, Try.ntmps91
 go_wp2
 go_ret
 exact ⟨qE, qD⟩
def impl_isShape.f (a0 : Int) (a1 : Int) (a2 : Int) : Option (Bool) := (impl_isSide.f a0).bind fun t152 => (if t152 = true then ((impl_isSide.f a1).bind fun t153 => (if t153 = true then (if a2 ≥ 1 then (some (decide (a2 ≤ 4))) else (some false)) else (some false))) else (some false))
set_option maxHeartbeats 8000000 in
set_option maxRecDepth 100000 in
theorem impl_isShape.calls (a0 : Int) (a1 : Int) (a2 : Int) (r : Bool) (w : World) (h : impl_isShape.f a0 a1 a2 = some r) :
  Calls Try.prog 78 #[.int .i64 a0, .int .i64 a1, .int .i64 a2] w fun e w' => e = .returned (.bool r) ∧ Drawn0 w w' := by
 unfold impl_isShape.f at h
 have H := h
 clear h
 replace H := Option.bind_eq_some_iff.mp H
 obtain ⟨t152, A40, H⟩ := H
 replace H : (if t152 = true then ((impl_isSide.f a1).bind fun t153 => (if t153 = true then (if a2 ≥ 1 then (some (decide (a2 ≤ 4))) else (some false)) else (some false))) else (some false)) = some r := H
 have A4 := aM A40
 clear A40
 by_cases c5 : t152 = true
 rotate_left
 ·replace c5 := Bool.eq_false_iff.mpr c5
  subst c5
  have H1 : (some false) = some r := by rw [if_neg (show ¬ (false = true) by decide)] at H; exact H
  clear H
  have H := H1
  clear H1
  obtain rfl := Option.some.inj H
  go_enter Try.func78, Try.ntmps78
  go_wp2_with (first | ((with_reducible refine gate_callee (f := 91) rfl ?_); refine gL (some 8) Try.func91 #[.int .i64 a0] ?_; (with_reducible refine (impl_isSide.calls a0 false _ A4.out).mono ?_); rintro e w' ⟨rfl, ⟨nd, rfl⟩⟩; refine ⟨_, rfl, ?_⟩))
  go_ret
  exact ⟨qE, qD⟩
 subst c5
 have H1 : ((impl_isSide.f a1).bind fun t153 => (if t153 = true then (if a2 ≥ 1 then (some (decide (a2 ≤ 4))) else (some false)) else (some false))) = some r := by rw [if_pos rfl] at H; exact H
 clear H
 have H := H1
 clear H1
 replace H := Option.bind_eq_some_iff.mp H
 obtain ⟨t153, A60, H⟩ := H
 replace H : (if t153 = true then (if a2 ≥ 1 then (some (decide (a2 ≤ 4))) else (some false)) else (some false)) = some r := H
 have A6 := aM A60
 clear A60
 by_cases c7 : t153 = true
 rotate_left
 ·replace c7 := Bool.eq_false_iff.mpr c7
  subst c7
  have H1 : (some false) = some r := by rw [if_neg (show ¬ (false = true) by decide)] at H; exact H
  clear H
  have H := H1
  clear H1
  obtain rfl := Option.some.inj H
  go_enter Try.func78, Try.ntmps78
  go_wp2_with (first | ((with_reducible refine gate_callee (f := 91) rfl ?_); refine gL (some 8) Try.func91 #[.int .i64 a0] ?_; (with_reducible refine (impl_isSide.calls a0 true _ A4.out).mono ?_); rintro e w' ⟨rfl, ⟨nd, rfl⟩⟩; refine ⟨_, rfl, ?_⟩) | (go_at_call 91; (with_reducible refine (impl_isSide.calls a1 false _ A6.out).mono ?_); rintro e w' ⟨rfl, ⟨nd, rfl⟩⟩))
  go_ret
  exact ⟨qE, qD⟩
 subst c7
 have H1 : (if a2 ≥ 1 then (some (decide (a2 ≤ 4))) else (some false)) = some r := by rw [if_pos rfl] at H; exact H
 clear H
 have H := H1
 clear H1
 by_cases c8 : a2 ≥ 1
 ·rw [if_pos c8] at H
  have c8b0 : decide (1 ≤ a2) = true := decide_eq_true c8
  clear c8
  obtain rfl := Option.some.inj H
  go_enter Try.func78, Try.ntmps78
  go_wp2_with (first | ((with_reducible refine gate_callee (f := 91) rfl ?_); refine gL (some 8) Try.func91 #[.int .i64 a0] ?_; (with_reducible refine (impl_isSide.calls a0 true _ A4.out).mono ?_); rintro e w' ⟨rfl, ⟨nd, rfl⟩⟩; refine ⟨_, rfl, ?_⟩) | (go_at_call 91; (with_reducible refine (impl_isSide.calls a1 true _ A6.out).mono ?_); rintro e w' ⟨rfl, ⟨nd, rfl⟩⟩))
  go_ret
  exact ⟨qE, qD⟩
 rw [if_neg c8] at H
 have c8b0 : decide (1 ≤ a2) = false := decide_eq_false c8
 clear c8
 obtain rfl := Option.some.inj H
 go_enter Try.func78, Try.ntmps78
 go_wp2_with (first | ((with_reducible refine gate_callee (f := 91) rfl ?_); refine gL (some 8) Try.func91 #[.int .i64 a0] ?_; (with_reducible refine (impl_isSide.calls a0 true _ A4.out).mono ?_); rintro e w' ⟨rfl, ⟨nd, rfl⟩⟩; refine ⟨_, rfl, ?_⟩) | (go_at_call 91; (with_reducible refine (impl_isSide.calls a1 true _ A6.out).mono ?_); rintro e w' ⟨rfl, ⟨nd, rfl⟩⟩))
 go_ret
 exact ⟨qE, qD⟩
def impl_isImage.f (a0_0 : Int) (a0_1 : Int) (a0_2 : Int) (l0_3 : List Int) : Option (Bool) := (impl_isShape.f a0_0 a0_1 a0_2).bind fun t155 => (if t155 = true then (if (l0_3.length : Int) = (wrap64 ((wrap64 (a0_0 * a0_1)) * a0_2)) then ((impl_areBytes.f l0_3).bind fun t156 => (some t156)) else (some false)) else (some false))
set_option maxHeartbeats 8000000 in
set_option maxRecDepth 100000 in
theorem impl_isImage.calls (a0_0 : Int) (a0_1 : Int) (a0_2 : Int) (A0_3 : Option Addr) (c0_3 : Nat) (l0_3 : List Int) (r : Bool) (w : World) (hr0_3 : Kd.C (Kd.int .i64) w A0_3 l0_3.length l0_3) (hc0_3 : l0_3.length ≤ c0_3) (h : impl_isImage.f a0_0 a0_1 a0_2 l0_3 = some r) :
  Calls Try.prog 43 #[.agg #[.int .i64 a0_0, .int .i64 a0_1, .int .i64 a0_2, .slice A0_3 l0_3.length c0_3]] w fun e w' => e = .returned (.bool r) ∧ Below w.heap.size w w' := by
 have hu29 := Try.underlying29
 have HR0_3 := aM hr0_3
 have HC0_3 := aM hc0_3
 clear hr0_3 hc0_3
 have HB := aM (Below.refl w.heap.size w)
 unfold impl_isImage.f at h
 have H := h
 clear h
 replace H := Option.bind_eq_some_iff.mp H
 obtain ⟨t155, A20, H⟩ := H
 replace H : (if t155 = true then (if (l0_3.length : Int) = (wrap64 ((wrap64 (a0_0 * a0_1)) * a0_2)) then ((impl_areBytes.f l0_3).bind fun t156 => (some t156)) else (some false)) else (some false)) = some r := H
 have A2 := aM A20
 clear A20
 by_cases c3 : t155 = true
 rotate_left
 ·replace c3 := Bool.eq_false_iff.mpr c3
  subst c3
  have H1 : (some false) = some r := by rw [if_neg (show ¬ (false = true) by decide)] at H; exact H
  clear H
  have H := H1
  clear H1
  obtain rfl := Option.some.inj H
  go_enter Try.func43, Try.ntmps43
  go_wp2_with (first | ((with_reducible refine gate_dst (N := 1) rfl ?_); (try (refine gate_guard (by rfl) ?_; dsimp only)); refine bxE (N := 1) (cs := #[.int .i64 a0_0, .int .i64 a0_1, .int .i64 a0_2, .slice A0_3 l0_3.length c0_3]) (t := 29) ?_; intro gb154 hg w10 hbox hb; have BK154 := aM (hbox); have GW154 := gW hg HB; have GE154 := gW hg HB; replace HB := bS HB hb; clear hb hbox hg; obtain ⟨⟨hcz11_0, hcz11_1, hcz11_2, hcz11_3⟩, hfz11_0, hfz11_1, hfz11_2, hfz11_3⟩ := cf4 BK154) | ((with_reducible refine gate_callee (f := 78) rfl ?_); refine gL (some 9) Try.func78 #[.int .i64 a0_0, .int .i64 a0_1, .int .i64 a0_2] ?_; (with_reducible refine (impl_isShape.calls a0_0 a0_1 a0_2 false _ A2.out).mono ?_); rintro e w' ⟨rfl, ⟨nd, rfl⟩⟩; refine ⟨_, rfl, ?_⟩))
  go_ret
  exact ⟨qX, by exact qW HB.out⟩
 subst c3
 have H1 : (if (l0_3.length : Int) = (wrap64 ((wrap64 (a0_0 * a0_1)) * a0_2)) then ((impl_areBytes.f l0_3).bind fun t156 => (some t156)) else (some false)) = some r := by rw [if_pos rfl] at H; exact H
 clear H
 have H := H1
 clear H1
 by_cases c4 : (l0_3.length : Int) = (wrap64 ((wrap64 (a0_0 * a0_1)) * a0_2))
 rotate_left
 ·rw [if_neg c4] at H
  have c4b0 : ((l0_3.length : Int) == (wrap64 ((wrap64 (a0_0 * a0_1)) * a0_2))) = false := beq_eq_false_iff_ne.mpr c4
  have c4b1 : ((l0_3.length : Int) != (wrap64 ((wrap64 (a0_0 * a0_1)) * a0_2))) = true := bne_iff_ne.mpr c4
  obtain rfl := Option.some.inj H
  go_enter Try.func43, Try.ntmps43
  go_wp2_with (first | ((with_reducible refine gate_dst (N := 1) rfl ?_); (try (refine gate_guard (by rfl) ?_; dsimp only)); refine bxE (N := 1) (cs := #[.int .i64 a0_0, .int .i64 a0_1, .int .i64 a0_2, .slice A0_3 l0_3.length c0_3]) (t := 29) ?_; intro gb154 hg w8 hbox hb; have BK154 := aM (hbox); have GW154 := gW hg HB; have GE154 := gW hg HB; replace HB := bS HB hb; clear hb hbox hg; obtain ⟨⟨hcz9_0, hcz9_1, hcz9_2, hcz9_3⟩, hfz9_0, hfz9_1, hfz9_2, hfz9_3⟩ := cf4 BK154) | ((with_reducible refine gate_callee (f := 78) rfl ?_); refine gL (some 9) Try.func78 #[.int .i64 a0_0, .int .i64 a0_1, .int .i64 a0_2] ?_; (with_reducible refine (impl_isShape.calls a0_0 a0_1 a0_2 true _ A2.out).mono ?_); rintro e w' ⟨rfl, ⟨nd, rfl⟩⟩; refine ⟨_, rfl, ?_⟩))
  go_ret
  exact ⟨qX, by exact qW HB.out⟩
 rw [if_pos c4] at H
 have c4b0 : ((l0_3.length : Int) == (wrap64 ((wrap64 (a0_0 * a0_1)) * a0_2))) = true := beq_iff_eq.mpr c4
 have c4b1 : ((l0_3.length : Int) != (wrap64 ((wrap64 (a0_0 * a0_1)) * a0_2))) = false := bne_eq_false_iff_eq.mpr c4
 clear c4
 replace H := Option.bind_eq_some_iff.mp H
 obtain ⟨t156, A50, H⟩ := H
 replace H : (some t156) = some r := H
 have A5 := aM A50
 clear A50
 obtain rfl := Option.some.inj H
 go_enter Try.func43, Try.ntmps43
 go_wp2_with (first | ((with_reducible refine gate_dst (N := 1) rfl ?_); (try (refine gate_guard (by rfl) ?_; dsimp only)); refine bxE (N := 1) (cs := #[.int .i64 a0_0, .int .i64 a0_1, .int .i64 a0_2, .slice A0_3 l0_3.length c0_3]) (t := 29) ?_; intro gb154 hg w6 hbox hb; have BK154 := aM (hbox); have GW154 := gW hg HB; have GE154 := gW hg HB; replace HB := bS HB hb; clear hb hbox hg; obtain ⟨⟨hcz7_0, hcz7_1, hcz7_2, hcz7_3⟩, hfz7_0, hfz7_1, hfz7_2, hfz7_3⟩ := cf4 BK154) | ((with_reducible refine gate_callee (f := 78) rfl ?_); refine gL (some 9) Try.func78 #[.int .i64 a0_0, .int .i64 a0_1, .int .i64 a0_2] ?_; (with_reducible refine (impl_isShape.calls a0_0 a0_1 a0_2 true _ A2.out).mono ?_); rintro e w' ⟨rfl, ⟨nd, rfl⟩⟩; refine ⟨_, rfl, ?_⟩) | (go_at_call 68; (with_reducible refine (impl_areBytes.calls _ _ l0_3 t156 _ ?side1 ?side2 A5.out).mono ?_); (case side1 => exact qC (Kd.C_below HR0_3.out (qW HB.out))); (case side2 => exact HC0_3.out); rintro e w' ⟨rfl, ⟨nd, rfl⟩⟩))
 go_ret
 exact ⟨qX, by exact qW HB.out⟩
def ImgOk (a0 a1 a2 : Int) (l : List Int) : Prop := (1 ≤ a0 ∧ a0 ≤ 16) ∧ (1 ≤ a1 ∧ a1 ≤ 16) ∧ (1 ≤ a2 ∧ a2 ≤ 4) ∧ (l.length : Int) = a0 * a1 * a2 ∧ ∀ x ∈ l, 0 ≤ x ∧ x ≤ 255
theorem img_bounds {a0 a1 a2 : Int} (h0 : 1 ≤ a0 ∧ a0 ≤ 16) (h1 : 1 ≤ a1 ∧ a1 ≤ 16) (h2 : 1 ≤ a2 ∧ a2 ≤ 4) : 1 ≤ a0 * a1 ∧ a0 * a1 ≤ 256 ∧ 1 ≤ a0 * a1 * a2 ∧ a0 * a1 * a2 ≤ 1024 := by
 have p1 : 1 * 1 ≤ a0 * a1 := Int.mul_le_mul h0.1 h1.1 (by omega) (by omega)
 have p2 : a0 * a1 ≤ 16 * 16 := Int.mul_le_mul h0.2 h1.2 (by omega) (by omega)
 have p3 : 1 * 1 ≤ a0 * a1 * a2 := Int.mul_le_mul (by omega) h2.1 (by omega) (by omega)
 have p4 : a0 * a1 * a2 ≤ 256 * 4 := Int.mul_le_mul (by omega) h2.2 (by omega) (by omega)
 omega
theorem isSide_some (a : Int) : impl_isSide.f a = some (decide (1 ≤ a ∧ a ≤ 16)) := by
 unfold impl_isSide.f
 split
 ·rename_i h; simp [show 1 ≤ a from h]
 rename_i h; simp [show ¬ 1 ≤ a from h]
theorem isShape_some (a b c : Int) : impl_isShape.f a b c = some (decide ((1 ≤ a ∧ a ≤ 16) ∧ (1 ≤ b ∧ b ≤ 16) ∧ (1 ≤ c ∧ c ≤ 4))) := by
 unfold impl_isShape.f
 rw [isSide_some, isSide_some]
 simp only [Option.bind_some, decide_eq_true_eq]
 by_cases h1 : 1 ≤ a ∧ a ≤ 16 <;> by_cases h2 : 1 ≤ b ∧ b ≤ 16 <;> by_cases h3 : 1 ≤ c
 rotate_left
 ·rw [if_pos h1, if_pos h2, if_neg h3]; simp [h1, h2, h3]
 ·rw [if_pos h1, if_neg h2]; simp [h1, h2]
 ·rw [if_pos h1, if_neg h2]; simp [h1, h2]
 ·rw [if_neg h1]; simp [h1]
 ·rw [if_neg h1]; simp [h1]
 ·rw [if_neg h1]; simp [h1]
 ·rw [if_neg h1]; simp [h1]
 rw [if_pos h1, if_pos h2, if_pos h3]; simp [h1, h2, h3]
theorem wrap_small {x : Int} (h0 : -9223372036854775808 ≤ x) (h1 : x ≤ 9223372036854775807) : wrap64 x = x := by
 unfold wrap64
 omega
theorem any_bytes (l : List Int) : (!(l.any fun n => decide (n < 0) || decide (255 < n))) = true ↔ ∀ x ∈ l, 0 ≤ x ∧ x ≤ 255 := by
 simp only [Bool.not_eq_true', List.any_eq_false, Bool.or_eq_true, decide_eq_true_eq, not_or, Int.not_lt]
theorem isImage_some (a b c : Int) (l : List Int) : ∃ r, impl_isImage.f a b c l = some r ∧ (r = true ↔ ImgOk a b c l) := by
 unfold impl_isImage.f
 rw [isShape_some]
 simp only [Option.bind_some, decide_eq_true_eq]
 by_cases h : (1 ≤ a ∧ a ≤ 16) ∧ (1 ≤ b ∧ b ≤ 16) ∧ (1 ≤ c ∧ c ≤ 4)
 rotate_left
 ·rw [if_neg h]
  exact ⟨_, rfl, by simp, fun e => absurd ⟨e.1, e.2.1, e.2.2.1⟩ h⟩
 rw [if_pos h]
 have hb := img_bounds h.1 h.2.1 h.2.2
 rw [wrap_small (x := a * b) (by omega) (by omega), wrap_small (x := a * b * c) (by omega) (by omega)]
 by_cases hl : (l.length : Int) = a * b * c
 rotate_left
 ·rw [if_neg hl]
  exact ⟨_, rfl, by simp, fun e => absurd e.2.2.2.1 hl⟩
 rw [if_pos hl]
 unfold impl_areBytes.f
 simp only [Option.bind_some]
 exact ⟨_, rfl, (any_bytes l).trans ⟨fun e => ⟨h.1, h.2.1, h.2.2, hl, e⟩, fun e => e.2.2.2.2⟩⟩
theorem isImage_true {a b c : Int} {l : List Int} (h : impl_isImage.f a b c l = some true) : ImgOk a b c l := by
 obtain ⟨r, hr, hi⟩ := isImage_some a b c l
 rw [h] at hr
 exact hi.1 (Option.some.inj hr).symm
theorem pix_fits {a0 a1 a2 x y : Int} (h1 : 0 ≤ a0) (h2 : 0 ≤ a2) (hx : x < a0) (hy0 : 0 ≤ y) (hy : y < a1) : (y * a0 + x) * a2 + a2 ≤ a0 * a1 * a2 := by
 have e1 : y * a0 + x + 1 ≤ a0 * a1 := by
  have : (y + 1) * a0 ≤ a1 * a0 := Int.mul_le_mul_of_nonneg_right (by omega) h1
  rw [Int.add_mul, Int.one_mul] at this
  rw [Int.mul_comm a0 a1]
  omega
 have e2 : (y * a0 + x + 1) * a2 ≤ a0 * a1 * a2 := Int.mul_le_mul_of_nonneg_right e1 h2
 rw [Int.add_mul, Int.one_mul] at e2
 exact e2
theorem scaled {x a n : Int} (hx : 0 ≤ x) (hx' : x < n) (ha : 0 ≤ a) (ha' : a ≤ 16) (hn : n ≤ 16) : 0 ≤ x * a ∧ x * a ≤ 256 ∧ 0 ≤ x * a / n ∧ (1 ≤ a → x * a / n < a) ∧ x * a / n ≤ 256 := by
 have p1 : 0 ≤ x * a := Int.mul_nonneg hx ha
 have p2 : x * a ≤ 16 * 16 := Int.mul_le_mul (by omega) ha' ha (by omega)
 refine ⟨p1, by omega, Int.ediv_nonneg p1 (by omega), fun h1 => ?_, ?_⟩
 rotate_left
 ·exact Int.le_trans (Int.ediv_le_self _ p1) (by omega)
 refine Int.ediv_lt_of_lt_mul (by omega) ?_
 rw [Int.mul_comm a n]
 exact Int.mul_lt_mul_of_pos_right hx' (by omega)
theorem isSide_true {a : Int} (h : impl_isSide.f a = some true) : 1 ≤ a ∧ a ≤ 16 := by
 rw [isSide_some] at h
 exact of_decide_eq_true (Option.some.inj h)
def spec_newImage.f (a0 : Int) (a1 : Int) (a2 : Int) : Option (Int × Int × Int × List Int) := if 0 ≤ (wrap64 ((wrap64 (a0 * a1)) * a2)) then (if (wrap64 ((wrap64 (a0 * a1)) * a2) : Int).toNat ≤ 35184372088832 then (some (a0, a1, a2, (List.replicate (wrap64 ((wrap64 (a0 * a1)) * a2) : Int).toNat 0))) else (none)) else (none)
set_option maxHeartbeats 8000000 in
set_option maxRecDepth 100000 in
theorem spec_newImage.calls (a0 : Int) (a1 : Int) (a2 : Int) (r1 : Int) (r2 : Int) (r3 : Int) (r4 : List Int) (w : World) (h : spec_newImage.f a0 a1 a2 = some (r1, r2, r3, r4)) :
  Calls Try.prog 62 #[.int .i64 a0, .int .i64 a1, .int .i64 a2] w fun e w' => ∃ v3_ : Value, e = .returned (.agg #[.int .i64 r1, .int .i64 r2, .int .i64 r3, v3_]) ∧ Kd.R (Kd.int .i64) 3 w' w.heap.size (fun _ => True) v3_ r4 ∧ Below w.heap.size w w' := by
 have hu29 := Try.underlying29
 have HB := aM (Below.refl w.heap.size w)
 unfold spec_newImage.f at h
 have H := h
 clear h
 obtain ⟨ji4, hji4⟩ : ∃ j_ : Int, (wrap64 ((wrap64 (a0 * a1)) * a2)) = j_ := ⟨_, rfl⟩
 replace H : (if 0 ≤ (ji4) then (if (ji4 : Int).toNat ≤ 35184372088832 then (some (a0, a1, a2, (List.replicate (ji4 : Int).toNat 0))) else (none)) else (none)) = some (r1, r2, r3, r4) := by first | (rw [hji4] at H; exact H) | (simp only [hji4] at H ⊢; exact H)
 have hji4w : (IntKind.i64.wrap ((wrap64 (a0 * a1)) * a2)) = ji4 := (i64_w _).trans hji4
 replace H := iS H
 obtain ⟨c5, H⟩ := H
 have c5b0 := eq_true c5
 have c5b1 : decide (0 ≤ (ji4)) = true := decide_eq_true c5
 clear c5
 replace H := iS H
 obtain ⟨c6, H⟩ := H
 have c6b0 := eq_true c6
 have c6b1 : decide ((ji4 : Int).toNat ≤ 35184372088832) = true := decide_eq_true c6
 clear c6
 obtain ⟨y258, hy258⟩ : ∃ y_ : List Int, y_ = (List.replicate (ji4 : Int).toNat 0) := ⟨_, rfl⟩
 replace H : (some (a0, a1, a2, y258)) = some (r1, r2, r3, r4) := rY hy258 H
 have Ny258 := aM hy258
 clear hy258
 simp only [Option.some.injEq, Prod.mk.injEq] at H
 obtain ⟨rfl, rfl, rfl, rfl⟩ := H
 go_enter Try.func62, Try.ntmps62
 go_wp2_with (first | ((with_reducible refine gate_dst (N := 6) rfl ?_); refine bxE (N := 6) (cs := #[.int .i64 0, .int .i64 0, .int .i64 0, .slice none 0 0]) (t := 29) ?_; intro gb257 hg w7 hbox hb; have BK257 := aM (hbox); have GW257 := gW hg HB; have GE257 := gW hg HB; replace HB := bS HB hb; clear hb hbox hg) | ((with_reducible refine gate_dst (N := 15) rfl ?_); refine Kd.R_make (Kd.int .i64) _ 3 rfl (N := 15) rfl 22 _ _ rfl ji4 rfl rfl Try.underlying22 (.int .i64 0) 8 info3 rfl (by decide) (by omega) 0 (ok := fun _ => True) (okp := fun _ => True) rfl (fun _ hk => hk) trivial oD (Nat.le_trans (Nat.mul_le_mul_right _ (oD : ji4.toNat ≤ 35184372088832)) (by omega)) (Below.refl _ _) (Nat.le_refl _) ?_; intro v259 w8 ho9 hb hg_ hnew_; clear hg_ hnew_; (first | rw [← Ny258.out] at ho9 | (simp only [Int.reduceToNat] at ho9; rw [← Ny258.out] at ho9)); have HO260 := oR ho9 HB; replace BK257 := bB BK257 hb; replace HB := bS HB hb; clear hb ho9; obtain ⟨Ao10, co10, rfl⟩ := sL HO260; obtain ⟨⟨hcz11_0, hcz11_1, hcz11_2, hcz11_3⟩, hfz11_0, hfz11_1, hfz11_2, hfz11_3⟩ := cf4 BK257))
 refine bodyPost_ret (results_cell_row rfl _ _ gb257 29 #[.int .i64 a0, .int .i64 a1, .int .i64 a2, .slice Ao10 y258.length co10] (0, 0) _ rfl (by exact bP BK257.out) Try.underlying29 rfl (by kernel_rfl)) rfl ?_
 exact ⟨_, by first | rfl | (simp [errW_none, errW_some] <;> rfl) | (simp only [← hji4]; first | rfl | (simp [errW_none, errW_some] <;> rfl)) | (simp [*, errW_none, errW_some] <;> rfl), by refine qR ?_; exact Kd.R_mono (rT HO260 BK257) (fun _ hk => trivial), by exact qW HB.out⟩
def imgRow (f : Int → Int → List Int) (y : Int) (n : Nat) : List Int := (List.range n).flatMap fun j : Nat => f j y
def imgOf (f : Int → Int → List Int) (n m : Nat) : List Int := (List.range m).flatMap fun i : Nat => imgRow f i n
theorem imgRow_succ (f : Int → Int → List Int) (y : Int) (n : Nat) : imgRow f y (n + 1) = imgRow f y n ++ f n y := by
 unfold imgRow
 rw [List.range_succ, List.flatMap_append]
 simp
theorem imgOf_succ (f : Int → Int → List Int) (n m : Nat) : imgOf f n (m + 1) = imgOf f n m ++ imgRow f m n := by
 unfold imgOf
 rw [List.range_succ, List.flatMap_append]
 simp
theorem imgRow_len (f : Int → Int → List Int) (y : Int) (n L : Nat) (h : ∀ j : Nat, j < n → (f j y).length ≤ L) : (imgRow f y n).length ≤ n * L := by
 induction n with
 | zero => simp [imgRow]
 | succ n ih =>
  rw [imgRow_succ, List.length_append, Nat.succ_mul]
  have := ih fun j hj => h j (by omega)
  have := h n (by omega)
  omega
theorem imgOf_len (f : Int → Int → List Int) (n m L : Nat) (h : ∀ i j : Nat, i < m → j < n → (f j i).length ≤ L) : (imgOf f n m).length ≤ m * (n * L) := by
 induction m with
 | zero => simp [imgOf]
 | succ m ih =>
  rw [imgOf_succ, List.length_append, Nat.succ_mul]
  have := ih fun i j hi hj => h i j (by omega) hj
  have := imgRow_len f m n L fun j hj => h m j (by omega) hj
  omega
def PixAt (g : Nat) (lb : Array Value) (f : Int → Int → List Int) (n m : Int) (w : World) : Prop :=
 ∀ (W : World) (x y : Int), Below w.heap.size w W → 0 ≤ x → x < n → 0 ≤ y → y < m →
  Calls Try.prog g (#[.int .i64 x, .int .i64 y] ++ lb) W fun e w' => ∃ (A : Option Addr) (c : Nat), e = .returned (.slice A (f x y).length c) ∧ Kd.C (Kd.int .i64) w' A (f x y).length (f x y) ∧ (f x y).length ≤ c ∧ Below W.heap.size W w'
set_option maxHeartbeats 8000000 in
set_option maxRecDepth 100000 in
theorem impl_imageBy.calls (g : Nat) (lb : Array Value) (eg : ∀ args w, (callFunc g args).run Try.prog w = .ok (.enter g args) w) (f : Int → Int → List Int) (a0 : Int) (a1 : Int) (a2 : Int) (w : World)
  (h0 : 0 ≤ a0) (h0' : a0 ≤ 16) (h1 : 0 ≤ a1) (h1' : a1 ≤ 16) (hf : ∀ x y : Int, (f x y).length ≤ 100) (hp : PixAt g lb f a0 a1 w) :
  Calls Try.prog 54 #[.int .i64 a0, .int .i64 a1, .int .i64 a2, .func (.func g) #[] lb] w fun e w' => ∃ v3_ : Value, e = .returned (.agg #[.int .i64 a0, .int .i64 a1, .int .i64 a2, v3_]) ∧ Kd.R (Kd.int .i64) 3 w' w.heap.size (fun _ => True) v3_ (imgOf f a0.toNat a1.toNat) ∧ Below w.heap.size w w' := by
 have hu26 := Try.underlying29
 obtain ⟨n, rfl⟩ := Int.eq_ofNat_of_zero_le h0
 obtain ⟨m, rfl⟩ := Int.eq_ofNat_of_zero_le h1
 simp only [Int.toNat_natCast]
 have HP := aM hp
 have HF := aM hf
 have HB := aM (Below.refl w.heap.size w)
 have HN := aM h0'
 have HM := aM h1'
 clear hp hf h0 h1 h0' h1'
 go_enter Try.func54, Try.ntmps54
 go_wp2_with (first | ((with_reducible refine gate_dst (N := 8) rfl ?_); (try (refine gate_guard (by rfl) ?_; dsimp only)); refine bxE (N := 8) (cs := #[.int .i64 0, .int .i64 0, .int .i64 0, .slice none 0 0]) (t := 29) ?_; intro gr hg w5 hbox hb; have BKr := aM (hbox); have GEr := aM ((by rw [hg]; exact (below_size (qW HB.out)) : w.heap.size ≤ gr)); replace HB := bS HB hb; clear hb hbox hg) | ((with_reducible refine gate_dst (N := 9) rfl ?_); (try (refine gate_guard (by rfl) ?_; dsimp only)); refine bxE (N := 9) (cs := #[.int .i64 0, .int .i64 0, .int .i64 0, .slice none 0 0]) (t := 29) ?_; intro gm hg w6 hbox hb; have BKm := aM (hbox); have GEm := aM ((by rw [hg]; exact (below_size (qW HB.out)) : w.heap.size ≤ gm)); replace HB := bS HB hb; have NBrm := aM ((by rw [hg]; exact Nat.ne_of_lt (blk_lt (g := gr) (o := .cells #[.int .i64 0, .int .i64 0, .int .i64 0, .slice none 0 0] 29 (0, 0)) (qB BKr.out)) : gr ≠ gm)); have NBmr := aM ((by rw [hg]; exact Nat.ne_of_gt (blk_lt (g := gr) (o := .cells #[.int .i64 0, .int .i64 0, .int .i64 0, .slice none 0 0] 29 (0, 0)) (qB BKr.out)) : gm ≠ gr)); replace BKr := bB BKr hb; clear hb hbox hg; have hnb7 := NBmr.out; have hnc7 := NBrm.out; obtain ⟨⟨hcz8_0, hcz8_1, hcz8_2, hcz8_3⟩, hfz8_0, hfz8_1, hfz8_2, hfz8_3⟩ := cf4 BKm))
 go_loopg [17] m (fun gg s17 w' => ∃ (k : Nat) (u : Value), k ≤ m ∧ m - k ≤ gg ∧ s17 = .int .i64 k ∧ Aside0 (Kd.R (Kd.int .i64) 3 w' w.heap.size (fun _ => True) u (imgOf f n k)) ∧ Aside0 (w'.heap[gr]? = some (.cells #[.int .i64 0, .int .i64 0, .int .i64 0, (.slice none 0 0)] 29 (0, 0))) ∧ Aside0 (w'.heap[gm]? = some (.cells #[.int .i64 n, .int .i64 m, .int .i64 a2, u] 29 (0, 0))) ∧ Aside0 (Below w.heap.size w w'))
 case atStart =>
  refine ⟨0, .slice none 0 0, Nat.zero_le _, by omega, rfl, ⟨Kd.R_nil _ _ _ _ _⟩, ⟨?_⟩, ⟨?_⟩, ⟨?_⟩⟩
  rotate_left 2
  ·exact qW HB.out
  ·refine qB ?_; refine blk_far ?_ NBrm.out _; refine qB ?_; refine blk_far ?_ NBrm.out _; refine qB ?_; refine blk_far ?_ NBrm.out _; refine qB ?_; refine blk_far ?_ NBrm.out _; refine qB ?_; exact BKr.out
  exact bP BKm.out
 case round =>
  clear HB BKr BKm
  try clear hcz8_0 hcz8_1 hcz8_2 hcz8_3 hfz8_0 hfz8_1 hfz8_2 hfz8_3
  obtain ⟨k, u, hk, hg, rfl, HO, BKr, BKm, HB⟩ := hrel
  by_cases hlt : k < m
  rotate_left
  ·have hltz : ¬ (k : Int) < (m : Int) := by omega
   have ek : k = m := by omega
   subst ek
   have hnb26 := NBmr.out
   have hnc26 := NBrm.out
   obtain ⟨⟨hcz27_0, hcz27_1, hcz27_2, hcz27_3⟩, hfz27_0, hfz27_1, hfz27_2, hfz27_3⟩ := cf4 BKm
   obtain ⟨⟨hcz28_0, hcz28_1, hcz28_2, hcz28_3⟩, hfz28_0, hfz28_1, hfz28_2, hfz28_3⟩ := cf4 BKr
   obtain ⟨Ao29, co29, rfl⟩ := sL HO
   go_wp2
   refine bodyPost_ret (results_cell_row rfl _ _ gr 29 #[.int .i64 n, .int .i64 k, .int .i64 a2, .slice Ao29 (imgOf f n k).length co29] (0, 0) _ rfl (by exact bP BKr.out) Try.underlying29 rfl (by kernel_rfl)) rfl ?_
   exact ⟨_, by first | rfl | (simp; done), by refine qR ?_; exact Kd.R_mono (Kd.R_far (p := ⟨gr, 3, none⟩) (Kd.R_far (p := ⟨gr, 2, none⟩) (Kd.R_far (p := ⟨gr, 1, none⟩) (Kd.R_far (p := ⟨gr, 0, none⟩) (Kd.R_types HO.out BKr.out (by decide)) (fun _ hk => hk.2) _) (fun _ hk => hk.2) _) (fun _ hk => hk.2) _) (fun _ hk => hk.2) _) (fun _ hk => trivial), by exact qW HB.out⟩
  have hltz : (k : Int) < (m : Int) := by omega
  have hk16 : (k : Int) ≤ 16 := by have := HM.out; omega
  obtain ⟨wo, rfl⟩ : ∃ wo : World, wo = wr := ⟨_, rfl⟩
  go_wp2
  go_loopg [21] n (fun gg2 s21 w' => ∃ (j : Nat) (u2 : Value), j ≤ n ∧ n - j ≤ gg2 ∧ s21 = .int .i64 j ∧ Aside0 (Kd.R (Kd.int .i64) 3 w' w.heap.size (fun _ => True) u2 (imgOf f n k ++ imgRow f k j)) ∧ Aside0 (w'.heap[gr]? = some (.cells #[.int .i64 0, .int .i64 0, .int .i64 0, (.slice none 0 0)] 29 (0, 0))) ∧ Aside0 (w'.heap[gm]? = some (.cells #[.int .i64 n, .int .i64 m, .int .i64 a2, u2] 29 (0, 0))) ∧ Aside0 (Below w.heap.size w w'))
  case atStart =>
   refine ⟨0, u, Nat.zero_le _, by omega, rfl, ⟨?_⟩, ⟨?_⟩, ⟨?_⟩, ⟨?_⟩⟩
   rotate_left
   ·refine qB ?_; exact BKr.out
   ·refine qB ?_; exact BKm.out
   ·exact qW HB.out
   rw [show imgOf f n k ++ imgRow f k 0 = imgOf f n k from List.append_nil _]
   refine qR ?_; exact HO.out
  case round =>
   clear HO HB BKr BKm
   obtain ⟨j, u2, hj, hg2, rfl, HO, BKr, BKm, HB⟩ := hrel
   by_cases hjlt : j < n
   rotate_left
   ·have hjz : ¬ (j : Int) < (n : Int) := by omega
    have ej : j = n := by omega
    subst ej
    go_wp2
    go_roundg (m - (k + 1))
    case measure => omega
    case rel =>
     refine ⟨k + 1, u2, by omega, by omega, by go_num, ⟨?_⟩, ⟨?_⟩, ⟨?_⟩, ⟨?_⟩⟩
     rotate_left
     ·refine qB ?_; exact BKr.out
     ·refine qB ?_; exact BKm.out
     ·exact qW HB.out
     rw [imgOf_succ]
     (with_reducible repeat (first | apply Kd.R_alloc | apply Kd.R_drewN | apply Kd.R_drew))
     exact HO.out
   have hjz : (j : Int) < (n : Int) := by omega
   have hj16 : (j : Int) ≤ 16 := by have := HN.out; omega
   have hj0 : (0 : Int) ≤ (j : Int) := by omega
   have hk0 : (0 : Int) ≤ (k : Int) := by omega
   have NEr := aM (Kd.R_ne HO.out BKr.out (by decide))
   have NEm := aM (Kd.R_ne HO.out BKm.out (by decide))
   go_wp2
   replace HO := aM (Kd.R_drew HO.out)
   replace BKr := aM (blk_drew BKr.out)
   replace BKm := aM (blk_drew BKm.out)
   replace HB := aM (below_drew1 HB.out)
   refine start_ (n := 9) (S := fun w' => w'.cell? ⟨gm, 3, none⟩ = some u2) (ds := [8]) (bA 9 0) (by kernel_rfl) rfl rfl ((blk_cell BKm.out 3).trans rfl) (fun hHeld => ?_)
   generalize wr.drew = w27 at HO BKr BKm HB hHeld ⊢
   refine pure_ (i := 0) (N := some 24) (v := ?_) (a' := ?_) (bA 9 1) rfl rfl (by kernel_rfl) (fun _ _ _ h => h) (Or.inl ⟨by rfl, ?_⟩) ?_ ?_
   rotate_left
   ·intro w'
    go_simp
    with_reducible rfl
   rotate_left
   ·refine pZ ?_
    rfl
   refine pure_ (i := 2) (N := some 26) (v := ?_) (a' := ?_) (bA 9 5) rfl rfl (by kernel_rfl) (fun _ _ _ h => h) (Or.inl ⟨by rfl, ?_⟩) ?_ ?_
   rotate_left
   ·intro w'
    go_simp
    with_reducible rfl
   rotate_left
   ·refine pZ ?_
    rfl
   refine pure_ (i := 3) (N := some 27) (v := ?_) (a' := ?_) (bA 9 13) rfl rfl (by kernel_rfl) (fun _ _ _ h => h) (Or.inl ⟨by rfl, ?_⟩) ?_ ?_
   rotate_left
   ·intro w'
    go_simp
    with_reducible rfl
   rotate_left
   ·refine pZ ?_
    rfl
   refine pure_ (i := 4) (N := some 28) (v := ?_) (a' := ?_) (bA 9 29) rfl rfl (by kernel_rfl) (fun _ _ _ h => h) (Or.inl ⟨by rfl, ?_⟩) ?_ ?_
   rotate_left
   ·intro w'
    go_simp
    with_reducible rfl
   rotate_left
   ·refine pZ ?_
    rfl
   refine take_ (i := 1) (N := some 25) (v := ?_) (a' := ?_) (bA 9 31) rfl rfl (by kernel_rfl) (fun _ _ _ h => h) (Or.inl ⟨by rfl, ?_⟩) hHeld ?_ ?_
   rotate_left
   ·intro w' s0
    go_simp
    with_reducible rfl
   rotate_left
   ·refine pZ ?_
    rfl
   refine one_ (i := 5) (N := some 29) (bA 9 63) rfl rfl (by kernel_rfl) (by decide) (fun K hK => ?_)
   refine call_ g (#[.int .i64 (j : Int), .int .i64 (k : Int)] ++ lb) (by rfl) rfl ?hrun ?_
   case hrun => simp [execOp, resolve, Deferred.ofValue, invoke, Act.eval, eg]
   have hcall := HP.out w27 (j : Int) (k : Int) HB.out hj0 hjz hk0 hltz
   refine hcall.mono ?_
   clear hcall
   rintro e w28 ⟨A1, c1, rfl, hr1, hl1, hb⟩
   refine ⟨_, rfl, ?_⟩
   have n0_ := aM (Kd.R_below HO.out hb)
   have n1_ := aM (blk_below BKr.out hb)
   have n2_ := aM (blk_below BKm.out hb)
   have n3_ := aM (below_step HB.out hb)
   have HR1 := aM hr1
   clear HO BKr BKm HB hr1 hl1 hb
   have HO := n0_
   have BKr := n1_
   have BKm := n2_
   have HB := n3_
   clear n0_ n1_ n2_ n3_
   refine hK.out _ _ ((blk_cell BKm.out 3).trans rfl) (fun hHeld => ?_)
   clear hK K
   refine norm_ (a' := ?_) ?_ ?_
   rotate_left
   ·show Act.put _ (some 29) _ = _
    refine pZ ?_
    rfl
   have LEN := aM (imgOf_len f n k 100 (fun i j _ _ => HF.out j i))
   have LEN2 := aM (imgRow_len f k j 100 (fun i _ => HF.out i k))
   have LEN3 := aM (HF.out j k)
   refine one_ (i := 6) (N := some 30) (bA 9 127) rfl rfl (by kernel_rfl) (by decide) (fun K hK => ?_)
   refine Kd.R_append_rows_step (Kd.int .i64) (w0 := w) w.heap.size (by rfl) (.tmp 25) (.tmp 29) 22 3 (.int .i64 0) 8 rfl Try.underlying22 info3 rfl (by decide) (by omega) u2 (imgOf f n k ++ imgRow f k j) (f j k) _ _ _ (fun _ => True) (fun _ => False) rfl rfl ?aO ?aR (fun _ _ h => h) (fun _ h => h.elim) ?aF ?aB ?aS ?aL ?_
   case aR => exact HR1.out
   case aB => exact HB.out
   case aF => exact (fun _ _ => trivial)
   case aO => exact HO.out
   case aS => exact below_size HB.out
   case aL =>
    have l1 := LEN.out
    have l2 := LEN2.out
    have l3 := LEN3.out
    have hn16 := HN.out
    have hm16 := HM.out
    rw [List.length_append]
    have q1 : k * (n * 100) ≤ 16 * (16 * 100) := Nat.mul_le_mul (by omega) (Nat.mul_le_mul (by omega) (Nat.le_refl _))
    have q2 : j * 100 ≤ 16 * 100 := Nat.mul_le_mul (by omega) (Nat.le_refl _)
    omega
   intro v1 w29 ho hb2 hg3 hat
   obtain ⟨ys, hys⟩ : ∃ ys : List Int, ys = (imgOf f n k ++ imgRow f k j) ++ f j k := ⟨_, rfl⟩
   rw [← hys] at ho
   have NY := aM hys
   clear hys
   have n1_ := aM (blk_grown BKr.out hg3 NEr.out)
   have n2_ := aM (blk_grown BKm.out hg3 NEm.out)
   clear HO BKr BKm HB hg3 hat
   have HO := aM ho
   have HB := aM hb2
   have BKr := n1_
   have BKm := n2_
   clear n1_ n2_ ho hb2
   obtain ⟨Ao, co, rfl⟩ := sL HO
   refine hK.out _ _ ((blk_cell BKm.out 3).trans rfl) (fun hHeld => ?_)
   clear hK K
   refine norm_ (a' := ?_) ?_ ?_
   rotate_left
   ·show Act.put _ (some 30) _ = _
    refine pZ ?_
    rfl
   refine pure_ (i := 7) (N := some 31) (v := ?_) (a' := ?_) (bA 9 255) rfl rfl (by kernel_rfl) (fun _ _ _ h => h) (Or.inl ⟨by rfl, ?_⟩) ?_ ?_
   rotate_left
   ·intro w'
    go_simp
    with_reducible rfl
   rotate_left
   ·refine pZ ?_
    rfl
   have hcz_3 : w29.cell? ⟨gm, 3, none⟩ = some u2 := (blk_cell BKm.out 3).trans rfl
   have hfz_3 := blk_frozen BKm.out 3
   refine last_ (i := 8) (N := none) (bA 9 511) rfl rfl (by kernel_rfl) (by decide) (fun K hK => ?_)
   refine skip_ (w1 := ?_) (by rfl) rfl ?_ ?_
   rotate_left
   ·go_simp
    rfl
   refine hK.out _ _ ?_
   clear hK K
   refine done_ (by kernel_rfl) ?_
   try go_wp2
   go_roundg (n - (j + 1))
   case measure => omega
   case rel =>
    refine ⟨j + 1, .slice Ao ys.length co, by omega, by omega, by go_num, ⟨?_⟩, ⟨?_⟩, ⟨?_⟩, ⟨?_⟩⟩
    rotate_left
    ·refine qB ?_; refine blk_far ?_ NBrm.out _; refine qB ?_; exact BKr.out
    ·exact bP BKm.out
    ·exact qW HB.out
    rw [imgRow_succ, ← List.append_assoc, ← NY.out]
    (with_reducible repeat (first | apply Kd.R_alloc | apply Kd.R_drewN | apply Kd.R_drew))
    exact Kd.R_mono (Kd.R_far (p := ⟨gm, 3, none⟩) (Kd.R_types HO.out BKm.out (by decide)) (fun _ hk => hk.2) _) (fun _ hk => trivial)
theorem C_single {w : World} {B : Nat} {v : Int} {t : TypeId} (h : w.heap[B]? = some (.cells #[.int .i64 v] t (0, 0))) : Kd.C (Kd.int .i64) w (some ⟨B, 0, none⟩) [v].length [v] := by
 refine ⟨rfl, by simp, fun _ => ⟨_, rfl, fun j p hp => ?_⟩⟩
 obtain ⟨rfl, rfl⟩ : j = 0 ∧ v = p := by
  cases j with
  | zero => exact ⟨rfl, by simpa using hp⟩
  | succ j => simp at hp
 refine ⟨[.int .i64 v], rfl, rfl, fun i u hu => ?_⟩
 obtain ⟨rfl, rfl⟩ : i = 0 ∧ (Value.int .i64 v) = u := by
  cases i with
  | zero => exact ⟨rfl, by simpa using hu⟩
  | succ i => simp at hu
 rw [add_plain]
 exact (blk_cell h 0).trans rfl
def pixOf (l : List Int) (n p x y : Int) : List Int := (l.take ((y * n + x) * p + p).toNat).drop ((y * n + x) * p).toNat
set_option maxHeartbeats 8000000 in
set_option maxRecDepth 100000 in
theorem impl_at.calls2 (a0_0 : Int) (a0_1 : Int) (a0_2 : Int) (A0_3 : Option Addr) (c0_3 : Nat) (l0_3 : List Int) (a1 : Int) (a2 : Int) (w : World) (hr0_3 : Kd.C (Kd.int .i64) w A0_3 l0_3.length l0_3) (hc0_3 : l0_3.length ≤ c0_3)
  (h0 : 0 ≤ a0_0) (h0' : a0_0 ≤ 16) (h2 : 0 ≤ a0_2) (h2' : a0_2 ≤ 16) (hx : 0 ≤ a1) (hx' : a1 ≤ 1000) (hy : 0 ≤ a2) (hy' : a2 ≤ 1000) (hi : (a2 * a0_0 + a1) * a0_2 + a0_2 ≤ (l0_3.length : Int)) :
  Calls Try.prog 44 #[.agg #[.int .i64 a0_0, .int .i64 a0_1, .int .i64 a0_2, .slice A0_3 l0_3.length c0_3], .int .i64 a1, .int .i64 a2] w fun e w' => ∃ (A : Option Addr) (c : Nat), e = .returned (.slice A (pixOf l0_3 a0_0 a0_2 a1 a2).length c) ∧ Kd.C (Kd.int .i64) w' A (pixOf l0_3 a0_0 a0_2 a1 a2).length (pixOf l0_3 a0_0 a0_2 a1 a2) ∧ (pixOf l0_3 a0_0 a0_2 a1 a2).length ≤ c ∧ Below w.heap.size w w' ∧ ∀ W : World, Kd.C (Kd.int .i64) W A0_3 l0_3.length l0_3 → Kd.C (Kd.int .i64) W A (pixOf l0_3 a0_0 a0_2 a1 a2).length (pixOf l0_3 a0_0 a0_2 a1 a2) := by
 have hu26 := Try.underlying29
 have HB := aM (Below.refl w.heap.size w)
 have m1 : 0 ≤ a2 * a0_0 := Int.mul_nonneg hy h0
 have m1' : a2 * a0_0 ≤ 1000 * 16 := Int.mul_le_mul hy' h0' h0 (by omega)
 have m2 : 0 ≤ (a2 * a0_0 + a1) * a0_2 := Int.mul_nonneg (by omega) h2
 have m2' : (a2 * a0_0 + a1) * a0_2 ≤ 17000 * 16 := Int.mul_le_mul (by omega) h2' h2 (by omega)
 obtain ⟨i010, hi010, _, hsz10, _⟩ := info_parts info3
 obtain ⟨A10, hcut10, hA10, hC10⟩ := print_mid_of (P := Try.prog) (Value.int .i64) 0 22 3 .i64 .i64 Try.underlying22 hi010 hsz10 A0_3 c0_3 l0_3 ((a2 * a0_0 + a1) * a0_2) ((a2 * a0_0 + a1) * a0_2 + a0_2) m2 (by omega) hi hc0_3
 have HR := aM (Kd.C_of_reads (h1 := fun _ => rfl) (hA10 _ (Kd.reads_of_C hr0_3)))
 have HC := aM hC10
 have HA := aM (fun (W : World) (h : Kd.C (Kd.int .i64) W A0_3 l0_3.length l0_3) => Kd.C_of_reads (d := (0 : Int)) (h1 := fun _ => rfl) (hA10 W (Kd.reads_of_C h)))
 change ∀ W : World, (Instr.slice _ _ _ _ _).run _ W = .ok (.slice A10 (pixOf l0_3 a0_0 a0_2 a1 a2).length _) W at hcut10
 change Aside0 (Kd.C _ w A10 (pixOf l0_3 a0_0 a0_2 a1 a2).length (pixOf l0_3 a0_0 a0_2 a1 a2)) at HR
 change Aside0 (∀ W : World, Kd.C (Kd.int .i64) W A0_3 l0_3.length l0_3 → Kd.C (Kd.int .i64) W A10 (pixOf l0_3 a0_0 a0_2 a1 a2).length (pixOf l0_3 a0_0 a0_2 a1 a2)) at HA
 change Aside0 ((pixOf l0_3 a0_0 a0_2 a1 a2).length ≤ _) at HC
 clear hA10 hC10 hi010 hsz10 hr0_3 hc0_3 hi
 generalize pixOf l0_3 a0_0 a0_2 a1 a2 = px at hcut10 HR HC HA ⊢
 go_enter Try.func44, Try.ntmps44
 go_wp2_with (first | ((with_reducible refine gate_dst (N := 3) rfl ?_); refine bxE (N := 3) (cs := #[.int .i64 a0_0, .int .i64 a0_1, .int .i64 a0_2, .slice A0_3 l0_3.length c0_3]) (t := 29) ?_; intro gb hg w8 hbox hb; have n0_ := aM (below_step HB.out hb); have n1_ := aM (hbox); have HR2 := aM (Kd.C_below HR.out hb); clear HB HR; have HB := n0_; have BK := n1_; have HR := HR2; clear n0_ n1_ HR2; clear hb hbox hg; have hcz9_0 : w8.cell? ⟨gb, 0, none⟩ = some (.int .i64 a0_0) := (blk_cell BK.out 0).trans rfl; have hcz9_1 : w8.cell? ⟨gb, 1, none⟩ = some (.int .i64 a0_1) := (blk_cell BK.out 1).trans rfl; have hcz9_2 : w8.cell? ⟨gb, 2, none⟩ = some (.int .i64 a0_2) := (blk_cell BK.out 2).trans rfl; have hcz9_3 : w8.cell? ⟨gb, 3, none⟩ = some (.slice A0_3 l0_3.length c0_3) := (blk_cell BK.out 3).trans rfl))
 go_ret
 exact ⟨A10, _, rfl, by exact qC HR.out, HC.out, by exact qW HB.out, HA.out⟩
theorem impl_at.calls (a0_0 : Int) (a0_1 : Int) (a0_2 : Int) (A0_3 : Option Addr) (c0_3 : Nat) (l0_3 : List Int) (a1 : Int) (a2 : Int) (w : World) (hr0_3 : Kd.C (Kd.int .i64) w A0_3 l0_3.length l0_3) (hc0_3 : l0_3.length ≤ c0_3)
  (h0 : 0 ≤ a0_0) (h0' : a0_0 ≤ 16) (h2 : 0 ≤ a0_2) (h2' : a0_2 ≤ 16) (hx : 0 ≤ a1) (hx' : a1 ≤ 1000) (hy : 0 ≤ a2) (hy' : a2 ≤ 1000) (hi : (a2 * a0_0 + a1) * a0_2 + a0_2 ≤ (l0_3.length : Int)) :
  Calls Try.prog 44 #[.agg #[.int .i64 a0_0, .int .i64 a0_1, .int .i64 a0_2, .slice A0_3 l0_3.length c0_3], .int .i64 a1, .int .i64 a2] w fun e w' => ∃ (A : Option Addr) (c : Nat), e = .returned (.slice A (pixOf l0_3 a0_0 a0_2 a1 a2).length c) ∧ Kd.C (Kd.int .i64) w' A (pixOf l0_3 a0_0 a0_2 a1 a2).length (pixOf l0_3 a0_0 a0_2 a1 a2) ∧ (pixOf l0_3 a0_0 a0_2 a1 a2).length ≤ c ∧ Below w.heap.size w w' := by
 exact (impl_at.calls2 a0_0 a0_1 a0_2 A0_3 c0_3 l0_3 a1 a2 w hr0_3 hc0_3 h0 h0' h2 h2' hx hx' hy hy' hi).mono fun e w' ⟨A, c, h1, h2, h3, h4, _⟩ => ⟨A, c, h1, h2, h3, h4⟩
theorem pixOf_len (l : List Int) (n p x y : Int) (hp : 0 ≤ p) (hp' : p ≤ 4) : (pixOf l n p x y).length ≤ 100 := by
 unfold pixOf
 rw [List.length_drop, List.length_take]
 omega
theorem pixOf_length {l : List Int} {n p x y : Int} (h0 : 0 ≤ (y * n + x) * p) (hp : 0 ≤ p) (h : (y * n + x) * p + p ≤ (l.length : Int)) : ((pixOf l n p x y).length : Int) = p := by
 unfold pixOf
 rw [List.length_drop, List.length_take]
 omega
theorem pixOf_mem {l : List Int} {n p x y v : Int} (h : v ∈ pixOf l n p x y) : v ∈ l := by
 unfold pixOf at h
 exact List.mem_of_mem_take (List.mem_of_mem_drop h)
def idxOfL (p : List Int → Bool) (l : List (List Int)) : Int := if l.any p = true then (l.findIdx p : Int) else -1
theorem idxOfL_hit (p : List Int → Bool) (l : List (List Int)) (k : Nat) (hk : k < l.length) (h : p (l.getD k []) = true) (hn : ∀ j, j < k → p (l.getD j []) = false) : idxOfL p l = k := by
 have hx : l.findIdx p = k := by
  rw [List.findIdx_eq hk]
  refine ⟨by simpa [List.getD_eq_getElem?_getD, List.getElem?_eq_getElem hk] using h, fun j hj => ?_⟩
  have := hn j hj
  simpa [List.getD_eq_getElem?_getD, List.getElem?_eq_getElem (show j < l.length by omega)] using this
 have ha : l.any p = true := List.any_eq_true.2 ⟨l[k], List.getElem_mem hk, by simpa [List.getD_eq_getElem?_getD, List.getElem?_eq_getElem hk] using h⟩
 unfold idxOfL
 rw [if_pos ha, hx]
theorem idxOfL_miss (p : List Int → Bool) (l : List (List Int)) (hn : ∀ j, j < l.length → p (l.getD j []) = false) : idxOfL p l = -1 := by
 have ha : ¬ (l.any p = true) := by
  intro h
  obtain ⟨x, hx, hp⟩ := List.any_eq_true.1 h
  obtain ⟨j, hj, rfl⟩ := List.getElem_of_mem hx
  have := hn j hj
  simp [List.getD_eq_getElem?_getD, List.getElem?_eq_getElem hj, hp] at this
 unfold idxOfL
 rw [if_neg ha]
theorem idxOfL_nonneg (p : List Int → Bool) (l : List (List Int)) : decide (0 ≤ idxOfL p l) = l.any p := by
 unfold idxOfL
 cases h : l.any p <;> simp
def PredL (g : Nat) (lb : Array Value) (p : List Int → Bool) (w : World) : Prop :=
 ∀ (W : World) (A : Option Addr) (c : Nat) (x : List Int), Below w.heap.size w W → Kd.C (Kd.int .i64) W A x.length x → x.length ≤ c → Calls Try.prog g (#[.slice A x.length c] ++ lb) W fun e w' => e = .returned (.bool (p x)) ∧ Drawn0 W w'
set_option maxHeartbeats 8000000 in
set_option maxRecDepth 100000 in
theorem indexFuncList.calls (g : Nat) (lb : Array Value) (eg : ∀ args w, (callFunc g args).run Try.prog w = .ok (.enter g args) w) (p : List Int → Bool) (A0 : Option Addr) (c0 : Nat) (l0 : List (List Int)) (w : World)
  (hp : PredL g lb p w) (hr0 : Kd.C (Kd.slice 3 (Kd.int .i64)) w A0 l0.length l0) (hc0 : l0.length ≤ c0) :
  Calls Try.prog 79 #[.slice A0 l0.length c0, .func (.func g) #[] lb] w fun e w' => e = .returned (.int .i64 (idxOfL p l0)) ∧ Drawn0 w w' := by
 have hm : l0.length ≤ 9223372036854775807 := Kd.C_max hr0
 have HR0 := aM hr0
 have HP := aM hp
 clear hr0 hp
 go_enter Try.func79, Try.ntmps79
 go_wp2
 go_loopg [5, 8] l0.length (fun gg _ s8 wr => ∃ kk q : Nat, kk ≤ l0.length ∧ l0.length - kk ≤ gg ∧ s8 = .int .i64 kk ∧ wr = w.drewN q ∧ Aside0 (∀ j, j < kk → p (l0.getD j []) = false))
 case atStart => exact ⟨0, 0, Nat.zero_le _, by omega, rfl, rfl, ⟨fun j hj => absurd hj (Nat.not_lt_zero _)⟩⟩
 case round =>
  obtain ⟨kk, q, hkk, hg, rfl, rfl, NO⟩ := hrel
  by_cases hlt : kk < l0.length
  rotate_left
  ·have hltz : ¬ (kk : Int) < (l0.length : Int) := by omega
   have : kk = l0.length := by omega
   subst this
   go_wp2
   go_ret
   refine ⟨?_, ⟨⟨q, rfl⟩⟩⟩
   rw [idxOfL_miss p l0 NO.out]
   rfl
  have hltz : (kk : Int) < (l0.length : Int) := by omega
  obtain ⟨ad, A1, c1, e1, hcell, hl1, hi1⟩ := at_L1 HR0.out (kk : Int) (by omega) hltz
  cases e1
  simp only [Int.toNat_natCast] at hcell
  have hb : Below w.heap.size w (w.drewN q) := pw_below_drewN (Below.refl _ _) q
  have hcall := HP.out (w.drewN q) A1 c1 (rd_L1 l0 kk) hb (Kd.C_drewN hi1 q) hl1
  have hrd : rd_L1 l0 (kk : Int) = l0.getD kk [] := by simp [rd_L1]
  have HRD := aM hrd
  clear hrd hb hi1 hl1
  cases hq : p (rd_L1 l0 kk) with
  | true =>
   rw [hq] at hcall
   have HQ := aM hq
   clear hq
   go_wp2_with (go_at_fn g; refine hcall.mono ?_; rintro e w' ⟨rfl, ⟨q', rfl⟩⟩)
   go_ret
   refine ⟨?_, ⟨⟨q + q', by first | rfl | rw [World.drewN_drewN]⟩⟩⟩
   rw [idxOfL_hit p l0 kk hlt (by rw [← HRD.out]; exact HQ.out) NO.out]
   rfl
  | false =>
   rw [hq] at hcall
   have HQ := aM hq
   clear hq
   go_wp2_with (go_at_fn g; refine hcall.mono ?_; rintro e w' ⟨rfl, ⟨q', rfl⟩⟩)
   go_roundg (l0.length - (kk + 1))
   case measure => omega
   case rel =>
    refine ⟨kk + 1, q + q', by omega, by omega, by go_num, by first | rfl | rw [World.drewN_drewN], ⟨fun j hj => ?_⟩⟩
    by_cases e : j = kk
    rotate_left
    ·exact NO.out j (by omega)
    subst e
    rw [← HRD.out]; exact HQ.out
set_option maxHeartbeats 8000000 in
set_option maxRecDepth 100000 in
theorem containsFuncList.calls (g : Nat) (lb : Array Value) (eg : ∀ args w, (callFunc g args).run Try.prog w = .ok (.enter g args) w) (p : List Int → Bool) (A0 : Option Addr) (c0 : Nat) (l0 : List (List Int)) (w : World)
  (hp : PredL g lb p w) (hr0 : Kd.C (Kd.slice 3 (Kd.int .i64)) w A0 l0.length l0) (hc0 : l0.length ≤ c0) :
  Calls Try.prog 45 #[.slice A0 l0.length c0, .func (.func g) #[] lb] w fun e w' => e = .returned (.bool (l0.any p)) ∧ Drawn0 w w' := by
 rw [← idxOfL_nonneg p l0]
 go_enter Try.func45, Try.ntmps45
 go_wp2_with (go_at_call 79; refine (indexFuncList.calls g lb eg p _ _ l0 _ hp hr0 hc0).mono ?_; rintro e w' ⟨rfl, ⟨q, rfl⟩⟩)
 go_ret
 exact ⟨rfl, ⟨⟨q, rfl⟩⟩⟩
def slices_Equal_int_int.l0 : Nat → List Int → List Int → Int → Int → Option (Bool)
 | 0, _, _, _, _ => none
 | k + 1, x0, x1, x12, x13 => if x13 < x12 then (if 0 ≤ x13 then (if x13 < (x0.length : Int) then (if x13 < (x1.length : Int) then (if (rd x0 x13) = (rd x1 x13) then (slices_Equal_int_int.l0 k x0 x1 x12 (wrap64 (x13 + 1))) else (some false)) else (none)) else (none)) else (none)) else (some true)
def slices_Equal_int_int.f (k : Nat) (l0 : List Int) (l1 : List Int) : Option (Bool) := if (l0.length : Int) = (l1.length : Int) then (slices_Equal_int_int.l0 k l0 l1 (l0.length : Int) 0) else (some false)
theorem slices_Equal_int_int.mono_l : ∀ k, (∀ y0 y1 y2 y3, LeO (slices_Equal_int_int.l0 k y0 y1 y2 y3) (slices_Equal_int_int.l0 (k + 1) y0 y1 y2 y3))
 | 0 => fun _ _ _ _ r h => by simp [slices_Equal_int_int.l0] at h
 | k + 1 => by
  have ih0 := slices_Equal_int_int.mono_l k
  ·intro y0 y1 y2 y3
   unfold slices_Equal_int_int.l0
   repeat' first | (with_reducible first | exact ih0 _ _ _ _ | exact lR | exact lN | refine lI ?_ ?_ | refine lB ?_ fun _ => ?_) | exact ih0 _ _ _ _ | exact lN | refine lI ?_ ?_ | refine lB ?_ fun _ => ?_
theorem slices_Equal_int_int.mono : ∀ a0 a1 k, LeO (slices_Equal_int_int.f k a0 a1) (slices_Equal_int_int.f (k + 1) a0 a1) := by
 intro a0 a1 k
 have ih0 := slices_Equal_int_int.mono_l k
 unfold slices_Equal_int_int.f
 repeat' first | (with_reducible first | exact ih0 _ _ _ _ | exact lR | exact lN | refine lI ?_ ?_ | refine lB ?_ fun _ => ?_) | exact ih0 _ _ _ _ | exact lN | refine lI ?_ ?_ | refine lB ?_ fun _ => ?_
set_option maxHeartbeats 8000000 in
set_option maxRecDepth 100000 in
theorem slices_Equal_int_int.calls (k : Nat) (A0 : Option Addr) (c0 : Nat) (l0 : List Int) (A1 : Option Addr) (c1 : Nat) (l1 : List Int) (r : Bool) (w : World) (hr0 : Kd.C (Kd.int .i64) w A0 l0.length l0) (hc0 : l0.length ≤ c0) (hr1 : Kd.C (Kd.int .i64) w A1 l1.length l1) (hc1 : l1.length ≤ c1) (h : slices_Equal_int_int.f k l0 l1 = some r) :
  Calls Try.prog 47 #[.slice A0 l0.length c0, .slice A1 l1.length c1] w fun e w' => e = .returned (.bool r) ∧ Drawn0 w w' := by
 have HR0 := aM hr0
 have HC0 := aM hc0
 clear hr0 hc0
 have HR1 := aM hr1
 have HC1 := aM hc1
 clear hr1 hc1
 unfold slices_Equal_int_int.f at h
 have H := h
 clear h
 by_cases c3 : (l0.length : Int) = (l1.length : Int)
 ·rw [if_pos c3] at H
  have c3b0 : ((l0.length : Int) == (l1.length : Int)) = true := beq_iff_eq.mpr c3
  have c3b1 : ((l0.length : Int) != (l1.length : Int)) = false := bne_eq_false_iff_eq.mpr c3
  have c3b2 : (l0.length == l1.length) = true := by first | simpa using c3 | (simp at c3 ⊢; omega)
  clear c3
  have H' := aM H
  clear H
  go_enter Try.func47, Try.ntmps47
  go_wp2
  repeat (go_quiet (fail); try go_wp2)
  go_loopg [13] k (fun kq v13 w' => ∃ (x13_1 : Int), v13 = .int .i64 x13_1 ∧ Aside0 (slices_Equal_int_int.l0 kq l0 l1 (l0.length : Int) x13_1 = some r) ∧ Aside0 (kq ≤ k) ∧ Drawn0 w w')
  case atStart => exact ⟨(0), qE, H', ⟨Nat.le_refl _⟩, qD⟩
  case round =>
   clear H'
   try clear c1
   try clear c3
   try clear c3b0
   try clear c3b1
   try clear c3b2
   obtain ⟨x13_1, rfl, HA, HK1, ⟨m1, rfl⟩⟩ := hrel
   cases gk with
   | zero => exact absurd HA.out (by simp [slices_Equal_int_int.l0])
   | succ k1 =>
    have H := HA.out
    clear HA
    simp only [slices_Equal_int_int.l0] at H
    by_cases c4 : x13_1 < (l0.length : Int)
    rotate_left
    ·rw [if_neg c4] at H
     have c4b0 : decide (x13_1 < (l0.length : Int)) = false := decide_eq_false c4
     clear c4
     obtain rfl := Option.some.inj H
     go_wp2
     repeat (go_quiet (fail); try go_wp2)
     go_ret
     exact ⟨qE, qD⟩
    rw [if_pos c4] at H
    have c4b0 : decide (x13_1 < (l0.length : Int)) = true := decide_eq_true c4
    clear c4
    replace H := iD H
    obtain ⟨c5b0, H⟩ := H
    replace H := iD H
    obtain ⟨c6b0, H⟩ := H
    replace H := iD H
    obtain ⟨c7b0, H⟩ := H
    by_cases c8 : (rd l0 x13_1) = (rd l1 x13_1)
    rotate_left
    ·rw [if_neg c8] at H
     have c8b0 : ((rd l0 x13_1) == (rd l1 x13_1)) = false := beq_eq_false_iff_ne.mpr c8
     have c8b1 : ((rd l0 x13_1) != (rd l1 x13_1)) = true := bne_iff_ne.mpr c8
     obtain rfl := Option.some.inj H
     obtain ⟨ad157, e157, hx157_0⟩ := Kd.at_int HR0.out x13_1 oD oD
     cases e157
     have p157 := eq_true (oD : 0 ≤ (x13_1 : Int))
     have q157 := eq_true (oD : x13_1 < (l0.length : Int))
     obtain ⟨ad158, e158, hx158_0⟩ := Kd.at_int HR1.out x13_1 oD oD
     cases e158
     have p158 := eq_true (oD : 0 ≤ (x13_1 : Int))
     have q158 := eq_true (oD : x13_1 < (l1.length : Int))
     go_wp2
     repeat (go_quiet (fail); try go_wp2)
     go_ret
     exact ⟨qE, qD⟩
    rw [if_pos c8] at H
    have c8b0 : ((rd l0 x13_1) == (rd l1 x13_1)) = true := beq_iff_eq.mpr c8
    have c8b1 : ((rd l0 x13_1) != (rd l1 x13_1)) = false := bne_eq_false_iff_eq.mpr c8
    clear c8
    have H' := aM H
    clear H
    obtain ⟨ad157, e157, hx157_0⟩ := Kd.at_int HR0.out x13_1 oD oD
    cases e157
    have p157 := eq_true (oD : 0 ≤ (x13_1 : Int))
    have q157 := eq_true (oD : x13_1 < (l0.length : Int))
    obtain ⟨ad158, e158, hx158_0⟩ := Kd.at_int HR1.out x13_1 oD oD
    cases e158
    have p158 := eq_true (oD : 0 ≤ (x13_1 : Int))
    have q158 := eq_true (oD : x13_1 < (l1.length : Int))
    go_wp2
    repeat (go_quiet (fail); try go_wp2)
    go_roundg k1
    case measure => have := HK1.out; omega
    case rel => exact ⟨(wrap64 (x13_1 + 1)), qE, H', ⟨by have := HK1.out; omega⟩, qD⟩
 ·rw [if_neg c3] at H
  have c3b0 : ((l0.length : Int) == (l1.length : Int)) = false := beq_eq_false_iff_ne.mpr c3
  have c3b1 : ((l0.length : Int) != (l1.length : Int)) = true := bne_iff_ne.mpr c3
  have c3b2 : (l0.length == l1.length) = false := by first | simpa using c3 | (simp at c3 ⊢; omega)
  obtain rfl := Option.some.inj H
  go_enter Try.func47, Try.ntmps47
  go_wp2
  repeat (go_quiet (fail); try go_wp2)
  go_ret
  exact ⟨qE, qD⟩
end Go.Proofs.Ytohbpilokmppbaa.P
