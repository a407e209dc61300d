/- Contracts and row, written by a program of this place out of the translation: the call answers true and its argument reads as before, for every input; no condition. -/
import Derived.Test.YtcmkijmjafgkfaaK0
namespace Go.Proofs.Ytcmkijmjafgkfaa.P
open Go.RowKit Go.Proofs.YtcmkijmjafgkfaaW.PrintWords Go.Proofs.YtcmkijmjafgkfaaW.PrintLast Go.Proofs.YtcmkijmjafgkfaaW.PrintMore
attribute [local go_sem] max2_int min2_int max_two min_two max_three min_three max_four min_four   -- for this text's walks alone
set_option linter.unusedVariables false
set_option linter.unusedSimpArgs false
def spec_inRange.f (a0 : Int) (a1 : Int) (a2 : Int) : Option (Bool) := if a1 ≤ a0 then (some (decide (a0 ≤ a2))) else (some false)
set_option maxHeartbeats 8000000 in
set_option maxRecDepth 100000 in
theorem spec_inRange.calls (a0 : Int) (a1 : Int) (a2 : Int) (r : Bool) (w : World) (h : spec_inRange.f a0 a1 a2 = some r) :
  Calls Try.prog 47 #[.int .i64 a0, .int .i64 a1, .int .i64 a2] w fun e w' => e = .returned (.bool r) ∧ Drawn0 w w' := by
 unfold spec_inRange.f at h
 have H := h
 clear h
 by_cases c4 : a1 ≤ a0
 ·rw [if_pos c4] at H
  have c4b0 : decide (a1 ≤ a0) = true := decide_eq_true c4
  clear c4
  obtain rfl := Option.some.inj H
  go_enter Try.func47, Try.ntmps47
  go_wp2
  go_ret
  exact ⟨qE, qD⟩
 rw [if_neg c4] at H
 have c4b0 : decide (a1 ≤ a0) = false := decide_eq_false c4
 clear c4
 obtain rfl := Option.some.inj H
 go_enter Try.func47, Try.ntmps47
 go_wp2
 go_ret
 exact ⟨qE, qD⟩
def spec_allIn.l0 : Nat → List Int → Int → Int → Int → Option (Bool)
 | 0, _, _, _, _ => none
 | k + 1, x0, x1, x2, x7 => if x7 < (x0.length : Int) then (if 0 ≤ x7 then ((spec_inRange.f (rd x0 x7) x1 x2).bind fun t102 => (if t102 = true then (spec_allIn.l0 k x0 x1 x2 (wrap64 (x7 + 1))) else (some false))) else (none)) else (some true)
def spec_allIn.f (k : Nat) (l0 : List Int) (a1 : Int) (a2 : Int) : Option (Bool) := spec_allIn.l0 k l0 a1 a2 0
theorem spec_allIn.mono_l : ∀ k, (∀ y0 y1 y2 y3, LeO (spec_allIn.l0 k y0 y1 y2 y3) (spec_allIn.l0 (k + 1) y0 y1 y2 y3))
 | 0 => fun _ _ _ _ r h => by simp [spec_allIn.l0] at h
 | k + 1 => by
  have ih0 := spec_allIn.mono_l k
  ·intro y0 y1 y2 y3
   unfold spec_allIn.l0
   repeat' first | (with_reducible first | exact ih0 _ _ _ _ | exact lR | exact lN | refine lI ?_ ?_ | refine lB ?_ fun _ => ?_) | exact ih0 _ _ _ _ | exact lN | refine lI ?_ ?_ | refine lB ?_ fun _ => ?_
theorem spec_allIn.mono : ∀ a0 a1 a2 k, LeO (spec_allIn.f k a0 a1 a2) (spec_allIn.f (k + 1) a0 a1 a2) := by
 intro a0 a1 a2 k
 have ih0 := spec_allIn.mono_l k
 unfold spec_allIn.f
 repeat' first | (with_reducible first | exact ih0 _ _ _ _ | exact lR | exact lN | refine lI ?_ ?_ | refine lB ?_ fun _ => ?_) | exact ih0 _ _ _ _ | exact lN | refine lI ?_ ?_ | refine lB ?_ fun _ => ?_
set_option maxHeartbeats 8000000 in
set_option maxRecDepth 100000 in
theorem spec_allIn.calls (k : Nat) (A0 : Option Addr) (c0 : Nat) (l0 : List Int) (a1 : Int) (a2 : Int) (r : Bool) (w : World) (hr0 : Kd.C (Kd.int .i64) w A0 l0.length l0) (hc0 : l0.length ≤ c0) (h : spec_allIn.f k l0 a1 a2 = some r) :
  Calls Try.prog 48 #[.slice A0 l0.length c0, .int .i64 a1, .int .i64 a2] w fun e w' => e = .returned (.bool r) ∧ Drawn0 w w' := by
 have HR0 := aM hr0
 have HC0 := aM hc0
 clear hr0 hc0
 unfold spec_allIn.f at h
 have H := h
 clear h
 have H' := aM H
 clear H
 go_enter Try.func48, Try.ntmps48
 go_wp2
 go_loopg [7] k (fun kq v7 w' => ∃ (x7_1 : Int), v7 = .int .i64 x7_1 ∧ Aside0 (spec_allIn.l0 kq l0 a1 a2 x7_1 = some r) ∧ Aside0 (kq ≤ k) ∧ Drawn0 w w')
 case atStart => exact ⟨(0), qE, H', ⟨Nat.le_refl _⟩, qD⟩
 case round =>
  clear H'
  obtain ⟨x7_1, rfl, HA, HK1, ⟨m1, rfl⟩⟩ := hrel
  cases gk with
  | zero => exact absurd HA.out (by simp [spec_allIn.l0])
  | succ k1 =>
   have H := HA.out
   clear HA
   simp only [spec_allIn.l0] at H
   by_cases c4 : x7_1 < (l0.length : Int)
   rotate_left
   ·rw [if_neg c4] at H
    have c4b0 : decide (x7_1 < (l0.length : Int)) = false := decide_eq_false c4
    clear c4
    obtain rfl := Option.some.inj H
    go_wp2
    go_ret
    exact ⟨qE, qD⟩
   rw [if_pos c4] at H
   have c4b0 : decide (x7_1 < (l0.length : Int)) = true := decide_eq_true c4
   clear c4
   replace H := iD H
   obtain ⟨c5b0, H⟩ := H
   replace H := Option.bind_eq_some_iff.mp H
   obtain ⟨t102, A60, H⟩ := H
   replace H : (if t102 = true then (spec_allIn.l0 k1 l0 a1 a2 (wrap64 (x7_1 + 1))) else (some false)) = some r := H
   have A6 := aM A60
   clear A60
   by_cases c7 : t102 = true
   rotate_left
   ·replace c7 := Bool.eq_false_iff.mpr c7
    subst c7
    have H1 : (some false) = some r := by rw [if_neg (show ¬ (false = true) by decide)] at H; exact H
    clear H
    have H := H1
    clear H1
    obtain rfl := Option.some.inj H
    obtain ⟨ad101, e101, hx101_0⟩ := Kd.at_int HR0.out x7_1 oD oD
    cases e101
    have p101 := eq_true (oD : 0 ≤ (x7_1 : Int))
    have q101 := eq_true (oD : x7_1 < (l0.length : Int))
    go_wp2_with (first | ((with_reducible refine gate_callee (f := 47) rfl ?_); refine gL (some 20) Try.func47 #[.int .i64 (rd l0 x7_1), .int .i64 a1, .int .i64 a2] ?_; (with_reducible refine (spec_inRange.calls (rd l0 x7_1) a1 a2 false _ A6.out).mono ?_); rintro e w' ⟨rfl, ⟨nd, rfl⟩⟩; refine ⟨_, rfl, ?_⟩))
    go_ret
    exact ⟨qE, qD⟩
   subst c7
   have H1 : (spec_allIn.l0 k1 l0 a1 a2 (wrap64 (x7_1 + 1))) = some r := by rw [if_pos rfl] at H; exact H
   clear H
   have H := H1
   clear H1
   have H' := aM H
   clear H
   obtain ⟨ad101, e101, hx101_0⟩ := Kd.at_int HR0.out x7_1 oD oD
   cases e101
   have p101 := eq_true (oD : 0 ≤ (x7_1 : Int))
   have q101 := eq_true (oD : x7_1 < (l0.length : Int))
   go_wp2_with (first | ((with_reducible refine gate_callee (f := 47) rfl ?_); refine gL (some 20) Try.func47 #[.int .i64 (rd l0 x7_1), .int .i64 a1, .int .i64 a2] ?_; (with_reducible refine (spec_inRange.calls (rd l0 x7_1) a1 a2 true _ A6.out).mono ?_); rintro e w' ⟨rfl, ⟨nd, rfl⟩⟩; refine ⟨_, rfl, ?_⟩))
   go_roundg k1
   case measure => have := HK1.out; omega
   case rel => exact ⟨(wrap64 (x7_1 + 1)), qE, H', ⟨by have := HK1.out; omega⟩, qD⟩
def laws_toIntS.l0 : Nat → List Int → List Int → Int → Option (List Int)
 | 0, _, _, _ => none
 | k + 1, x0, x3, x4 => if x4 < (x0.length : Int) then (if 0 ≤ x4 then (if x4 < (x3.length : Int) then (laws_toIntS.l0 k x0 (x3.set (x4 : Int).toNat (rd x0 x4)) (wrap64 (x4 + 1))) else (none)) else (none)) else (some x3)
def laws_toIntS.f (k : Nat) (l0 : List Int) : Option (List Int) := if 0 ≤ (l0.length : Int) then (if ((l0.length : Int) : Int).toNat ≤ 35184372088832 then (laws_toIntS.l0 k l0 (List.replicate ((l0.length : Int) : Int).toNat 0) 0) else (none)) else (none)
theorem laws_toIntS.mono_l : ∀ k, (∀ y0 y1 y2, LeO (laws_toIntS.l0 k y0 y1 y2) (laws_toIntS.l0 (k + 1) y0 y1 y2))
 | 0 => fun _ _ _ r h => by simp [laws_toIntS.l0] at h
 | k + 1 => by
  have ih0 := laws_toIntS.mono_l k
  ·intro y0 y1 y2
   unfold laws_toIntS.l0
   repeat' first | (with_reducible first | exact ih0 _ _ _ | exact lR | exact lN | refine lI ?_ ?_ | refine lB ?_ fun _ => ?_) | exact ih0 _ _ _ | exact lN | refine lI ?_ ?_ | refine lB ?_ fun _ => ?_
theorem laws_toIntS.mono : ∀ a0 k, LeO (laws_toIntS.f k a0) (laws_toIntS.f (k + 1) a0) := by
 intro a0 k
 have ih0 := laws_toIntS.mono_l k
 unfold laws_toIntS.f
 repeat' first | (with_reducible first | exact ih0 _ _ _ | exact lR | exact lN | refine lI ?_ ?_ | refine lB ?_ fun _ => ?_) | exact ih0 _ _ _ | exact lN | refine lI ?_ ?_ | refine lB ?_ fun _ => ?_
set_option maxHeartbeats 8000000 in
set_option maxRecDepth 100000 in
theorem laws_toIntS.calls (k : Nat) (A0 : Option Addr) (c0 : Nat) (l0 : List Int) (r : List Int) (w : World) (hr0 : Kd.C (Kd.int .i64) w A0 l0.length l0) (hc0 : l0.length ≤ c0) (h : laws_toIntS.f k l0 = some r) :
  Calls Try.prog 14 #[.slice A0 l0.length c0] w fun e w' => ∃ v0_ : Value, e = .returned (v0_) ∧ Kd.R (Kd.int .i64) 3 w' w.heap.size (fun _ => True) v0_ r ∧ Below w.heap.size w w' := by
 have HR0 := aM hr0
 have HC0 := aM hc0
 clear hr0 hc0
 have HB := aM (Below.refl w.heap.size w)
 unfold laws_toIntS.f at h
 have H := h
 clear h
 replace H := iS H
 obtain ⟨c2, H⟩ := H
 have c2b0 := eq_true c2
 have c2b1 : decide (0 ≤ (l0.length : Int)) = true := decide_eq_true c2
 clear c2
 replace H := iS H
 obtain ⟨c3, H⟩ := H
 have c3b0 := eq_true c3
 have c3b1 : decide (((l0.length : Int) : Int).toNat ≤ 35184372088832) = true := decide_eq_true c3
 clear c3
 obtain ⟨y134, hy134⟩ : ∃ y_ : List Int, y_ = (List.replicate ((l0.length : Int) : Int).toNat 0) := ⟨_, rfl⟩
 replace H : (laws_toIntS.l0 k l0 y134 0) = some r := rY hy134 H
 have Ny134 := aM hy134
 clear hy134
 have H' := aM H
 clear H
 go_enter Try.func14, Try.ntmps14
 go_wp2_with (first | ((with_reducible refine gate_dst (N := 7) rfl ?_); refine Kd.R_make (Kd.int .i64) _ 3 rfl (N := 7) rfl 22 _ _ rfl (l0.length : Int) rfl rfl Try.underlying22 (.int .i64 0) 8 info3 rfl (by decide) (by omega) 0 (ok := fun _ => True) (okp := fun _ => True) rfl (fun _ hk => hk) trivial oD (Nat.le_trans (Nat.mul_le_mul_right _ (oD : (l0.length : Int).toNat ≤ 35184372088832)) (by omega)) (Below.refl _ _) (Nat.le_refl _) ?_; intro v135 w4 ho5 hb hg_ hnew_; clear hg_ hnew_; (first | rw [← Ny134.out] at ho5 | (simp only [Int.reduceToNat] at ho5; rw [← Ny134.out] at ho5)); have HO136 := oR ho5 HB; replace HB := bS HB hb; clear hb ho5))
 go_loopg [4] k (fun kq v4 w' => ∃ (x3_1 : List Int) (x4_1 : Int), v4 = .int .i64 x4_1 ∧ Aside0 (laws_toIntS.l0 kq l0 x3_1 x4_1 = some r) ∧ Aside0 (kq ≤ k) ∧ Aside0 (Kd.R (Kd.int .i64) 3 w' w.heap.size (fun _ => True) v135 x3_1) ∧ Aside0 (Below w.heap.size w w'))
 case atStart => exact ⟨(y134), (0), qE, H', ⟨Nat.le_refl _⟩, ⟨by refine qR ?_; exact HO136.out⟩, ⟨by exact qW HB.out⟩⟩
 case round =>
  clear H'
  try clear c2
  try clear c2b0
  try clear c2b1
  try clear c3
  try clear c3b0
  try clear c3b1
  obtain ⟨x3_1, x4_1, rfl, HA, HK1, HO_3, HB⟩ := hrel
  cases gk with
  | zero => exact absurd HA.out (by simp [laws_toIntS.l0])
  | succ k1 =>
   have H := HA.out
   clear HA
   simp only [laws_toIntS.l0] at H
   by_cases c6 : x4_1 < (l0.length : Int)
   rotate_left
   ·rw [if_neg c6] at H
    have c6b0 : decide (x4_1 < (l0.length : Int)) = false := decide_eq_false c6
    clear c6
    obtain rfl := Option.some.inj H
    go_wp2
    go_ret
    exact ⟨_, qX, by refine qR ?_; exact HO_3.out, by exact qW HB.out⟩
   rw [if_pos c6] at H
   have c6b0 : decide (x4_1 < (l0.length : Int)) = true := decide_eq_true c6
   clear c6
   replace H := iD H
   obtain ⟨c7b0, H⟩ := H
   replace H := iD H
   obtain ⟨c8b0, H⟩ := H
   obtain ⟨y138, hy138⟩ : ∃ y_ : List Int, y_ = (x3_1.set (x4_1 : Int).toNat (rd l0 x4_1)) := ⟨_, rfl⟩
   replace H : (laws_toIntS.l0 k1 l0 y138 (wrap64 (x4_1 + 1))) = some r := rY hy138 H
   have Ny138 := aM hy138
   clear hy138
   have H' := aM H
   clear H
   obtain ⟨ad137, e137, hx137_0⟩ := Kd.at_int HR0.out x4_1 oD oD
   cases e137
   replace hx137_0 := bD HB hx137_0
   have p137 := eq_true (oD : 0 ≤ (x4_1 : Int))
   have q137 := eq_true (oD : x4_1 < (l0.length : Int))
   have p9 : 0 ≤ (x4_1 : Int) := oD
   have q9 : (x4_1 : Int) < ((x3_1.length : Int) : Int) := oD
   obtain ⟨go9, co9, eo9, gb9, gl9, cl9, HG9⟩ := Kd.R_form HO_3.out (by omega)
   (first | cases eo9 | (injection eo9 with ea_ en_ ec_; (first | subst ea_ | (injection ea_ with ea_; subst ea_)); subst ec_; clear en_))
   have GB9 := aM gb9
   have GG9 := aM HG9
   clear gb9 gl9 HG9
   obtain ⟨hx9_0, hf9_0⟩ := Kd.R_celln 0 HO_3.out (x4_1 : Int) p9 q9
   replace p9 := eq_true p9
   replace q9 := eq_true q9
   have HP10 := Kd.R_putg HO_3.out (x4_1 : Int) (rd l0 x4_1)
   go_wp2_with (first | ((with_reducible refine gate_store (t := 3) (p := 20) rfl ?_); refine store_event (t := 3) (p := 20) (v := ?vo_w11) (w1 := (wr.setCell ⟨go9, (x4_1 : Int).toNat, none⟩ (.int .i64 (rd l0 x4_1)))) ?hg ?ho ?hn ?hr ?_; (case ho => rfl); (case hg => rfl); (case hn => rfl); (case hr => first | (go_simp; done) | (go_simp; rfl)); intro w11 hw; have hg : wr.grownBy w11 (some go9) := (by rw [hw]; exact HP10.2); have hp_ : Kd.R (Kd.int .i64) 3 w11 w.heap.size (fun _ => True) (.slice (some ⟨go9, 0, none⟩) x3_1.length co9) y138 := (by rw [hw, Ny138.out]; exact HP10.1); clear HP10; replace HO_3 := aM (hp_); replace HB := aM ((by rw [hw]; exact below_set (HB.out) GB9.out : Below w.heap.size w w11)); clear hg hw hp_))
   go_roundg k1
   case measure => have := HK1.out; omega
   case rel => exact ⟨(y138), (wrap64 (x4_1 + 1)), qE, H', ⟨by have := HK1.out; omega⟩, ⟨by refine qR ?_; exact HO_3.out⟩, ⟨by exact qW HB.out⟩⟩
def laws_eqIntS.l0 : Nat → List Int → List Int → Int → Option (Bool)
 | 0, _, _, _ => none
 | k + 1, x0, x1, x5 => if x5 < (x0.length : Int) then (if 0 ≤ x5 then (if x5 < (x1.length : Int) then (if (rd x0 x5) = (rd x1 x5) then (laws_eqIntS.l0 k x0 x1 (wrap64 (x5 + 1))) else (some false)) else (none)) else (none)) else (some true)
def laws_eqIntS.f (k : Nat) (l0 : List Int) (l1 : List Int) : Option (Bool) := if (l0.length : Int) = (l1.length : Int) then (laws_eqIntS.l0 k l0 l1 0) else (some false)
theorem laws_eqIntS.mono_l : ∀ k, (∀ y0 y1 y2, LeO (laws_eqIntS.l0 k y0 y1 y2) (laws_eqIntS.l0 (k + 1) y0 y1 y2))
 | 0 => fun _ _ _ r h => by simp [laws_eqIntS.l0] at h
 | k + 1 => by
  have ih0 := laws_eqIntS.mono_l k
  ·intro y0 y1 y2
   unfold laws_eqIntS.l0
   repeat' first | (with_reducible first | exact ih0 _ _ _ | exact lR | exact lN | refine lI ?_ ?_ | refine lB ?_ fun _ => ?_) | exact ih0 _ _ _ | exact lN | refine lI ?_ ?_ | refine lB ?_ fun _ => ?_
theorem laws_eqIntS.mono : ∀ a0 a1 k, LeO (laws_eqIntS.f k a0 a1) (laws_eqIntS.f (k + 1) a0 a1) := by
 intro a0 a1 k
 have ih0 := laws_eqIntS.mono_l k
 unfold laws_eqIntS.f
 repeat' first | (with_reducible first | exact ih0 _ _ _ | exact lR | exact lN | refine lI ?_ ?_ | refine lB ?_ fun _ => ?_) | exact ih0 _ _ _ | exact lN | refine lI ?_ ?_ | refine lB ?_ fun _ => ?_
set_option maxHeartbeats 8000000 in
set_option maxRecDepth 100000 in
theorem laws_eqIntS.calls (k : Nat) (A0 : Option Addr) (c0 : Nat) (l0 : List Int) (A1 : Option Addr) (c1 : Nat) (l1 : List Int) (r : Bool) (w : World) (hr0 : Kd.C (Kd.int .i64) w A0 l0.length l0) (hc0 : l0.length ≤ c0) (hr1 : Kd.C (Kd.int .i64) w A1 l1.length l1) (hc1 : l1.length ≤ c1) (h : laws_eqIntS.f k l0 l1 = some r) :
  Calls Try.prog 16 #[.slice A0 l0.length c0, .slice A1 l1.length c1] w fun e w' => e = .returned (.bool r) ∧ Drawn0 w w' := by
 have HR0 := aM hr0
 have HC0 := aM hc0
 clear hr0 hc0
 have HR1 := aM hr1
 have HC1 := aM hc1
 clear hr1 hc1
 unfold laws_eqIntS.f at h
 have H := h
 clear h
 by_cases c3 : (l0.length : Int) = (l1.length : Int)
 rotate_left
 ·rw [if_neg c3] at H
  have c3b0 : ((l0.length : Int) == (l1.length : Int)) = false := beq_eq_false_iff_ne.mpr c3
  have c3b1 : ((l0.length : Int) != (l1.length : Int)) = true := bne_iff_ne.mpr c3
  have c3b2 : (l0.length == l1.length) = false := by first | simpa using c3 | (simp at c3 ⊢; omega)
  obtain rfl := Option.some.inj H
  go_enter Try.func16, Try.ntmps16
  go_wp2
  repeat (go_quiet (fail); try go_wp2)
  go_ret
  exact ⟨qE, qD⟩
 rw [if_pos c3] at H
 have c3b0 : ((l0.length : Int) == (l1.length : Int)) = true := beq_iff_eq.mpr c3
 have c3b1 : ((l0.length : Int) != (l1.length : Int)) = false := bne_eq_false_iff_eq.mpr c3
 have c3b2 : (l0.length == l1.length) = true := by first | simpa using c3 | (simp at c3 ⊢; omega)
 clear c3
 have H' := aM H
 clear H
 go_enter Try.func16, Try.ntmps16
 go_wp2
 repeat (go_quiet (fail); try go_wp2)
 go_loopg [5] k (fun kq v5 w' => ∃ (x5_1 : Int), v5 = .int .i64 x5_1 ∧ Aside0 (laws_eqIntS.l0 kq l0 l1 x5_1 = some r) ∧ Aside0 (kq ≤ k) ∧ Drawn0 w w')
 case atStart => exact ⟨(0), qE, H', ⟨Nat.le_refl _⟩, qD⟩
 case round =>
  clear H'
  try clear c1
  try clear c3
  try clear c3b0
  try clear c3b1
  try clear c3b2
  obtain ⟨x5_1, rfl, HA, HK1, ⟨m1, rfl⟩⟩ := hrel
  cases gk with
  | zero => exact absurd HA.out (by simp [laws_eqIntS.l0])
  | succ k1 =>
   have H := HA.out
   clear HA
   simp only [laws_eqIntS.l0] at H
   by_cases c4 : x5_1 < (l0.length : Int)
   rotate_left
   ·rw [if_neg c4] at H
    have c4b0 : decide (x5_1 < (l0.length : Int)) = false := decide_eq_false c4
    clear c4
    obtain rfl := Option.some.inj H
    go_wp2
    repeat (go_quiet (fail); try go_wp2)
    go_ret
    exact ⟨qE, qD⟩
   rw [if_pos c4] at H
   have c4b0 : decide (x5_1 < (l0.length : Int)) = true := decide_eq_true c4
   clear c4
   replace H := iD H
   obtain ⟨c5b0, H⟩ := H
   replace H := iD H
   obtain ⟨c6b0, H⟩ := H
   by_cases c7 : (rd l0 x5_1) = (rd l1 x5_1)
   rotate_left
   ·rw [if_neg c7] at H
    have c7b0 : ((rd l0 x5_1) == (rd l1 x5_1)) = false := beq_eq_false_iff_ne.mpr c7
    have c7b1 : ((rd l0 x5_1) != (rd l1 x5_1)) = true := bne_iff_ne.mpr c7
    obtain rfl := Option.some.inj H
    obtain ⟨ad165, e165, hx165_0⟩ := Kd.at_int HR0.out x5_1 oD oD
    cases e165
    have p165 := eq_true (oD : 0 ≤ (x5_1 : Int))
    have q165 := eq_true (oD : x5_1 < (l0.length : Int))
    obtain ⟨ad166, e166, hx166_0⟩ := Kd.at_int HR1.out x5_1 oD oD
    cases e166
    have p166 := eq_true (oD : 0 ≤ (x5_1 : Int))
    have q166 := eq_true (oD : x5_1 < (l1.length : Int))
    go_wp2
    repeat (go_quiet (fail); try go_wp2)
    go_ret
    exact ⟨qE, qD⟩
   rw [if_pos c7] at H
   have c7b0 : ((rd l0 x5_1) == (rd l1 x5_1)) = true := beq_iff_eq.mpr c7
   have c7b1 : ((rd l0 x5_1) != (rd l1 x5_1)) = false := bne_eq_false_iff_eq.mpr c7
   clear c7
   have H' := aM H
   clear H
   obtain ⟨ad165, e165, hx165_0⟩ := Kd.at_int HR0.out x5_1 oD oD
   cases e165
   have p165 := eq_true (oD : 0 ≤ (x5_1 : Int))
   have q165 := eq_true (oD : x5_1 < (l0.length : Int))
   obtain ⟨ad166, e166, hx166_0⟩ := Kd.at_int HR1.out x5_1 oD oD
   cases e166
   have p166 := eq_true (oD : 0 ≤ (x5_1 : Int))
   have q166 := eq_true (oD : x5_1 < (l1.length : Int))
   go_wp2
   repeat (go_quiet (fail); try go_wp2)
   go_roundg k1
   case measure => have := HK1.out; omega
   case rel => exact ⟨(wrap64 (x5_1 + 1)), qE, H', ⟨by have := HK1.out; omega⟩, qD⟩
def laws_equalInts.l0 : Nat → List Int → List Int → Int → Option (Bool)
 | 0, _, _, _ => none
 | k + 1, x0, x1, x5 => if x5 < (x0.length : Int) then (if 0 ≤ x5 then (if x5 < (x1.length : Int) then (if (rd x0 x5) = (rd x1 x5) then (laws_equalInts.l0 k x0 x1 (wrap64 (x5 + 1))) else (some false)) else (none)) else (none)) else (some true)
def laws_equalInts.f (k : Nat) (l0 : List Int) (l1 : List Int) : Option (Bool) := if (l0.length : Int) = (l1.length : Int) then (laws_equalInts.l0 k l0 l1 0) else (some false)
theorem laws_equalInts.mono_l : ∀ k, (∀ y0 y1 y2, LeO (laws_equalInts.l0 k y0 y1 y2) (laws_equalInts.l0 (k + 1) y0 y1 y2))
 | 0 => fun _ _ _ r h => by simp [laws_equalInts.l0] at h
 | k + 1 => by
  have ih0 := laws_equalInts.mono_l k
  ·intro y0 y1 y2
   unfold laws_equalInts.l0
   repeat' first | (with_reducible first | exact ih0 _ _ _ | exact lR | exact lN | refine lI ?_ ?_ | refine lB ?_ fun _ => ?_) | exact ih0 _ _ _ | exact lN | refine lI ?_ ?_ | refine lB ?_ fun _ => ?_
theorem laws_equalInts.mono : ∀ a0 a1 k, LeO (laws_equalInts.f k a0 a1) (laws_equalInts.f (k + 1) a0 a1) := by
 intro a0 a1 k
 have ih0 := laws_equalInts.mono_l k
 unfold laws_equalInts.f
 repeat' first | (with_reducible first | exact ih0 _ _ _ | exact lR | exact lN | refine lI ?_ ?_ | refine lB ?_ fun _ => ?_) | exact ih0 _ _ _ | exact lN | refine lI ?_ ?_ | refine lB ?_ fun _ => ?_
set_option maxHeartbeats 8000000 in
set_option maxRecDepth 100000 in
theorem laws_equalInts.calls (k : Nat) (A0 : Option Addr) (c0 : Nat) (l0 : List Int) (A1 : Option Addr) (c1 : Nat) (l1 : List Int) (r : Bool) (w : World) (hr0 : Kd.C (Kd.int .i64) w A0 l0.length l0) (hc0 : l0.length ≤ c0) (hr1 : Kd.C (Kd.int .i64) w A1 l1.length l1) (hc1 : l1.length ≤ c1) (h : laws_equalInts.f k l0 l1 = some r) :
  Calls Try.prog 19 #[.slice A0 l0.length c0, .slice A1 l1.length c1] w fun e w' => e = .returned (.bool r) ∧ Drawn0 w w' := by
 have HR0 := aM hr0
 have HC0 := aM hc0
 clear hr0 hc0
 have HR1 := aM hr1
 have HC1 := aM hc1
 clear hr1 hc1
 unfold laws_equalInts.f at h
 have H := h
 clear h
 by_cases c3 : (l0.length : Int) = (l1.length : Int)
 rotate_left
 ·rw [if_neg c3] at H
  have c3b0 : ((l0.length : Int) == (l1.length : Int)) = false := beq_eq_false_iff_ne.mpr c3
  have c3b1 : ((l0.length : Int) != (l1.length : Int)) = true := bne_iff_ne.mpr c3
  have c3b2 : (l0.length == l1.length) = false := by first | simpa using c3 | (simp at c3 ⊢; omega)
  obtain rfl := Option.some.inj H
  go_enter Try.func19, Try.ntmps19
  go_wp2
  repeat (go_quiet (fail); try go_wp2)
  go_ret
  exact ⟨qE, qD⟩
 rw [if_pos c3] at H
 have c3b0 : ((l0.length : Int) == (l1.length : Int)) = true := beq_iff_eq.mpr c3
 have c3b1 : ((l0.length : Int) != (l1.length : Int)) = false := bne_eq_false_iff_eq.mpr c3
 have c3b2 : (l0.length == l1.length) = true := by first | simpa using c3 | (simp at c3 ⊢; omega)
 clear c3
 have H' := aM H
 clear H
 go_enter Try.func19, Try.ntmps19
 go_wp2
 repeat (go_quiet (fail); try go_wp2)
 go_loopg [5] k (fun kq v5 w' => ∃ (x5_1 : Int), v5 = .int .i64 x5_1 ∧ Aside0 (laws_equalInts.l0 kq l0 l1 x5_1 = some r) ∧ Aside0 (kq ≤ k) ∧ Drawn0 w w')
 case atStart => exact ⟨(0), qE, H', ⟨Nat.le_refl _⟩, qD⟩
 case round =>
  clear H'
  try clear c1
  try clear c3
  try clear c3b0
  try clear c3b1
  try clear c3b2
  obtain ⟨x5_1, rfl, HA, HK1, ⟨m1, rfl⟩⟩ := hrel
  cases gk with
  | zero => exact absurd HA.out (by simp [laws_equalInts.l0])
  | succ k1 =>
   have H := HA.out
   clear HA
   simp only [laws_equalInts.l0] at H
   by_cases c4 : x5_1 < (l0.length : Int)
   rotate_left
   ·rw [if_neg c4] at H
    have c4b0 : decide (x5_1 < (l0.length : Int)) = false := decide_eq_false c4
    clear c4
    obtain rfl := Option.some.inj H
    go_wp2
    repeat (go_quiet (fail); try go_wp2)
    go_ret
    exact ⟨qE, qD⟩
   rw [if_pos c4] at H
   have c4b0 : decide (x5_1 < (l0.length : Int)) = true := decide_eq_true c4
   clear c4
   replace H := iD H
   obtain ⟨c5b0, H⟩ := H
   replace H := iD H
   obtain ⟨c6b0, H⟩ := H
   by_cases c7 : (rd l0 x5_1) = (rd l1 x5_1)
   rotate_left
   ·rw [if_neg c7] at H
    have c7b0 : ((rd l0 x5_1) == (rd l1 x5_1)) = false := beq_eq_false_iff_ne.mpr c7
    have c7b1 : ((rd l0 x5_1) != (rd l1 x5_1)) = true := bne_iff_ne.mpr c7
    obtain rfl := Option.some.inj H
    obtain ⟨ad357, e357, hx357_0⟩ := Kd.at_int HR0.out x5_1 oD oD
    cases e357
    have p357 := eq_true (oD : 0 ≤ (x5_1 : Int))
    have q357 := eq_true (oD : x5_1 < (l0.length : Int))
    obtain ⟨ad358, e358, hx358_0⟩ := Kd.at_int HR1.out x5_1 oD oD
    cases e358
    have p358 := eq_true (oD : 0 ≤ (x5_1 : Int))
    have q358 := eq_true (oD : x5_1 < (l1.length : Int))
    go_wp2
    repeat (go_quiet (fail); try go_wp2)
    go_ret
    exact ⟨qE, qD⟩
   rw [if_pos c7] at H
   have c7b0 : ((rd l0 x5_1) == (rd l1 x5_1)) = true := beq_iff_eq.mpr c7
   have c7b1 : ((rd l0 x5_1) != (rd l1 x5_1)) = false := bne_eq_false_iff_eq.mpr c7
   clear c7
   have H' := aM H
   clear H
   obtain ⟨ad357, e357, hx357_0⟩ := Kd.at_int HR0.out x5_1 oD oD
   cases e357
   have p357 := eq_true (oD : 0 ≤ (x5_1 : Int))
   have q357 := eq_true (oD : x5_1 < (l0.length : Int))
   obtain ⟨ad358, e358, hx358_0⟩ := Kd.at_int HR1.out x5_1 oD oD
   cases e358
   have p358 := eq_true (oD : 0 ≤ (x5_1 : Int))
   have q358 := eq_true (oD : x5_1 < (l1.length : Int))
   go_wp2
   repeat (go_quiet (fail); try go_wp2)
   go_roundg k1
   case measure => have := HK1.out; omega
   case rel => exact ⟨(wrap64 (x5_1 + 1)), qE, H', ⟨by have := HK1.out; omega⟩, qD⟩
def laws_markIntS.l0 : Nat → List Int → Int → Int → Option (Int × List Int)
 | 0, _, _, _ => none
 | k + 1, x0, x1, x5 => if x5 < (x0.length : Int) then (if 0 ≤ x5 then (laws_markIntS.l0 k (x0.set (x5 : Int).toNat x1) (wrap64 (x1 + 1)) (wrap64 (x5 + 1))) else (none)) else (some (x1, x0))
def laws_markIntS.f (k : Nat) (l0 : List Int) (a1 : Int) : Option (Int × List Int) := laws_markIntS.l0 k l0 a1 0
theorem laws_markIntS.mono_l : ∀ k, (∀ y0 y1 y2, LeO (laws_markIntS.l0 k y0 y1 y2) (laws_markIntS.l0 (k + 1) y0 y1 y2))
 | 0 => fun _ _ _ r h => by simp [laws_markIntS.l0] at h
 | k + 1 => by
  have ih0 := laws_markIntS.mono_l k
  ·intro y0 y1 y2
   unfold laws_markIntS.l0
   repeat' first | (with_reducible first | exact ih0 _ _ _ | exact lR | exact lN | refine lI ?_ ?_ | refine lB ?_ fun _ => ?_) | exact ih0 _ _ _ | exact lN | refine lI ?_ ?_ | refine lB ?_ fun _ => ?_
theorem laws_markIntS.mono : ∀ a0 a1 k, LeO (laws_markIntS.f k a0 a1) (laws_markIntS.f (k + 1) a0 a1) := by
 intro a0 a1 k
 have ih0 := laws_markIntS.mono_l k
 unfold laws_markIntS.f
 repeat' first | (with_reducible first | exact ih0 _ _ _ | exact lR | exact lN | refine lI ?_ ?_ | refine lB ?_ fun _ => ?_) | exact ih0 _ _ _ | exact lN | refine lI ?_ ?_ | refine lB ?_ fun _ => ?_
set_option maxHeartbeats 8000000 in
set_option maxRecDepth 100000 in
theorem laws_markIntS.calls (k : Nat) (P0_ : Nat → Prop) (u9000_ : Value) (l0 : List Int) (a1 : Int) (r1 : Int) (r2 : List Int) (w0 w : World) (hB : Below w0.heap.size w0 w) (ho0 : Kd.R (Kd.int .i64) 3 w w0.heap.size P0_ u9000_ l0) (h : laws_markIntS.f k l0 a1 = some (r1, r2)) :
  Calls Try.prog 21 #[u9000_, .int .i64 a1] w fun e w' => e = .returned (.int .i64 r1) ∧ Kd.R (Kd.int .i64) 3 w' w0.heap.size (fun k_ => (P0_ k_ ∨ w.heap.size ≤ k_)) u9000_ r2 ∧ Below w0.heap.size w0 w' ∧ Kept w w' (fun k_ => P0_ k_) := by
 have HO0 := aM (show Kd.R (Kd.int .i64) 3 w w0.heap.size (fun k_ => (P0_ k_ ∨ w.heap.size ≤ k_)) u9000_ l0 from Kd.R_mono ho0 (fun k_ hk => (.inl hk)))
 have HK := aM (Kept.refl w (fun k_ => P0_ k_))
 have HW0 := aM hB.size
 have HB := aM hB
 clear hB
 unfold laws_markIntS.f at h
 have H := h
 clear h
 have H' := aM H
 clear H
 go_enter Try.func21, Try.ntmps21
 go_wp2
 go_loopg [1, 5] k (fun kq v1 v5 w' => ∃ (x0_1 : List Int) (x1_1 : Int) (x5_1 : Int), v1 = .int .i64 x1_1 ∧ v5 = .int .i64 x5_1 ∧ Aside0 (laws_markIntS.l0 kq x0_1 x1_1 x5_1 = some (r1, r2)) ∧ Aside0 (kq ≤ k) ∧ Aside0 (Kd.R (Kd.int .i64) 3 w' w0.heap.size (fun k_ => (P0_ k_ ∨ w.heap.size ≤ k_)) u9000_ x0_1) ∧ Aside0 (Kept w w' (fun k_ => P0_ k_)) ∧ Aside0 (Below w0.heap.size w0 w'))
 case atStart => exact ⟨(l0), (a1), (0), qE, qE, H', ⟨Nat.le_refl _⟩, ⟨by refine qR ?_; exact HO0.out⟩, ⟨kP HK.out⟩, ⟨by exact qW HB.out⟩⟩
 case round =>
  clear H'
  obtain ⟨x0_1, x1_1, x5_1, rfl, rfl, HA, HK1, HO_0, HK, HB⟩ := hrel
  cases gk with
  | zero => exact absurd HA.out (by simp [laws_markIntS.l0])
  | succ k1 =>
   have H := HA.out
   clear HA
   simp only [laws_markIntS.l0] at H
   by_cases c3 : x5_1 < (x0_1.length : Int)
   rotate_left
   ·rw [if_neg c3] at H
    have c3b0 : decide (x5_1 < (x0_1.length : Int)) = false := decide_eq_false c3
    clear c3
    simp only [Option.some.injEq, Prod.mk.injEq] at H
    obtain ⟨rfl, rfl⟩ := H
    obtain ⟨Ao9, co9, rfl⟩ := sL HO_0
    go_wp2
    go_ret
    exact ⟨qX, by refine qR ?_; exact HO_0.out, by exact qW HB.out, kP HK.out⟩
   rw [if_pos c3] at H
   have c3b0 : decide (x5_1 < (x0_1.length : Int)) = true := decide_eq_true c3
   clear c3
   replace H := iD H
   obtain ⟨c4b0, H⟩ := H
   obtain ⟨y391, hy391⟩ : ∃ y_ : List Int, y_ = (x0_1.set (x5_1 : Int).toNat x1_1) := ⟨_, rfl⟩
   replace H : (laws_markIntS.l0 k1 y391 (wrap64 (x1_1 + 1)) (wrap64 (x5_1 + 1))) = some (r1, r2) := rY hy391 H
   have Ny391 := aM hy391
   clear hy391
   have H' := aM H
   clear H
   obtain ⟨Ao6, co6, rfl⟩ := sL HO_0
   have p5 : 0 ≤ (x5_1 : Int) := oD
   have q5 : (x5_1 : Int) < ((x0_1.length : Int) : Int) := oD
   obtain ⟨go5, co5, eo5, gb5, gl5, cl5, HG5⟩ := Kd.R_form HO_0.out (by omega)
   (first | cases eo5 | (injection eo5 with ea_ en_ ec_; (first | subst ea_ | (injection ea_ with ea_; subst ea_)); subst ec_; clear en_))
   have GB5 := aM gb5
   have GG5 := aM HG5
   clear gb5 gl5 HG5
   have HMgo5 := aM (show (P0_ go5 ∨ w.heap.size ≤ go5) from (HO_0.out.1 _ rfl))
   obtain ⟨hx5_0, hf5_0⟩ := Kd.R_celln 0 HO_0.out (x5_1 : Int) p5 q5
   replace p5 := eq_true p5
   replace q5 := eq_true q5
   have HP7 := Kd.R_putg HO_0.out (x5_1 : Int) x1_1
   go_wp2_with (first | ((with_reducible refine gate_store (t := 3) (p := 15) rfl ?_); refine store_event (t := 3) (p := 15) (v := ?vo_w8) (w1 := (wr.setCell ⟨go5, (x5_1 : Int).toNat, none⟩ (.int .i64 x1_1))) ?hg ?ho ?hn ?hr ?_; (case ho => rfl); (case hg => rfl); (case hn => rfl); (case hr => first | (go_simp; done) | (go_simp; rfl)); intro w8 hw; have hg : wr.grownBy w8 (some go5) := (by rw [hw]; exact HP7.2); have hp_ : Kd.R (Kd.int .i64) 3 w8 w0.heap.size (fun k_ => (P0_ k_ ∨ w.heap.size ≤ k_)) (.slice (some ⟨go5, 0, none⟩) x0_1.length co6) y391 := (by rw [hw, Ny391.out]; exact HP7.1); clear HP7; replace HB := aM ((by rw [hw]; exact below_set (HB.out) GB5.out : Below w0.heap.size w0 w8)); replace HK := aM (Kept.of_grown (S := (fun k_ => P0_ k_)) hg (kP HK.out) (fun k_ e_ => (HO_0.out.1 k_ e_))); replace HO_0 := aM (hp_); clear hg hw hp_))
   go_roundg k1
   case measure => have := HK1.out; omega
   case rel => exact ⟨(y391), (wrap64 (x1_1 + 1)), (wrap64 (x5_1 + 1)), qE, qE, H', ⟨by have := HK1.out; omega⟩, ⟨by refine qR ?_; exact HO_0.out⟩, ⟨kP HK.out⟩, ⟨by exact qW HB.out⟩⟩
def laws_heldIntS.l0 : Nat → List Int → Int → Int → Option (Int)
 | 0, _, _, _ => none
 | k + 1, x0, x1, x5 => if x5 < (x0.length : Int) then (if 0 ≤ x5 then (if (rd x0 x5) = x1 then (laws_heldIntS.l0 k x0 (wrap64 (x1 + 1)) (wrap64 (x5 + 1))) else (some (-1))) else (none)) else (some x1)
def laws_heldIntS.f (k : Nat) (l0 : List Int) (a1 : Int) : Option (Int) := laws_heldIntS.l0 k l0 a1 0
theorem laws_heldIntS.mono_l : ∀ k, (∀ y0 y1 y2, LeO (laws_heldIntS.l0 k y0 y1 y2) (laws_heldIntS.l0 (k + 1) y0 y1 y2))
 | 0 => fun _ _ _ r h => by simp [laws_heldIntS.l0] at h
 | k + 1 => by
  have ih0 := laws_heldIntS.mono_l k
  ·intro y0 y1 y2
   unfold laws_heldIntS.l0
   repeat' first | (with_reducible first | exact ih0 _ _ _ | exact lR | exact lN | refine lI ?_ ?_ | refine lB ?_ fun _ => ?_) | exact ih0 _ _ _ | exact lN | refine lI ?_ ?_ | refine lB ?_ fun _ => ?_
theorem laws_heldIntS.mono : ∀ a0 a1 k, LeO (laws_heldIntS.f k a0 a1) (laws_heldIntS.f (k + 1) a0 a1) := by
 intro a0 a1 k
 have ih0 := laws_heldIntS.mono_l k
 unfold laws_heldIntS.f
 repeat' first | (with_reducible first | exact ih0 _ _ _ | exact lR | exact lN | refine lI ?_ ?_ | refine lB ?_ fun _ => ?_) | exact ih0 _ _ _ | exact lN | refine lI ?_ ?_ | refine lB ?_ fun _ => ?_
set_option maxHeartbeats 8000000 in
set_option maxRecDepth 100000 in
theorem laws_heldIntS.calls (k : Nat) (A0 : Option Addr) (c0 : Nat) (l0 : List Int) (a1 : Int) (r : Int) (w : World) (hr0 : Kd.C (Kd.int .i64) w A0 l0.length l0) (hc0 : l0.length ≤ c0) (h : laws_heldIntS.f k l0 a1 = some r) :
  Calls Try.prog 22 #[.slice A0 l0.length c0, .int .i64 a1] w fun e w' => e = .returned (.int .i64 r) ∧ Drawn0 w w' := by
 have HR0 := aM hr0
 have HC0 := aM hc0
 clear hr0 hc0
 unfold laws_heldIntS.f at h
 have H := h
 clear h
 have H' := aM H
 clear H
 go_enter Try.func22, Try.ntmps22
 go_wp2
 go_loopg [1, 5] k (fun kq v1 v5 w' => ∃ (x1_1 : Int) (x5_1 : Int), v1 = .int .i64 x1_1 ∧ v5 = .int .i64 x5_1 ∧ Aside0 (laws_heldIntS.l0 kq l0 x1_1 x5_1 = some r) ∧ Aside0 (kq ≤ k) ∧ Drawn0 w w')
 case atStart => exact ⟨(a1), (0), qE, qE, H', ⟨Nat.le_refl _⟩, qD⟩
 case round =>
  clear H'
  obtain ⟨x1_1, x5_1, rfl, rfl, HA, HK1, ⟨m1, rfl⟩⟩ := hrel
  cases gk with
  | zero => exact absurd HA.out (by simp [laws_heldIntS.l0])
  | succ k1 =>
   have H := HA.out
   clear HA
   simp only [laws_heldIntS.l0] at H
   by_cases c3 : x5_1 < (l0.length : Int)
   rotate_left
   ·rw [if_neg c3] at H
    have c3b0 : decide (x5_1 < (l0.length : Int)) = false := decide_eq_false c3
    clear c3
    obtain rfl := Option.some.inj H
    go_wp2
    go_ret
    exact ⟨qE, qD⟩
   rw [if_pos c3] at H
   have c3b0 : decide (x5_1 < (l0.length : Int)) = true := decide_eq_true c3
   clear c3
   replace H := iD H
   obtain ⟨c4b0, H⟩ := H
   by_cases c5 : (rd l0 x5_1) = x1_1
   rotate_left
   ·rw [if_neg c5] at H
    have c5b0 : ((rd l0 x5_1) == x1_1) = false := beq_eq_false_iff_ne.mpr c5
    have c5b1 : ((rd l0 x5_1) != x1_1) = true := bne_iff_ne.mpr c5
    obtain rfl := Option.some.inj H
    obtain ⟨ad392, e392, hx392_0⟩ := Kd.at_int HR0.out x5_1 oD oD
    cases e392
    have p392 := eq_true (oD : 0 ≤ (x5_1 : Int))
    have q392 := eq_true (oD : x5_1 < (l0.length : Int))
    go_wp2
    go_ret
    exact ⟨qE, qD⟩
   rw [if_pos c5] at H
   have c5b0 : ((rd l0 x5_1) == x1_1) = true := beq_iff_eq.mpr c5
   have c5b1 : ((rd l0 x5_1) != x1_1) = false := bne_eq_false_iff_eq.mpr c5
   clear c5
   have H' := aM H
   clear H
   obtain ⟨ad392, e392, hx392_0⟩ := Kd.at_int HR0.out x5_1 oD oD
   cases e392
   have p392 := eq_true (oD : 0 ≤ (x5_1 : Int))
   have q392 := eq_true (oD : x5_1 < (l0.length : Int))
   go_wp2
   go_roundg k1
   case measure => have := HK1.out; omega
   case rel => exact ⟨(wrap64 (x1_1 + 1)), (wrap64 (x5_1 + 1)), qE, qE, H', ⟨by have := HK1.out; omega⟩, qD⟩
def slices_Min_int_int.l0 : Nat → List Int → Int → Int → Option (Int)
 | 0, _, _, _ => none
 | k + 1, x0, x3, x4 => if x4 < (x0.length : Int) then (if 0 ≤ x4 then (slices_Min_int_int.l0 k x0 (mn x3 (rd x0 x4)) (wrap64 (x4 + 1))) else (none)) else (some x3)
def slices_Min_int_int.f (k : Nat) (l0 : List Int) : Option (Int) := if (l0.length : Int) < 1 then (none) else (if 0 < (l0.length : Int) then (slices_Min_int_int.l0 k l0 (rd l0 0) 1) else (none))
theorem slices_Min_int_int.mono_l : ∀ k, (∀ y0 y1 y2, LeO (slices_Min_int_int.l0 k y0 y1 y2) (slices_Min_int_int.l0 (k + 1) y0 y1 y2))
 | 0 => fun _ _ _ r h => by simp [slices_Min_int_int.l0] at h
 | k + 1 => by
  have ih0 := slices_Min_int_int.mono_l k
  ·intro y0 y1 y2
   unfold slices_Min_int_int.l0
   repeat' first | (with_reducible first | exact ih0 _ _ _ | exact lR | exact lN | refine lI ?_ ?_ | refine lB ?_ fun _ => ?_) | exact ih0 _ _ _ | exact lN | refine lI ?_ ?_ | refine lB ?_ fun _ => ?_
theorem slices_Min_int_int.mono : ∀ a0 k, LeO (slices_Min_int_int.f k a0) (slices_Min_int_int.f (k + 1) a0) := by
 intro a0 k
 have ih0 := slices_Min_int_int.mono_l k
 unfold slices_Min_int_int.f
 repeat' first | (with_reducible first | exact ih0 _ _ _ | exact lR | exact lN | refine lI ?_ ?_ | refine lB ?_ fun _ => ?_) | exact ih0 _ _ _ | exact lN | refine lI ?_ ?_ | refine lB ?_ fun _ => ?_
set_option maxHeartbeats 8000000 in
set_option maxRecDepth 100000 in
theorem slices_Min_int_int.calls (k : Nat) (A0 : Option Addr) (c0 : Nat) (l0 : List Int) (r : Int) (w : World) (hr0 : Kd.C (Kd.int .i64) w A0 l0.length l0) (hc0 : l0.length ≤ c0) (h : slices_Min_int_int.f k l0 = some r) :
  Calls Try.prog 43 #[.slice A0 l0.length c0] w fun e w' => e = .returned (.int .i64 r) ∧ Below w.heap.size w w' := by
 have HR0 := aM hr0
 have HC0 := aM hc0
 clear hr0 hc0
 have HB := aM (Below.refl w.heap.size w)
 unfold slices_Min_int_int.f at h
 have H := h
 clear h
 by_cases c2 : (l0.length : Int) < 1
 ·rw [if_pos c2] at H
  exact absurd H (by simp)
 rw [if_neg c2] at H
 have c2b0 : decide ((l0.length : Int) < 1) = false := decide_eq_false c2
 have c2b1 : decide (l0.length < 1) = false := decide_eq_false (by omega)
 clear c2
 replace H := iS H
 obtain ⟨c3, H⟩ := H
 have c3b0 : decide (0 < (l0.length : Int)) = true := decide_eq_true c3
 have c3b1 : decide (0 < l0.length) = true := decide_eq_true (by omega)
 clear c3
 have H' := aM H
 clear H
 have p139 : 0 ≤ (0 : Int) := (by omega)
 have q139 : 0 < (l0.length : Int) := oD
 obtain ⟨ad139, e139, hx139_0⟩ := Kd.at_int HR0.out 0 p139 q139
 cases e139
 have qi139 : (0 < l0.length) = True := eq_true (by omega)
 (try rw [show ((0 : Int)).toNat = 0 from rfl] at hx139_0)
 (try rw [Addr.add_zero'] at hx139_0)
 replace p139 := eq_true p139
 replace q139 := eq_true q139
 go_enter Try.func43, Try.ntmps43
 go_wp2
 go_loopg [3, 4] k (fun kq v3 v4 w' => ∃ (x3_1 : Int) (x4_1 : Int), v3 = .int .i64 x3_1 ∧ v4 = .int .i64 x4_1 ∧ Aside0 (slices_Min_int_int.l0 kq l0 x3_1 x4_1 = some r) ∧ Aside0 (kq ≤ k) ∧ Aside0 (Below w.heap.size w w'))
 case atStart => exact ⟨(rd l0 0), (1), qE, qE, H', ⟨Nat.le_refl _⟩, ⟨by exact qW HB.out⟩⟩
 case round =>
  clear H'
  try clear c2
  try clear c2b0
  try clear c2b1
  try clear c3
  try clear c3b0
  try clear c3b1
  try clear hx139_0
  try clear p139
  try clear q139
  obtain ⟨x3_1, x4_1, rfl, rfl, HA, HK1, HB⟩ := hrel
  cases gk with
  | zero => exact absurd HA.out (by simp [slices_Min_int_int.l0])
  | succ k1 =>
   have H := HA.out
   clear HA
   simp only [slices_Min_int_int.l0] at H
   by_cases c4 : x4_1 < (l0.length : Int)
   rotate_left
   ·rw [if_neg c4] at H
    have c4b0 : decide (x4_1 < (l0.length : Int)) = false := decide_eq_false c4
    clear c4
    obtain rfl := Option.some.inj H
    go_wp2
    go_ret
    exact ⟨qX, by exact qW HB.out⟩
   rw [if_pos c4] at H
   have c4b0 : decide (x4_1 < (l0.length : Int)) = true := decide_eq_true c4
   clear c4
   replace H := iD H
   obtain ⟨c5b0, H⟩ := H
   obtain ⟨ji6, hji6⟩ : ∃ j_ : Int, (mn x3_1 (rd l0 x4_1)) = j_ := ⟨_, rfl⟩
   replace H : (slices_Min_int_int.l0 k1 l0 ji6 (wrap64 (x4_1 + 1))) = some r := by first | (rw [hji6] at H; exact H) | (simp only [hji6] at H ⊢; exact H)
   have hji6_ : (if (rd l0 x4_1) < x3_1 then (rd l0 x4_1) else x3_1) = ji6 := hji6
   have H' := aM H
   clear H
   obtain ⟨ad140, e140, hx140_0⟩ := Kd.at_int HR0.out x4_1 oD oD
   obtain rfl : ad139 = ad140 := (by injection e140)
   replace hx140_0 := bD HB hx140_0
   have p140 := eq_true (oD : 0 ≤ (x4_1 : Int))
   have q140 := eq_true (oD : x4_1 < (l0.length : Int))
   go_wp2
   go_roundg k1
   case measure => have := HK1.out; omega
   case rel => exact ⟨(ji6), (wrap64 (x4_1 + 1)), (by first | rfl | (simp; done) | (simp only [← hji6] <;> (first | rfl | simp)) | (simp [*]; done)), qE, H', ⟨by have := HK1.out; omega⟩, ⟨by exact qW HB.out⟩⟩
def slices_Max_int_int.l0 : Nat → List Int → Int → Int → Option (Int)
 | 0, _, _, _ => none
 | k + 1, x0, x3, x4 => if x4 < (x0.length : Int) then (if 0 ≤ x4 then (slices_Max_int_int.l0 k x0 (mx x3 (rd x0 x4)) (wrap64 (x4 + 1))) else (none)) else (some x3)
def slices_Max_int_int.f (k : Nat) (l0 : List Int) : Option (Int) := if (l0.length : Int) < 1 then (none) else (if 0 < (l0.length : Int) then (slices_Max_int_int.l0 k l0 (rd l0 0) 1) else (none))
theorem slices_Max_int_int.mono_l : ∀ k, (∀ y0 y1 y2, LeO (slices_Max_int_int.l0 k y0 y1 y2) (slices_Max_int_int.l0 (k + 1) y0 y1 y2))
 | 0 => fun _ _ _ r h => by simp [slices_Max_int_int.l0] at h
 | k + 1 => by
  have ih0 := slices_Max_int_int.mono_l k
  ·intro y0 y1 y2
   unfold slices_Max_int_int.l0
   repeat' first | (with_reducible first | exact ih0 _ _ _ | exact lR | exact lN | refine lI ?_ ?_ | refine lB ?_ fun _ => ?_) | exact ih0 _ _ _ | exact lN | refine lI ?_ ?_ | refine lB ?_ fun _ => ?_
theorem slices_Max_int_int.mono : ∀ a0 k, LeO (slices_Max_int_int.f k a0) (slices_Max_int_int.f (k + 1) a0) := by
 intro a0 k
 have ih0 := slices_Max_int_int.mono_l k
 unfold slices_Max_int_int.f
 repeat' first | (with_reducible first | exact ih0 _ _ _ | exact lR | exact lN | refine lI ?_ ?_ | refine lB ?_ fun _ => ?_) | exact ih0 _ _ _ | exact lN | refine lI ?_ ?_ | refine lB ?_ fun _ => ?_
set_option maxHeartbeats 8000000 in
set_option maxRecDepth 100000 in
theorem slices_Max_int_int.calls (k : Nat) (A0 : Option Addr) (c0 : Nat) (l0 : List Int) (r : Int) (w : World) (hr0 : Kd.C (Kd.int .i64) w A0 l0.length l0) (hc0 : l0.length ≤ c0) (h : slices_Max_int_int.f k l0 = some r) :
  Calls Try.prog 44 #[.slice A0 l0.length c0] w fun e w' => e = .returned (.int .i64 r) ∧ Below w.heap.size w w' := by
 have HR0 := aM hr0
 have HC0 := aM hc0
 clear hr0 hc0
 have HB := aM (Below.refl w.heap.size w)
 unfold slices_Max_int_int.f at h
 have H := h
 clear h
 by_cases c2 : (l0.length : Int) < 1
 ·rw [if_pos c2] at H
  exact absurd H (by simp)
 rw [if_neg c2] at H
 have c2b0 : decide ((l0.length : Int) < 1) = false := decide_eq_false c2
 have c2b1 : decide (l0.length < 1) = false := decide_eq_false (by omega)
 clear c2
 replace H := iS H
 obtain ⟨c3, H⟩ := H
 have c3b0 : decide (0 < (l0.length : Int)) = true := decide_eq_true c3
 have c3b1 : decide (0 < l0.length) = true := decide_eq_true (by omega)
 clear c3
 have H' := aM H
 clear H
 have p141 : 0 ≤ (0 : Int) := (by omega)
 have q141 : 0 < (l0.length : Int) := oD
 obtain ⟨ad141, e141, hx141_0⟩ := Kd.at_int HR0.out 0 p141 q141
 cases e141
 have qi141 : (0 < l0.length) = True := eq_true (by omega)
 (try rw [show ((0 : Int)).toNat = 0 from rfl] at hx141_0)
 (try rw [Addr.add_zero'] at hx141_0)
 replace p141 := eq_true p141
 replace q141 := eq_true q141
 go_enter Try.func44, Try.ntmps44
 go_wp2
 go_loopg [3, 4] k (fun kq v3 v4 w' => ∃ (x3_1 : Int) (x4_1 : Int), v3 = .int .i64 x3_1 ∧ v4 = .int .i64 x4_1 ∧ Aside0 (slices_Max_int_int.l0 kq l0 x3_1 x4_1 = some r) ∧ Aside0 (kq ≤ k) ∧ Aside0 (Below w.heap.size w w'))
 case atStart => exact ⟨(rd l0 0), (1), qE, qE, H', ⟨Nat.le_refl _⟩, ⟨by exact qW HB.out⟩⟩
 case round =>
  clear H'
  try clear c2
  try clear c2b0
  try clear c2b1
  try clear c3
  try clear c3b0
  try clear c3b1
  try clear hx141_0
  try clear p141
  try clear q141
  obtain ⟨x3_1, x4_1, rfl, rfl, HA, HK1, HB⟩ := hrel
  cases gk with
  | zero => exact absurd HA.out (by simp [slices_Max_int_int.l0])
  | succ k1 =>
   have H := HA.out
   clear HA
   simp only [slices_Max_int_int.l0] at H
   by_cases c4 : x4_1 < (l0.length : Int)
   rotate_left
   ·rw [if_neg c4] at H
    have c4b0 : decide (x4_1 < (l0.length : Int)) = false := decide_eq_false c4
    clear c4
    obtain rfl := Option.some.inj H
    go_wp2
    go_ret
    exact ⟨qX, by exact qW HB.out⟩
   rw [if_pos c4] at H
   have c4b0 : decide (x4_1 < (l0.length : Int)) = true := decide_eq_true c4
   clear c4
   replace H := iD H
   obtain ⟨c5b0, H⟩ := H
   obtain ⟨ji6, hji6⟩ : ∃ j_ : Int, (mx x3_1 (rd l0 x4_1)) = j_ := ⟨_, rfl⟩
   replace H : (slices_Max_int_int.l0 k1 l0 ji6 (wrap64 (x4_1 + 1))) = some r := by first | (rw [hji6] at H; exact H) | (simp only [hji6] at H ⊢; exact H)
   have hji6_ : (if x3_1 < (rd l0 x4_1) then (rd l0 x4_1) else x3_1) = ji6 := hji6
   have H' := aM H
   clear H
   obtain ⟨ad142, e142, hx142_0⟩ := Kd.at_int HR0.out x4_1 oD oD
   obtain rfl : ad141 = ad142 := (by injection e142)
   replace hx142_0 := bD HB hx142_0
   have p142 := eq_true (oD : 0 ≤ (x4_1 : Int))
   have q142 := eq_true (oD : x4_1 < (l0.length : Int))
   go_wp2
   go_roundg k1
   case measure => have := HK1.out; omega
   case rel => exact ⟨(ji6), (wrap64 (x4_1 + 1)), (by first | rfl | (simp; done) | (simp only [← hji6] <;> (first | rfl | simp)) | (simp [*]; done)), qE, H', ⟨by have := HK1.out; omega⟩, ⟨by exact qW HB.out⟩⟩
def spec_kraft.l0 : Nat → List Int → Int → Int → Option (Int)
 | 0, _, _, _ => none
 | k + 1, x0, x3, x4 => if x4 < (x0.length : Int) then (if 0 ≤ x4 then (if (rd x0 x4) > 0 then (if 0 ≤ (wrap64 (16 - (rd x0 x4))) then (spec_kraft.l0 k x0 (wrap64 (x3 + (shl .i64 1 (wrap64 (16 - (rd x0 x4)))))) (wrap64 (x4 + 1))) else (none)) else (spec_kraft.l0 k x0 x3 (wrap64 (x4 + 1)))) else (none)) else (some x3)
def spec_kraft.f (k : Nat) (l0 : List Int) : Option (Int) := spec_kraft.l0 k l0 0 0
theorem spec_kraft.mono_l : ∀ k, (∀ y0 y1 y2, LeO (spec_kraft.l0 k y0 y1 y2) (spec_kraft.l0 (k + 1) y0 y1 y2))
 | 0 => fun _ _ _ r h => by simp [spec_kraft.l0] at h
 | k + 1 => by
  have ih0 := spec_kraft.mono_l k
  ·intro y0 y1 y2
   unfold spec_kraft.l0
   repeat' first | (with_reducible first | exact ih0 _ _ _ | exact lR | exact lN | refine lI ?_ ?_ | refine lB ?_ fun _ => ?_) | exact ih0 _ _ _ | exact lN | refine lI ?_ ?_ | refine lB ?_ fun _ => ?_
theorem spec_kraft.mono : ∀ a0 k, LeO (spec_kraft.f k a0) (spec_kraft.f (k + 1) a0) := by
 intro a0 k
 have ih0 := spec_kraft.mono_l k
 unfold spec_kraft.f
 repeat' first | (with_reducible first | exact ih0 _ _ _ | exact lR | exact lN | refine lI ?_ ?_ | refine lB ?_ fun _ => ?_) | exact ih0 _ _ _ | exact lN | refine lI ?_ ?_ | refine lB ?_ fun _ => ?_
set_option maxHeartbeats 8000000 in
set_option maxRecDepth 100000 in
theorem spec_kraft.calls (k : Nat) (A0 : Option Addr) (c0 : Nat) (l0 : List Int) (r : Int) (w : World) (hr0 : Kd.C (Kd.int .i64) w A0 l0.length l0) (hc0 : l0.length ≤ c0) (h : spec_kraft.f k l0 = some r) :
  Calls Try.prog 49 #[.slice A0 l0.length c0] w fun e w' => e = .returned (.int .i64 r) ∧ Drawn0 w w' := by
 have HR0 := aM hr0
 have HC0 := aM hc0
 clear hr0 hc0
 unfold spec_kraft.f at h
 have H := h
 clear h
 have H' := aM H
 clear H
 go_enter Try.func49, Try.ntmps49
 go_wp2
 go_loopg [3, 4] k (fun kq v3 v4 w' => ∃ (x3_1 : Int) (x4_1 : Int), v3 = .int .i64 x3_1 ∧ v4 = .int .i64 x4_1 ∧ Aside0 (spec_kraft.l0 kq l0 x3_1 x4_1 = some r) ∧ Aside0 (kq ≤ k) ∧ Drawn0 w w')
 case atStart => exact ⟨(0), (0), qE, qE, H', ⟨Nat.le_refl _⟩, qD⟩
 case round =>
  clear H'
  obtain ⟨x3_1, x4_1, rfl, rfl, HA, HK1, ⟨m1, rfl⟩⟩ := hrel
  cases gk with
  | zero => exact absurd HA.out (by simp [spec_kraft.l0])
  | succ k1 =>
   have H := HA.out
   clear HA
   simp only [spec_kraft.l0] at H
   by_cases c2 : x4_1 < (l0.length : Int)
   rotate_left
   ·rw [if_neg c2] at H
    have c2b0 : decide (x4_1 < (l0.length : Int)) = false := decide_eq_false c2
    clear c2
    obtain rfl := Option.some.inj H
    go_wp2
    go_ret
    exact ⟨qE, qD⟩
   rw [if_pos c2] at H
   have c2b0 : decide (x4_1 < (l0.length : Int)) = true := decide_eq_true c2
   clear c2
   replace H := iD H
   obtain ⟨c3b0, H⟩ := H
   by_cases c4 : (rd l0 x4_1) > 0
   rotate_left
   ·rw [if_neg c4] at H
    have c4b0 : decide (0 < (rd l0 x4_1)) = false := decide_eq_false c4
    clear c4
    have H' := aM H
    clear H
    obtain ⟨ad103, e103, hx103_0⟩ := Kd.at_int HR0.out x4_1 oD oD
    cases e103
    have p103 := eq_true (oD : 0 ≤ (x4_1 : Int))
    have q103 := eq_true (oD : x4_1 < (l0.length : Int))
    go_wp2
    go_roundg k1
    case measure => have := HK1.out; omega
    case rel => exact ⟨(x3_1), (wrap64 (x4_1 + 1)), qE, qE, H', ⟨by have := HK1.out; omega⟩, qD⟩
   rw [if_pos c4] at H
   have c4b0 : decide (0 < (rd l0 x4_1)) = true := decide_eq_true c4
   clear c4
   obtain ⟨ji5, hji5⟩ : ∃ j_ : Int, (wrap64 (16 - (rd l0 x4_1))) = j_ := ⟨_, rfl⟩
   replace H : (if 0 ≤ (ji5) then (spec_kraft.l0 k1 l0 (wrap64 (x3_1 + (shl .i64 1 (ji5)))) (wrap64 (x4_1 + 1))) else (none)) = some r := by first | (rw [hji5] at H; exact H) | (simp only [hji5] at H ⊢; exact H)
   have hji5w : (IntKind.i64.wrap (16 - (rd l0 x4_1))) = ji5 := (i64_w _).trans hji5
   replace H := iS H
   obtain ⟨c6, H⟩ := H
   have c6b0 := eq_true c6
   have c6b1 : decide (0 ≤ (ji5)) = true := decide_eq_true c6
   clear c6
   obtain ⟨ji7, hji7⟩ : ∃ j_ : Int, (shl .i64 1 (ji5)) = j_ := ⟨_, rfl⟩
   replace H : (spec_kraft.l0 k1 l0 (wrap64 (x3_1 + (ji7))) (wrap64 (x4_1 + 1))) = some r := by first | (rw [hji7] at H; exact H) | (simp only [hji7] at H ⊢; exact H)
   have hji7_ : (IntKind.i64.wrap (1 * 2 ^ min (ji5).toNat 64)) = ji7 := hji7
   have hji7z : (ji5) ≤ 64 → (IntKind.i64.wrap (1 * 2 ^ (ji5).toNat)) = ji7 := shl_small hji7
   have hji7u : (IntKind.i64.wrap (2 ^ min (ji5).toNat 64)) = ji7 := by have h_ := hji7_; rw [Int.one_mul] at h_; exact h_
   have hji7v : (ji5) ≤ 64 → (IntKind.i64.wrap (2 ^ (ji5).toNat)) = ji7 := fun hle_ => by have h_ := hji7z hle_; rw [Int.one_mul] at h_; exact h_
   have hji7y : (wrap64 (1 * 2 ^ min (ji5).toNat 64)) = ji7 := (i64_w _).symm.trans hji7_
   have hji7x : (ji5) ≤ 64 → (wrap64 (1 * 2 ^ (ji5).toNat)) = ji7 := fun h_ => (i64_w _).symm.trans (hji7z h_)
   have H' := aM H
   clear H
   obtain ⟨ad103, e103, hx103_0⟩ := Kd.at_int HR0.out x4_1 oD oD
   cases e103
   have p103 := eq_true (oD : 0 ≤ (x4_1 : Int))
   have q103 := eq_true (oD : x4_1 < (l0.length : Int))
   obtain ⟨ad104, e104, hx104_0⟩ := Kd.at_int HR0.out x4_1 oD oD
   obtain rfl : ad103 = ad104 := (by injection e104)
   have p104 := eq_true (oD : 0 ≤ (x4_1 : Int))
   have q104 := eq_true (oD : x4_1 < (l0.length : Int))
   go_wp2
   go_roundg k1
   case measure => have := HK1.out; omega
   case rel => exact ⟨(wrap64 (x3_1 + (ji7))), (wrap64 (x4_1 + 1)), (by first | rfl | (simp; done) | (simp only [← hji7] <;> (first | rfl | simp)) | (simp [*]; done)), qE, H', ⟨by have := HK1.out; omega⟩, qD⟩
def spec_validLengths.f (k : Nat) (l0 : List Int) : Option (Bool) := (spec_inRange.f (l0.length : Int) 1 16).bind fun t105 => (if t105 = true then ((spec_allIn.f k l0 0 16).bind fun t106 => (if t106 = true then ((spec_kraft.f k l0).bind fun t107 => (some (decide (t107 ≤ 65536)))) else (some false))) else (some false))
theorem spec_validLengths.mono : ∀ a0 k, LeO (spec_validLengths.f k a0) (spec_validLengths.f (k + 1) a0) := by
 intro a0 k
 unfold spec_validLengths.f
 repeat' first | (with_reducible first | exact spec_allIn.mono _ _ _ _ | exact spec_kraft.mono _ _ | exact lR | exact lN | refine lI ?_ ?_ | refine lB ?_ fun _ => ?_) | exact spec_allIn.mono _ _ _ _ | exact spec_kraft.mono _ _ | exact lN | refine lI ?_ ?_ | refine lB ?_ fun _ => ?_
set_option maxHeartbeats 8000000 in
set_option maxRecDepth 100000 in
theorem spec_validLengths.calls (k : Nat) (A0 : Option Addr) (c0 : Nat) (l0 : List Int) (r : Bool) (w : World) (hr0 : Kd.C (Kd.int .i64) w A0 l0.length l0) (hc0 : l0.length ≤ c0) (h : spec_validLengths.f k l0 = some r) :
  Calls Try.prog 30 #[.slice A0 l0.length c0] w fun e w' => e = .returned (.bool r) ∧ Drawn0 w w' := by
 have HR0 := aM hr0
 have HC0 := aM hc0
 clear hr0 hc0
 unfold spec_validLengths.f at h
 have H := h
 clear h
 replace H := Option.bind_eq_some_iff.mp H
 obtain ⟨t105, A20, H⟩ := H
 replace H : (if t105 = true then ((spec_allIn.f k l0 0 16).bind fun t106 => (if t106 = true then ((spec_kraft.f k l0).bind fun t107 => (some (decide (t107 ≤ 65536)))) else (some false))) else (some false)) = some r := H
 have A2 := aM A20
 clear A20
 by_cases c3 : t105 = true
 rotate_left
 ·replace c3 := Bool.eq_false_iff.mpr c3
  subst c3
  have H1 : (some false) = some r := by rw [if_neg (show ¬ (false = true) by decide)] at H; exact H
  clear H
  have H := H1
  clear H1
  obtain rfl := Option.some.inj H
  go_enter Try.func30, Try.ntmps30
  go_wp2_with (first | ((with_reducible refine gate_callee (f := 47) rfl ?_); refine gL (some 5) Try.func47 #[.int .i64 (l0.length : Int), .int .i64 1, .int .i64 16] ?_; (with_reducible refine (spec_inRange.calls (l0.length : Int) 1 16 false _ A2.out).mono ?_); rintro e w' ⟨rfl, ⟨nd, rfl⟩⟩; refine ⟨_, rfl, ?_⟩))
  go_ret
  exact ⟨qE, qD⟩
 subst c3
 have H1 : ((spec_allIn.f k l0 0 16).bind fun t106 => (if t106 = true then ((spec_kraft.f k l0).bind fun t107 => (some (decide (t107 ≤ 65536)))) else (some false))) = some r := by rw [if_pos rfl] at H; exact H
 clear H
 have H := H1
 clear H1
 replace H := Option.bind_eq_some_iff.mp H
 obtain ⟨t106, A40, H⟩ := H
 replace H : (if t106 = true then ((spec_kraft.f k l0).bind fun t107 => (some (decide (t107 ≤ 65536)))) else (some false)) = some r := H
 have A4 := aM A40
 clear A40
 by_cases c5 : t106 = true
 rotate_left
 ·replace c5 := Bool.eq_false_iff.mpr c5
  subst c5
  have H1 : (some false) = some r := by rw [if_neg (show ¬ (false = true) by decide)] at H; exact H
  clear H
  have H := H1
  clear H1
  obtain rfl := Option.some.inj H
  go_enter Try.func30, Try.ntmps30
  go_wp2_with (first | ((with_reducible refine gate_callee (f := 47) rfl ?_); refine gL (some 5) Try.func47 #[.int .i64 (l0.length : Int), .int .i64 1, .int .i64 16] ?_; (with_reducible refine (spec_inRange.calls (l0.length : Int) 1 16 true _ A2.out).mono ?_); rintro e w' ⟨rfl, ⟨nd, rfl⟩⟩; refine ⟨_, rfl, ?_⟩) | (go_at_call 48; (with_reducible refine (spec_allIn.calls k _ _ l0 0 16 false _ ?side1 ?side2 A4.out).mono ?_); (case side1 => exact qC HR0.out); (case side2 => exact HC0.out); rintro e w' ⟨rfl, ⟨nd, rfl⟩⟩))
  go_ret
  exact ⟨qE, qD⟩
 subst c5
 have H1 : ((spec_kraft.f k l0).bind fun t107 => (some (decide (t107 ≤ 65536)))) = some r := by rw [if_pos rfl] at H; exact H
 clear H
 have H := H1
 clear H1
 replace H := Option.bind_eq_some_iff.mp H
 obtain ⟨t107, A60, H⟩ := H
 replace H : (some (decide (t107 ≤ 65536))) = some r := H
 have A6 := aM A60
 clear A60
 obtain rfl := Option.some.inj H
 go_enter Try.func30, Try.ntmps30
 go_wp2_with (first | ((with_reducible refine gate_callee (f := 47) rfl ?_); refine gL (some 5) Try.func47 #[.int .i64 (l0.length : Int), .int .i64 1, .int .i64 16] ?_; (with_reducible refine (spec_inRange.calls (l0.length : Int) 1 16 true _ A2.out).mono ?_); rintro e w' ⟨rfl, ⟨nd, rfl⟩⟩; refine ⟨_, rfl, ?_⟩) | (go_at_call 48; (with_reducible refine (spec_allIn.calls k _ _ l0 0 16 true _ ?side1 ?side2 A4.out).mono ?_); (case side1 => exact qC HR0.out); (case side2 => exact HC0.out); rintro e w' ⟨rfl, ⟨nd, rfl⟩⟩) | (go_at_call 49; (with_reducible refine (spec_kraft.calls k _ _ l0 t107 _ ?side1 ?side2 A6.out).mono ?_); (case side1 => exact qC HR0.out); (case side2 => exact HC0.out); rintro e w' ⟨rfl, ⟨nd, rfl⟩⟩))
 go_ret
 exact ⟨qE, qD⟩
mutual
def spec_canonicalCodes.l0 : Nat → List Int → List Int → Int → Int → Option (List Int)
 | 0, _, _, _, _ => none
 | k + 1, x0, x3, x4, x5 => if x5 ≤ 16 then (spec_canonicalCodes.l1 k x0 x3 (wrap64 (2 * x4)) x5 0) else (some x3)
def spec_canonicalCodes.l1 : Nat → List Int → List Int → Int → Int → Int → Option (List Int)
 | 0, _, _, _, _, _ => none
 | k + 1, x0, x3, x4, x5, x6 => if x6 < (x0.length : Int) then (if 0 ≤ x6 then (if (rd x0 x6) = x5 then (if x6 < (x3.length : Int) then (spec_canonicalCodes.l1 k x0 (x3.set (x6 : Int).toNat x4) (wrap64 (x4 + 1)) x5 (wrap64 (x6 + 1))) else (none)) else (spec_canonicalCodes.l1 k x0 x3 x4 x5 (wrap64 (x6 + 1)))) else (none)) else (spec_canonicalCodes.l0 k x0 x3 x4 (wrap64 (x5 + 1)))
end
def spec_canonicalCodes.f (k : Nat) (l0 : List Int) : Option (List Int) := if 0 ≤ (l0.length : Int) then (if ((l0.length : Int) : Int).toNat ≤ 35184372088832 then (spec_canonicalCodes.l0 k l0 (List.replicate ((l0.length : Int) : Int).toNat 0) 0 1) else (none)) else (none)
theorem spec_canonicalCodes.mono_l : ∀ k, (∀ y0 y1 y2 y3, LeO (spec_canonicalCodes.l0 k y0 y1 y2 y3) (spec_canonicalCodes.l0 (k + 1) y0 y1 y2 y3)) ∧ (∀ y0 y1 y2 y3 y4, LeO (spec_canonicalCodes.l1 k y0 y1 y2 y3 y4) (spec_canonicalCodes.l1 (k + 1) y0 y1 y2 y3 y4))
 | 0 => ⟨fun _ _ _ _ r h => by simp [spec_canonicalCodes.l0] at h, fun _ _ _ _ _ r h => by simp [spec_canonicalCodes.l1] at h⟩
 | k + 1 => by
  obtain ⟨ih0, ih1⟩ := spec_canonicalCodes.mono_l k
  refine ⟨?_, ?_⟩
  all_goals intros
  all_goals first | unfold spec_canonicalCodes.l0 | unfold spec_canonicalCodes.l1
  all_goals repeat' first | (with_reducible first | exact ih0 _ _ _ _ | exact ih1 _ _ _ _ _ | exact lR | exact lN | refine lI ?_ ?_ | refine lB ?_ fun _ => ?_) | exact ih0 _ _ _ _ | exact ih1 _ _ _ _ _ | exact lN | refine lI ?_ ?_ | refine lB ?_ fun _ => ?_
theorem spec_canonicalCodes.mono : ∀ a0 k, LeO (spec_canonicalCodes.f k a0) (spec_canonicalCodes.f (k + 1) a0) := by
 intro a0 k
 obtain ⟨ih0, ih1⟩ := spec_canonicalCodes.mono_l k
 unfold spec_canonicalCodes.f
 repeat' first | (with_reducible first | exact ih0 _ _ _ _ | exact ih1 _ _ _ _ _ | exact lR | exact lN | refine lI ?_ ?_ | refine lB ?_ fun _ => ?_) | exact ih0 _ _ _ _ | exact ih1 _ _ _ _ _ | exact lN | refine lI ?_ ?_ | refine lB ?_ fun _ => ?_
set_option maxHeartbeats 8000000 in
set_option maxRecDepth 100000 in
theorem spec_canonicalCodes.calls (k : Nat) (A0 : Option Addr) (c0 : Nat) (l0 : List Int) (r : List Int) (w : World) (hr0 : Kd.C (Kd.int .i64) w A0 l0.length l0) (hc0 : l0.length ≤ c0) (h : spec_canonicalCodes.f k l0 = some r) :
  Calls Try.prog 38 #[.slice A0 l0.length c0] w fun e w' => ∃ v0_ : Value, e = .returned (v0_) ∧ Kd.R (Kd.int .i64) 3 w' w.heap.size (fun _ => True) v0_ r ∧ Below w.heap.size w w' := by
 have HR0 := aM hr0
 have HC0 := aM hc0
 clear hr0 hc0
 have HB := aM (Below.refl w.heap.size w)
 unfold spec_canonicalCodes.f at h
 have H := h
 clear h
 replace H := iS H
 obtain ⟨c2, H⟩ := H
 have c2b0 := eq_true c2
 have c2b1 : decide (0 ≤ (l0.length : Int)) = true := decide_eq_true c2
 clear c2
 replace H := iS H
 obtain ⟨c3, H⟩ := H
 have c3b0 := eq_true c3
 have c3b1 : decide (((l0.length : Int) : Int).toNat ≤ 35184372088832) = true := decide_eq_true c3
 clear c3
 obtain ⟨y108, hy108⟩ : ∃ y_ : List Int, y_ = (List.replicate ((l0.length : Int) : Int).toNat 0) := ⟨_, rfl⟩
 replace H : (spec_canonicalCodes.l0 k l0 y108 0 1) = some r := rY hy108 H
 have Ny108 := aM hy108
 clear hy108
 have H' := aM H
 clear H
 go_enter Try.func38, Try.ntmps38
 go_wp2_with (first | ((with_reducible refine gate_dst (N := 9) rfl ?_); refine Kd.R_make (Kd.int .i64) _ 3 rfl (N := 9) rfl 22 _ _ rfl (l0.length : Int) rfl rfl Try.underlying22 (.int .i64 0) 8 info3 rfl (by decide) (by omega) 0 (ok := fun _ => True) (okp := fun _ => True) rfl (fun _ hk => hk) trivial oD (Nat.le_trans (Nat.mul_le_mul_right _ (oD : (l0.length : Int).toNat ≤ 35184372088832)) (by omega)) (Below.refl _ _) (Nat.le_refl _) ?_; intro v109 w4 ho5 hb hg_ hnew_; clear hg_ hnew_; (first | rw [← Ny108.out] at ho5 | (simp only [Int.reduceToNat] at ho5; rw [← Ny108.out] at ho5)); have HO110 := oR ho5 HB; replace HB := bS HB hb; clear hb ho5))
 go_loopg [4, 5] k (fun kq v4 v5 w' => ∃ (x3_1 : List Int) (x4_1 : Int) (x5_1 : Int), v4 = .int .i64 x4_1 ∧ v5 = .int .i64 x5_1 ∧ Aside0 (spec_canonicalCodes.l0 kq l0 x3_1 x4_1 x5_1 = some r) ∧ Aside0 (kq ≤ k) ∧ Aside0 (Kd.R (Kd.int .i64) 3 w' w.heap.size (fun _ => True) v109 x3_1) ∧ Aside0 (Below w.heap.size w w'))
 case atStart => exact ⟨(y108), (0), (1), qE, qE, H', ⟨Nat.le_refl _⟩, ⟨by refine qR ?_; exact HO110.out⟩, ⟨by exact qW HB.out⟩⟩
 case round =>
  clear H'
  try clear c2
  try clear c2b0
  try clear c2b1
  try clear c3
  try clear c3b0
  try clear c3b1
  obtain ⟨x3_1, x4_1, x5_1, rfl, rfl, HA, HK1, HO_3, HB⟩ := hrel
  cases gk with
  | zero => exact absurd HA.out (by simp [spec_canonicalCodes.l0])
  | succ k1 =>
   have H := HA.out
   clear HA
   simp only [spec_canonicalCodes.l0] at H
   by_cases c6 : x5_1 ≤ 16
   rotate_left
   ·rw [if_neg c6] at H
    have c6b0 : decide (x5_1 ≤ 16) = false := decide_eq_false c6
    clear c6
    obtain rfl := Option.some.inj H
    go_wp2
    go_ret
    exact ⟨_, qX, by refine qR ?_; exact HO_3.out, by exact qW HB.out⟩
   rw [if_pos c6] at H
   have c6b0 : decide (x5_1 ≤ 16) = true := decide_eq_true c6
   clear c6
   have H' := aM H
   clear H
   go_wp2
   go_loopg [4, 6] k1 (fun kq v4 v6 w' => ∃ (x3_2 : List Int) (x4_2 : Int) (x6_2 : Int), v4 = .int .i64 x4_2 ∧ v6 = .int .i64 x6_2 ∧ Aside0 (spec_canonicalCodes.l1 kq l0 x3_2 x4_2 x5_1 x6_2 = some r) ∧ Aside0 (kq ≤ k1) ∧ Aside0 (Kd.R (Kd.int .i64) 3 w' w.heap.size (fun _ => True) v109 x3_2) ∧ Aside0 (Below w.heap.size w w'))
   case atStart => exact ⟨(x3_1), (wrap64 (2 * x4_1)), (0), qE, qE, H', ⟨Nat.le_refl _⟩, ⟨by refine qR ?_; exact HO_3.out⟩, ⟨by exact qW HB.out⟩⟩
   case round =>
    clear H'
    try clear c2
    try clear c2b0
    try clear c2b1
    try clear c3
    try clear c3b0
    try clear c3b1
    try clear c6
    try clear c6b0
    obtain ⟨x3_2, x4_2, x6_2, rfl, rfl, HA, HK2, HO_3, HB⟩ := hrel
    cases gk with
    | zero => exact absurd HA.out (by simp [spec_canonicalCodes.l1])
    | succ k2 =>
     have H := HA.out
     clear HA
     simp only [spec_canonicalCodes.l1] at H
     by_cases c7 : x6_2 < (l0.length : Int)
     rotate_left
     ·rw [if_neg c7] at H
      have c7b0 : decide (x6_2 < (l0.length : Int)) = false := decide_eq_false c7
      clear c7
      have H' := aM H
      clear H
      go_wp2
      go_roundg k2
      case measure => have := HK1.out; have := HK2.out; omega
      case rel => exact ⟨(x3_2), (x4_2), (wrap64 (x5_1 + 1)), qE, qE, H', ⟨by have := HK1.out; have := HK2.out; omega⟩, ⟨by refine qR ?_; exact HO_3.out⟩, ⟨by exact qW HB.out⟩⟩
     rw [if_pos c7] at H
     have c7b0 : decide (x6_2 < (l0.length : Int)) = true := decide_eq_true c7
     clear c7
     replace H := iD H
     obtain ⟨c8b0, H⟩ := H
     by_cases c9 : (rd l0 x6_2) = x5_1
     rotate_left
     ·rw [if_neg c9] at H
      have c9b0 : ((rd l0 x6_2) == x5_1) = false := beq_eq_false_iff_ne.mpr c9
      have c9b1 : ((rd l0 x6_2) != x5_1) = true := bne_iff_ne.mpr c9
      have H' := aM H
      clear H
      obtain ⟨ad111, e111, hx111_0⟩ := Kd.at_int HR0.out x6_2 oD oD
      cases e111
      replace hx111_0 := bD HB hx111_0
      have p111 := eq_true (oD : 0 ≤ (x6_2 : Int))
      have q111 := eq_true (oD : x6_2 < (l0.length : Int))
      go_wp2
      go_roundg k2
      case measure => have := HK1.out; have := HK2.out; omega
      case rel => exact ⟨(x3_2), (x4_2), (wrap64 (x6_2 + 1)), qE, qE, H', ⟨by have := HK1.out; have := HK2.out; omega⟩, ⟨by refine qR ?_; exact HO_3.out⟩, ⟨by exact qW HB.out⟩⟩
     rw [if_pos c9] at H
     have c9b0 : ((rd l0 x6_2) == x5_1) = true := beq_iff_eq.mpr c9
     have c9b1 : ((rd l0 x6_2) != x5_1) = false := bne_eq_false_iff_eq.mpr c9
     clear c9
     replace H := iD H
     obtain ⟨c10b0, H⟩ := H
     obtain ⟨y112, hy112⟩ : ∃ y_ : List Int, y_ = (x3_2.set (x6_2 : Int).toNat x4_2) := ⟨_, rfl⟩
     replace H : (spec_canonicalCodes.l1 k2 l0 y112 (wrap64 (x4_2 + 1)) x5_1 (wrap64 (x6_2 + 1))) = some r := rY hy112 H
     have Ny112 := aM hy112
     clear hy112
     have H' := aM H
     clear H
     obtain ⟨ad111, e111, hx111_0⟩ := Kd.at_int HR0.out x6_2 oD oD
     cases e111
     replace hx111_0 := bD HB hx111_0
     have p111 := eq_true (oD : 0 ≤ (x6_2 : Int))
     have q111 := eq_true (oD : x6_2 < (l0.length : Int))
     have p11 : 0 ≤ (x6_2 : Int) := oD
     have q11 : (x6_2 : Int) < ((x3_2.length : Int) : Int) := oD
     obtain ⟨go11, co11, eo11, gb11, gl11, cl11, HG11⟩ := Kd.R_form HO_3.out (by omega)
     (first | cases eo11 | (injection eo11 with ea_ en_ ec_; (first | subst ea_ | (injection ea_ with ea_; subst ea_)); subst ec_; clear en_))
     have GB11 := aM gb11
     have GG11 := aM HG11
     clear gb11 gl11 HG11
     obtain ⟨hx11_0, hf11_0⟩ := Kd.R_celln 0 HO_3.out (x6_2 : Int) p11 q11
     replace p11 := eq_true p11
     replace q11 := eq_true q11
     have HP12 := Kd.R_putg HO_3.out (x6_2 : Int) x4_2
     go_wp2_with (first | ((with_reducible refine gate_store (t := 3) (p := 31) rfl ?_); refine store_event (t := 3) (p := 31) (v := ?vo_w13) (w1 := (wr.setCell ⟨go11, (x6_2 : Int).toNat, none⟩ (.int .i64 x4_2))) ?hg ?ho ?hn ?hr ?_; (case ho => rfl); (case hg => rfl); (case hn => rfl); (case hr => first | (go_simp; done) | (go_simp; rfl)); intro w13 hw; have hg : wr.grownBy w13 (some go11) := (by rw [hw]; exact HP12.2); have hp_ : Kd.R (Kd.int .i64) 3 w13 w.heap.size (fun _ => True) (.slice (some ⟨go11, 0, none⟩) x3_2.length co11) y112 := (by rw [hw, Ny112.out]; exact HP12.1); clear HP12; replace HO_3 := aM (hp_); replace HB := aM ((by rw [hw]; exact below_set (HB.out) GB11.out : Below w.heap.size w w13)); clear hg hw hp_))
     go_roundg k2
     case measure => have := HK1.out; have := HK2.out; omega
     case rel => exact ⟨(y112), (wrap64 (x4_2 + 1)), (wrap64 (x6_2 + 1)), qE, qE, H', ⟨by have := HK1.out; have := HK2.out; omega⟩, ⟨by refine qR ?_; exact HO_3.out⟩, ⟨by exact qW HB.out⟩⟩
mutual
def impl_canonical.j0 : Nat → List Int → Bool → Option (List Int × Bool)
 | 0, _, _ => none
 | k + 1, x0, x29 => if x29 = true then (some (([] : List Int), false)) else (impl_canonical.l0 k x0 0 x0 (x0.length : Int) 0)
def impl_canonical.l0 : Nat → List Int → Int → List Int → Int → Int → Option (List Int × Bool)
 | 0, _, _, _, _, _ => none
 | k + 1, x0, x4, x30, x31, x32 => if x32 < x31 then (if 0 ≤ x32 then (if x32 < (x30.length : Int) then (if (rd x30 x32) > 0 then (if 0 ≤ (wrap64 (16 - (rd x30 x32))) then (impl_canonical.l0 k x0 (wrap64 (x4 + (shl .i64 1 (wrap64 (16 - (rd x30 x32)))))) x30 x31 (wrap64 (x32 + 1))) else (none)) else (impl_canonical.l0 k x0 x4 x30 x31 (wrap64 (x32 + 1)))) else (none)) else (none)) else (if x4 > 65536 then (some (([] : List Int), false)) else (if 0 ≤ (x0.length : Int) then (if ((x0.length : Int) : Int).toNat ≤ 35184372088832 then (impl_canonical.l1 k x0 (List.replicate ((x0.length : Int) : Int).toNat 0) 0 1) else (none)) else (none)))
def impl_canonical.l1 : Nat → List Int → List Int → Int → Int → Option (List Int × Bool)
 | 0, _, _, _, _ => none
 | k + 1, x0, x7, x8, x9 => if x9 ≤ 16 then (impl_canonical.l2 k x0 x7 (wrap64 (x8 * 2)) x9 x0 (x0.length : Int) 0) else (some (x7, true))
def impl_canonical.l2 : Nat → List Int → List Int → Int → Int → List Int → Int → Int → Option (List Int × Bool)
 | 0, _, _, _, _, _, _, _ => none
 | k + 1, x0, x7, x8, x9, x55, x56, x57 => if x57 < x56 then (if 0 ≤ x57 then (if x57 < (x55.length : Int) then (if (rd x55 x57) = x9 then (if x57 < (x7.length : Int) then (impl_canonical.l2 k x0 (x7.set (x57 : Int).toNat x8) (wrap64 (x8 + 1)) x9 x55 x56 (wrap64 (x57 + 1))) else (none)) else (impl_canonical.l2 k x0 x7 x8 x9 x55 x56 (wrap64 (x57 + 1)))) else (none)) else (none)) else (impl_canonical.l1 k x0 x7 x8 (wrap64 (x9 + 1)))
end
def impl_canonical.f (k : Nat) (l0 : List Int) : Option (List Int × Bool) := if (l0.length : Int) < 1 then (impl_canonical.j0 k l0 true) else (if (l0.length : Int) > 16 then (impl_canonical.j0 k l0 true) else ((slices_Min_int_int.f k l0).bind fun t143 => (if t143 < 0 then (impl_canonical.j0 k l0 true) else ((slices_Max_int_int.f k l0).bind fun t144 => (impl_canonical.j0 k l0 (decide (t144 > 16)))))))
theorem impl_canonical.mono_l : ∀ k, (∀ y0 y1, LeO (impl_canonical.j0 k y0 y1) (impl_canonical.j0 (k + 1) y0 y1)) ∧ (∀ y0 y1 y2 y3 y4, LeO (impl_canonical.l0 k y0 y1 y2 y3 y4) (impl_canonical.l0 (k + 1) y0 y1 y2 y3 y4)) ∧ (∀ y0 y1 y2 y3, LeO (impl_canonical.l1 k y0 y1 y2 y3) (impl_canonical.l1 (k + 1) y0 y1 y2 y3)) ∧ (∀ y0 y1 y2 y3 y4 y5 y6, LeO (impl_canonical.l2 k y0 y1 y2 y3 y4 y5 y6) (impl_canonical.l2 (k + 1) y0 y1 y2 y3 y4 y5 y6))
 | 0 => ⟨fun _ _ r h => by simp [impl_canonical.j0] at h, fun _ _ _ _ _ r h => by simp [impl_canonical.l0] at h, fun _ _ _ _ r h => by simp [impl_canonical.l1] at h, fun _ _ _ _ _ _ _ r h => by simp [impl_canonical.l2] at h⟩
 | k + 1 => by
  obtain ⟨ih0, ih1, ih2, ih3⟩ := impl_canonical.mono_l k
  refine ⟨?_, ?_, ?_, ?_⟩
  all_goals intros
  all_goals first | unfold impl_canonical.j0 | unfold impl_canonical.l0 | unfold impl_canonical.l1 | unfold impl_canonical.l2
  all_goals repeat' first | (with_reducible first | exact ih0 _ _ | exact ih1 _ _ _ _ _ | exact ih2 _ _ _ _ | exact ih3 _ _ _ _ _ _ _ | exact slices_Max_int_int.mono _ _ | exact slices_Min_int_int.mono _ _ | exact lR | exact lN | refine lI ?_ ?_ | refine lB ?_ fun _ => ?_) | exact ih0 _ _ | exact ih1 _ _ _ _ _ | exact ih2 _ _ _ _ | exact ih3 _ _ _ _ _ _ _ | exact slices_Max_int_int.mono _ _ | exact slices_Min_int_int.mono _ _ | exact lN | refine lI ?_ ?_ | refine lB ?_ fun _ => ?_
theorem impl_canonical.mono : ∀ a0 k, LeO (impl_canonical.f k a0) (impl_canonical.f (k + 1) a0) := by
 intro a0 k
 obtain ⟨ih0, ih1, ih2, ih3⟩ := impl_canonical.mono_l k
 unfold impl_canonical.f
 repeat' first | (with_reducible first | exact ih0 _ _ | exact ih1 _ _ _ _ _ | exact ih2 _ _ _ _ | exact ih3 _ _ _ _ _ _ _ | exact slices_Max_int_int.mono _ _ | exact slices_Min_int_int.mono _ _ | exact lR | exact lN | refine lI ?_ ?_ | refine lB ?_ fun _ => ?_) | exact ih0 _ _ | exact ih1 _ _ _ _ _ | exact ih2 _ _ _ _ | exact ih3 _ _ _ _ _ _ _ | exact slices_Max_int_int.mono _ _ | exact slices_Min_int_int.mono _ _ | exact lN | refine lI ?_ ?_ | refine lB ?_ fun _ => ?_
set_option maxHeartbeats 8000000 in
set_option maxRecDepth 100000 in
theorem impl_canonical.calls (k : Nat) (A0 : Option Addr) (c0 : Nat) (l0 : List Int) (r1 : List Int) (r2 : Bool) (w : World) (hr0 : Kd.C (Kd.int .i64) w A0 l0.length l0) (hc0 : l0.length ≤ c0) (h : impl_canonical.f k l0 = some (r1, r2)) :
  Calls Try.prog 32 #[.slice A0 l0.length c0] w fun e w' => ∃ v0_ : Value, e = .returned (.tuple #[v0_, .bool r2]) ∧ Kd.R (Kd.int .i64) 3 w' w.heap.size (fun _ => True) v0_ r1 ∧ Below w.heap.size w w' := by
 have HR0 := aM hr0
 have HC0 := aM hc0
 clear hr0 hc0
 have HB := aM (Below.refl w.heap.size w)
 unfold impl_canonical.f at h
 have H := h
 clear h
 have HC2 := aM H
 clear H
 go_enter Try.func32, Try.ntmps32
 go_upto_region 1 with (fail)
 go_cut [29] (fun v29 wc => ∃ (kq : Nat) (x29_1 : Bool), v29 = .bool x29_1 ∧ Aside0 (impl_canonical.j0 kq l0 x29_1 = some (r1, r2)) ∧ Aside0 (kq ≤ k) ∧ Aside0 (Below w.heap.size w wc))
 case first =>
  have H := HC2.out
  clear HC2
  by_cases c3 : (l0.length : Int) < 1
  ·rw [if_pos c3] at H
   have c3b0 : decide ((l0.length : Int) < 1) = true := decide_eq_true c3
   have c3b1 : decide (l0.length < 1) = true := decide_eq_true (by omega)
   clear c3
   (first | rw [c3b0] | (simp only [i64_w, i32_w]; rw [c3b0]) | skip)
   have H' := aM H
   clear H
   go_wp2
   go_meet
   case rel => exact ⟨_, (true), qE, H', ⟨by first | omega | exact Nat.le_refl _⟩, ⟨by exact qW HB.out⟩⟩
  rw [if_neg c3] at H
  have c3b0 : decide ((l0.length : Int) < 1) = false := decide_eq_false c3
  have c3b1 : decide (l0.length < 1) = false := decide_eq_false (by omega)
  clear c3
  (first | rw [c3b0] | (simp only [i64_w, i32_w]; rw [c3b0]) | skip)
  by_cases c4 : (l0.length : Int) > 16
  ·rw [if_pos c4] at H
   have c4b0 : decide (16 < (l0.length : Int)) = true := decide_eq_true c4
   have c4b1 : decide (16 < l0.length) = true := decide_eq_true (by omega)
   clear c4
   have H' := aM H
   clear H
   go_wp2
   go_meet
   case rel => exact ⟨_, (true), qE, H', ⟨by first | omega | exact Nat.le_refl _⟩, ⟨by exact qW HB.out⟩⟩
  rw [if_neg c4] at H
  have c4b0 : decide (16 < (l0.length : Int)) = false := decide_eq_false c4
  have c4b1 : decide (16 < l0.length) = false := decide_eq_false (by omega)
  clear c4
  replace H := Option.bind_eq_some_iff.mp H
  obtain ⟨t143, A50, H⟩ := H
  replace H : (if t143 < 0 then (impl_canonical.j0 k l0 true) else ((slices_Max_int_int.f k l0).bind fun t144 => (impl_canonical.j0 k l0 (decide (t144 > 16))))) = some (r1, r2) := H
  have A5 := aM A50
  clear A50
  by_cases c6 : t143 < 0
  ·rw [if_pos c6] at H
   have c6b0 : decide (t143 < 0) = true := decide_eq_true c6
   clear c6
   have H' := aM H
   clear H
   go_wp2_with (first | (go_at_call 43; (with_reducible refine (slices_Min_int_int.calls k _ _ l0 t143 _ ?side1 ?side2 A5.out).mono ?_); (case side1 => exact qC (Kd.C_below HR0.out HB.out)); (case side2 => exact HC0.out); rintro e w7 ⟨rfl, hb⟩; replace HB := bS HB hb; clear hb))
   go_meet
   case rel => exact ⟨_, (true), qE, H', ⟨by first | omega | exact Nat.le_refl _⟩, ⟨by exact qW HB.out⟩⟩
  rw [if_neg c6] at H
  have c6b0 : decide (t143 < 0) = false := decide_eq_false c6
  clear c6
  replace H := Option.bind_eq_some_iff.mp H
  obtain ⟨t144, A80, H⟩ := H
  replace H : (impl_canonical.j0 k l0 (decide (t144 > 16))) = some (r1, r2) := H
  have A8 := aM A80
  clear A80
  have H' := aM H
  clear H
  go_wp2_with (first | (go_at_call 43; (with_reducible refine (slices_Min_int_int.calls k _ _ l0 t143 _ ?side1 ?side2 A5.out).mono ?_); (case side1 => exact qC (Kd.C_below HR0.out HB.out)); (case side2 => exact HC0.out); rintro e w9 ⟨rfl, hb⟩; replace HB := bS HB hb; clear hb) | (go_at_call 44; (with_reducible refine (slices_Max_int_int.calls k _ _ l0 t144 _ ?side1 ?side2 A8.out).mono ?_); (case side1 => exact qC (Kd.C_below HR0.out HB.out)); (case side2 => exact HC0.out); rintro e w10 ⟨rfl, hb⟩; replace HB := bS HB hb; clear hb))
  go_meet
  case rel => exact ⟨_, (decide (t144 > 16)), qE, H', ⟨by first | omega | exact Nat.le_refl _⟩, ⟨by exact qW HB.out⟩⟩
 case rest =>
  clear HC2
  try clear c3
  try clear c3b0
  try clear c3b1
  try clear c4
  try clear c4b0
  try clear c4b1
  try clear c6
  try clear c6b0
  obtain ⟨kq, x29_1, rfl, HA, HJ1, HB⟩ := hcut
  cases kq with
  | zero => exact absurd HA.out (by simp [impl_canonical.j0])
  | succ kj1 =>
   have H := HA.out
   clear HA
   simp only [impl_canonical.j0] at H
   by_cases c11 : x29_1 = true
   ·subst c11
    have H1 : (some (([] : List Int), false)) = some (r1, r2) := by rw [if_pos rfl] at H; exact H
    clear H
    have H := H1
    clear H1
    simp only [Option.some.injEq, Prod.mk.injEq] at H
    obtain ⟨rfl, rfl⟩ := H
    go_wp2
    go_ret2
    exact ⟨_, qX, qN, by exact qW HB.out⟩
   replace c11 := Bool.eq_false_iff.mpr c11
   subst c11
   have H1 : (impl_canonical.l0 kj1 l0 0 l0 (l0.length : Int) 0) = some (r1, r2) := by rw [if_neg (show ¬ (false = true) by decide)] at H; exact H
   clear H
   have H := H1
   clear H1
   have H' := aM H
   clear H
   go_wp2
   go_loopg [4, 32] kj1 (fun kq v4 v32 w' => ∃ (x4_2 : Int) (x32_2 : Int), v4 = .int .i64 x4_2 ∧ v32 = .int .i64 x32_2 ∧ Aside0 (impl_canonical.l0 kq l0 x4_2 l0 (l0.length : Int) x32_2 = some (r1, r2)) ∧ Aside0 (kq ≤ kj1) ∧ Aside0 (Below w.heap.size w w'))
   case atStart => exact ⟨(0), (0), qE, qE, H', ⟨Nat.le_refl _⟩, ⟨by exact qW HB.out⟩⟩
   case round =>
    clear H'
    try clear c3
    try clear c3b0
    try clear c3b1
    try clear c4
    try clear c4b0
    try clear c4b1
    try clear c6
    try clear c6b0
    try clear c11
    obtain ⟨x4_2, x32_2, rfl, rfl, HA, HK2, HB⟩ := hrel
    cases gk with
    | zero => exact absurd HA.out (by simp [impl_canonical.l0])
    | succ k2 =>
     have H := HA.out
     clear HA
     simp only [impl_canonical.l0] at H
     by_cases c12 : x32_2 < (l0.length : Int)
     ·rw [if_pos c12] at H
      have c12b0 : decide (x32_2 < (l0.length : Int)) = true := decide_eq_true c12
      clear c12
      replace H := iD H
      obtain ⟨c13b0, H⟩ := H
      replace H := iD H
      obtain ⟨c14b0, H⟩ := H
      by_cases c15 : (rd l0 x32_2) > 0
      rotate_left
      ·rw [if_neg c15] at H
       have c15b0 : decide (0 < (rd l0 x32_2)) = false := decide_eq_false c15
       clear c15
       have H' := aM H
       clear H
       obtain ⟨ad145, e145, hx145_0⟩ := Kd.at_int HR0.out x32_2 oD oD
       cases e145
       replace hx145_0 := bD HB hx145_0
       have p145 := eq_true (oD : 0 ≤ (x32_2 : Int))
       have q145 := eq_true (oD : x32_2 < (l0.length : Int))
       go_wp2
       go_roundg k2
       case measure => have := HJ1.out; have := HK2.out; omega
       case rel => exact ⟨(x4_2), (wrap64 (x32_2 + 1)), qE, qE, H', ⟨by have := HJ1.out; have := HK2.out; omega⟩, ⟨by exact qW HB.out⟩⟩
      rw [if_pos c15] at H
      have c15b0 : decide (0 < (rd l0 x32_2)) = true := decide_eq_true c15
      clear c15
      obtain ⟨ji16, hji16⟩ : ∃ j_ : Int, (wrap64 (16 - (rd l0 x32_2))) = j_ := ⟨_, rfl⟩
      replace H : (if 0 ≤ (ji16) then (impl_canonical.l0 k2 l0 (wrap64 (x4_2 + (shl .i64 1 (ji16)))) l0 (l0.length : Int) (wrap64 (x32_2 + 1))) else (none)) = some (r1, r2) := by first | (rw [hji16] at H; exact H) | (simp only [hji16] at H ⊢; exact H)
      have hji16w : (IntKind.i64.wrap (16 - (rd l0 x32_2))) = ji16 := (i64_w _).trans hji16
      replace H := iS H
      obtain ⟨c17, H⟩ := H
      have c17b0 := eq_true c17
      have c17b1 : decide (0 ≤ (ji16)) = true := decide_eq_true c17
      clear c17
      obtain ⟨ji18, hji18⟩ : ∃ j_ : Int, (shl .i64 1 (ji16)) = j_ := ⟨_, rfl⟩
      replace H : (impl_canonical.l0 k2 l0 (wrap64 (x4_2 + (ji18))) l0 (l0.length : Int) (wrap64 (x32_2 + 1))) = some (r1, r2) := by first | (rw [hji18] at H; exact H) | (simp only [hji18] at H ⊢; exact H)
      have hji18_ : (IntKind.i64.wrap (1 * 2 ^ min (ji16).toNat 64)) = ji18 := hji18
      have hji18z : (ji16) ≤ 64 → (IntKind.i64.wrap (1 * 2 ^ (ji16).toNat)) = ji18 := shl_small hji18
      have hji18u : (IntKind.i64.wrap (2 ^ min (ji16).toNat 64)) = ji18 := by have h_ := hji18_; rw [Int.one_mul] at h_; exact h_
      have hji18v : (ji16) ≤ 64 → (IntKind.i64.wrap (2 ^ (ji16).toNat)) = ji18 := fun hle_ => by have h_ := hji18z hle_; rw [Int.one_mul] at h_; exact h_
      have hji18y : (wrap64 (1 * 2 ^ min (ji16).toNat 64)) = ji18 := (i64_w _).symm.trans hji18_
      have hji18x : (ji16) ≤ 64 → (wrap64 (1 * 2 ^ (ji16).toNat)) = ji18 := fun h_ => (i64_w _).symm.trans (hji18z h_)
      have H' := aM H
      clear H
      obtain ⟨ad145, e145, hx145_0⟩ := Kd.at_int HR0.out x32_2 oD oD
      cases e145
      replace hx145_0 := bD HB hx145_0
      have p145 := eq_true (oD : 0 ≤ (x32_2 : Int))
      have q145 := eq_true (oD : x32_2 < (l0.length : Int))
      go_wp2
      go_roundg k2
      case measure => have := HJ1.out; have := HK2.out; omega
      case rel => exact ⟨(wrap64 (x4_2 + (ji18))), (wrap64 (x32_2 + 1)), (by first | rfl | (simp; done) | (simp only [← hji18] <;> (first | rfl | simp)) | (simp [*]; done)), qE, H', ⟨by have := HJ1.out; have := HK2.out; omega⟩, ⟨by exact qW HB.out⟩⟩
     rw [if_neg c12] at H
     have c12b0 : decide (x32_2 < (l0.length : Int)) = false := decide_eq_false c12
     clear c12
     by_cases c19 : x4_2 > 65536
     ·rw [if_pos c19] at H
      have c19b0 : decide (65536 < x4_2) = true := decide_eq_true c19
      clear c19
      simp only [Option.some.injEq, Prod.mk.injEq] at H
      obtain ⟨rfl, rfl⟩ := H
      go_wp2
      go_ret2
      exact ⟨_, qX, qN, by exact qW HB.out⟩
     rw [if_neg c19] at H
     have c19b0 : decide (65536 < x4_2) = false := decide_eq_false c19
     clear c19
     replace H := iS H
     obtain ⟨c20, H⟩ := H
     have c20b0 := eq_true c20
     have c20b1 : decide (0 ≤ (l0.length : Int)) = true := decide_eq_true c20
     clear c20
     replace H := iS H
     obtain ⟨c21, H⟩ := H
     have c21b0 := eq_true c21
     have c21b1 : decide (((l0.length : Int) : Int).toNat ≤ 35184372088832) = true := decide_eq_true c21
     clear c21
     obtain ⟨y146, hy146⟩ : ∃ y_ : List Int, y_ = (List.replicate ((l0.length : Int) : Int).toNat 0) := ⟨_, rfl⟩
     replace H : (impl_canonical.l1 k2 l0 y146 0 1) = some (r1, r2) := rY hy146 H
     have Ny146 := aM hy146
     clear hy146
     have H' := aM H
     clear H
     go_wp2_with (first | ((with_reducible refine gate_dst (N := 48) rfl ?_); (try (refine gate_guard (by rfl) ?_; dsimp only)); refine Kd.R_make (Kd.int .i64) _ 3 rfl (N := 48) rfl 22 _ _ rfl (l0.length : Int) rfl rfl Try.underlying22 (.int .i64 0) 8 info3 rfl (by decide) (by omega) 0 (ok := fun _ => True) (okp := fun _ => True) rfl (fun _ hk => hk) trivial oD (Nat.le_trans (Nat.mul_le_mul_right _ (oD : (l0.length : Int).toNat ≤ 35184372088832)) (by omega)) (Below.refl _ _) (Nat.le_refl _) ?_; intro v147 w22 ho23 hb hg_ hnew_; clear hg_ hnew_; (first | rw [← Ny146.out] at ho23 | (simp only [Int.reduceToNat] at ho23; rw [← Ny146.out] at ho23)); have HO148 := oR ho23 HB; replace HB := bS HB hb; clear hb ho23))
     go_loopg [8, 9] k2 (fun kq v8 v9 w' => ∃ (x7_3 : List Int) (x8_3 : Int) (x9_3 : Int), v8 = .int .i64 x8_3 ∧ v9 = .int .i64 x9_3 ∧ Aside0 (impl_canonical.l1 kq l0 x7_3 x8_3 x9_3 = some (r1, r2)) ∧ Aside0 (kq ≤ k2) ∧ Aside0 (Kd.R (Kd.int .i64) 3 w' w.heap.size (fun _ => True) v147 x7_3) ∧ Aside0 (Below w.heap.size w w'))
     case atStart => exact ⟨(y146), (0), (1), qE, qE, H', ⟨Nat.le_refl _⟩, ⟨by refine qR ?_; exact HO148.out⟩, ⟨by exact qW HB.out⟩⟩
     case round =>
      clear H'
      try clear c3
      try clear c3b0
      try clear c3b1
      try clear c4
      try clear c4b0
      try clear c4b1
      try clear c6
      try clear c6b0
      try clear c11
      try clear c12
      try clear c12b0
      try clear c13b0
      try clear c14b0
      try clear c15
      try clear c15b0
      try clear c17
      try clear c17b0
      try clear c17b1
      try clear c19
      try clear c19b0
      try clear c20
      try clear c20b0
      try clear c20b1
      try clear c21
      try clear c21b0
      try clear c21b1
      try clear hx145_0
      try clear p145
      try clear q145
      obtain ⟨x7_3, x8_3, x9_3, rfl, rfl, HA, HK3, HO_7, HB⟩ := hrel
      cases gk with
      | zero => exact absurd HA.out (by simp [impl_canonical.l1])
      | succ k3 =>
       have H := HA.out
       clear HA
       simp only [impl_canonical.l1] at H
       by_cases c24 : x9_3 ≤ 16
       rotate_left
       ·rw [if_neg c24] at H
        have c24b0 : decide (x9_3 ≤ 16) = false := decide_eq_false c24
        clear c24
        simp only [Option.some.injEq, Prod.mk.injEq] at H
        obtain ⟨rfl, rfl⟩ := H
        go_wp2
        go_ret2
        exact ⟨_, qX, by refine qR ?_; exact HO_7.out, by exact qW HB.out⟩
       rw [if_pos c24] at H
       have c24b0 : decide (x9_3 ≤ 16) = true := decide_eq_true c24
       clear c24
       have H' := aM H
       clear H
       go_wp2
       go_loopg [8, 57] k3 (fun kq v8 v57 w' => ∃ (x7_4 : List Int) (x8_4 : Int) (x57_4 : Int), v8 = .int .i64 x8_4 ∧ v57 = .int .i64 x57_4 ∧ Aside0 (impl_canonical.l2 kq l0 x7_4 x8_4 x9_3 l0 (l0.length : Int) x57_4 = some (r1, r2)) ∧ Aside0 (kq ≤ k3) ∧ Aside0 (Kd.R (Kd.int .i64) 3 w' w.heap.size (fun _ => True) v147 x7_4) ∧ Aside0 (Below w.heap.size w w'))
       case atStart => exact ⟨(x7_3), (wrap64 (x8_3 * 2)), (0), qE, qE, H', ⟨Nat.le_refl _⟩, ⟨by refine qR ?_; exact HO_7.out⟩, ⟨by exact qW HB.out⟩⟩
       case round =>
        clear H'
        try clear c3
        try clear c3b0
        try clear c3b1
        try clear c4
        try clear c4b0
        try clear c4b1
        try clear c6
        try clear c6b0
        try clear c11
        try clear c12
        try clear c12b0
        try clear c13b0
        try clear c14b0
        try clear c15
        try clear c15b0
        try clear c17
        try clear c17b0
        try clear c17b1
        try clear c19
        try clear c19b0
        try clear c20
        try clear c20b0
        try clear c20b1
        try clear c21
        try clear c21b0
        try clear c21b1
        try clear c24
        try clear c24b0
        try clear hx145_0
        try clear p145
        try clear q145
        obtain ⟨x7_4, x8_4, x57_4, rfl, rfl, HA, HK4, HO_7, HB⟩ := hrel
        cases gk with
        | zero => exact absurd HA.out (by simp [impl_canonical.l2])
        | succ k4 =>
         have H := HA.out
         clear HA
         simp only [impl_canonical.l2] at H
         by_cases c25 : x57_4 < (l0.length : Int)
         rotate_left
         ·rw [if_neg c25] at H
          have c25b0 : decide (x57_4 < (l0.length : Int)) = false := decide_eq_false c25
          clear c25
          have H' := aM H
          clear H
          go_wp2
          go_roundg k4
          case measure => have := HJ1.out; have := HK2.out; have := HK3.out; have := HK4.out; omega
          case rel => exact ⟨(x7_4), (x8_4), (wrap64 (x9_3 + 1)), qE, qE, H', ⟨by have := HJ1.out; have := HK2.out; have := HK3.out; have := HK4.out; omega⟩, ⟨by refine qR ?_; exact HO_7.out⟩, ⟨by exact qW HB.out⟩⟩
         rw [if_pos c25] at H
         have c25b0 : decide (x57_4 < (l0.length : Int)) = true := decide_eq_true c25
         clear c25
         replace H := iD H
         obtain ⟨c26b0, H⟩ := H
         replace H := iD H
         obtain ⟨c27b0, H⟩ := H
         by_cases c28 : (rd l0 x57_4) = x9_3
         rotate_left
         ·rw [if_neg c28] at H
          have c28b0 : ((rd l0 x57_4) == x9_3) = false := beq_eq_false_iff_ne.mpr c28
          have c28b1 : ((rd l0 x57_4) != x9_3) = true := bne_iff_ne.mpr c28
          have H' := aM H
          clear H
          obtain ⟨ad149, e149, hx149_0⟩ := Kd.at_int HR0.out x57_4 oD oD
          cases e149
          replace hx149_0 := bD HB hx149_0
          have p149 := eq_true (oD : 0 ≤ (x57_4 : Int))
          have q149 := eq_true (oD : x57_4 < (l0.length : Int))
          go_wp2
          go_roundg k4
          case measure => have := HJ1.out; have := HK2.out; have := HK3.out; have := HK4.out; omega
          case rel => exact ⟨(x7_4), (x8_4), (wrap64 (x57_4 + 1)), qE, qE, H', ⟨by have := HJ1.out; have := HK2.out; have := HK3.out; have := HK4.out; omega⟩, ⟨by refine qR ?_; exact HO_7.out⟩, ⟨by exact qW HB.out⟩⟩
         rw [if_pos c28] at H
         have c28b0 : ((rd l0 x57_4) == x9_3) = true := beq_iff_eq.mpr c28
         have c28b1 : ((rd l0 x57_4) != x9_3) = false := bne_eq_false_iff_eq.mpr c28
         clear c28
         replace H := iD H
         obtain ⟨c29b0, H⟩ := H
         obtain ⟨y150, hy150⟩ : ∃ y_ : List Int, y_ = (x7_4.set (x57_4 : Int).toNat x8_4) := ⟨_, rfl⟩
         replace H : (impl_canonical.l2 k4 l0 y150 (wrap64 (x8_4 + 1)) x9_3 l0 (l0.length : Int) (wrap64 (x57_4 + 1))) = some (r1, r2) := rY hy150 H
         have Ny150 := aM hy150
         clear hy150
         have H' := aM H
         clear H
         obtain ⟨ad149, e149, hx149_0⟩ := Kd.at_int HR0.out x57_4 oD oD
         cases e149
         replace hx149_0 := bD HB hx149_0
         have p149 := eq_true (oD : 0 ≤ (x57_4 : Int))
         have q149 := eq_true (oD : x57_4 < (l0.length : Int))
         have p30 : 0 ≤ (x57_4 : Int) := oD
         have q30 : (x57_4 : Int) < ((x7_4.length : Int) : Int) := oD
         obtain ⟨go30, co30, eo30, gb30, gl30, cl30, HG30⟩ := Kd.R_form HO_7.out (by omega)
         (first | cases eo30 | (injection eo30 with ea_ en_ ec_; (first | subst ea_ | (injection ea_ with ea_; subst ea_)); subst ec_; clear en_))
         have GB30 := aM gb30
         have GG30 := aM HG30
         clear gb30 gl30 HG30
         obtain ⟨hx30_0, hf30_0⟩ := Kd.R_celln 0 HO_7.out (x57_4 : Int) p30 q30
         replace p30 := eq_true p30
         replace q30 := eq_true q30
         have HP31 := Kd.R_putg HO_7.out (x57_4 : Int) x8_4
         go_wp2_with (first | ((with_reducible refine gate_store (t := 3) (p := 68) rfl ?_); refine store_event (t := 3) (p := 68) (v := ?vo_w32) (w1 := (wr.setCell ⟨go30, (x57_4 : Int).toNat, none⟩ (.int .i64 x8_4))) ?hg ?ho ?hn ?hr ?_; (case ho => rfl); (case hg => rfl); (case hn => rfl); (case hr => first | (go_simp; done) | (go_simp; rfl)); intro w32 hw; have hg : wr.grownBy w32 (some go30) := (by rw [hw]; exact HP31.2); have hp_ : Kd.R (Kd.int .i64) 3 w32 w.heap.size (fun _ => True) (.slice (some ⟨go30, 0, none⟩) x7_4.length co30) y150 := (by rw [hw, Ny150.out]; exact HP31.1); clear HP31; replace HO_7 := aM (hp_); replace HB := aM ((by rw [hw]; exact below_set (HB.out) GB30.out : Below w.heap.size w w32)); clear hg hw hp_))
         go_roundg k4
         case measure => have := HJ1.out; have := HK2.out; have := HK3.out; have := HK4.out; omega
         case rel => exact ⟨(y150), (wrap64 (x8_4 + 1)), (wrap64 (x57_4 + 1)), qE, qE, H', ⟨by have := HJ1.out; have := HK2.out; have := HK3.out; have := HK4.out; omega⟩, ⟨by refine qR ?_; exact HO_7.out⟩, ⟨by exact qW HB.out⟩⟩
def impl_CanonicalCodes.f (k : Nat) (l0 : List Int) : Option (List Int) := (impl_canonical.f k l0).bind fun bt534 => (some bt534.1)
theorem impl_CanonicalCodes.mono : ∀ a0 k, LeO (impl_CanonicalCodes.f k a0) (impl_CanonicalCodes.f (k + 1) a0) := by
 intro a0 k
 unfold impl_CanonicalCodes.f
 repeat' first | (with_reducible first | exact impl_canonical.mono _ _ | exact lR | exact lN | refine lI ?_ ?_ | refine lB ?_ fun _ => ?_) | exact impl_canonical.mono _ _ | exact lN | refine lI ?_ ?_ | refine lB ?_ fun _ => ?_
set_option maxHeartbeats 8000000 in
set_option maxRecDepth 100000 in
theorem impl_CanonicalCodes.calls (k : Nat) (A0 : Option Addr) (c0 : Nat) (l0 : List Int) (r : List Int) (w : World) (hr0 : Kd.C (Kd.int .i64) w A0 l0.length l0) (hc0 : l0.length ≤ c0) (h : impl_CanonicalCodes.f k l0 = some r) :
  Calls Try.prog 28 #[.slice A0 l0.length c0] w fun e w' => ∃ v0_ : Value, e = .returned (v0_) ∧ Kd.R (Kd.int .i64) 3 w' w.heap.size (fun _ => True) v0_ r ∧ Below w.heap.size w w' := by
 have HR0 := aM hr0
 have HC0 := aM hc0
 clear hr0 hc0
 have HB := aM (Below.refl w.heap.size w)
 unfold impl_CanonicalCodes.f at h
 have H := h
 clear h
 replace H := Option.bind_eq_some_iff.mp H
 obtain ⟨⟨t534, t535⟩, A20, H⟩ := H
 replace H : (some t534) = some r := H
 have A2 := aM A20
 clear A20
 obtain rfl := Option.some.inj H
 go_enter Try.func28, Try.ntmps28
 go_wp2_with (first | ((with_reducible refine gate_callee (f := 32) rfl ?_); refine gL (some 7) Try.func32 #[.slice A0 l0.length c0] ?_; (with_reducible refine (impl_canonical.calls k _ _ l0 t534 t535 _ ?side1 ?side2 A2.out).mono ?_); (case side1 => exact qC HR0.out); (case side2 => exact HC0.out); rintro e w3 ⟨v536, rfl, ho0, hb⟩; refine ⟨_, rfl, ?_⟩; have HO537 := oR ho0 HB; replace HB := bS HB hb; clear hb ho0))
 go_ret
 exact ⟨_, qX, by refine qR ?_; exact HO537.out, by exact qW HB.out⟩
def spec_CanonicalCodes.f (k : Nat) (l0 : List Int) : Option (List Int) := (spec_validLengths.f k l0).bind fun t538 => (if t538 = true then ((spec_canonicalCodes.f k l0).bind fun t539 => (some t539)) else (some ([] : List Int)))
theorem spec_CanonicalCodes.mono : ∀ a0 k, LeO (spec_CanonicalCodes.f k a0) (spec_CanonicalCodes.f (k + 1) a0) := by
 intro a0 k
 unfold spec_CanonicalCodes.f
 repeat' first | (with_reducible first | exact spec_canonicalCodes.mono _ _ | exact spec_validLengths.mono _ _ | exact lR | exact lN | refine lI ?_ ?_ | refine lB ?_ fun _ => ?_) | exact spec_canonicalCodes.mono _ _ | exact spec_validLengths.mono _ _ | exact lN | refine lI ?_ ?_ | refine lB ?_ fun _ => ?_
set_option maxHeartbeats 8000000 in
set_option maxRecDepth 100000 in
theorem spec_CanonicalCodes.calls (k : Nat) (A0 : Option Addr) (c0 : Nat) (l0 : List Int) (r : List Int) (w : World) (hr0 : Kd.C (Kd.int .i64) w A0 l0.length l0) (hc0 : l0.length ≤ c0) (h : spec_CanonicalCodes.f k l0 = some r) :
  Calls Try.prog 29 #[.slice A0 l0.length c0] w fun e w' => ∃ v0_ : Value, e = .returned (v0_) ∧ Kd.R (Kd.int .i64) 3 w' w.heap.size (fun _ => True) v0_ r ∧ Below w.heap.size w w' := by
 have HR0 := aM hr0
 have HC0 := aM hc0
 clear hr0 hc0
 have HB := aM (Below.refl w.heap.size w)
 unfold spec_CanonicalCodes.f at h
 have H := h
 clear h
 replace H := Option.bind_eq_some_iff.mp H
 obtain ⟨t538, A20, H⟩ := H
 replace H : (if t538 = true then ((spec_canonicalCodes.f k l0).bind fun t539 => (some t539)) else (some ([] : List Int))) = some r := H
 have A2 := aM A20
 clear A20
 by_cases c3 : t538 = true
 rotate_left
 ·replace c3 := Bool.eq_false_iff.mpr c3
  subst c3
  have H1 : (some ([] : List Int)) = some r := by rw [if_neg (show ¬ (false = true) by decide)] at H; exact H
  clear H
  have H := H1
  clear H1
  obtain rfl := Option.some.inj H
  go_enter Try.func29, Try.ntmps29
  go_wp2_with (first | ((with_reducible refine gate_callee (f := 30) rfl ?_); refine gL (some 4) Try.func30 #[.slice A0 l0.length c0] ?_; (with_reducible refine (spec_validLengths.calls k _ _ l0 false _ ?side1 ?side2 A2.out).mono ?_); (case side1 => exact qC HR0.out); (case side2 => exact HC0.out); rintro e w' ⟨rfl, ⟨nd, rfl⟩⟩; refine ⟨_, rfl, ?_⟩))
  go_ret
  exact ⟨_, qX, qN, by exact qW HB.out⟩
 subst c3
 have H1 : ((spec_canonicalCodes.f k l0).bind fun t539 => (some t539)) = some r := by rw [if_pos rfl] at H; exact H
 clear H
 have H := H1
 clear H1
 replace H := Option.bind_eq_some_iff.mp H
 obtain ⟨t539, A40, H⟩ := H
 replace H : (some t539) = some r := H
 have A4 := aM A40
 clear A40
 obtain rfl := Option.some.inj H
 go_enter Try.func29, Try.ntmps29
 go_wp2_with (first | ((with_reducible refine gate_callee (f := 30) rfl ?_); refine gL (some 4) Try.func30 #[.slice A0 l0.length c0] ?_; (with_reducible refine (spec_validLengths.calls k _ _ l0 true _ ?side1 ?side2 A2.out).mono ?_); (case side1 => exact qC HR0.out); (case side2 => exact HC0.out); rintro e w' ⟨rfl, ⟨nd, rfl⟩⟩; refine ⟨_, rfl, ?_⟩) | ((with_reducible refine gate_callee (f := 38) rfl ?_); refine gL (some 7) Try.func38 #[.slice A0 l0.length c0] ?_; (with_reducible refine (spec_canonicalCodes.calls k _ _ l0 t539 _ ?side1 ?side2 A4.out).mono ?_); (case side1 => exact qC HR0.out); (case side2 => exact HC0.out); rintro e w5 ⟨v540, rfl, ho0, hb⟩; refine ⟨_, rfl, ?_⟩; have HO541 := oR ho0 HB; replace HB := bS HB hb; clear hb ho0))
 go_ret
 exact ⟨_, qX, by refine qR ?_; exact HO541.out, by exact qW HB.out⟩
def spec_digits.l0 : Nat → Int → List Int → Int → Option (ByteArray)
 | 0, _, _, _ => none
 | k + 1, x0, x5, x6 => if x6 ≥ 0 then (if 0 ≤ x6 then (if x5.length < 140737488355328 then (spec_digits.l0 k x0 (x5 ++ [(wrap64 (48 + (Int.tmod (shr .i64 x0 x6) 2))) % 256]) (wrap64 (x6 - 1))) else (none)) else (none)) else (some (strOfNums x5))
def spec_digits.f (k : Nat) (a0 : Int) (a1 : Int) : Option (ByteArray) := spec_digits.l0 k a0 (([] : List Int)) (wrap64 (a1 - 1))
theorem spec_digits.mono_l : ∀ k, (∀ y0 y1 y2, LeO (spec_digits.l0 k y0 y1 y2) (spec_digits.l0 (k + 1) y0 y1 y2))
 | 0 => fun _ _ _ r h => by simp [spec_digits.l0] at h
 | k + 1 => by
  have ih0 := spec_digits.mono_l k
  ·intro y0 y1 y2
   unfold spec_digits.l0
   repeat' first | (with_reducible first | exact ih0 _ _ _ | exact lR | exact lN | refine lI ?_ ?_ | refine lB ?_ fun _ => ?_) | exact ih0 _ _ _ | exact lN | refine lI ?_ ?_ | refine lB ?_ fun _ => ?_
theorem spec_digits.mono : ∀ a0 a1 k, LeO (spec_digits.f k a0 a1) (spec_digits.f (k + 1) a0 a1) := by
 intro a0 a1 k
 have ih0 := spec_digits.mono_l k
 unfold spec_digits.f
 repeat' first | (with_reducible first | exact ih0 _ _ _ | exact lR | exact lN | refine lI ?_ ?_ | refine lB ?_ fun _ => ?_) | exact ih0 _ _ _ | exact lN | refine lI ?_ ?_ | refine lB ?_ fun _ => ?_
set_option maxHeartbeats 8000000 in
set_option maxRecDepth 100000 in
theorem spec_digits.calls (k : Nat) (a0 : Int) (a1 : Int) (r : ByteArray) (w : World) (h : spec_digits.f k a0 a1 = some r) :
  Calls Try.prog 50 #[.int .i64 a0, .int .i64 a1] w fun e w' => e = .returned (.string r) ∧ Below w.heap.size w w' := by
 have HB := aM (Below.refl w.heap.size w)
 unfold spec_digits.f at h
 have H := h
 clear h
 obtain ⟨y113, hy113⟩ : ∃ y_ : List Int, y_ = (([] : List Int)) := ⟨_, rfl⟩
 replace H : (spec_digits.l0 k a0 y113 (wrap64 (a1 - 1))) = some r := rY hy113 H
 have Ny113 := aM hy113
 clear hy113
 have H' := aM H
 clear H
 go_enter Try.func50, Try.ntmps50
 go_wp2_with (first | ((with_reducible refine gate_dst (N := 7) rfl ?_); refine Kd.R_lit (Kd.int .u8) _ 5 ?hg (N := 7) ?hd (xs := ([] : List Int)) (inner := []) (ok := fun _ => True) (okp := fun _ => True) ?hr ?hp (fun _ hk => hk) trivial (Below.refl _ _) (Nat.le_refl _) (by simp) ?_; (case hd => rfl); (case hg => rfl); (case hr => first | (go_simp; done) | (go_simp; rfl)); (case hp => exact (Reps.none _ _)); intro v114 w3 ho4 hb hg_ hnew_; clear hg_ hnew_; (first | rw [← Ny113.out] at ho4 | (simp only [Int.reduceToNat] at ho4; rw [← Ny113.out] at ho4)); have HO115 := oR ho4 HB; replace HB := bS HB hb; clear hb ho4))
 go_loopg [5, 6] k (fun kq v5 v6 w' => ∃ (x5_1 : List Int) (x6_1 : Int), v6 = .int .i64 x6_1 ∧ Aside0 (spec_digits.l0 kq a0 x5_1 x6_1 = some r) ∧ Aside0 (kq ≤ k) ∧ Aside0 (Kd.R (Kd.int .u8) 5 w' w.heap.size (fun _ => True) v5 x5_1) ∧ Aside0 (Below w.heap.size w w'))
 case atStart => exact ⟨(y113), (wrap64 (a1 - 1)), qE, H', ⟨Nat.le_refl _⟩, ⟨by refine qR ?_; exact HO115.out⟩, ⟨by exact qW HB.out⟩⟩
 case round =>
  clear H'
  obtain ⟨x5_1, x6_1, rfl, HA, HK1, HO_5, HB⟩ := hrel
  cases gk with
  | zero => exact absurd HA.out (by simp [spec_digits.l0])
  | succ k1 =>
   have H := HA.out
   clear HA
   simp only [spec_digits.l0] at H
   by_cases c5 : x6_1 ≥ 0
   rotate_left
   ·rw [if_neg c5] at H
    have c5b0 : decide (0 ≤ x6_1) = false := decide_eq_false c5
    clear c5
    obtain rfl := Option.some.inj H
    have hcv10 := own_string (P := Try.prog) Try.underlying27 Try.underlying5 Try.underlying9 (Kd.own_of_R HO_5.out)
    go_wp2
    go_ret
    exact ⟨qX, by exact qW HB.out⟩
   rw [if_pos c5] at H
   have c5b0 : decide (0 ≤ x6_1) = true := decide_eq_true c5
   clear c5
   replace H := iS H
   obtain ⟨c6, H⟩ := H
   have c6b0 := eq_true c6
   have c6b1 : decide (0 ≤ x6_1) = true := decide_eq_true c6
   clear c6
   obtain ⟨ji7, hji7⟩ : ∃ j_ : Int, (shr .i64 a0 x6_1) = j_ := ⟨_, rfl⟩
   replace H : (if x5_1.length < 140737488355328 then (spec_digits.l0 k1 a0 (x5_1 ++ [(wrap64 (48 + (Int.tmod (ji7) 2))) % 256]) (wrap64 (x6_1 - 1))) else (none)) = some r := by first | (rw [hji7] at H; exact H) | (simp only [hji7] at H ⊢; exact H)
   have hji7_ : (a0 / 2 ^ min x6_1.toNat 64) = ji7 := hji7
   have hji7z : x6_1 ≤ 64 → (a0 / 2 ^ x6_1.toNat) = ji7 := shr_small hji7
   replace H := iS H
   obtain ⟨c8, H⟩ := H
   have LMc8 := aM c8
   clear c8
   obtain ⟨y116, hy116⟩ : ∃ y_ : List Int, y_ = (x5_1 ++ [(wrap64 (48 + (Int.tmod (ji7) 2))) % 256]) := ⟨_, rfl⟩
   replace H : (spec_digits.l0 k1 a0 y116 (wrap64 (x6_1 - 1))) = some r := rY hy116 H
   have Ny116 := aM hy116
   clear hy116
   have H' := aM H
   clear H
   go_wp2_with (first | ((with_reducible refine gate_builtin (b := .append) (xs := #[.tmp 14, .tmp 21]) rfl ?_); at_builtin; refine Kd.R_append (Kd.int .u8) (w0 := w) w.heap.size rfl (.tmp 14) (.tmp 21) 27 5 (.int .u8 0) 1 rfl Try.underlying27 info5 rfl (by decide) (by omega) u5 x5_1 ((wrap64 (48 + (Int.tmod (ji7) 2))) % 256) [.int .u8 ((wrap64 (48 + (Int.tmod (ji7) 2))) % 256)] (fun _ => True) (fun _ => False) rfl rfl ?aP (fun _ hk => hk.elim) ?aF ?aO ?aB ?aS ?aL ?_; (case aP => exact rfl); (case aB => exact (qW HB.out)); (case aF => exact (fun _ _ => trivial)); (case aO => exact (qR HO_5.out)); (case aS => exact (below_size (qW HB.out))); (case aL => have := LMc8.out; omega); intro v117 w9 ho hb hg hat; rw [← Ny116.out] at ho; replace HB := aM (hb); have HO118 := aM (ho); clear HO_5; clear ho hb hg hat))
   go_roundg k1
   case measure => have := HK1.out; omega
   case rel => exact ⟨(y116), (wrap64 (x6_1 - 1)), qE, H', ⟨by have := HK1.out; omega⟩, ⟨by refine qR ?_; exact HO118.out⟩, ⟨by exact qW HB.out⟩⟩
def spec_encodeSymbols.l0 : Nat → List Int → List Int → ByteArray → List Int → Int → Option (ByteArray × Bool)
 | 0, _, _, _, _, _ => none
 | k + 1, x0, x1, x6, x7, x8 => if x8 < (x0.length : Int) then (if 0 ≤ x8 then ((spec_inRange.f (rd x0 x8) 0 (wrap64 ((x1.length : Int) - 1))).bind fun t123 => (if t123 = true then (if 0 ≤ (rd x0 x8) then (if (rd x0 x8) < (x1.length : Int) then (if (rd x1 (rd x0 x8)) = 0 then (some ((⟨#[]⟩ : ByteArray), false)) else (if (rd x0 x8) < (x7.length : Int) then ((spec_digits.f k (rd x7 (rd x0 x8)) (rd x1 (rd x0 x8))).bind fun t130 => (if x6.size + t130.size ≤ 9223372036854775807 then (spec_encodeSymbols.l0 k x0 x1 (x6 ++ t130) x7 (wrap64 (x8 + 1))) else (none))) else (none))) else (none)) else (none)) else (some ((⟨#[]⟩ : ByteArray), false)))) else (none)) else (some (x6, true))
def spec_encodeSymbols.f (k : Nat) (l0 : List Int) (l1 : List Int) : Option (ByteArray × Bool) := (spec_canonicalCodes.f k l1).bind fun t119 => (spec_encodeSymbols.l0 k l0 l1 (⟨#[]⟩ : ByteArray) t119 0)
theorem spec_encodeSymbols.mono_l : ∀ k, (∀ y0 y1 y2 y3 y4, LeO (spec_encodeSymbols.l0 k y0 y1 y2 y3 y4) (spec_encodeSymbols.l0 (k + 1) y0 y1 y2 y3 y4))
 | 0 => fun _ _ _ _ _ r h => by simp [spec_encodeSymbols.l0] at h
 | k + 1 => by
  have ih0 := spec_encodeSymbols.mono_l k
  ·intro y0 y1 y2 y3 y4
   unfold spec_encodeSymbols.l0
   repeat' first | (with_reducible first | exact ih0 _ _ _ _ _ | exact spec_canonicalCodes.mono _ _ | exact spec_digits.mono _ _ _ | exact lR | exact lN | refine lI ?_ ?_ | refine lB ?_ fun _ => ?_) | exact ih0 _ _ _ _ _ | exact spec_canonicalCodes.mono _ _ | exact spec_digits.mono _ _ _ | exact lN | refine lI ?_ ?_ | refine lB ?_ fun _ => ?_
theorem spec_encodeSymbols.mono : ∀ a0 a1 k, LeO (spec_encodeSymbols.f k a0 a1) (spec_encodeSymbols.f (k + 1) a0 a1) := by
 intro a0 a1 k
 have ih0 := spec_encodeSymbols.mono_l k
 unfold spec_encodeSymbols.f
 repeat' first | (with_reducible first | exact ih0 _ _ _ _ _ | exact spec_canonicalCodes.mono _ _ | exact spec_digits.mono _ _ _ | exact lR | exact lN | refine lI ?_ ?_ | refine lB ?_ fun _ => ?_) | exact ih0 _ _ _ _ _ | exact spec_canonicalCodes.mono _ _ | exact spec_digits.mono _ _ _ | exact lN | refine lI ?_ ?_ | refine lB ?_ fun _ => ?_
def spec_encodeSymbols.T8 : Bool × List (List Nat × List Nat) := (true, [([], []), ([], []), ([], []), ([], []), ([2, 3], [2, 3]), ([4], [4]), ([1, 5], [1, 5]), ([6], [6]), ([], []), ([], []), ([], []), ([9, 10], [9, 10]), ([11], [11]), ([8, 12], [8, 12]), ([13], [13]), ([7, 14], [7, 14]), ([0, 15], [0, 15]), ([16, 15, 0, 1, 2, 3, 4, 5, 6, 7, 8, 9, 10, 11, 12, 13, 14, 15, 16], [0, 16])])
def spec_encodeSymbols.B8 : List Nat := [0, 0, 0, 0, 12, 28, 62, 126, 0, 0, 0, 1536, 3584, 7936, 16128, 32766, 65535, 131071]
theorem spec_encodeSymbols.tab8 : rtab .any (opsOf Try.f31 8) = spec_encodeSymbols.T8 := by kernel_rfl
theorem spec_encodeSymbols.bits8 : waitsOk spec_encodeSymbols.T8.2 spec_encodeSymbols.B8 = true := by kernel_rfl
set_option maxHeartbeats 8000000 in
set_option maxRecDepth 100000 in
theorem spec_encodeSymbols.calls (k : Nat) (A0 : Option Addr) (c0 : Nat) (l0 : List Int) (A1 : Option Addr) (c1 : Nat) (l1 : List Int) (r1 : ByteArray) (r2 : Bool) (w : World) (hr0 : Kd.C (Kd.int .i64) w A0 l0.length l0) (hc0 : l0.length ≤ c0) (hr1 : Kd.C (Kd.int .i64) w A1 l1.length l1) (hc1 : l1.length ≤ c1) (h : spec_encodeSymbols.f k l0 l1 = some (r1, r2)) :
  Calls Try.prog 31 #[.slice A0 l0.length c0, .slice A1 l1.length c1] w fun e w' => e = .returned (.tuple #[.string r1, .bool r2]) ∧ Below w.heap.size w w' := by
 have HR0 := aM hr0
 have HC0 := aM hc0
 clear hr0 hc0
 have HR1 := aM hr1
 have HC1 := aM hc1
 clear hr1 hc1
 have HB := aM (Below.refl w.heap.size w)
 unfold spec_encodeSymbols.f at h
 have H := h
 clear h
 replace H := Option.bind_eq_some_iff.mp H
 obtain ⟨t119, A30, H⟩ := H
 replace H : (spec_encodeSymbols.l0 k l0 l1 (⟨#[]⟩ : ByteArray) t119 0) = some (r1, r2) := H
 have A3 := aM A30
 clear A30
 have H' := aM H
 clear H
 go_enter Try.func31, Try.ntmps31
 go_wp2_with (first | ((with_reducible refine gate_callee (f := 38) rfl ?_); refine gL (some 10) Try.func38 #[.slice A1 l1.length c1] ?_; (with_reducible refine (spec_canonicalCodes.calls k _ _ l1 t119 _ ?side1 ?side2 A3.out).mono ?_); (case side1 => exact qC HR1.out); (case side2 => exact HC1.out); rintro e w4 ⟨v120, rfl, ho0, hb⟩; refine ⟨_, rfl, ?_⟩; have HO121 := oR ho0 HB; replace HB := bS HB hb; clear hb ho0))
 go_loopg [6, 8] k (fun kq v6 v8 w' => ∃ (x6_1 : ByteArray) (x8_1 : Int), v6 = .string x6_1 ∧ v8 = .int .i64 x8_1 ∧ Aside0 (spec_encodeSymbols.l0 kq l0 l1 x6_1 t119 x8_1 = some (r1, r2)) ∧ Aside0 (kq ≤ k) ∧ Aside0 (Kd.R (Kd.int .i64) 3 w' w.heap.size (fun _ => True) v120 t119) ∧ Aside0 (Below w.heap.size w w'))
 case atStart => exact ⟨((⟨#[]⟩ : ByteArray)), (0), qE, qE, H', ⟨Nat.le_refl _⟩, ⟨by refine qR ?_; exact HO121.out⟩, ⟨by exact qW HB.out⟩⟩
 case round =>
  clear H'
  try clear c1
  obtain ⟨x6_1, x8_1, rfl, rfl, HA, HK1, HO_7, HB⟩ := hrel
  cases gk with
  | zero => exact absurd HA.out (by simp [spec_encodeSymbols.l0])
  | succ k1 =>
   have H := HA.out
   clear HA
   simp only [spec_encodeSymbols.l0] at H
   by_cases c5 : x8_1 < (l0.length : Int)
   rotate_left
   ·rw [if_neg c5] at H
    have c5b0 : decide (x8_1 < (l0.length : Int)) = false := decide_eq_false c5
    clear c5
    simp only [Option.some.injEq, Prod.mk.injEq] at H
    obtain ⟨rfl, rfl⟩ := H
    go_wp2
    go_ret2
    exact ⟨qX, by exact qW HB.out⟩
   rw [if_pos c5] at H
   have c5b0 : decide (x8_1 < (l0.length : Int)) = true := decide_eq_true c5
   clear c5
   replace H := iD H
   obtain ⟨c6b0, H⟩ := H
   replace H := Option.bind_eq_some_iff.mp H
   obtain ⟨t123, A70, H⟩ := H
   replace H : (if t123 = true then (if 0 ≤ (rd l0 x8_1) then (if (rd l0 x8_1) < (l1.length : Int) then (if (rd l1 (rd l0 x8_1)) = 0 then (some ((⟨#[]⟩ : ByteArray), false)) else (if (rd l0 x8_1) < (t119.length : Int) then ((spec_digits.f k1 (rd t119 (rd l0 x8_1)) (rd l1 (rd l0 x8_1))).bind fun t130 => (if x6_1.size + t130.size ≤ 9223372036854775807 then (spec_encodeSymbols.l0 k1 l0 l1 (x6_1 ++ t130) t119 (wrap64 (x8_1 + 1))) else (none))) else (none))) else (none)) else (none)) else (some ((⟨#[]⟩ : ByteArray), false))) = some (r1, r2) := H
   have A7 := aM A70
   clear A70
   by_cases c8 : t123 = true
   rotate_left
   ·replace c8 := Bool.eq_false_iff.mpr c8
    subst c8
    have H1 : (some ((⟨#[]⟩ : ByteArray), false)) = some (r1, r2) := by rw [if_neg (show ¬ (false = true) by decide)] at H; exact H
    clear H
    have H := H1
    clear H1
    simp only [Option.some.injEq, Prod.mk.injEq] at H
    obtain ⟨rfl, rfl⟩ := H
    obtain ⟨ad122, e122, hx122_0⟩ := Kd.at_int HR0.out x8_1 oD oD
    cases e122
    replace hx122_0 := bD HB hx122_0
    have p122 := eq_true (oD : 0 ≤ (x8_1 : Int))
    have q122 := eq_true (oD : x8_1 < (l0.length : Int))
    go_wp2_with (first | ((with_reducible refine gate_callee (f := 47) rfl ?_); refine gL (some 24) Try.func47 #[.int .i64 (rd l0 x8_1), .int .i64 0, .int .i64 (wrap64 ((l1.length : Int) - 1))] ?_; (with_reducible refine (spec_inRange.calls (rd l0 x8_1) 0 (wrap64 ((l1.length : Int) - 1)) false _ A7.out).mono ?_); rintro e w' ⟨rfl, ⟨nd, rfl⟩⟩; refine ⟨_, rfl, ?_⟩))
    go_ret2
    exact ⟨qX, by exact qW HB.out⟩
   subst c8
   have H1 : (if 0 ≤ (rd l0 x8_1) then (if (rd l0 x8_1) < (l1.length : Int) then (if (rd l1 (rd l0 x8_1)) = 0 then (some ((⟨#[]⟩ : ByteArray), false)) else (if (rd l0 x8_1) < (t119.length : Int) then ((spec_digits.f k1 (rd t119 (rd l0 x8_1)) (rd l1 (rd l0 x8_1))).bind fun t130 => (if x6_1.size + t130.size ≤ 9223372036854775807 then (spec_encodeSymbols.l0 k1 l0 l1 (x6_1 ++ t130) t119 (wrap64 (x8_1 + 1))) else (none))) else (none))) else (none)) else (none)) = some (r1, r2) := by rw [if_pos rfl] at H; exact H
   clear H
   have H := H1
   clear H1
   replace H := iD H
   obtain ⟨c9b0, H⟩ := H
   replace H := iD H
   obtain ⟨c10b0, H⟩ := H
   by_cases c11 : (rd l1 (rd l0 x8_1)) = 0
   ·rw [if_pos c11] at H
    have c11b0 : ((rd l1 (rd l0 x8_1)) == 0) = true := beq_iff_eq.mpr c11
    have c11b1 : ((rd l1 (rd l0 x8_1)) != 0) = false := bne_eq_false_iff_eq.mpr c11
    clear c11
    simp only [Option.some.injEq, Prod.mk.injEq] at H
    obtain ⟨rfl, rfl⟩ := H
    obtain ⟨ad122, e122, hx122_0⟩ := Kd.at_int HR0.out x8_1 oD oD
    cases e122
    replace hx122_0 := bD HB hx122_0
    have p122 := eq_true (oD : 0 ≤ (x8_1 : Int))
    have q122 := eq_true (oD : x8_1 < (l0.length : Int))
    go_wp2_with (first | ((with_reducible refine gate_callee (f := 47) rfl ?_); refine gL (some 24) Try.func47 #[.int .i64 (rd l0 x8_1), .int .i64 0, .int .i64 (wrap64 ((l1.length : Int) - 1))] ?_; (with_reducible refine (spec_inRange.calls (rd l0 x8_1) 0 (wrap64 ((l1.length : Int) - 1)) true _ A7.out).mono ?_); rintro e w' ⟨rfl, ⟨nd, rfl⟩⟩; refine ⟨_, rfl, ?_⟩; have p124 : 0 ≤ (x8_1 : Int) := oD; have q124 : x8_1 < (l0.length : Int) := oD; obtain ⟨ad124, e124, hx124_0⟩ := Kd.at_int HR0.out x8_1 p124 q124; obtain rfl : ad122 = ad124 := (by injection e124); replace hx124_0 := bD HB hx124_0; replace p124 := eq_true p124; replace q124 := eq_true q124; have p125 : 0 ≤ ((rd l0 x8_1) : Int) := oD; have q125 : (rd l0 x8_1) < (l1.length : Int) := oD; obtain ⟨ad125, e125, hx125_0⟩ := Kd.at_int HR1.out (rd l0 x8_1) p125 q125; cases e125; replace hx125_0 := bD HB hx125_0; replace p125 := eq_true p125; replace q125 := eq_true q125))
    go_ret2
    exact ⟨qX, by exact qW HB.out⟩
   rw [if_neg c11] at H
   have c11b0 : ((rd l1 (rd l0 x8_1)) == 0) = false := beq_eq_false_iff_ne.mpr c11
   have c11b1 : ((rd l1 (rd l0 x8_1)) != 0) = true := bne_iff_ne.mpr c11
   replace H := iD H
   obtain ⟨c12b0, H⟩ := H
   replace H := Option.bind_eq_some_iff.mp H
   obtain ⟨t130, A130, H⟩ := H
   replace H : (if x6_1.size + t130.size ≤ 9223372036854775807 then (spec_encodeSymbols.l0 k1 l0 l1 (x6_1 ++ t130) t119 (wrap64 (x8_1 + 1))) else (none)) = some (r1, r2) := H
   have A13 := aM A130
   clear A130
   replace H := iS H
   obtain ⟨c14, H⟩ := H
   have c14b0 := eq_true c14
   have c14b1 : decide (x6_1.size + t130.size ≤ 9223372036854775807) = true := decide_eq_true c14
   try have c14b2 : (9223372036854775807 < x6_1.size + t130.size) = False := eq_false (Nat.not_lt.2 c14)
   have H' := aM H
   clear H
   obtain ⟨ad122, e122, hx122_0⟩ := Kd.at_int HR0.out x8_1 oD oD
   cases e122
   replace hx122_0 := bD HB hx122_0
   have p122 := eq_true (oD : 0 ≤ (x8_1 : Int))
   have q122 := eq_true (oD : x8_1 < (l0.length : Int))
   try go_wp2_with (first | ((with_reducible refine gate_callee (f := 47) rfl ?_); refine gL (some 24) Try.func47 #[.int .i64 (rd l0 x8_1), .int .i64 0, .int .i64 (wrap64 ((l1.length : Int) - 1))] ?_; (with_reducible refine (spec_inRange.calls (rd l0 x8_1) 0 (wrap64 ((l1.length : Int) - 1)) true _ A7.out).mono ?_); rintro e w' ⟨rfl, ⟨nd, rfl⟩⟩; refine ⟨_, rfl, ?_⟩; have p124 : 0 ≤ (x8_1 : Int) := oD; have q124 : x8_1 < (l0.length : Int) := oD; obtain ⟨ad124, e124, hx124_0⟩ := Kd.at_int HR0.out x8_1 p124 q124; obtain rfl : ad122 = ad124 := (by injection e124); replace hx124_0 := bD HB hx124_0; replace p124 := eq_true p124; replace q124 := eq_true q124; have p125 : 0 ≤ ((rd l0 x8_1) : Int) := oD; have q125 : (rd l0 x8_1) < (l1.length : Int) := oD; obtain ⟨ad125, e125, hx125_0⟩ := Kd.at_int HR1.out (rd l0 x8_1) p125 q125; cases e125; replace hx125_0 := bD HB hx125_0; replace p125 := eq_true p125; replace q125 := eq_true q125))
   (try (rw [drewN_self wr]; generalize hq_ : World.drewN wr _ = wr; replace HO_7 : Aside0 (Kd.R (Kd.int .i64) 3 wr w.heap.size (fun _ => True) v120 t119) := ⟨by rw [← hq_]; exact (qR HO_7.out)⟩; replace HB : Aside0 (Below w.heap.size w wr) := ⟨by rw [← hq_]; exact (qW HB.out)⟩; clear hq_))
   replace HO_7 := aM (Kd.R_drew HO_7.out)
   replace HB := aM (below_drew1 HB.out)
   obtain ⟨ad126, e126, hx126_0⟩ := Kd.at_int HR0.out x8_1 oD oD
   have hw126_0 := hx126_0
   obtain rfl : ad122 = ad126 := (by injection e126)
   replace hx126_0 := bD HB hx126_0
   have p126 := eq_true (oD : 0 ≤ (x8_1 : Int))
   have q126 := eq_true (oD : x8_1 < (l0.length : Int))
   obtain ⟨Ao16, co16, eo16⟩ := Kd.R_slice HO_7.out
   (first | subst eo16 | (injection eo16 with f1_ f2_ f3_; have f4_ := f1_.symm; have f5_ := f3_.symm; clear f1_ f2_ f3_; subst f4_; subst f5_))
   obtain ⟨ad127, e127, hx127_0⟩ := Kd.at_int (Kd.R_reads' HO_7.out).2.2 (rd l0 x8_1) oD oD
   cases e127
   have p127 := eq_true (oD : 0 ≤ ((rd l0 x8_1) : Int))
   have q127 := eq_true (oD : (rd l0 x8_1) < (t119.length : Int))
   obtain ⟨ad128, e128, hx128_0⟩ := Kd.at_int HR0.out x8_1 oD oD
   have hw128_0 := hx128_0
   obtain rfl : ad122 = ad128 := (by injection e128)
   replace hx128_0 := bD HB hx128_0
   have p128 := eq_true (oD : 0 ≤ (x8_1 : Int))
   have q128 := eq_true (oD : x8_1 < (l0.length : Int))
   obtain ⟨ad129, e129, hx129_0⟩ := Kd.at_int HR1.out (rd l0 x8_1) oD oD
   have hw129_0 := hx129_0
   obtain rfl : ad125 = ad129 := (by injection e129)
   replace hx129_0 := bD HB hx129_0
   have p129 := eq_true (oD : 0 ≤ ((rd l0 x8_1) : Int))
   have q129 := eq_true (oD : (rd l0 x8_1) < (l1.length : Int))
   refine start_ (n := 18) (S := fun w' => w'.cell? (ad122.add (x8_1).toNat) = some (.int .i64 (rd l0 x8_1)) ∧ w'.cell? (ad127.add ((rd l0 x8_1)).toNat) = some (.int .i64 (rd t119 (rd l0 x8_1))) ∧ w'.cell? (ad122.add (x8_1).toNat) = some (.int .i64 (rd l0 x8_1)) ∧ w'.cell? (ad125.add ((rd l0 x8_1)).toNat) = some (.int .i64 (rd l1 (rd l0 x8_1)))) (ds := []) (bA 18 0) (by kernel_rfl) rfl rfl ⟨(bC HB hw126_0), hx127_0, (bC HB hw128_0), (bC HB hw129_0)⟩ (fun hHeld => ?_); refine with_tabW spec_encodeSymbols.tab8 spec_encodeSymbols.bits8 (fun HT_ HW_ => ?_)
   generalize wr.drew = w15 at HO_7 HB hx126_0 hx127_0 hx128_0 hx129_0 hHeld ⊢
   refine pQ 0 36 HT_ (bA 18 1) ?_
   refine pQ 1 37 HT_ (bA 18 3) ?_
   refine pQ 2 38 HT_ (bA 18 7) ?_
   refine pQ 3 39 HT_ (bA 18 15) ?_
   refine pQ 4 40 HT_ (bA 18 31) ?_
   refine pQ 8 44 HT_ (bA 18 287) ?_
   refine pQ 9 45 HT_ (bA 18 799) ?_
   refine pQ 10 46 HT_ (bA 18 1823) ?_
   refine pQ 11 47 HT_ (bA 18 3871) ?_
   refine take_ (i := 5) (N := some 41) (v := ?_) (a' := ?_) (bA 18 3903) rfl rfl (take_ofW HT_.out HW_.out (by kernel_rfl)) (fun _ _ _ h => h) (Or.inl ⟨by rfl, ?_⟩) hHeld ?_ ?_
   rotate_left
   ·rintro w' ⟨s0, s1, s2, s3⟩
    go_simp
    with_reducible rfl
   rotate_left
   ·refine pZ ?_
    rfl
   refine pQ 6 42 HT_ (bA 18 3967) ?_
   refine take_ (i := 7) (N := some 43) (v := ?_) (a' := ?_) (bA 18 4095) rfl rfl (take_ofW HT_.out HW_.out (by kernel_rfl)) (fun _ _ _ h => h) (Or.inl ⟨by rfl, ?_⟩) hHeld ?_ ?_
   rotate_left
   ·rintro w' ⟨s0, s1, s2, s3⟩
    go_simp
    with_reducible rfl
   rotate_left
   ·refine pZ ?_
    rfl
   refine take_ (i := 12) (N := some 48) (v := ?_) (a' := ?_) (bA 18 8191) rfl rfl (take_ofW HT_.out HW_.out (by kernel_rfl)) (fun _ _ _ h => h) (Or.inl ⟨by rfl, ?_⟩) hHeld ?_ ?_
   rotate_left
   ·rintro w' ⟨s0, s1, s2, s3⟩
    go_simp
    with_reducible rfl
   rotate_left
   ·refine pZ ?_
    rfl
   refine pQ 13 49 HT_ (bA 18 16383) ?_
   refine take_ (i := 14) (N := some 50) (v := ?_) (a' := ?_) (bA 18 32767) rfl rfl (take_ofW HT_.out HW_.out (by kernel_rfl)) (fun _ _ _ h => h) (Or.inl ⟨by rfl, ?_⟩) hHeld ?_ ?_
   rotate_left
   ·rintro w' ⟨s0, s1, s2, s3⟩
    go_simp
    with_reducible rfl
   rotate_left
   ·refine pZ ?_
    rfl
   refine one_ (i := 15) (N := some 51) (bA 18 65535) rfl rfl (one_of HT_.out (by kernel_rfl)) (by decide) (fun K hK => ?_)
   refine goes_ Try.func50 (by kernel_rfl) rfl #[.int .i64 (rd t119 (rd l0 x8_1)), .int .i64 (rd l1 (rd l0 x8_1))] (by rfl) rfl rfl qM ?_
   with_reducible refine (spec_digits.calls k1 (rd t119 (rd l0 x8_1)) (rd l1 (rd l0 x8_1)) t130 _ A13.out).mono ?_
   rintro e w17 ⟨rfl, hb⟩
   have HS1_ := (hb.cell (World.block_lt_of_cell? _ _ (hHeld.2.1))).trans (hHeld.2.1)
   refine ⟨_, rfl, ?_⟩
   replace HO_7 := aM (Kd.R_below (qR HO_7.out) hb)
   replace HB := bS HB hb
   (try clear hb)
   (try clear hb2)
   (try clear hk)
   (try clear hi)
   refine hK.out _ _ ⟨(bC HB hw126_0), HS1_, (bC HB hw128_0), (bC HB hw129_0)⟩ (fun hHeld => ?_)
   clear hK K
   refine norm_ (a' := ?_) ?_ ?_
   rotate_left
   ·show Act.put _ (some 51) _ = _
    refine pZ ?_
    rfl
   refine pQ 16 52 HT_ (bA 18 131071) ?_
   refine pQ 17 6 HT_ (bA 18 262143) ?_
   refine done_ (done_of HT_.out (by kernel_rfl)) ?_
   try go_wp2
   go_roundg k1
   case measure => have := HK1.out; omega
   case rel => exact ⟨(x6_1 ++ t130), (wrap64 (x8_1 + 1)), qE, qE, H', ⟨by have := HK1.out; omega⟩, ⟨by refine qR ?_; exact HO_7.out⟩, ⟨by exact qW HB.out⟩⟩
def spec_EncodeSymbols.f (k : Nat) (l0 : List Int) (l1 : List Int) : Option (ByteArray × Bool) := (spec_validLengths.f k l1).bind fun t131 => (if t131 = true then (if (l0.length : Int) > 1200 then (some ((⟨#[]⟩ : ByteArray), false)) else ((spec_encodeSymbols.f k l0 l1).bind fun bt132 => (some (bt132.1, bt132.2)))) else (some ((⟨#[]⟩ : ByteArray), false)))
theorem spec_EncodeSymbols.mono : ∀ a0 a1 k, LeO (spec_EncodeSymbols.f k a0 a1) (spec_EncodeSymbols.f (k + 1) a0 a1) := by
 intro a0 a1 k
 unfold spec_EncodeSymbols.f
 repeat' first | (with_reducible first | exact spec_encodeSymbols.mono _ _ _ | exact spec_validLengths.mono _ _ | exact lR | exact lN | refine lI ?_ ?_ | refine lB ?_ fun _ => ?_) | exact spec_encodeSymbols.mono _ _ _ | exact spec_validLengths.mono _ _ | exact lN | refine lI ?_ ?_ | refine lB ?_ fun _ => ?_
set_option maxHeartbeats 8000000 in
set_option maxRecDepth 100000 in
theorem spec_EncodeSymbols.calls (k : Nat) (A0 : Option Addr) (c0 : Nat) (l0 : List Int) (A1 : Option Addr) (c1 : Nat) (l1 : List Int) (r1 : ByteArray) (r2 : Bool) (w : World) (hr0 : Kd.C (Kd.int .i64) w A0 l0.length l0) (hc0 : l0.length ≤ c0) (hr1 : Kd.C (Kd.int .i64) w A1 l1.length l1) (hc1 : l1.length ≤ c1) (h : spec_EncodeSymbols.f k l0 l1 = some (r1, r2)) :
  Calls Try.prog 13 #[.slice A0 l0.length c0, .slice A1 l1.length c1] w fun e w' => e = .returned (.tuple #[.string r1, .bool r2]) ∧ Below w.heap.size w w' := by
 have HR0 := aM hr0
 have HC0 := aM hc0
 clear hr0 hc0
 have HR1 := aM hr1
 have HC1 := aM hc1
 clear hr1 hc1
 have HB := aM (Below.refl w.heap.size w)
 unfold spec_EncodeSymbols.f at h
 have H := h
 clear h
 replace H := Option.bind_eq_some_iff.mp H
 obtain ⟨t131, A30, H⟩ := H
 replace H : (if t131 = true then (if (l0.length : Int) > 1200 then (some ((⟨#[]⟩ : ByteArray), false)) else ((spec_encodeSymbols.f k l0 l1).bind fun bt132 => (some (bt132.1, bt132.2)))) else (some ((⟨#[]⟩ : ByteArray), false))) = some (r1, r2) := H
 have A3 := aM A30
 clear A30
 by_cases c4 : t131 = true
 rotate_left
 ·replace c4 := Bool.eq_false_iff.mpr c4
  subst c4
  have H1 : (some ((⟨#[]⟩ : ByteArray), false)) = some (r1, r2) := by rw [if_neg (show ¬ (false = true) by decide)] at H; exact H
  clear H
  have H := H1
  clear H1
  simp only [Option.some.injEq, Prod.mk.injEq] at H
  obtain ⟨rfl, rfl⟩ := H
  go_enter Try.func13, Try.ntmps13
  go_wp2_with (first | ((with_reducible refine gate_callee (f := 30) rfl ?_); refine gL (some 7) Try.func30 #[.slice A1 l1.length c1] ?_; (with_reducible refine (spec_validLengths.calls k _ _ l1 false _ ?side1 ?side2 A3.out).mono ?_); (case side1 => exact qC HR1.out); (case side2 => exact HC1.out); rintro e w' ⟨rfl, ⟨nd, rfl⟩⟩; refine ⟨_, rfl, ?_⟩))
  go_ret2
  exact ⟨qX, by exact qW HB.out⟩
 subst c4
 have H1 : (if (l0.length : Int) > 1200 then (some ((⟨#[]⟩ : ByteArray), false)) else ((spec_encodeSymbols.f k l0 l1).bind fun bt132 => (some (bt132.1, bt132.2)))) = some (r1, r2) := by rw [if_pos rfl] at H; exact H
 clear H
 have H := H1
 clear H1
 by_cases c5 : (l0.length : Int) > 1200
 ·rw [if_pos c5] at H
  have c5b0 : decide (1200 < (l0.length : Int)) = true := decide_eq_true c5
  have c5b1 : decide (1200 < l0.length) = true := decide_eq_true (by omega)
  clear c5
  simp only [Option.some.injEq, Prod.mk.injEq] at H
  obtain ⟨rfl, rfl⟩ := H
  go_enter Try.func13, Try.ntmps13
  go_wp2_with (first | ((with_reducible refine gate_callee (f := 30) rfl ?_); refine gL (some 7) Try.func30 #[.slice A1 l1.length c1] ?_; (with_reducible refine (spec_validLengths.calls k _ _ l1 true _ ?side1 ?side2 A3.out).mono ?_); (case side1 => exact qC HR1.out); (case side2 => exact HC1.out); rintro e w' ⟨rfl, ⟨nd, rfl⟩⟩; refine ⟨_, rfl, ?_⟩))
  go_ret2
  exact ⟨qX, by exact qW HB.out⟩
 rw [if_neg c5] at H
 have c5b0 : decide (1200 < (l0.length : Int)) = false := decide_eq_false c5
 have c5b1 : decide (1200 < l0.length) = false := decide_eq_false (by omega)
 clear c5
 replace H := Option.bind_eq_some_iff.mp H
 obtain ⟨⟨t132, t133⟩, A60, H⟩ := H
 replace H : (some (t132, t133)) = some (r1, r2) := H
 have A6 := aM A60
 clear A60
 simp only [Option.some.injEq, Prod.mk.injEq] at H
 obtain ⟨rfl, rfl⟩ := H
 go_enter Try.func13, Try.ntmps13
 go_wp2_with (first | ((with_reducible refine gate_callee (f := 30) rfl ?_); refine gL (some 7) Try.func30 #[.slice A1 l1.length c1] ?_; (with_reducible refine (spec_validLengths.calls k _ _ l1 true _ ?side1 ?side2 A3.out).mono ?_); (case side1 => exact qC HR1.out); (case side2 => exact HC1.out); rintro e w' ⟨rfl, ⟨nd, rfl⟩⟩; refine ⟨_, rfl, ?_⟩) | ((with_reducible refine gate_callee (f := 31) rfl ?_); refine gL (some 16) Try.func31 #[.slice A0 l0.length c0, .slice A1 l1.length c1] ?_; (with_reducible refine (spec_encodeSymbols.calls k _ _ l0 _ _ l1 t132 t133 _ ?side1 ?side2 ?side3 ?side4 A6.out).mono ?_); (case side1 => exact qC HR0.out); (case side2 => exact HC0.out); (case side3 => exact qC HR1.out); (case side4 => exact HC1.out); rintro e w7 ⟨rfl, hb⟩; refine ⟨_, rfl, ?_⟩; replace HB := bS HB hb; clear hb))
 go_ret2
 exact ⟨qX, by exact qW HB.out⟩
mutual
def impl_EncodeSymbols.j0 : Nat → List Int → List Int → List Int → Bool → Option (ByteArray × Bool)
 | 0, _, _, _, _ => none
 | k + 1, x0, x1, x6, x23 => if x23 = true then (some ((⟨#[]⟩ : ByteArray), false)) else (impl_EncodeSymbols.l0 k x1 x6 (([] : List Int)) x0 (x0.length : Int) 0)
def impl_EncodeSymbols.l0 : Nat → List Int → List Int → List Int → List Int → Int → Int → Option (ByteArray × Bool)
 | 0, _, _, _, _, _, _ => none
 | k + 1, x1, x6, x8, x25, x26, x27 => if x27 < x26 then (if 0 ≤ x27 then (if x27 < (x25.length : Int) then (if (rd x25 x27) < 0 then (impl_EncodeSymbols.j2 k x1 x6 x8 (rd x25 x27) x25 x26 x27 true) else (if (rd x25 x27) ≥ (x1.length : Int) then (impl_EncodeSymbols.j2 k x1 x6 x8 (rd x25 x27) x25 x26 x27 true) else (if 0 ≤ (rd x25 x27) then (if (rd x25 x27) < (x1.length : Int) then (impl_EncodeSymbols.j2 k x1 x6 x8 (rd x25 x27) x25 x26 x27 ((rd x1 (rd x25 x27)) == 0)) else (none)) else (none)))) else (none)) else (none)) else (some (strOfNums x8, true))
def impl_EncodeSymbols.j2 : Nat → List Int → List Int → List Int → Int → List Int → Int → Int → Bool → Option (ByteArray × Bool)
 | 0, _, _, _, _, _, _, _, _ => none
 | k + 1, x1, x6, x8, x10, x25, x26, x27, x45 => if x45 = true then (some ((⟨#[]⟩ : ByteArray), false)) else (if 0 ≤ x10 then (if x10 < (x1.length : Int) then (impl_EncodeSymbols.l1 k x1 x6 x8 x10 (wrap64 ((rd x1 x10) - 1)) x25 x26 x27) else (none)) else (none))
def impl_EncodeSymbols.l1 : Nat → List Int → List Int → List Int → Int → Int → List Int → Int → Int → Option (ByteArray × Bool)
 | 0, _, _, _, _, _, _, _, _ => none
 | k + 1, x1, x6, x8, x10, x11, x25, x26, x27 => if x11 ≥ 0 then (if 0 ≤ x10 then (if x10 < (x6.length : Int) then (if 0 ≤ x11 then (if x8.length < 140737488355328 then (impl_EncodeSymbols.l1 k x1 x6 (x8 ++ [(wrap64 (48 + (Go.bits .and .i64 (shr .i64 (rd x6 x10) x11) 1))) % 256]) x10 (wrap64 (x11 - 1)) x25 x26 x27) else (none)) else (none)) else (none)) else (none)) else (impl_EncodeSymbols.l0 k x1 x6 x8 x25 x26 (wrap64 (x27 + 1)))
end
def impl_EncodeSymbols.f (k : Nat) (l0 : List Int) (l1 : List Int) : Option (ByteArray × Bool) := (impl_canonical.f k l1).bind fun bt151 => (if bt151.2 = true then (impl_EncodeSymbols.j0 k l0 l1 bt151.1 (decide ((l0.length : Int) > 1200))) else (impl_EncodeSymbols.j0 k l0 l1 bt151.1 true))
theorem impl_EncodeSymbols.mono_l : ∀ k, (∀ y0 y1 y2 y3, LeO (impl_EncodeSymbols.j0 k y0 y1 y2 y3) (impl_EncodeSymbols.j0 (k + 1) y0 y1 y2 y3)) ∧ (∀ y0 y1 y2 y3 y4 y5, LeO (impl_EncodeSymbols.l0 k y0 y1 y2 y3 y4 y5) (impl_EncodeSymbols.l0 (k + 1) y0 y1 y2 y3 y4 y5)) ∧ (∀ y0 y1 y2 y3 y4 y5 y6 y7, LeO (impl_EncodeSymbols.j2 k y0 y1 y2 y3 y4 y5 y6 y7) (impl_EncodeSymbols.j2 (k + 1) y0 y1 y2 y3 y4 y5 y6 y7)) ∧ (∀ y0 y1 y2 y3 y4 y5 y6 y7, LeO (impl_EncodeSymbols.l1 k y0 y1 y2 y3 y4 y5 y6 y7) (impl_EncodeSymbols.l1 (k + 1) y0 y1 y2 y3 y4 y5 y6 y7))
 | 0 => ⟨fun _ _ _ _ r h => by simp [impl_EncodeSymbols.j0] at h, fun _ _ _ _ _ _ r h => by simp [impl_EncodeSymbols.l0] at h, fun _ _ _ _ _ _ _ _ r h => by simp [impl_EncodeSymbols.j2] at h, fun _ _ _ _ _ _ _ _ r h => by simp [impl_EncodeSymbols.l1] at h⟩
 | k + 1 => by
  obtain ⟨ih0, ih1, ih2, ih3⟩ := impl_EncodeSymbols.mono_l k
  refine ⟨?_, ?_, ?_, ?_⟩
  all_goals intros
  all_goals first | unfold impl_EncodeSymbols.j0 | unfold impl_EncodeSymbols.l0 | unfold impl_EncodeSymbols.j2 | unfold impl_EncodeSymbols.l1
  all_goals repeat' first | (with_reducible first | exact ih0 _ _ _ _ | exact ih1 _ _ _ _ _ _ | exact ih2 _ _ _ _ _ _ _ _ | exact ih3 _ _ _ _ _ _ _ _ | exact impl_canonical.mono _ _ | exact lR | exact lN | refine lI ?_ ?_ | refine lB ?_ fun _ => ?_) | exact ih0 _ _ _ _ | exact ih1 _ _ _ _ _ _ | exact ih2 _ _ _ _ _ _ _ _ | exact ih3 _ _ _ _ _ _ _ _ | exact impl_canonical.mono _ _ | exact lN | refine lI ?_ ?_ | refine lB ?_ fun _ => ?_
theorem impl_EncodeSymbols.mono : ∀ a0 a1 k, LeO (impl_EncodeSymbols.f k a0 a1) (impl_EncodeSymbols.f (k + 1) a0 a1) := by
 intro a0 a1 k
 obtain ⟨ih0, ih1, ih2, ih3⟩ := impl_EncodeSymbols.mono_l k
 unfold impl_EncodeSymbols.f
 repeat' first | (with_reducible first | exact ih0 _ _ _ _ | exact ih1 _ _ _ _ _ _ | exact ih2 _ _ _ _ _ _ _ _ | exact ih3 _ _ _ _ _ _ _ _ | exact impl_canonical.mono _ _ | exact lR | exact lN | refine lI ?_ ?_ | refine lB ?_ fun _ => ?_) | exact ih0 _ _ _ _ | exact ih1 _ _ _ _ _ _ | exact ih2 _ _ _ _ _ _ _ _ | exact ih3 _ _ _ _ _ _ _ _ | exact impl_canonical.mono _ _ | exact lN | refine lI ?_ ?_ | refine lB ?_ fun _ => ?_
set_option maxHeartbeats 8000000 in
set_option maxRecDepth 100000 in
theorem impl_EncodeSymbols.calls (k : Nat) (A0 : Option Addr) (c0 : Nat) (l0 : List Int) (A1 : Option Addr) (c1 : Nat) (l1 : List Int) (r1 : ByteArray) (r2 : Bool) (w : World) (hr0 : Kd.C (Kd.int .i64) w A0 l0.length l0) (hc0 : l0.length ≤ c0) (hr1 : Kd.C (Kd.int .i64) w A1 l1.length l1) (hc1 : l1.length ≤ c1) (h : impl_EncodeSymbols.f k l0 l1 = some (r1, r2)) :
  Calls Try.prog 15 #[.slice A0 l0.length c0, .slice A1 l1.length c1] w fun e w' => e = .returned (.tuple #[.string r1, .bool r2]) ∧ Below w.heap.size w w' := by
 have HR0 := aM hr0
 have HC0 := aM hc0
 clear hr0 hc0
 have HR1 := aM hr1
 have HC1 := aM hc1
 clear hr1 hc1
 have HB := aM (Below.refl w.heap.size w)
 unfold impl_EncodeSymbols.f at h
 have H := h
 clear h
 replace H := Option.bind_eq_some_iff.mp H
 obtain ⟨⟨t151, t152⟩, A30, H⟩ := H
 replace H : (if t152 = true then (impl_EncodeSymbols.j0 k l0 l1 t151 (decide ((l0.length : Int) > 1200))) else (impl_EncodeSymbols.j0 k l0 l1 t151 true)) = some (r1, r2) := H
 have A3 := aM A30
 clear A30
 have HC4 := aM H
 clear H
 go_enter Try.func15, Try.ntmps15
 go_upto_region 2 with (first | ((with_reducible refine gate_callee (f := 32) rfl ?_); refine gL (some 14) Try.func32 #[.slice A1 l1.length c1] ?_; (with_reducible refine (impl_canonical.calls k _ _ l1 t151 t152 _ ?side1 ?side2 A3.out).mono ?_); (case side1 => exact qC HR1.out); (case side2 => exact HC1.out); rintro e w5 ⟨v153, rfl, ho0, hb⟩; refine ⟨_, rfl, ?_⟩; have HO154 := oR ho0 HB; replace HB := bS HB hb; clear hb ho0))
 (try simp only [Act.put, List.setIfInBounds_toArray, List.set_cons_zero, List.set_cons_succ])
 go_cut [23] (fun v23 wc => ∃ (kq : Nat) (x23_3 : Bool), v23 = .bool x23_3 ∧ Aside0 (impl_EncodeSymbols.j0 kq l0 l1 t151 x23_3 = some (r1, r2)) ∧ Aside0 (kq ≤ k) ∧ Aside0 (Kd.R (Kd.int .i64) 3 wc w.heap.size (fun _ => True) v153 t151) ∧ Aside0 (Below w.heap.size w wc))
 case first =>
  have H := HC4.out
  clear HC4
  by_cases c6 : t152 = true
  ·subst c6
   have H1 : (impl_EncodeSymbols.j0 k l0 l1 t151 (decide ((l0.length : Int) > 1200))) = some (r1, r2) := by rw [if_pos rfl] at H; exact H
   clear H
   have H := H1
   clear H1
   have H' := aM H
   clear H
   go_wp2
   go_meet
   case rel => exact ⟨_, (decide ((l0.length : Int) > 1200)), qE, H', ⟨by first | omega | exact Nat.le_refl _⟩, ⟨by refine qR ?_; exact HO154.out⟩, ⟨by exact qW HB.out⟩⟩
  replace c6 := Bool.eq_false_iff.mpr c6
  subst c6
  have H1 : (impl_EncodeSymbols.j0 k l0 l1 t151 true) = some (r1, r2) := by rw [if_neg (show ¬ (false = true) by decide)] at H; exact H
  clear H
  have H := H1
  clear H1
  have H' := aM H
  clear H
  go_wp2
  go_meet
  case rel => exact ⟨_, (true), qE, H', ⟨by first | omega | exact Nat.le_refl _⟩, ⟨by refine qR ?_; exact HO154.out⟩, ⟨by exact qW HB.out⟩⟩
 case rest =>
  clear HC4
  try clear c1
  try clear c6
  obtain ⟨kq, x23_3, rfl, HA, HJ3, HO_6, HB⟩ := hcut
  cases kq with
  | zero => exact absurd HA.out (by simp [impl_EncodeSymbols.j0])
  | succ kj3 =>
   have H := HA.out
   clear HA
   simp only [impl_EncodeSymbols.j0] at H
   by_cases c7 : x23_3 = true
   ·subst c7
    have H1 : (some ((⟨#[]⟩ : ByteArray), false)) = some (r1, r2) := by rw [if_pos rfl] at H; exact H
    clear H
    have H := H1
    clear H1
    simp only [Option.some.injEq, Prod.mk.injEq] at H
    obtain ⟨rfl, rfl⟩ := H
    go_wp2
    go_ret2
    exact ⟨qX, by exact qW HB.out⟩
   replace c7 := Bool.eq_false_iff.mpr c7
   subst c7
   have H1 : (impl_EncodeSymbols.l0 kj3 l1 t151 (([] : List Int)) l0 (l0.length : Int) 0) = some (r1, r2) := by rw [if_neg (show ¬ (false = true) by decide)] at H; exact H
   clear H
   have H := H1
   clear H1
   obtain ⟨y155, hy155⟩ : ∃ y_ : List Int, y_ = (([] : List Int)) := ⟨_, rfl⟩
   replace H : (impl_EncodeSymbols.l0 kj3 l1 t151 y155 l0 (l0.length : Int) 0) = some (r1, r2) := rY hy155 H
   have Ny155 := aM hy155
   clear hy155
   have H' := aM H
   clear H
   go_wp2_with (first | ((with_reducible refine gate_dst (N := 24) rfl ?_); (try (refine gate_guard (by rfl) ?_; dsimp only)); refine Kd.R_lit (Kd.int .u8) _ 5 ?hg (N := 24) ?hd (xs := ([] : List Int)) (inner := []) (ok := fun _ => True) (okp := fun _ => True) ?hr ?hp (fun _ hk => hk) trivial (Below.refl _ _) (Nat.le_refl _) (by simp) ?_; (case hd => rfl); (case hg => rfl); (case hr => first | (go_simp; done) | (go_simp; rfl)); (case hp => exact (Reps.none _ _)); intro v156 w8 ho9 hb hg_ hnew_; clear hg_ hnew_; (first | rw [← Ny155.out] at ho9 | (simp only [Int.reduceToNat] at ho9; rw [← Ny155.out] at ho9)); replace HO_6 := aM (Kd.R_below (qR HO_6.out) hb); have HO157 := oR ho9 HB; replace HB := bS HB hb; clear hb ho9))
   go_loopg [8, 27] kj3 (fun kq v8 v27 w' => ∃ (x8_2 : List Int) (x27_2 : Int), v27 = .int .i64 x27_2 ∧ Aside0 (impl_EncodeSymbols.l0 kq l1 t151 x8_2 l0 (l0.length : Int) x27_2 = some (r1, r2)) ∧ Aside0 (kq ≤ kj3) ∧ Aside0 (Kd.R (Kd.int .i64) 3 w' w.heap.size (fun _ => True) v153 t151) ∧ Aside0 (Kd.R (Kd.int .u8) 5 w' w.heap.size (fun _ => True) v8 x8_2) ∧ Aside0 (Below w.heap.size w w'))
   case atStart => exact ⟨(y155), (0), qE, H', ⟨Nat.le_refl _⟩, ⟨by refine qR ?_; exact HO_6.out⟩, ⟨by refine qR ?_; exact HO157.out⟩, ⟨by exact qW HB.out⟩⟩
   case round =>
    clear H'
    try clear c1
    try clear c6
    try clear c7
    obtain ⟨x8_2, x27_2, rfl, HA, HK2, HO_6, HO_8, HB⟩ := hrel
    cases gk with
    | zero => exact absurd HA.out (by simp [impl_EncodeSymbols.l0])
    | succ k2 =>
     have H := HA.out
     clear HA
     simp only [impl_EncodeSymbols.l0] at H
     by_cases c10 : x27_2 < (l0.length : Int)
     rotate_left
     ·rw [if_neg c10] at H
      have c10b0 : decide (x27_2 < (l0.length : Int)) = false := decide_eq_false c10
      clear c10
      simp only [Option.some.injEq, Prod.mk.injEq] at H
      obtain ⟨rfl, rfl⟩ := H
      have hcv29 := own_string (P := Try.prog) Try.underlying27 Try.underlying5 Try.underlying9 (Kd.own_of_R HO_8.out)
      go_wp2
      go_ret2
      exact ⟨qX, by exact qW HB.out⟩
     rw [if_pos c10] at H
     have c10b0 : decide (x27_2 < (l0.length : Int)) = true := decide_eq_true c10
     clear c10
     replace H := iD H
     obtain ⟨c11b0, H⟩ := H
     replace H := iD H
     obtain ⟨c12b0, H⟩ := H
     have HC13 := aM H
     clear H
     obtain ⟨ad158, e158, hx158_0⟩ := Kd.at_int HR0.out x27_2 oD oD
     cases e158
     replace hx158_0 := bD HB hx158_0
     have p158 := eq_true (oD : 0 ≤ (x27_2 : Int))
     have q158 := eq_true (oD : x27_2 < (l0.length : Int))
     go_upto_region 8 with (fail)
     go_cut [45] (fun v45 wc => ∃ (kq : Nat) (x45_12 : Bool), v45 = .bool x45_12 ∧ Aside0 (impl_EncodeSymbols.j2 kq l1 t151 x8_2 (rd l0 x27_2) l0 (l0.length : Int) x27_2 x45_12 = some (r1, r2)) ∧ Aside0 (kq ≤ k2) ∧ Aside0 (Kd.R (Kd.int .i64) 3 wc w.heap.size (fun _ => True) v153 t151) ∧ Aside0 (Kd.R (Kd.int .u8) 5 wc w.heap.size (fun _ => True) u8 x8_2) ∧ Aside0 (Below w.heap.size w wc))
     case first =>
      have H := HC13.out
      clear HC13
      by_cases c14 : (rd l0 x27_2) < 0
      ·rw [if_pos c14] at H
       have c14b0 : decide ((rd l0 x27_2) < 0) = true := decide_eq_true c14
       clear c14
       (first | rw [c14b0] | (simp only [i64_w, i32_w]; rw [c14b0]) | skip)
       have H' := aM H
       clear H
       go_wp2
       go_meet
       case rel => exact ⟨_, (true), qE, H', ⟨by have := HJ3.out; have := HK2.out; first | omega | exact Nat.le_refl _⟩, ⟨by refine qR ?_; exact HO_6.out⟩, ⟨by refine qR ?_; exact HO_8.out⟩, ⟨by exact qW HB.out⟩⟩
      rw [if_neg c14] at H
      have c14b0 : decide ((rd l0 x27_2) < 0) = false := decide_eq_false c14
      clear c14
      (first | rw [c14b0] | (simp only [i64_w, i32_w]; rw [c14b0]) | skip)
      by_cases c15 : (rd l0 x27_2) ≥ (l1.length : Int)
      ·rw [if_pos c15] at H
       have c15b0 : decide ((l1.length : Int) ≤ (rd l0 x27_2)) = true := decide_eq_true c15
       clear c15
       have H' := aM H
       clear H
       go_wp2
       go_meet
       case rel => exact ⟨_, (true), qE, H', ⟨by have := HJ3.out; have := HK2.out; first | omega | exact Nat.le_refl _⟩, ⟨by refine qR ?_; exact HO_6.out⟩, ⟨by refine qR ?_; exact HO_8.out⟩, ⟨by exact qW HB.out⟩⟩
      rw [if_neg c15] at H
      have c15b0 : decide ((l1.length : Int) ≤ (rd l0 x27_2)) = false := decide_eq_false c15
      clear c15
      replace H := iD H
      obtain ⟨c16b0, H⟩ := H
      replace H := iD H
      obtain ⟨c17b0, H⟩ := H
      have H' := aM H
      clear H
      obtain ⟨ad159, e159, hx159_0⟩ := Kd.at_int HR1.out (rd l0 x27_2) oD oD
      cases e159
      replace hx159_0 := bD HB hx159_0
      have p159 := eq_true (oD : 0 ≤ ((rd l0 x27_2) : Int))
      have q159 := eq_true (oD : (rd l0 x27_2) < (l1.length : Int))
      go_wp2
      go_meet
      case rel => exact ⟨_, (((rd l1 (rd l0 x27_2)) == 0)), qE, H', ⟨by have := HJ3.out; have := HK2.out; first | omega | exact Nat.le_refl _⟩, ⟨by refine qR ?_; exact HO_6.out⟩, ⟨by refine qR ?_; exact HO_8.out⟩, ⟨by exact qW HB.out⟩⟩
     case rest =>
      clear HC13
      try clear c1
      try clear c6
      try clear c7
      try clear c10
      try clear c10b0
      try clear c11b0
      try clear c12b0
      try clear c14
      try clear c14b0
      try clear c15
      try clear c15b0
      try clear c16b0
      try clear c17b0
      try clear hx158_0
      try clear hx159_0
      try clear p158
      try clear p159
      try clear q158
      try clear q159
      obtain ⟨kq, x45_12, rfl, HA, HJ12, HO_6, HO_8, HB⟩ := hcut
      cases kq with
      | zero => exact absurd HA.out (by simp [impl_EncodeSymbols.j2])
      | succ kj12 =>
       have H := HA.out
       clear HA
       simp only [impl_EncodeSymbols.j2] at H
       by_cases c18 : x45_12 = true
       ·subst c18
        have H1 : (some ((⟨#[]⟩ : ByteArray), false)) = some (r1, r2) := by rw [if_pos rfl] at H; exact H
        clear H
        have H := H1
        clear H1
        simp only [Option.some.injEq, Prod.mk.injEq] at H
        obtain ⟨rfl, rfl⟩ := H
        go_wp2
        go_ret2
        exact ⟨qX, by exact qW HB.out⟩
       replace c18 := Bool.eq_false_iff.mpr c18
       subst c18
       have H1 : (if 0 ≤ (rd l0 x27_2) then (if (rd l0 x27_2) < (l1.length : Int) then (impl_EncodeSymbols.l1 kj12 l1 t151 x8_2 (rd l0 x27_2) (wrap64 ((rd l1 (rd l0 x27_2)) - 1)) l0 (l0.length : Int) x27_2) else (none)) else (none)) = some (r1, r2) := by rw [if_neg (show ¬ (false = true) by decide)] at H; exact H
       clear H
       have H := H1
       clear H1
       replace H := iD H
       obtain ⟨c19b0, H⟩ := H
       replace H := iD H
       obtain ⟨c20b0, H⟩ := H
       have H' := aM H
       clear H
       obtain ⟨ad160, e160, hx160_0⟩ := Kd.at_int HR1.out (rd l0 x27_2) oD oD
       cases e160
       replace hx160_0 := bD HB hx160_0
       have p160 := eq_true (oD : 0 ≤ ((rd l0 x27_2) : Int))
       have q160 := eq_true (oD : (rd l0 x27_2) < (l1.length : Int))
       go_wp2
       go_loopg [8, 11] kj12 (fun kq v8 v11 w' => ∃ (x8_4 : List Int) (x11_4 : Int), v11 = .int .i64 x11_4 ∧ Aside0 (impl_EncodeSymbols.l1 kq l1 t151 x8_4 (rd l0 x27_2) x11_4 l0 (l0.length : Int) x27_2 = some (r1, r2)) ∧ Aside0 (kq ≤ kj12) ∧ Aside0 (Kd.R (Kd.int .i64) 3 w' w.heap.size (fun _ => True) v153 t151) ∧ Aside0 (Kd.R (Kd.int .u8) 5 w' w.heap.size (fun _ => True) v8 x8_4) ∧ Aside0 (Below w.heap.size w w'))
       case atStart => exact ⟨(x8_2), (wrap64 ((rd l1 (rd l0 x27_2)) - 1)), qE, H', ⟨Nat.le_refl _⟩, ⟨by refine qR ?_; exact HO_6.out⟩, ⟨by refine qR ?_; exact HO_8.out⟩, ⟨by exact qW HB.out⟩⟩
       case round =>
        clear H'
        try clear c1
        try clear c6
        try clear c7
        try clear c10
        try clear c10b0
        try clear c11b0
        try clear c12b0
        try clear c14
        try clear c14b0
        try clear c15
        try clear c15b0
        try clear c16b0
        try clear c17b0
        try clear c18
        try clear c19b0
        try clear c20b0
        try clear hx158_0
        try clear hx159_0
        try clear hx160_0
        try clear p158
        try clear p159
        try clear p160
        try clear q158
        try clear q159
        try clear q160
        obtain ⟨x8_4, x11_4, rfl, HA, HK4, HO_6, HO_8, HB⟩ := hrel
        cases gk with
        | zero => exact absurd HA.out (by simp [impl_EncodeSymbols.l1])
        | succ k4 =>
         have H := HA.out
         clear HA
         simp only [impl_EncodeSymbols.l1] at H
         by_cases c21 : x11_4 ≥ 0
         rotate_left
         ·rw [if_neg c21] at H
          have c21b0 : decide (0 ≤ x11_4) = false := decide_eq_false c21
          clear c21
          have H' := aM H
          clear H
          go_wp2
          go_roundg k4
          case measure => have := HJ3.out; have := HK2.out; have := HJ12.out; have := HK4.out; omega
          case rel => exact ⟨(x8_4), (wrap64 (x27_2 + 1)), qE, H', ⟨by have := HJ3.out; have := HK2.out; have := HJ12.out; have := HK4.out; omega⟩, ⟨by refine qR ?_; exact HO_6.out⟩, ⟨by refine qR ?_; exact HO_8.out⟩, ⟨by exact qW HB.out⟩⟩
         rw [if_pos c21] at H
         have c21b0 : decide (0 ≤ x11_4) = true := decide_eq_true c21
         clear c21
         replace H := iD H
         obtain ⟨c22b0, H⟩ := H
         replace H := iD H
         obtain ⟨c23b0, H⟩ := H
         replace H := iS H
         obtain ⟨c24, H⟩ := H
         have c24b0 := eq_true c24
         have c24b1 : decide (0 ≤ x11_4) = true := decide_eq_true c24
         clear c24
         obtain ⟨ji25, hji25⟩ : ∃ j_ : Int, (shr .i64 (rd t151 (rd l0 x27_2)) x11_4) = j_ := ⟨_, rfl⟩
         replace H : (if x8_4.length < 140737488355328 then (impl_EncodeSymbols.l1 k4 l1 t151 (x8_4 ++ [(wrap64 (48 + (Go.bits .and .i64 (ji25) 1))) % 256]) (rd l0 x27_2) (wrap64 (x11_4 - 1)) l0 (l0.length : Int) x27_2) else (none)) = some (r1, r2) := by first | (rw [hji25] at H; exact H) | (simp only [hji25] at H ⊢; exact H)
         have hji25_ : ((rd t151 (rd l0 x27_2)) / 2 ^ min x11_4.toNat 64) = ji25 := hji25
         have hji25z : x11_4 ≤ 64 → ((rd t151 (rd l0 x27_2)) / 2 ^ x11_4.toNat) = ji25 := shr_small hji25
         replace H := iS H
         obtain ⟨c26, H⟩ := H
         have LMc26 := aM c26
         clear c26
         obtain ⟨y162, hy162⟩ : ∃ y_ : List Int, y_ = (x8_4 ++ [(wrap64 (48 + (Go.bits .and .i64 (ji25) 1))) % 256]) := ⟨_, rfl⟩
         replace H : (impl_EncodeSymbols.l1 k4 l1 t151 y162 (rd l0 x27_2) (wrap64 (x11_4 - 1)) l0 (l0.length : Int) x27_2) = some (r1, r2) := rY hy162 H
         have Ny162 := aM hy162
         clear hy162
         have H' := aM H
         clear H
         obtain ⟨Ao27, co27, rfl⟩ := sL HO_6
         obtain ⟨ad161, e161, hx161_0⟩ := Kd.at_int (Kd.R_reads' HO_6.out).2.2 (rd l0 x27_2) oD oD
         cases e161
         have p161 := eq_true (oD : 0 ≤ ((rd l0 x27_2) : Int))
         have q161 := eq_true (oD : (rd l0 x27_2) < (t151.length : Int))
         go_wp2_with (first | ((with_reducible refine gate_builtin (b := .append) (xs := #[.tmp 55, .tmp 65]) rfl ?_); (try (refine gate_guard (by rfl) ?_; dsimp only)); at_builtin; refine Kd.R_append (Kd.int .u8) (w0 := w) w.heap.size rfl (.tmp 55) (.tmp 65) 27 5 (.int .u8 0) 1 rfl Try.underlying27 info5 rfl (by decide) (by omega) u8 x8_4 ((wrap64 (48 + (Go.bits .and .i64 (ji25) 1))) % 256) [.int .u8 ((wrap64 (48 + (Go.bits .and .i64 (ji25) 1))) % 256)] (fun _ => True) (fun _ => False) rfl rfl ?aP (fun _ hk => hk.elim) ?aF ?aO ?aB ?aS ?aL ?_; (case aP => exact rfl); (case aB => exact (qW HB.out)); (case aF => exact (fun _ _ => trivial)); (case aO => exact (qR HO_8.out)); (case aS => exact (below_size (qW HB.out))); (case aL => have := LMc26.out; omega); intro v163 w28 ho hb hg hat; rw [← Ny162.out] at ho; replace HO_6 := aM (Kd.R_over' (qR HO_6.out) (Kd.R_typed (qR HO_8.out)) (by decide) hg); replace HB := aM (hb); have HO164 := aM (ho); clear HO_8; clear ho hb hg hat))
         go_roundg k4
         case measure => have := HJ3.out; have := HK2.out; have := HJ12.out; have := HK4.out; omega
         case rel => exact ⟨(y162), (wrap64 (x11_4 - 1)), qE, H', ⟨by have := HJ3.out; have := HK2.out; have := HJ12.out; have := HK4.out; omega⟩, ⟨by refine qR ?_; exact HO_6.out⟩, ⟨by refine qR ?_; exact HO164.out⟩, ⟨by exact qW HB.out⟩⟩
def spec_symbolAt.l0 : Nat → ByteArray → Int → List Int → List Int → Int → Option (Int × Int)
 | 0, _, _, _, _, _ => none
 | k + 1, x0, x1, x2, x3, x10 => if x10 < (x2.length : Int) then (if 0 ≤ x10 then (if (rd x2 x10) > 0 then (if (rd x2 x10) ≤ (wrap64 ((x0.size : Int) - x1)) then (if 0 ≤ x1 then (if x1 ≤ (wrap64 (x1 + (rd x2 x10))) then (if (wrap64 (x1 + (rd x2 x10))) ≤ (x0.size : Int) then (if x10 < (x3.length : Int) then ((spec_digits.f k (rd x3 x10) (rd x2 x10)).bind fun t378 => (if (x0.extract (x1 : Int).toNat ((wrap64 (x1 + (rd x2 x10))) : Int).toNat).toList = t378.toList then (some (x10, wrap64 (x1 + (rd x2 x10)))) else (spec_symbolAt.l0 k x0 x1 x2 x3 (wrap64 (x10 + 1))))) else (none)) else (none)) else (none)) else (none)) else (spec_symbolAt.l0 k x0 x1 x2 x3 (wrap64 (x10 + 1)))) else (spec_symbolAt.l0 k x0 x1 x2 x3 (wrap64 (x10 + 1)))) else (none)) else (some ((-1), (-1)))
def spec_symbolAt.f (k : Nat) (a0 : ByteArray) (a1 : Int) (l2 : List Int) (l3 : List Int) : Option (Int × Int) := spec_symbolAt.l0 k a0 a1 l2 l3 0
theorem spec_symbolAt.mono_l : ∀ k, (∀ y0 y1 y2 y3 y4, LeO (spec_symbolAt.l0 k y0 y1 y2 y3 y4) (spec_symbolAt.l0 (k + 1) y0 y1 y2 y3 y4))
 | 0 => fun _ _ _ _ _ r h => by simp [spec_symbolAt.l0] at h
 | k + 1 => by
  have ih0 := spec_symbolAt.mono_l k
  ·intro y0 y1 y2 y3 y4
   unfold spec_symbolAt.l0
   repeat' first | (with_reducible first | exact ih0 _ _ _ _ _ | exact spec_digits.mono _ _ _ | exact lR | exact lN | refine lI ?_ ?_ | refine lB ?_ fun _ => ?_) | exact ih0 _ _ _ _ _ | exact spec_digits.mono _ _ _ | exact lN | refine lI ?_ ?_ | refine lB ?_ fun _ => ?_
theorem spec_symbolAt.mono : ∀ a0 a1 a2 a3 k, LeO (spec_symbolAt.f k a0 a1 a2 a3) (spec_symbolAt.f (k + 1) a0 a1 a2 a3) := by
 intro a0 a1 a2 a3 k
 have ih0 := spec_symbolAt.mono_l k
 unfold spec_symbolAt.f
 repeat' first | (with_reducible first | exact ih0 _ _ _ _ _ | exact spec_digits.mono _ _ _ | exact lR | exact lN | refine lI ?_ ?_ | refine lB ?_ fun _ => ?_) | exact ih0 _ _ _ _ _ | exact spec_digits.mono _ _ _ | exact lN | refine lI ?_ ?_ | refine lB ?_ fun _ => ?_
def spec_symbolAt.T5 : Bool × List (List Nat × List Nat) := (true, [([], []), ([0], [0]), ([1], [1]), ([2], [2]), ([2], [2]), ([4, 2], [2, 4]), ([2], [2]), ([5, 6, 2], [2, 5, 6]), ([3, 7, 2], [2, 3, 7]), ([2, 8], [2, 8]), ([9, 2], [9]), ([10], [10]), ([10], [10]), ([10], [10]), ([10], [10]), ([13, 14, 10], [10, 13, 14]), ([11, 12, 15, 10], [10, 11, 12, 15]), ([10], [10]), ([10], [10]), ([17, 18, 10], [10, 17, 18]), ([19, 10], [10, 19]), ([10], [10]), ([20, 21, 10, 10], [10, 20, 21]), ([16, 22, 10], [10, 16, 22]), ([10, 23], [10, 23])])
def spec_symbolAt.B5 : List Nat := [0, 1, 3, 7, 7, 23, 7, 119, 255, 511, 1023, 2047, 2047, 2047, 2047, 26623, 65535, 2047, 2047, 395263, 919551, 2047, 4065279, 8388607, 16777215]
theorem spec_symbolAt.tab5 : rtab .any (opsOf Try.f39 5) = spec_symbolAt.T5 := by kernel_rfl
theorem spec_symbolAt.bits5 : waitsOk spec_symbolAt.T5.2 spec_symbolAt.B5 = true := by kernel_rfl
set_option maxHeartbeats 8000000 in
set_option maxRecDepth 100000 in
theorem spec_symbolAt.calls (k : Nat) (a0 : ByteArray) (a1 : Int) (A2 : Option Addr) (c2 : Nat) (l2 : List Int) (A3 : Option Addr) (c3 : Nat) (l3 : List Int) (r1 : Int) (r2 : Int) (w : World) (hr2 : Kd.C (Kd.int .i64) w A2 l2.length l2) (hc2 : l2.length ≤ c2) (hr3 : Kd.C (Kd.int .i64) w A3 l3.length l3) (hc3 : l3.length ≤ c3) (h : spec_symbolAt.f k a0 a1 l2 l3 = some (r1, r2)) :
  Calls Try.prog 39 #[.string a0, .int .i64 a1, .slice A2 l2.length c2, .slice A3 l3.length c3] w fun e w' => e = .returned (.tuple #[.int .i64 r1, .int .i64 r2]) ∧ Below w.heap.size w w' := by
 have HR2 := aM hr2
 have HC2 := aM hc2
 clear hr2 hc2
 have HR3 := aM hr3
 have HC3 := aM hc3
 clear hr3 hc3
 have HB := aM (Below.refl w.heap.size w)
 unfold spec_symbolAt.f at h
 have H := h
 clear h
 have H' := aM H
 clear H
 go_enter Try.func39, Try.ntmps39
 go_wp2
 go_loopg [10] k (fun kq v10 w' => ∃ (x10_1 : Int), v10 = .int .i64 x10_1 ∧ Aside0 (spec_symbolAt.l0 kq a0 a1 l2 l3 x10_1 = some (r1, r2)) ∧ Aside0 (kq ≤ k) ∧ Aside0 (Below w.heap.size w w'))
 case atStart => exact ⟨(0), qE, H', ⟨Nat.le_refl _⟩, ⟨by exact qW HB.out⟩⟩
 case round =>
  clear H'
  try clear c2
  try clear c3
  obtain ⟨x10_1, rfl, HA, HK1, HB⟩ := hrel
  cases gk with
  | zero => exact absurd HA.out (by simp [spec_symbolAt.l0])
  | succ k1 =>
   have H := HA.out
   clear HA
   simp only [spec_symbolAt.l0] at H
   by_cases c5 : x10_1 < (l2.length : Int)
   rotate_left
   ·rw [if_neg c5] at H
    have c5b0 : decide (x10_1 < (l2.length : Int)) = false := decide_eq_false c5
    clear c5
    simp only [Option.some.injEq, Prod.mk.injEq] at H
    obtain ⟨rfl, rfl⟩ := H
    go_wp2
    go_ret2
    exact ⟨qX, by exact qW HB.out⟩
   rw [if_pos c5] at H
   have c5b0 : decide (x10_1 < (l2.length : Int)) = true := decide_eq_true c5
   clear c5
   replace H := iD H
   obtain ⟨c6b0, H⟩ := H
   by_cases c7 : (rd l2 x10_1) > 0
   rotate_left
   ·rw [if_neg c7] at H
    have c7b0 : decide (0 < (rd l2 x10_1)) = false := decide_eq_false c7
    clear c7
    have H' := aM H
    clear H
    obtain ⟨ad376, e376, hx376_0⟩ := Kd.at_int HR2.out x10_1 oD oD
    cases e376
    replace hx376_0 := bD HB hx376_0
    have p376 := eq_true (oD : 0 ≤ (x10_1 : Int))
    have q376 := eq_true (oD : x10_1 < (l2.length : Int))
    try go_wp2
    replace HB := aM (below_drew1 HB.out)
    refine start_ (n := 25) (S := fun w' => True) (ds := []) (bA 25 0) (by kernel_rfl) rfl rfl trivial (fun hHeld => ?_); refine with_tabW spec_symbolAt.tab5 spec_symbolAt.bits5 (fun HT_ HW_ => ?_)
    generalize wr.drew = w20 at HB hHeld ⊢
    refine pQ 0 22 HT_ (bA 25 1) ?_
    refine pQ 1 23 HT_ (bA 25 3) ?_
    refine pQ 2 24 HT_ (bA 25 7) ?_
    refine pure_ (i := 3) (N := some 25) (v := undef) (a' := ?_) (bA 25 15) rfl rfl (any_of HT_.out (by kernel_rfl)) (fun _ _ _ h => h) (Or.inr ⟨by rfl, rfl⟩) ?_ ?_
    rotate_left
    ·refine pZ ?_
     rfl
    refine pure_ (i := 4) (N := some 26) (v := undef) (a' := ?_) (bA 25 31) rfl rfl (any_of HT_.out (by kernel_rfl)) (fun _ _ _ h => h) (Or.inr ⟨by rfl, rfl⟩) ?_ ?_
    rotate_left
    ·refine pZ ?_
     rfl
    refine pure_ (i := 5) (N := some 27) (v := undef) (a' := ?_) (bA 25 63) rfl rfl (any_of HT_.out (by kernel_rfl)) (fun _ _ _ h => h) (Or.inr ⟨by rfl, rfl⟩) ?_ ?_
    rotate_left
    ·refine pZ ?_
     rfl
    refine pure_ (i := 6) (N := some 28) (v := undef) (a' := ?_) (bA 25 127) rfl rfl (any_of HT_.out (by kernel_rfl)) (fun _ _ _ h => h) (Or.inr ⟨by rfl, rfl⟩) ?_ ?_
    rotate_left
    ·refine pZ ?_
     rfl
    refine pure_ (i := 7) (N := some 29) (v := undef) (a' := ?_) (bA 25 255) rfl rfl (any_of HT_.out (by kernel_rfl)) (fun _ _ _ h => h) (Or.inr ⟨by rfl, rfl⟩) ?_ ?_
    rotate_left
    ·refine pZ ?_
     rfl
    refine pure_ (i := 8) (N := some 30) (v := undef) (a' := ?_) (bA 25 511) rfl rfl (any_of HT_.out (by kernel_rfl)) (fun _ _ _ h => h) (Or.inr ⟨by rfl, rfl⟩) ?_ ?_
    rotate_left
    ·refine pZ ?_
     rfl
    refine pQ 9 31 HT_ (bA 25 1023) ?_
    refine pQ 10 32 HT_ (bA 25 2047) ?_
    refine pure_ (i := 11) (N := some 33) (v := undef) (a' := ?_) (bA 25 4095) rfl rfl (any_of HT_.out (by kernel_rfl)) (fun _ _ _ h => h) (Or.inr ⟨by rfl, rfl⟩) ?_ ?_
    rotate_left
    ·refine pZ ?_
     rfl
    refine pure_ (i := 12) (N := some 34) (v := undef) (a' := ?_) (bA 25 8191) rfl rfl (any_of HT_.out (by kernel_rfl)) (fun _ _ _ h => h) (Or.inr ⟨by rfl, rfl⟩) ?_ ?_
    rotate_left
    ·refine pZ ?_
     rfl
    refine pure_ (i := 13) (N := some 35) (v := undef) (a' := ?_) (bA 25 16383) rfl rfl (any_of HT_.out (by kernel_rfl)) (fun _ _ _ h => h) (Or.inr ⟨by rfl, rfl⟩) ?_ ?_
    rotate_left
    ·refine pZ ?_
     rfl
    refine pure_ (i := 14) (N := some 36) (v := undef) (a' := ?_) (bA 25 32767) rfl rfl (any_of HT_.out (by kernel_rfl)) (fun _ _ _ h => h) (Or.inr ⟨by rfl, rfl⟩) ?_ ?_
    rotate_left
    ·refine pZ ?_
     rfl
    refine pure_ (i := 15) (N := some 37) (v := undef) (a' := ?_) (bA 25 65535) rfl rfl (any_of HT_.out (by kernel_rfl)) (fun _ _ _ h => h) (Or.inr ⟨by rfl, rfl⟩) ?_ ?_
    rotate_left
    ·refine pZ ?_
     rfl
    refine pure_ (i := 16) (N := some 38) (v := undef) (a' := ?_) (bA 25 131071) rfl rfl (any_of HT_.out (by kernel_rfl)) (fun _ _ _ h => h) (Or.inr ⟨by rfl, rfl⟩) ?_ ?_
    rotate_left
    ·refine pZ ?_
     rfl
    refine pure_ (i := 17) (N := some 39) (v := undef) (a' := ?_) (bA 25 262143) rfl rfl (any_of HT_.out (by kernel_rfl)) (fun _ _ _ h => h) (Or.inr ⟨by rfl, rfl⟩) ?_ ?_
    rotate_left
    ·refine pZ ?_
     rfl
    refine pure_ (i := 18) (N := some 40) (v := undef) (a' := ?_) (bA 25 524287) rfl rfl (any_of HT_.out (by kernel_rfl)) (fun _ _ _ h => h) (Or.inr ⟨by rfl, rfl⟩) ?_ ?_
    rotate_left
    ·refine pZ ?_
     rfl
    refine pure_ (i := 19) (N := some 41) (v := undef) (a' := ?_) (bA 25 1048575) rfl rfl (any_of HT_.out (by kernel_rfl)) (fun _ _ _ h => h) (Or.inr ⟨by rfl, rfl⟩) ?_ ?_
    rotate_left
    ·refine pZ ?_
     rfl
    refine pure_ (i := 20) (N := some 42) (v := undef) (a' := ?_) (bA 25 2097151) rfl rfl (any_of HT_.out (by kernel_rfl)) (fun _ _ _ h => h) (Or.inr ⟨by rfl, rfl⟩) ?_ ?_
    rotate_left
    ·refine pZ ?_
     rfl
    refine pure_ (i := 21) (N := some 43) (v := undef) (a' := ?_) (bA 25 4194303) rfl rfl (any_of HT_.out (by kernel_rfl)) (fun _ _ _ h => h) (Or.inr ⟨by rfl, rfl⟩) ?_ ?_
    rotate_left
    ·refine pZ ?_
     rfl
    refine pure_ (i := 22) (N := some 44) (v := undef) (a' := ?_) (bA 25 8388607) rfl rfl (any_of HT_.out (by kernel_rfl)) (fun _ _ _ h => h) (Or.inr ⟨by rfl, rfl⟩) ?_ ?_
    rotate_left
    ·refine pZ ?_
     rfl
    refine pure_ (i := 23) (N := some 45) (v := undef) (a' := ?_) (bA 25 16777215) rfl rfl (any_of HT_.out (by kernel_rfl)) (fun _ _ _ h => h) (Or.inr ⟨by rfl, rfl⟩) ?_ ?_
    rotate_left
    ·refine pZ ?_
     rfl
    refine pQ 24 46 HT_ (bA 25 33554431) ?_
    refine done_ (done_of HT_.out (by kernel_rfl)) ?_
    try go_wp2
    go_roundg k1
    case measure => have := HK1.out; omega
    case rel => exact ⟨(wrap64 (x10_1 + 1)), qE, H', ⟨by have := HK1.out; omega⟩, ⟨by exact qW HB.out⟩⟩
   rw [if_pos c7] at H
   have c7b0 : decide (0 < (rd l2 x10_1)) = true := decide_eq_true c7
   clear c7
   by_cases c8 : (rd l2 x10_1) ≤ (wrap64 ((a0.size : Int) - a1))
   rotate_left
   ·rw [if_neg c8] at H
    have c8b0 : decide ((rd l2 x10_1) ≤ (wrap64 ((a0.size : Int) - a1))) = false := decide_eq_false c8
    clear c8
    have H' := aM H
    clear H
    obtain ⟨ad376, e376, hx376_0⟩ := Kd.at_int HR2.out x10_1 oD oD
    cases e376
    replace hx376_0 := bD HB hx376_0
    have p376 := eq_true (oD : 0 ≤ (x10_1 : Int))
    have q376 := eq_true (oD : x10_1 < (l2.length : Int))
    try go_wp2
    replace HB := aM (below_drew1 HB.out)
    refine start_ (n := 25) (S := fun w' => True) (ds := []) (bA 25 0) (by kernel_rfl) rfl rfl trivial (fun hHeld => ?_); refine with_tabW spec_symbolAt.tab5 spec_symbolAt.bits5 (fun HT_ HW_ => ?_)
    generalize wr.drew = w19 at HB hHeld ⊢
    refine pQ 0 22 HT_ (bA 25 1) ?_
    refine pQ 1 23 HT_ (bA 25 3) ?_
    refine pQ 2 24 HT_ (bA 25 7) ?_
    refine pQ 3 25 HT_ (bA 25 15) ?_
    refine pQ 4 26 HT_ (bA 25 31) ?_
    refine pQ 5 27 HT_ (bA 25 63) ?_
    refine pQ 6 28 HT_ (bA 25 127) ?_
    refine pQ 7 29 HT_ (bA 25 255) ?_
    refine pQ 8 30 HT_ (bA 25 511) ?_
    refine pQ 9 31 HT_ (bA 25 1023) ?_
    refine pQ 10 32 HT_ (bA 25 2047) ?_
    refine pure_ (i := 11) (N := some 33) (v := undef) (a' := ?_) (bA 25 4095) rfl rfl (any_of HT_.out (by kernel_rfl)) (fun _ _ _ h => h) (Or.inr ⟨by rfl, rfl⟩) ?_ ?_
    rotate_left
    ·refine pZ ?_
     rfl
    refine pure_ (i := 12) (N := some 34) (v := undef) (a' := ?_) (bA 25 8191) rfl rfl (any_of HT_.out (by kernel_rfl)) (fun _ _ _ h => h) (Or.inr ⟨by rfl, rfl⟩) ?_ ?_
    rotate_left
    ·refine pZ ?_
     rfl
    refine pure_ (i := 13) (N := some 35) (v := undef) (a' := ?_) (bA 25 16383) rfl rfl (any_of HT_.out (by kernel_rfl)) (fun _ _ _ h => h) (Or.inr ⟨by rfl, rfl⟩) ?_ ?_
    rotate_left
    ·refine pZ ?_
     rfl
    refine pure_ (i := 14) (N := some 36) (v := undef) (a' := ?_) (bA 25 32767) rfl rfl (any_of HT_.out (by kernel_rfl)) (fun _ _ _ h => h) (Or.inr ⟨by rfl, rfl⟩) ?_ ?_
    rotate_left
    ·refine pZ ?_
     rfl
    refine pure_ (i := 15) (N := some 37) (v := undef) (a' := ?_) (bA 25 65535) rfl rfl (any_of HT_.out (by kernel_rfl)) (fun _ _ _ h => h) (Or.inr ⟨by rfl, rfl⟩) ?_ ?_
    rotate_left
    ·refine pZ ?_
     rfl
    refine pure_ (i := 16) (N := some 38) (v := undef) (a' := ?_) (bA 25 131071) rfl rfl (any_of HT_.out (by kernel_rfl)) (fun _ _ _ h => h) (Or.inr ⟨by rfl, rfl⟩) ?_ ?_
    rotate_left
    ·refine pZ ?_
     rfl
    refine pure_ (i := 17) (N := some 39) (v := undef) (a' := ?_) (bA 25 262143) rfl rfl (any_of HT_.out (by kernel_rfl)) (fun _ _ _ h => h) (Or.inr ⟨by rfl, rfl⟩) ?_ ?_
    rotate_left
    ·refine pZ ?_
     rfl
    refine pure_ (i := 18) (N := some 40) (v := undef) (a' := ?_) (bA 25 524287) rfl rfl (any_of HT_.out (by kernel_rfl)) (fun _ _ _ h => h) (Or.inr ⟨by rfl, rfl⟩) ?_ ?_
    rotate_left
    ·refine pZ ?_
     rfl
    refine pure_ (i := 19) (N := some 41) (v := undef) (a' := ?_) (bA 25 1048575) rfl rfl (any_of HT_.out (by kernel_rfl)) (fun _ _ _ h => h) (Or.inr ⟨by rfl, rfl⟩) ?_ ?_
    rotate_left
    ·refine pZ ?_
     rfl
    refine pure_ (i := 20) (N := some 42) (v := undef) (a' := ?_) (bA 25 2097151) rfl rfl (any_of HT_.out (by kernel_rfl)) (fun _ _ _ h => h) (Or.inr ⟨by rfl, rfl⟩) ?_ ?_
    rotate_left
    ·refine pZ ?_
     rfl
    refine pure_ (i := 21) (N := some 43) (v := undef) (a' := ?_) (bA 25 4194303) rfl rfl (any_of HT_.out (by kernel_rfl)) (fun _ _ _ h => h) (Or.inr ⟨by rfl, rfl⟩) ?_ ?_
    rotate_left
    ·refine pZ ?_
     rfl
    refine pure_ (i := 22) (N := some 44) (v := undef) (a' := ?_) (bA 25 8388607) rfl rfl (any_of HT_.out (by kernel_rfl)) (fun _ _ _ h => h) (Or.inr ⟨by rfl, rfl⟩) ?_ ?_
    rotate_left
    ·refine pZ ?_
     rfl
    refine pure_ (i := 23) (N := some 45) (v := undef) (a' := ?_) (bA 25 16777215) rfl rfl (any_of HT_.out (by kernel_rfl)) (fun _ _ _ h => h) (Or.inr ⟨by rfl, rfl⟩) ?_ ?_
    rotate_left
    ·refine pZ ?_
     rfl
    refine pQ 24 46 HT_ (bA 25 33554431) ?_
    refine done_ (done_of HT_.out (by kernel_rfl)) ?_
    try go_wp2
    go_roundg k1
    case measure => have := HK1.out; omega
    case rel => exact ⟨(wrap64 (x10_1 + 1)), qE, H', ⟨by have := HK1.out; omega⟩, ⟨by exact qW HB.out⟩⟩
   rw [if_pos c8] at H
   have c8b0 : decide ((rd l2 x10_1) ≤ (wrap64 ((a0.size : Int) - a1))) = true := decide_eq_true c8
   clear c8
   replace H := iS H
   obtain ⟨c9, H⟩ := H
   have c9b0 := eq_true c9
   have c9b1 : decide (0 ≤ a1) = true := decide_eq_true c9
   clear c9
   replace H := iS H
   obtain ⟨c10, H⟩ := H
   have c10b0 := eq_true c10
   have c10b1 : decide (a1 ≤ (wrap64 (a1 + (rd l2 x10_1)))) = true := decide_eq_true c10
   replace H := iS H
   obtain ⟨c11, H⟩ := H
   have c11b0 := eq_true c11
   have c11b1 : decide ((wrap64 (a1 + (rd l2 x10_1))) ≤ (a0.size : Int)) = true := decide_eq_true c11
   replace H := iD H
   obtain ⟨c12b0, H⟩ := H
   replace H := Option.bind_eq_some_iff.mp H
   obtain ⟨t378, A130, H⟩ := H
   replace H : (if (a0.extract (a1 : Int).toNat ((wrap64 (a1 + (rd l2 x10_1))) : Int).toNat).toList = t378.toList then (some (x10_1, wrap64 (a1 + (rd l2 x10_1)))) else (spec_symbolAt.l0 k1 a0 a1 l2 l3 (wrap64 (x10_1 + 1)))) = some (r1, r2) := H
   have A13 := aM A130
   clear A130
   by_cases c14 : (a0.extract (a1 : Int).toNat ((wrap64 (a1 + (rd l2 x10_1))) : Int).toNat).toList = t378.toList
   ·rw [if_pos c14] at H
    have c14b0 : ((a0.extract (a1 : Int).toNat ((wrap64 (a1 + (rd l2 x10_1))) : Int).toNat).toList == t378.toList) = true := beq_iff_eq.mpr c14
    have c14b1 : ((a0.extract (a1 : Int).toNat ((wrap64 (a1 + (rd l2 x10_1))) : Int).toNat).toList != t378.toList) = false := bne_eq_false_iff_eq.mpr c14
    clear c14
    simp only [Option.some.injEq, Prod.mk.injEq] at H
    obtain ⟨rfl, rfl⟩ := H
    obtain ⟨ad376, e376, hx376_0⟩ := Kd.at_int HR2.out x10_1 oD oD
    cases e376
    replace hx376_0 := bD HB hx376_0
    have p376 := eq_true (oD : 0 ≤ (x10_1 : Int))
    have q376 := eq_true (oD : x10_1 < (l2.length : Int))
    try go_wp2
    replace HB := aM (below_drew1 HB.out)
    obtain ⟨ad377, e377, hx377_0⟩ := Kd.at_int HR3.out x10_1 oD oD
    have hw377_0 := hx377_0
    cases e377
    replace hx377_0 := bD HB hx377_0
    have p377 := eq_true (oD : 0 ≤ (x10_1 : Int))
    have q377 := eq_true (oD : x10_1 < (l3.length : Int))
    refine start_ (n := 25) (S := fun w' => w'.cell? (ad377.add (x10_1).toNat) = some (.int .i64 (rd l3 x10_1))) (ds := []) (bA 25 0) (by kernel_rfl) rfl rfl ((bC HB hw377_0)) (fun hHeld => ?_); refine with_tabW spec_symbolAt.tab5 spec_symbolAt.bits5 (fun HT_ HW_ => ?_)
    generalize wr.drew = w15 at HB hx377_0 hHeld ⊢
    refine pQ 0 22 HT_ (bA 25 1) ?_
    refine pQ 1 23 HT_ (bA 25 3) ?_
    refine pQ 2 24 HT_ (bA 25 7) ?_
    refine pQ 3 25 HT_ (bA 25 15) ?_
    refine pQ 4 26 HT_ (bA 25 31) ?_
    refine pQ 5 27 HT_ (bA 25 63) ?_
    refine pQ 6 28 HT_ (bA 25 127) ?_
    refine pQ 7 29 HT_ (bA 25 255) ?_
    refine pQ 8 30 HT_ (bA 25 511) ?_
    refine pQ 9 31 HT_ (bA 25 1023) ?_
    refine pQ 10 32 HT_ (bA 25 2047) ?_
    refine pQ 11 33 HT_ (bA 25 4095) ?_
    refine pQ 12 34 HT_ (bA 25 8191) ?_
    refine pQ 13 35 HT_ (bA 25 16383) ?_
    refine pQ 14 36 HT_ (bA 25 32767) ?_
    refine pQ 15 37 HT_ (bA 25 65535) ?_
    refine pQ 16 38 HT_ (bA 25 131071) ?_
    refine pQ 17 39 HT_ (bA 25 262143) ?_
    refine pQ 18 40 HT_ (bA 25 524287) ?_
    refine pQ 19 41 HT_ (bA 25 1048575) ?_
    refine pQ 21 43 HT_ (bA 25 3145727) ?_
    refine take_ (i := 20) (N := some 42) (v := ?_) (a' := ?_) (bA 25 4194303) rfl rfl (take_ofW HT_.out HW_.out (by kernel_rfl)) (fun _ _ _ h => h) (Or.inl ⟨by rfl, ?_⟩) hHeld ?_ ?_
    rotate_left
    ·intro w' s0
     go_simp
     with_reducible rfl
    rotate_left
    ·refine pZ ?_
     rfl
    refine one_ (i := 22) (N := some 44) (bA 25 8388607) rfl rfl (one_of HT_.out (by kernel_rfl)) (by decide) (fun K hK => ?_)
    refine goes_ Try.func50 (by kernel_rfl) rfl #[.int .i64 (rd l3 x10_1), .int .i64 (rd l2 x10_1)] (by rfl) rfl rfl qM ?_
    with_reducible refine (spec_digits.calls k1 (rd l3 x10_1) (rd l2 x10_1) t378 _ A13.out).mono ?_
    rintro e w16 ⟨rfl, hb⟩
    refine ⟨_, rfl, ?_⟩
    replace HB := bS HB hb
    (try clear hb)
    (try clear hb2)
    (try clear hk)
    (try clear hi)
    refine hK.out _ _ ((bC HB hw377_0)) (fun hHeld => ?_)
    clear hK K
    refine norm_ (a' := ?_) ?_ ?_
    rotate_left
    ·show Act.put _ (some 44) _ = _
     refine pZ ?_
     rfl
    refine pQ 23 45 HT_ (bA 25 16777215) ?_
    refine pQ 24 46 HT_ (bA 25 33554431) ?_
    refine done_ (done_of HT_.out (by kernel_rfl)) ?_
    try go_wp2
    go_ret2
    exact ⟨qX, by exact qW HB.out⟩
   rw [if_neg c14] at H
   have c14b0 : ((a0.extract (a1 : Int).toNat ((wrap64 (a1 + (rd l2 x10_1))) : Int).toNat).toList == t378.toList) = false := beq_eq_false_iff_ne.mpr c14
   have c14b1 : ((a0.extract (a1 : Int).toNat ((wrap64 (a1 + (rd l2 x10_1))) : Int).toNat).toList != t378.toList) = true := bne_iff_ne.mpr c14
   have H' := aM H
   clear H
   obtain ⟨ad376, e376, hx376_0⟩ := Kd.at_int HR2.out x10_1 oD oD
   cases e376
   replace hx376_0 := bD HB hx376_0
   have p376 := eq_true (oD : 0 ≤ (x10_1 : Int))
   have q376 := eq_true (oD : x10_1 < (l2.length : Int))
   try go_wp2
   replace HB := aM (below_drew1 HB.out)
   obtain ⟨ad377, e377, hx377_0⟩ := Kd.at_int HR3.out x10_1 oD oD
   have hw377_0 := hx377_0
   cases e377
   replace hx377_0 := bD HB hx377_0
   have p377 := eq_true (oD : 0 ≤ (x10_1 : Int))
   have q377 := eq_true (oD : x10_1 < (l3.length : Int))
   refine start_ (n := 25) (S := fun w' => w'.cell? (ad377.add (x10_1).toNat) = some (.int .i64 (rd l3 x10_1))) (ds := []) (bA 25 0) (by kernel_rfl) rfl rfl ((bC HB hw377_0)) (fun hHeld => ?_); refine with_tabW spec_symbolAt.tab5 spec_symbolAt.bits5 (fun HT_ HW_ => ?_)
   generalize wr.drew = w17 at HB hx377_0 hHeld ⊢
   refine pQ 0 22 HT_ (bA 25 1) ?_
   refine pQ 1 23 HT_ (bA 25 3) ?_
   refine pQ 2 24 HT_ (bA 25 7) ?_
   refine pQ 3 25 HT_ (bA 25 15) ?_
   refine pQ 4 26 HT_ (bA 25 31) ?_
   refine pQ 5 27 HT_ (bA 25 63) ?_
   refine pQ 6 28 HT_ (bA 25 127) ?_
   refine pQ 7 29 HT_ (bA 25 255) ?_
   refine pQ 8 30 HT_ (bA 25 511) ?_
   refine pQ 9 31 HT_ (bA 25 1023) ?_
   refine pQ 10 32 HT_ (bA 25 2047) ?_
   refine pQ 11 33 HT_ (bA 25 4095) ?_
   refine pQ 12 34 HT_ (bA 25 8191) ?_
   refine pQ 13 35 HT_ (bA 25 16383) ?_
   refine pQ 14 36 HT_ (bA 25 32767) ?_
   refine pQ 15 37 HT_ (bA 25 65535) ?_
   refine pQ 16 38 HT_ (bA 25 131071) ?_
   refine pQ 17 39 HT_ (bA 25 262143) ?_
   refine pQ 18 40 HT_ (bA 25 524287) ?_
   refine pQ 19 41 HT_ (bA 25 1048575) ?_
   refine pQ 21 43 HT_ (bA 25 3145727) ?_
   refine take_ (i := 20) (N := some 42) (v := ?_) (a' := ?_) (bA 25 4194303) rfl rfl (take_ofW HT_.out HW_.out (by kernel_rfl)) (fun _ _ _ h => h) (Or.inl ⟨by rfl, ?_⟩) hHeld ?_ ?_
   rotate_left
   ·intro w' s0
    go_simp
    with_reducible rfl
   rotate_left
   ·refine pZ ?_
    rfl
   refine one_ (i := 22) (N := some 44) (bA 25 8388607) rfl rfl (one_of HT_.out (by kernel_rfl)) (by decide) (fun K hK => ?_)
   refine goes_ Try.func50 (by kernel_rfl) rfl #[.int .i64 (rd l3 x10_1), .int .i64 (rd l2 x10_1)] (by rfl) rfl rfl qM ?_
   with_reducible refine (spec_digits.calls k1 (rd l3 x10_1) (rd l2 x10_1) t378 _ A13.out).mono ?_
   rintro e w18 ⟨rfl, hb⟩
   refine ⟨_, rfl, ?_⟩
   replace HB := bS HB hb
   (try clear hb)
   (try clear hb2)
   (try clear hk)
   (try clear hi)
   refine hK.out _ _ ((bC HB hw377_0)) (fun hHeld => ?_)
   clear hK K
   refine norm_ (a' := ?_) ?_ ?_
   rotate_left
   ·show Act.put _ (some 44) _ = _
    refine pZ ?_
    rfl
   refine pQ 23 45 HT_ (bA 25 16777215) ?_
   refine pQ 24 46 HT_ (bA 25 33554431) ?_
   refine done_ (done_of HT_.out (by kernel_rfl)) ?_
   try go_wp2
   go_roundg k1
   case measure => have := HK1.out; omega
   case rel => exact ⟨(wrap64 (x10_1 + 1)), qE, H', ⟨by have := HK1.out; omega⟩, ⟨by exact qW HB.out⟩⟩
theorem dcArr : Go.WideMaps.ArrKey Try.prog 47 3 2 := ⟨Try.underlying47, by kernel_rfl, by kernel_rfl, by kernel_rfl⟩
theorem dcSize : ∃ m, (Try.prog).types.size = m + 1 := by
 have h : 0 < (Try.prog).types.size := of_decide_eq_true (by kernel_rfl)
 exact ⟨_, (Nat.succ_pred_eq_of_pos h).symm⟩
def dcKey (len code : Int) : Lit := .string (keyBytes [.int .i64 len, .int .i64 code])
theorem dcKeyOf {a b : Int} (wa : (Lit.int .i64 a).wf = true) (wb : (Lit.int .i64 b).wf = true) : keyOf Try.prog 47 (.agg #[.int .i64 a, .int .i64 b]) = some (dcKey a b) := Go.WideMaps.keyOf_pair dcArr Try.underlying3 dcSize wa wb
theorem dcKeyed : Go.Maps.Keyed Try.prog 47 := Go.Maps.Keyed.of_law (deep_law_laid (by kernel_rfl) (m := 2) (by omega) (of_decide_eq_true (by kernel_rfl)) (by kernel_rfl) (by rw [Try.underlying47]))
theorem dcKey_inj {a b a' b' : Int} (wa : (Lit.int .i64 a).wf = true) (wb : (Lit.int .i64 b).wf = true) (wa' : (Lit.int .i64 a').wf = true) (wb' : (Lit.int .i64 b').wf = true) (h : dcKey a b = dcKey a' b') : a = a' ∧ b = b' := by
 have h1 := dcKeyed.inj (dcKeyOf wa wb) (h ▸ dcKeyOf wa' wb')
 simp only [Value.agg.injEq] at h1
 have h2 := congrArg Array.toList h1
 simp only [List.cons.injEq, Value.int.injEq, and_true, true_and] at h2
 exact h2
def dcMap (l c : List Int) : Nat → DataW Unit
 | 0 => .map []
 | n + 1 => if 0 < rd l (n : Int) then (dcMap l c n).put (dcKey (rd l (n : Int)) (rd c (n : Int))) (.lit (.int .i64 (n : Int))) else dcMap l c n
def dcLook (l c : List Int) (len code : Int) : Nat → Option Int
 | 0 => none
 | n + 1 => if 0 < rd l (n : Int) ∧ rd l (n : Int) = len ∧ rd c (n : Int) = code then some (n : Int) else dcLook l c len code n
theorem dcMap_is (l c : List Int) : ∀ n, Go.Maps.IsMap (dcMap l c n)
 | 0 => Go.Maps.isMap_empty
 | n + 1 => by
  unfold dcMap
  split
  ·exact (dcMap_is l c n).put _ _
  ·exact dcMap_is l c n
theorem dcMap_at (l c : List Int) (hl : ∀ i, (Lit.int .i64 (rd l i)).wf = true) (hc : ∀ i, (Lit.int .i64 (rd c i)).wf = true) (len code : Int) (wl : (Lit.int .i64 len).wf = true) (wc : (Lit.int .i64 code).wf = true) :
  ∀ n, (dcMap l c n).atKey (dcKey len code) (.lit (.int .i64 0)) = .lit (.int .i64 ((dcLook l c len code n).getD 0)) ∧ Go.Maps.has (dcMap l c n) (dcKey len code) = (dcLook l c len code n).isSome
 | 0 => ⟨rfl, rfl⟩
 | n + 1 => by
  have ih := dcMap_at l c hl hc len code wl wc n
  unfold dcMap dcLook
  by_cases h0 : 0 < rd l (n : Int)
  ·rw [if_pos h0]
   by_cases h1 : rd l (n : Int) = len ∧ rd c (n : Int) = code
   ·rw [if_pos ⟨h0, h1⟩, ← h1.1, ← h1.2]
    exact ⟨Go.Maps.atKey_put_same (dcMap_is l c n) (dcKeyed.key (dcKeyOf (hl _) (hc _))) _ _, Go.Maps.has_put_same (dcMap_is l c n) (dcKeyed.key (dcKeyOf (hl _) (hc _))) _⟩
   ·rw [if_neg (fun h => h1 h.2)]
    have hne : dcKey len code ≠ dcKey (rd l (n : Int)) (rd c (n : Int)) := fun e => h1 ⟨((dcKey_inj wl wc (hl _) (hc _) e).1).symm, ((dcKey_inj wl wc (hl _) (hc _) e).2).symm⟩
    rw [Go.Maps.atKey_put_other hne, Go.Maps.has_put_other hne]
    exact ih
  ·rw [if_neg h0, if_neg (fun h => h0 h.1)]
   exact ih
def dcOk (l c : List Int) : Bool := decide (l.length ≤ 16) && decide (c.length = l.length) && l.all (fun x => (Lit.int .i64 x).wf) && c.all (fun x => (Lit.int .i64 x).wf)
def dcGo (l c : List Int) (s : ByteArray) : Nat → List Int → Int → Int → Int → Option (List Int × Bool)
 | 0, _, _, _, _ => none
 | k + 1, out, len, code, i => if i < (s.size : Int) then (if 0 ≤ i then (if (bt s i = 48 ∨ bt s i = 49) ∧ len ≠ 16 then (match dcLook l c (wrap64 (len + 1)) (wrap64 (wrap64 (2 * code) + (bt s i - 48))) l.length with
   | none => dcGo l c s k out (wrap64 (len + 1)) (wrap64 (wrap64 (2 * code) + (bt s i - 48))) (wrap64 (i + 1))
   | some v => if (out.length : Int) = 1200 then some (([] : List Int), false) else (if out.length < 17592186044416 then dcGo l c s k (out ++ [v]) 0 0 (wrap64 (i + 1)) else none)) else some (([] : List Int), false)) else none) else (if 0 < len then some (([] : List Int), false) else some (out, true))
theorem dcGo_mono (l c : List Int) (s : ByteArray) : ∀ k out len code i, LeO (dcGo l c s k out len code i) (dcGo l c s (k + 1) out len code i)
 | 0, _, _, _, _ => LeO.none _
 | k + 1, out, len, code, i => by
  have ih := dcGo_mono l c s k
  rw [dcGo, dcGo]
  refine LeO.ite (LeO.ite (LeO.ite ?_ (LeO.refl _)) (LeO.refl _)) (LeO.refl _)
  cases dcLook l c (wrap64 (len + 1)) (wrap64 (wrap64 (2 * code) + (bt s i - 48))) l.length with
  | none => exact ih _ _ _ _
  | some v => exact LeO.ite (LeO.refl _) (LeO.ite (ih _ _ _ _) (LeO.refl _))
def impl_DecodeSymbols.f (k : Nat) (a0 : ByteArray) (l1 : List Int) : Option (List Int × Bool) := (impl_canonical.f k l1).bind fun t => (if t.2 = true then (if dcOk l1 t.1 = true then dcGo l1 t.1 a0 k ([] : List Int) 0 0 0 else none) else (some (([] : List Int), false)))
theorem impl_DecodeSymbols.mono : ∀ a0 a1 k, LeO (impl_DecodeSymbols.f k a0 a1) (impl_DecodeSymbols.f (k + 1) a0 a1) := fun a0 a1 k =>
 LeO.bind (impl_canonical.mono _ _) (fun _ => LeO.ite (LeO.ite (dcGo_mono _ _ _ _ _ _ _ _) (LeO.refl _)) (LeO.refl _))
theorem dcOk_at {l c : List Int} (h : dcOk l c = true) : l.length ≤ 16 ∧ c.length = l.length ∧ (∀ i, (Lit.int .i64 (rd l i)).wf = true) ∧ ∀ i, (Lit.int .i64 (rd c i)).wf = true := by
 unfold dcOk at h
 simp only [Bool.and_eq_true, decide_eq_true_eq, List.all_eq_true] at h
 obtain ⟨⟨⟨h1, h2⟩, h3⟩, h4⟩ := h
 have g : ∀ xs : List Int, (∀ x ∈ xs, (Lit.int .i64 x).wf = true) → ∀ i, (Lit.int .i64 (rd xs i)).wf = true := fun xs hx i => by
  unfold rd
  rw [List.getD_eq_getElem?_getD]
  cases e : xs[i.toNat]? with
  | none => decide
  | some x => exact hx x (List.mem_of_getElem? e)
 exact ⟨h1, h2, g l h3, g c h4⟩
theorem dcOwn {P : Program} {kt : TypeId} {R : Value → Option (DataW Unit × List MemPlace)} {w w' : World} {b n : Nat} {D : DataW Unit} (h : w.ownsMap P kt R b n D) (hb : Below w.heap.size w w') : w'.ownsMap P kt R b n D := by
 have hl := h.lt
 obtain ⟨es, clock, hb', F, hs, hD⟩ := h
 exact ⟨es, clock, (hb.block b hl).trans hb', F, hs, hD⟩
set_option maxHeartbeats 8000000 in
set_option maxRecDepth 100000 in
theorem impl_DecodeSymbols.calls (k : Nat) (a0 : ByteArray) (A1 : Option Addr) (c1 : Nat) (l1 : List Int) (r1 : List Int) (r2 : Bool) (w : World) (hr1 : Kd.C (Kd.int .i64) w A1 l1.length l1) (hc1 : l1.length ≤ c1) (h : impl_DecodeSymbols.f k a0 l1 = some (r1, r2)) :
 Calls Try.prog 18 #[.string a0, .slice A1 l1.length c1] w fun e w' => ∃ v0_ : Value, e = .returned (.tuple #[v0_, .bool r2]) ∧ Kd.R (Kd.int .i64) 3 w' w.heap.size (fun _ => True) v0_ r1 ∧ Below w.heap.size w w' := by
 have hmm := @run_makeMap Try.prog
 unfold impl_DecodeSymbols.f at h
 obtain ⟨⟨t1, t2⟩, q0, H⟩ := Option.bind_eq_some_iff.mp h
 clear h
 cases t2 with
 | false =>
  replace H : some (([] : List Int), false) = some (r1, r2) := H
  simp only [Option.some.injEq, Prod.mk.injEq] at H
  obtain ⟨rfl, rfl⟩ := H
  go_enter Try.func18, Try.ntmps18
  go_wp2_with (first | ((with_reducible refine gate_callee (f := 32) rfl ?_); refine goesL_ (some 19) rfl rfl Try.func32 (by kernel_rfl) rfl #[.slice A1 l1.length c1] rfl (by (try simp only [List.map_toArray, List.map_cons, List.map_nil]); first | done | rfl) ?_; (with_reducible refine (impl_canonical.calls k _ _ l1 t1 false _ ?side1 ?side2 q0).mono ?_); (case side1 => exact qC hr1); (case side2 => exact hc1); rintro e w5 ⟨v5, rfl, ho5, hb5⟩; refine ⟨_, rfl, ?_⟩))
  go_ret2
  exact ⟨_, rfl, Kd.R_nil _ _ _ _ _, by repeat (first | exact hb5 | apply below_alloc | apply pw_below_drewN | apply below_drew1)⟩
 | true =>
  replace H : (if dcOk l1 t1 = true then dcGo l1 t1 a0 k ([] : List Int) 0 0 0 else none) = some (r1, r2) := H
  by_cases hok : dcOk l1 t1 = true
  case neg => rw [if_neg hok] at H; cases H
  rw [if_pos hok] at H
  obtain ⟨hlen, hcl, hwl, hwc⟩ := dcOk_at hok
  go_enter Try.func18, Try.ntmps18
  go_wp2_with (first | ((with_reducible refine gate_callee (f := 32) rfl ?_); refine goesL_ (some 19) rfl rfl Try.func32 (by kernel_rfl) rfl #[.slice A1 l1.length c1] rfl (by (try simp only [List.map_toArray, List.map_cons, List.map_nil]); first | done | rfl) ?_; (with_reducible refine (impl_canonical.calls k _ _ l1 t1 true _ ?side1 ?side2 q0).mono ?_); (case side1 => exact qC hr1); (case side2 => exact hc1); rintro e w5 ⟨v5, rfl, ho5, hb5⟩; refine ⟨_, rfl, ?_⟩; obtain ⟨Ac, cc, ec⟩ := Kd.R_slice ho5; subst ec))
  have HRl : Kd.C (Kd.int .i64) w5 A1 l1.length l1 := Kd.C_below hr1 hb5
  have HRc : Kd.C (Kd.int .i64) w5 Ac t1.length t1 := (Kd.R_reads' ho5).2.2
  rw [hcl] at HRc
  generalize hb_ : w5.heap.size = b
  go_loopw [27] (fun i wr => ∃ n : Nat, n ≤ l1.length ∧ i = .int .i64 (n : Int) ∧ wr.ownsMap Try.prog 47 (plainElem (H := Unit) Try.prog 3) b n (dcMap l1 t1 n) ∧ Below w5.heap.size w5 wr)
   (fun i _ => l1.length - (intOf i).toNat)
  case atStart => exact ⟨0, Nat.zero_le _, rfl, hb_ ▸ World.ownsMap_made _ _ _ _, (Below.refl _ _).alloc (Nat.le_refl _) _⟩
  case round =>
   obtain ⟨n, hn, rfl, hown, hbl⟩ := hrel
   by_cases hlt : n < l1.length
   ·have d1 : decide ((n : Int) < (l1.length : Int)) = true := decide_eq_true (by omega)
    have p1 : 0 ≤ (n : Int) := by omega
    have p2 : (n : Int) < (l1.length : Int) := by omega
    obtain ⟨ad1, e1, hx1⟩ := Kd.at_int HRl (n : Int) p1 p2
    obtain ⟨ad2, e2, hx2⟩ := Kd.at_int HRc (n : Int) p1 p2
    cases e1
    cases e2
    replace hx1 := (hbl.cell (World.block_lt_of_cell? w5 _ hx1)).trans hx1
    replace hx2 := (hbl.cell (World.block_lt_of_cell? w5 _ hx2)).trans hx2
    rw [Int.toNat_natCast] at hx1 hx2
    have wn : (Lit.int .i64 (n : Int)).wf = true := by
     have h1 : IntKind.i64.min = -9223372036854775808 := rfl
     have h2 : IntKind.i64.max = 9223372036854775807 := rfl
     simp only [Lit.wf, h1, h2, Bool.and_eq_true, decide_eq_true_eq]
     omega
    by_cases hpos : 0 < rd l1 (n : Int)
    rotate_left
    ·have d2 : decide (0 < rd l1 (n : Int)) = false := decide_eq_false hpos
     go_wp2
     exact ⟨⟨n + 1, hlt, by simp, by rw [dcMap, if_neg hpos]; exact hown.mono (Nat.le_succ _), hbl⟩, by simp [intOf]; omega⟩
    have d2 : decide (0 < rd l1 (n : Int)) = true := decide_eq_true hpos
    go_wp2_with (first | (at_mapUpdate; refine wpList_mapUpdate_own _ rfl _ _ _ 46 rfl 47 3 dcKeyed Try.underlying46 _ b n _ rfl hown (by unfold maxLen; omega) _ _ _ rfl rfl (dcKeyOf (hwl _) (hwc _)) _ [] (plainElem_int Try.underlying3 wn) ?_; intro w1 hown1 hgrow1))
    exact ⟨⟨n + 1, hlt, by simp, by rw [dcMap, if_pos hpos]; exact hown1, hbl.grown hgrow1 hbl.size (fun j hj => by cases hj; exact hb_ ▸ Nat.le_refl _)⟩, by simp [intOf]; omega⟩
   have d1 : decide ((n : Int) < (l1.length : Int)) = false := decide_eq_false (by omega)
   have hnl : n = l1.length := by omega
   subst hnl
   go_wp2_with (first | ((with_reducible refine gate_dst (N := 43) rfl ?_); refine iL ([] : List Int) [] ?_; intro v43 w43 ho43 hb43 hg43 hnew_; clear hnew_))
   obtain ⟨W6, eW6⟩ : ∃ W, W = wr := ⟨_, rfl⟩
   subst eW6
   have H' := aM H
   clear H
   go_loopg [11, 12, 13, 46] k (fun kq v11 v12 v13 v46 w' => ∃ (out : List Int) (len code i : Int), v12 = .int .i64 len ∧ v13 = .int .i64 code ∧ v46 = .int .i64 i ∧ Aside0 (dcGo l1 t1 a0 kq out len code i = some (r1, r2)) ∧ Aside0 (kq ≤ k) ∧ Aside0 (Kd.R (Kd.int .i64) 3 w' W6.heap.size (fun _ => True) v11 out) ∧ Aside0 (Below W6.heap.size W6 w'))
   case atStart => exact ⟨[], 0, 0, 0, rfl, rfl, rfl, H', ⟨Nat.le_refl _⟩, ⟨ho43⟩, ⟨hb43⟩⟩
   case round =>
    clear H'
    obtain ⟨out, len, code, i, rfl, rfl, rfl, HA, HK, HO, HB⟩ := hrel
    cases gk with
    | zero => exact absurd HA.out (by simp [dcGo])
    | succ k1 =>
     have H := HA.out
     clear HA
     rw [dcGo] at H
     by_cases c9 : i < (a0.size : Int)
     rotate_left
     ·rw [if_neg c9] at H
      have d1 : decide (i < (a0.size : Int)) = false := decide_eq_false c9
      by_cases c7 : 0 < len
      ·rw [if_pos c7] at H
       have d2 : decide (0 < len) = true := decide_eq_true c7
       simp only [Option.some.injEq, Prod.mk.injEq] at H
       obtain ⟨rfl, rfl⟩ := H
       go_wp2
       go_ret2
       exact ⟨_, rfl, Kd.R_nil _ _ _ _ _, below_then (below_then hb5 hb5.size hbl) (Nat.le_trans hb5.size hbl.size) HB.out⟩
      rw [if_neg c7] at H
      have d2 : decide (0 < len) = false := decide_eq_false c7
      simp only [Option.some.injEq, Prod.mk.injEq] at H
      obtain ⟨rfl, rfl⟩ := H
      go_wp2
      go_ret2
      exact ⟨_, rfl, Kd.R_lower HO.out (Nat.le_trans hb5.size hbl.size), below_then (below_then hb5 hb5.size hbl) (Nat.le_trans hb5.size hbl.size) HB.out⟩
     rw [if_pos c9] at H
     have d1 : decide (i < (a0.size : Int)) = true := decide_eq_true c9
     by_cases c0 : 0 ≤ i
     case neg => rw [if_neg c0] at H; cases H
     rw [if_pos c0] at H
     have p1 := eq_true c0
     have q1 := eq_true c9
     by_cases c16 : len = 16
     ·subst c16
      rw [if_neg (fun h => h.2 rfl)] at H
      simp only [Option.some.injEq, Prod.mk.injEq] at H
      obtain ⟨rfl, rfl⟩ := H
      by_cases b48 : bt a0 i = 48
      ·have hx := fun h => (bt_at a0 i h).trans b48
       go_wp2
       go_ret2
       exact ⟨_, rfl, Kd.R_nil _ _ _ _ _, below_then (below_then hb5 hb5.size hbl) (Nat.le_trans hb5.size hbl.size) HB.out⟩
      by_cases b49 : bt a0 i = 49
      ·have hx := fun h => (bt_at a0 i h).trans b49
       go_wp2
       go_ret2
       exact ⟨_, rfl, Kd.R_nil _ _ _ _ _, below_then (below_then hb5 hb5.size hbl) (Nat.le_trans hb5.size hbl.size) HB.out⟩
      have hx := bt_at a0 i
      have g2 : (bt a0 i == 48) = false := beq_eq_false_iff_ne.mpr b48
      have g3 : (bt a0 i == 49) = false := beq_eq_false_iff_ne.mpr b49
      have g4 : (bt a0 i != 48) = true := bne_iff_ne.mpr b48
      have g5 : (bt a0 i != 49) = true := bne_iff_ne.mpr b49
      go_wp2
      go_ret2
      exact ⟨_, rfl, Kd.R_nil _ _ _ _ _, below_then (below_then hb5 hb5.size hbl) (Nat.le_trans hb5.size hbl.size) HB.out⟩
     have f1 : (len == 16) = false := beq_eq_false_iff_ne.mpr c16
     by_cases b48 : bt a0 i = 48
     ·have hx := fun h => (bt_at a0 i h).trans b48
      rw [if_pos ⟨Or.inl b48, c16⟩, b48, show wrap64 (2 * code) + ((48 : Int) - 48) = wrap64 (2 * code) by omega] at H
      have hm := dcMap_at l1 t1 hwl hwc (wrap64 (len + 1)) (wrap64 (wrap64 (2 * code))) (wrap64_wf _) (wrap64_wf _) l1.length
      cases hL : dcLook l1 t1 (wrap64 (len + 1)) (wrap64 (wrap64 (2 * code))) l1.length with
      | none =>
       rw [hL] at H hm
       replace H : dcGo l1 t1 a0 k1 out (wrap64 (len + 1)) (wrap64 (wrap64 (2 * code))) (wrap64 (i + 1)) = some (r1, r2) := H
       have H' := aM H
       clear H
       simp only [Option.isSome_none, Option.getD_none] at hm
       go_wp2_with (first | (at_lookup; refine wpList_lookup_own_ok_int _ rfl _ _ 46 rfl 47 3 .i64 dcKeyed Try.underlying46 Try.underlying3 (by kernel_rfl) b l1.length _ rfl (dcOwn hown (qW HB.out)) _ _ rfl (dcKeyOf (wrap64_wf _) (wrap64_wf _)) ?_; intro cv hat hwcv; rw [hm.2]))
       go_roundg k1
       case measure => have := HK.out; omega
       case rel => exact ⟨out, wrap64 (len + 1), wrap64 (wrap64 (2 * code)), wrap64 (i + 1), rfl, rfl, rfl, H', ⟨by have := HK.out; omega⟩, ⟨by refine qR ?_; exact HO.out⟩, ⟨by exact qW HB.out⟩⟩
      | some v =>
       rw [hL] at H hm
       replace H : (if (out.length : Int) = 1200 then some (([] : List Int), false) else (if out.length < 17592186044416 then dcGo l1 t1 a0 k1 (out ++ [v]) 0 0 (wrap64 (i + 1)) else none)) = some (r1, r2) := H
       simp only [Option.isSome_some, Option.getD_some] at hm
       obtain ⟨Ao, co, rfl⟩ := sL HO
       by_cases c12 : (out.length : Int) = 1200
       ·rw [if_pos c12] at H
        have g1 : ((out.length : Int) == 1200) = true := beq_iff_eq.mpr c12
        simp only [Option.some.injEq, Prod.mk.injEq] at H
        obtain ⟨rfl, rfl⟩ := H
        go_wp2_with (first | (at_lookup; refine wpList_lookup_own_ok_int _ rfl _ _ 46 rfl 47 3 .i64 dcKeyed Try.underlying46 Try.underlying3 (by kernel_rfl) b l1.length _ rfl (dcOwn hown (qW HB.out)) _ _ rfl (dcKeyOf (wrap64_wf _) (wrap64_wf _)) ?_; intro cv hat hwcv; rw [hm.2]; obtain rfl : v = cv := (by have h_ := hm.1.symm.trans hat; simpa using h_)))
        go_ret2
        exact ⟨_, rfl, Kd.R_nil _ _ _ _ _, below_then (below_then hb5 hb5.size hbl) (Nat.le_trans hb5.size hbl.size) (qW HB.out)⟩
       rw [if_neg c12] at H
       have g1 : ((out.length : Int) == 1200) = false := beq_eq_false_iff_ne.mpr c12
       by_cases c13 : out.length < 17592186044416
       case neg => rw [if_neg c13] at H; cases H
       rw [if_pos c13] at H
       have H' := aM H
       clear H
       go_wp2_with (first | (at_lookup; refine wpList_lookup_own_ok_int _ rfl _ _ 46 rfl 47 3 .i64 dcKeyed Try.underlying46 Try.underlying3 (by kernel_rfl) b l1.length _ rfl (dcOwn hown (qW HB.out)) _ _ rfl (dcKeyOf (wrap64_wf _) (wrap64_wf _)) ?_; intro cv hat hwcv; rw [hm.2]; obtain rfl : v = cv := (by have h_ := hm.1.symm.trans hat; simpa using h_)) | ((with_reducible refine gate_builtin (b := .append) (xs := #[.tmp 86, .tmp 88]) rfl ?_); at_builtin; refine Kd.R_append (Kd.int .i64) (w0 := W6) W6.heap.size rfl (.tmp 86) (.tmp 88) 22 3 (.int .i64 0) 8 rfl Try.underlying22 info3 rfl (by decide) (by omega) (.slice Ao out.length co) out v [.int .i64 v] (fun _ => True) (fun _ => False) rfl rfl ?aP (fun _ hk => hk.elim) ?aF ?aO ?aB ?aS ?aL ?_; (case aP => exact rfl); (case aB => exact (qW HB.out)); (case aF => exact (fun k_ hk => trivial)); (case aO => exact (qR HO.out)); (case aS => exact (below_size (qW HB.out))); (case aL => omega); intro v89 w89 ho89 hb89 hg89 hat89))
       go_roundg k1
       case measure => have := HK.out; omega
       case rel => exact ⟨out ++ [v], 0, 0, wrap64 (i + 1), rfl, rfl, rfl, H', ⟨by have := HK.out; omega⟩, ⟨ho89⟩, ⟨hb89⟩⟩
     by_cases b49 : bt a0 i = 49
     rotate_left
     ·rw [if_neg (fun h => h.1.elim b48 b49)] at H
      simp only [Option.some.injEq, Prod.mk.injEq] at H
      obtain ⟨rfl, rfl⟩ := H
      have hx := bt_at a0 i
      have g2 : (bt a0 i == 48) = false := beq_eq_false_iff_ne.mpr b48
      have g3 : (bt a0 i == 49) = false := beq_eq_false_iff_ne.mpr b49
      have g4 : (bt a0 i != 48) = true := bne_iff_ne.mpr b48
      have g5 : (bt a0 i != 49) = true := bne_iff_ne.mpr b49
      go_wp2
      go_ret2
      exact ⟨_, rfl, Kd.R_nil _ _ _ _ _, below_then (below_then hb5 hb5.size hbl) (Nat.le_trans hb5.size hbl.size) HB.out⟩
     have hx := fun h => (bt_at a0 i h).trans b49
     rw [if_pos ⟨Or.inr b49, c16⟩, b49, show wrap64 (2 * code) + ((49 : Int) - 48) = wrap64 (2 * code) + 1 by omega] at H
     have hm := dcMap_at l1 t1 hwl hwc (wrap64 (len + 1)) (wrap64 (wrap64 (2 * code) + 1)) (wrap64_wf _) (wrap64_wf _) l1.length
     cases hL : dcLook l1 t1 (wrap64 (len + 1)) (wrap64 (wrap64 (2 * code) + 1)) l1.length with
     | none =>
      rw [hL] at H hm
      replace H : dcGo l1 t1 a0 k1 out (wrap64 (len + 1)) (wrap64 (wrap64 (2 * code) + 1)) (wrap64 (i + 1)) = some (r1, r2) := H
      have H' := aM H
      clear H
      simp only [Option.isSome_none, Option.getD_none] at hm
      go_wp2_with (first | (at_lookup; refine wpList_lookup_own_ok_int _ rfl _ _ 46 rfl 47 3 .i64 dcKeyed Try.underlying46 Try.underlying3 (by kernel_rfl) b l1.length _ rfl (dcOwn hown (qW HB.out)) _ _ rfl (dcKeyOf (wrap64_wf _) (wrap64_wf _)) ?_; intro cv hat hwcv; rw [hm.2]))
      go_roundg k1
      case measure => have := HK.out; omega
      case rel => exact ⟨out, wrap64 (len + 1), wrap64 (wrap64 (2 * code) + 1), wrap64 (i + 1), rfl, rfl, rfl, H', ⟨by have := HK.out; omega⟩, ⟨by refine qR ?_; exact HO.out⟩, ⟨by exact qW HB.out⟩⟩
     | some v =>
      rw [hL] at H hm
      replace H : (if (out.length : Int) = 1200 then some (([] : List Int), false) else (if out.length < 17592186044416 then dcGo l1 t1 a0 k1 (out ++ [v]) 0 0 (wrap64 (i + 1)) else none)) = some (r1, r2) := H
      simp only [Option.isSome_some, Option.getD_some] at hm
      obtain ⟨Ao, co, rfl⟩ := sL HO
      by_cases c12 : (out.length : Int) = 1200
      ·rw [if_pos c12] at H
       have g1 : ((out.length : Int) == 1200) = true := beq_iff_eq.mpr c12
       simp only [Option.some.injEq, Prod.mk.injEq] at H
       obtain ⟨rfl, rfl⟩ := H
       go_wp2_with (first | (at_lookup; refine wpList_lookup_own_ok_int _ rfl _ _ 46 rfl 47 3 .i64 dcKeyed Try.underlying46 Try.underlying3 (by kernel_rfl) b l1.length _ rfl (dcOwn hown (qW HB.out)) _ _ rfl (dcKeyOf (wrap64_wf _) (wrap64_wf _)) ?_; intro cv hat hwcv; rw [hm.2]; obtain rfl : v = cv := (by have h_ := hm.1.symm.trans hat; simpa using h_)))
       go_ret2
       exact ⟨_, rfl, Kd.R_nil _ _ _ _ _, below_then (below_then hb5 hb5.size hbl) (Nat.le_trans hb5.size hbl.size) (qW HB.out)⟩
      rw [if_neg c12] at H
      have g1 : ((out.length : Int) == 1200) = false := beq_eq_false_iff_ne.mpr c12
      by_cases c13 : out.length < 17592186044416
      case neg => rw [if_neg c13] at H; cases H
      rw [if_pos c13] at H
      have H' := aM H
      clear H
      go_wp2_with (first | (at_lookup; refine wpList_lookup_own_ok_int _ rfl _ _ 46 rfl 47 3 .i64 dcKeyed Try.underlying46 Try.underlying3 (by kernel_rfl) b l1.length _ rfl (dcOwn hown (qW HB.out)) _ _ rfl (dcKeyOf (wrap64_wf _) (wrap64_wf _)) ?_; intro cv hat hwcv; rw [hm.2]; obtain rfl : v = cv := (by have h_ := hm.1.symm.trans hat; simpa using h_)) | ((with_reducible refine gate_builtin (b := .append) (xs := #[.tmp 86, .tmp 88]) rfl ?_); at_builtin; refine Kd.R_append (Kd.int .i64) (w0 := W6) W6.heap.size rfl (.tmp 86) (.tmp 88) 22 3 (.int .i64 0) 8 rfl Try.underlying22 info3 rfl (by decide) (by omega) (.slice Ao out.length co) out v [.int .i64 v] (fun _ => True) (fun _ => False) rfl rfl ?aP (fun _ hk => hk.elim) ?aF ?aO ?aB ?aS ?aL ?_; (case aP => exact rfl); (case aB => exact (qW HB.out)); (case aF => exact (fun k_ hk => trivial)); (case aO => exact (qR HO.out)); (case aS => exact (below_size (qW HB.out))); (case aL => omega); intro v89 w89 ho89 hb89 hg89 hat89))
      go_roundg k1
      case measure => have := HK.out; omega
      case rel => exact ⟨out ++ [v], 0, 0, wrap64 (i + 1), rfl, rfl, rfl, H', ⟨by have := HK.out; omega⟩, ⟨ho89⟩, ⟨hb89⟩⟩
def spec_DecodeSymbols.l0 : Nat → ByteArray → List Int → List Int → List Int → Int → Option (List Int × Bool)
 | 0, _, _, _, _, _ => none
 | k + 1, x0, x1, x6, x7, x8 => if x8 < (x0.size : Int) then ((spec_symbolAt.f k x0 x8 x1 x7).bind fun bt386 => (if bt386.1 < 0 then (some (([] : List Int), false)) else (if (x6.length : Int) = 1200 then (some (([] : List Int), false)) else (if x6.length < 17592186044416 then (spec_DecodeSymbols.l0 k x0 x1 (x6 ++ [bt386.1]) x7 bt386.2) else (none))))) else (some (x6, true))
def spec_DecodeSymbols.f (k : Nat) (a0 : ByteArray) (l1 : List Int) : Option (List Int × Bool) := (spec_validLengths.f k l1).bind fun t382 => (if t382 = true then ((spec_canonicalCodes.f k l1).bind fun t383 => (spec_DecodeSymbols.l0 k a0 l1 (([] : List Int)) t383 0)) else (some (([] : List Int), false)))
theorem spec_DecodeSymbols.mono_l : ∀ k, (∀ y0 y1 y2 y3 y4, LeO (spec_DecodeSymbols.l0 k y0 y1 y2 y3 y4) (spec_DecodeSymbols.l0 (k + 1) y0 y1 y2 y3 y4))
 | 0 => fun _ _ _ _ _ r h => by simp [spec_DecodeSymbols.l0] at h
 | k + 1 => by
  have ih0 := spec_DecodeSymbols.mono_l k
  ·intro y0 y1 y2 y3 y4
   unfold spec_DecodeSymbols.l0
   repeat' first | (with_reducible first | exact ih0 _ _ _ _ _ | exact spec_canonicalCodes.mono _ _ | exact spec_symbolAt.mono _ _ _ _ _ | exact spec_validLengths.mono _ _ | exact lR | exact lN | refine lI ?_ ?_ | refine lB ?_ fun _ => ?_) | exact ih0 _ _ _ _ _ | exact spec_canonicalCodes.mono _ _ | exact spec_symbolAt.mono _ _ _ _ _ | exact spec_validLengths.mono _ _ | exact lN | refine lI ?_ ?_ | refine lB ?_ fun _ => ?_
theorem spec_DecodeSymbols.mono : ∀ a0 a1 k, LeO (spec_DecodeSymbols.f k a0 a1) (spec_DecodeSymbols.f (k + 1) a0 a1) := by
 intro a0 a1 k
 have ih0 := spec_DecodeSymbols.mono_l k
 unfold spec_DecodeSymbols.f
 repeat' first | (with_reducible first | exact ih0 _ _ _ _ _ | exact spec_canonicalCodes.mono _ _ | exact spec_symbolAt.mono _ _ _ _ _ | exact spec_validLengths.mono _ _ | exact lR | exact lN | refine lI ?_ ?_ | refine lB ?_ fun _ => ?_) | exact ih0 _ _ _ _ _ | exact spec_canonicalCodes.mono _ _ | exact spec_symbolAt.mono _ _ _ _ _ | exact spec_validLengths.mono _ _ | exact lN | refine lI ?_ ?_ | refine lB ?_ fun _ => ?_
set_option maxHeartbeats 8000000 in
set_option maxRecDepth 100000 in
theorem spec_DecodeSymbols.calls (k : Nat) (a0 : ByteArray) (A1 : Option Addr) (c1 : Nat) (l1 : List Int) (r1 : List Int) (r2 : Bool) (w : World) (hr1 : Kd.C (Kd.int .i64) w A1 l1.length l1) (hc1 : l1.length ≤ c1) (h : spec_DecodeSymbols.f k a0 l1 = some (r1, r2)) :
  Calls Try.prog 20 #[.string a0, .slice A1 l1.length c1] w fun e w' => ∃ v0_ : Value, e = .returned (.tuple #[v0_, .bool r2]) ∧ Kd.R (Kd.int .i64) 3 w' w.heap.size (fun _ => True) v0_ r1 ∧ Below w.heap.size w w' := by
 have HR1 := aM hr1
 have HC1 := aM hc1
 clear hr1 hc1
 have HB := aM (Below.refl w.heap.size w)
 unfold spec_DecodeSymbols.f at h
 have H := h
 clear h
 obtain ⟨y379, hy379⟩ : ∃ y_ : List Int, y_ = (([] : List Int)) := ⟨_, rfl⟩
 replace H : ((spec_validLengths.f k l1).bind fun t382 => (if t382 = true then ((spec_canonicalCodes.f k l1).bind fun t383 => (spec_DecodeSymbols.l0 k a0 l1 y379 t383 0)) else (some (([] : List Int), false)))) = some (r1, r2) := rY hy379 H
 have Ny379 := aM hy379
 clear hy379
 replace H := Option.bind_eq_some_iff.mp H
 obtain ⟨t382, A30, H⟩ := H
 replace H : (if t382 = true then ((spec_canonicalCodes.f k l1).bind fun t383 => (spec_DecodeSymbols.l0 k a0 l1 y379 t383 0)) else (some (([] : List Int), false))) = some (r1, r2) := H
 have A3 := aM A30
 clear A30
 by_cases c4 : t382 = true
 rotate_left
 ·replace c4 := Bool.eq_false_iff.mpr c4
  subst c4
  have H1 : (some (([] : List Int), false)) = some (r1, r2) := by rw [if_neg (show ¬ (false = true) by decide)] at H; exact H
  clear H
  have H := H1
  clear H1
  simp only [Option.some.injEq, Prod.mk.injEq] at H
  obtain ⟨rfl, rfl⟩ := H
  go_enter Try.func20, Try.ntmps20
  go_wp2_with (first | ((with_reducible refine gate_dst (N := 11) rfl ?_); (try (refine gate_guard (by rfl) ?_; dsimp only)); refine iL ([] : List Int) [] ?_; intro v380 w23 ho24 hb hg_ hnew_; clear hg_ hnew_; (first | rw [← Ny379.out] at ho24 | (simp only [Int.reduceToNat] at ho24; rw [← Ny379.out] at ho24)); have HO381 := oR ho24 HB; replace HB := bS HB hb; clear hb ho24) | ((with_reducible refine gate_callee (f := 30) rfl ?_); refine gL (some 13) Try.func30 #[.slice A1 l1.length c1] ?_; (with_reducible refine (spec_validLengths.calls k _ _ l1 false _ ?side1 ?side2 A3.out).mono ?_); (case side1 => exact qC (Kd.C_below HR1.out HB.out)); (case side2 => exact HC1.out); rintro e w' ⟨rfl, ⟨nd, rfl⟩⟩; refine ⟨_, rfl, ?_⟩))
  go_ret2
  exact ⟨_, qX, qN, by exact qW HB.out⟩
 subst c4
 have H1 : ((spec_canonicalCodes.f k l1).bind fun t383 => (spec_DecodeSymbols.l0 k a0 l1 y379 t383 0)) = some (r1, r2) := by rw [if_pos rfl] at H; exact H
 clear H
 have H := H1
 clear H1
 replace H := Option.bind_eq_some_iff.mp H
 obtain ⟨t383, A50, H⟩ := H
 replace H : (spec_DecodeSymbols.l0 k a0 l1 y379 t383 0) = some (r1, r2) := H
 have A5 := aM A50
 clear A50
 have H' := aM H
 clear H
 go_enter Try.func20, Try.ntmps20
 go_wp2_with (first | ((with_reducible refine gate_dst (N := 11) rfl ?_); (try (refine gate_guard (by rfl) ?_; dsimp only)); refine iL ([] : List Int) [] ?_; intro v380 w6 ho7 hb hg_ hnew_; clear hg_ hnew_; (first | rw [← Ny379.out] at ho7 | (simp only [Int.reduceToNat] at ho7; rw [← Ny379.out] at ho7)); have HO381 := oR ho7 HB; replace HB := bS HB hb; clear hb ho7) | ((with_reducible refine gate_callee (f := 30) rfl ?_); refine gL (some 13) Try.func30 #[.slice A1 l1.length c1] ?_; (with_reducible refine (spec_validLengths.calls k _ _ l1 true _ ?side1 ?side2 A3.out).mono ?_); (case side1 => exact qC (Kd.C_below HR1.out HB.out)); (case side2 => exact HC1.out); rintro e w' ⟨rfl, ⟨nd, rfl⟩⟩; refine ⟨_, rfl, ?_⟩) | ((with_reducible refine gate_callee (f := 38) rfl ?_); refine gL (some 16) Try.func38 #[.slice A1 l1.length c1] ?_; (with_reducible refine (spec_canonicalCodes.calls k _ _ l1 t383 _ ?side1 ?side2 A5.out).mono ?_); (case side1 => exact qC (Kd.C_below HR1.out (qW HB.out))); (case side2 => exact HC1.out); rintro e w8 ⟨v384, rfl, ho0, hb⟩; refine ⟨_, rfl, ?_⟩; have HO385 := nR ho0 HO381 HB; replace HO381 := aM (Kd.R_elder' (qR HO381.out) (Kd.R_base ho0) hb); replace HB := bS HB hb; clear hb ho0))
 go_loopg [6, 8] k (fun kq v6 v8 w' => ∃ (x6_1 : List Int) (x8_1 : Int), v8 = .int .i64 x8_1 ∧ Aside0 (spec_DecodeSymbols.l0 kq a0 l1 x6_1 t383 x8_1 = some (r1, r2)) ∧ Aside0 (kq ≤ k) ∧ Aside0 (Kd.R (Kd.int .i64) 3 w' w.heap.size (fun k_ => some k_ ≠ (v384 : Value).ownBlock) v6 x6_1) ∧ Aside0 (Kd.R (Kd.int .i64) 3 w' w.heap.size (fun k_ => some k_ ≠ (v6 : Value).ownBlock) v384 t383) ∧ Aside0 (Below w.heap.size w w'))
 case atStart => exact ⟨(y379), (0), qE, H', ⟨Nat.le_refl _⟩, ⟨by refine qR ?_; exact Kd.R_mono HO381.out (fun _ hk => hk.2)⟩, ⟨by refine qR ?_; exact Kd.R_mono HO385.out (fun _ hk => hk.2)⟩, ⟨by exact qW HB.out⟩⟩
 case round =>
  clear H'
  try clear c1
  try clear c4
  obtain ⟨x6_1, x8_1, rfl, HA, HK1, HO_6, HO_7, HB⟩ := hrel
  cases gk with
  | zero => exact absurd HA.out (by simp [spec_DecodeSymbols.l0])
  | succ k1 =>
   have H := HA.out
   clear HA
   simp only [spec_DecodeSymbols.l0] at H
   by_cases c9 : x8_1 < (a0.size : Int)
   rotate_left
   ·rw [if_neg c9] at H
    have c9b0 : decide (x8_1 < (a0.size : Int)) = false := decide_eq_false c9
    clear c9
    simp only [Option.some.injEq, Prod.mk.injEq] at H
    obtain ⟨rfl, rfl⟩ := H
    go_wp2
    go_ret2
    exact ⟨_, qX, by refine qR ?_; exact Kd.R_mono HO_6.out (fun _ hk => trivial), by exact qW HB.out⟩
   rw [if_pos c9] at H
   have c9b0 : decide (x8_1 < (a0.size : Int)) = true := decide_eq_true c9
   clear c9
   replace H := Option.bind_eq_some_iff.mp H
   obtain ⟨⟨t386, t387⟩, A100, H⟩ := H
   replace H : (if t386 < 0 then (some (([] : List Int), false)) else (if (x6_1.length : Int) = 1200 then (some (([] : List Int), false)) else (if x6_1.length < 17592186044416 then (spec_DecodeSymbols.l0 k1 a0 l1 (x6_1 ++ [t386]) t383 t387) else (none)))) = some (r1, r2) := H
   have A10 := aM A100
   clear A100
   by_cases c11 : t386 < 0
   ·rw [if_pos c11] at H
    have c11b0 : decide (t386 < 0) = true := decide_eq_true c11
    clear c11
    simp only [Option.some.injEq, Prod.mk.injEq] at H
    obtain ⟨rfl, rfl⟩ := H
    obtain ⟨Ao12, co12, rfl⟩ := sL HO_7
    go_wp2_with (first | ((with_reducible refine gate_callee (f := 39) rfl ?_); refine gL (some 26) Try.func39 #[.string a0, .int .i64 x8_1, .slice A1 l1.length c1, .slice Ao12 t383.length co12] ?_; (with_reducible refine (spec_symbolAt.calls k1 a0 x8_1 _ _ l1 _ _ t383 t386 t387 _ ?side1 ?side2 ?side3 ?side4 A10.out).mono ?_); (case side1 => exact qC (Kd.C_below HR1.out HB.out)); (case side2 => exact HC1.out); (case side3 => exact qC (Kd.R_reads' HO_7.out).2.2); (case side4 => exact (Kd.R_reads' HO_7.out).2.1); rintro e w13 ⟨rfl, hb⟩; refine ⟨_, rfl, ?_⟩; replace HO_6 := aM (Kd.R_below (qR HO_6.out) hb); replace HO_7 := aM (Kd.R_below (qR HO_7.out) hb); replace HB := bS HB hb; clear hb))
    go_ret2
    exact ⟨_, qX, qN, by exact qW HB.out⟩
   rw [if_neg c11] at H
   have c11b0 : decide (t386 < 0) = false := decide_eq_false c11
   clear c11
   by_cases c14 : (x6_1.length : Int) = 1200
   ·rw [if_pos c14] at H
    have c14b0 : ((x6_1.length : Int) == 1200) = true := beq_iff_eq.mpr c14
    have c14b1 : ((x6_1.length : Int) != 1200) = false := bne_eq_false_iff_eq.mpr c14
    clear c14
    simp only [Option.some.injEq, Prod.mk.injEq] at H
    obtain ⟨rfl, rfl⟩ := H
    obtain ⟨Ao15, co15, rfl⟩ := sL HO_7
    go_wp2_with (first | ((with_reducible refine gate_callee (f := 39) rfl ?_); refine gL (some 26) Try.func39 #[.string a0, .int .i64 x8_1, .slice A1 l1.length c1, .slice Ao15 t383.length co15] ?_; (with_reducible refine (spec_symbolAt.calls k1 a0 x8_1 _ _ l1 _ _ t383 t386 t387 _ ?side1 ?side2 ?side3 ?side4 A10.out).mono ?_); (case side1 => exact qC (Kd.C_below HR1.out HB.out)); (case side2 => exact HC1.out); (case side3 => exact qC (Kd.R_reads' HO_7.out).2.2); (case side4 => exact (Kd.R_reads' HO_7.out).2.1); rintro e w16 ⟨rfl, hb⟩; refine ⟨_, rfl, ?_⟩; replace HO_6 := aM (Kd.R_below (qR HO_6.out) hb); replace HO_7 := aM (Kd.R_below (qR HO_7.out) hb); replace HB := bS HB hb; clear hb; obtain ⟨Ao17, co17, rfl⟩ := sL HO_6))
    go_ret2
    exact ⟨_, qX, qN, by exact qW HB.out⟩
   rw [if_neg c14] at H
   have c14b0 : ((x6_1.length : Int) == 1200) = false := beq_eq_false_iff_ne.mpr c14
   have c14b1 : ((x6_1.length : Int) != 1200) = true := bne_iff_ne.mpr c14
   replace H := iS H
   obtain ⟨c18, H⟩ := H
   have LMc18 := aM c18
   clear c18
   obtain ⟨y388, hy388⟩ : ∃ y_ : List Int, y_ = (x6_1 ++ [t386]) := ⟨_, rfl⟩
   replace H : (spec_DecodeSymbols.l0 k1 a0 l1 y388 t383 t387) = some (r1, r2) := rY hy388 H
   have Ny388 := aM hy388
   clear hy388
   have H' := aM H
   clear H
   obtain ⟨Ao19, co19, rfl⟩ := sL HO_7
   go_wp2_with (first | ((with_reducible refine gate_callee (f := 39) rfl ?_); refine gL (some 26) Try.func39 #[.string a0, .int .i64 x8_1, .slice A1 l1.length c1, .slice Ao19 t383.length co19] ?_; (with_reducible refine (spec_symbolAt.calls k1 a0 x8_1 _ _ l1 _ _ t383 t386 t387 _ ?side1 ?side2 ?side3 ?side4 A10.out).mono ?_); (case side1 => exact qC (Kd.C_below HR1.out HB.out)); (case side2 => exact HC1.out); (case side3 => exact qC (Kd.R_reads' HO_7.out).2.2); (case side4 => exact (Kd.R_reads' HO_7.out).2.1); rintro e w20 ⟨rfl, hb⟩; refine ⟨_, rfl, ?_⟩; replace HO_6 := aM (Kd.R_below (qR HO_6.out) hb); replace HO_7 := aM (Kd.R_below (qR HO_7.out) hb); replace HB := bS HB hb; clear hb; obtain ⟨Ao21, co21, rfl⟩ := sL HO_6) | ((with_reducible refine gate_builtin (b := .append) (xs := #[.tmp 36, .tmp 38]) rfl ?_); (try (refine gate_guard (by rfl) ?_; dsimp only)); at_builtin; refine Kd.R_append (Kd.int .i64) (w0 := w) w.heap.size rfl (.tmp 36) (.tmp 38) 22 3 (.int .i64 0) 8 rfl Try.underlying22 info3 rfl (by decide) (by omega) (.slice Ao21 x6_1.length co21) x6_1 t386 [.int .i64 t386] (fun k_ => some k_ ≠ (.slice Ao19 t383.length co19 : Value).ownBlock) (fun _ => False) rfl rfl ?aP (fun _ hk => hk.elim) ?aF ?aO ?aB ?aS ?aL ?_; (case aP => exact rfl); (case aB => exact (qW HB.out)); (case aF => exact (fun k_ hk => Kd.fresh' (Kd.R_lt (qR HO_7.out)) k_ hk)); (case aO => exact (qR HO_6.out)); (case aS => exact (below_size (qW HB.out))); (case aL => have := LMc18.out; omega); intro v389 w22 ho hb hg hat; rw [← Ny388.out] at ho; replace HO_7 := aM (Kd.R_after (ok := (fun _ => True)) (by refine qR ?_; exact Kd.R_mono HO_7.out (fun _ hk => ⟨trivial, hk⟩)) hg hat); replace HB := aM (hb); have HO390 := aM (ho); clear HO_6; clear ho hb hg hat))
   go_roundg k1
   case measure => have := HK1.out; omega
   case rel => exact ⟨(y388), (t387), qE, H', ⟨by have := HK1.out; omega⟩, ⟨by refine qR ?_; exact HO390.out⟩, ⟨by refine qR ?_; exact Kd.R_mono HO_7.out (fun _ hk => hk.2)⟩, ⟨by exact qW HB.out⟩⟩
def IsS60 (w0 W : World) (g : Nat) (f0 : List Int) (f1 : Int) : Prop := ∃ A0 c0, W.heap[g]? = some (.cells #[.slice A0 f0.length c0, .int .i64 f1] 60 (0, 0)) ∧ w0.heap.size ≤ g ∧ Kd.C (Kd.int .u8) w0 A0 f0.length f0
theorem IsS60.grown {w0 W : World} {g : Nat} {f0 : List Int} {f1 : Int} {W1 : World} {row : Option Nat} (h : IsS60 w0 W g f0 f1) (hw : W.grownBy W1 row) (hne : some g ≠ row) : IsS60 w0 W1 g f0 f1 := by
 obtain ⟨A0, c0, hb, hg, hr0⟩ := h
 exact ⟨A0, c0, blk_grown hb hw hne, hg, hr0⟩
theorem IsS60.own_neN {w0 W : World} {g : Nat} {f0 : List Int} {f1 : Int} {α : Type} {d : Kd α} {e : Nat} {base : Nat} {ok : Nat → Prop} {v : Value} {xs : List α} (h : IsS60 w0 W g f0 f1) (ho : Kd.N d e W base ok v xs) (ht : e ≠ 60) : some g ≠ v.ownBlock := by
 obtain ⟨A0, c0, hb, hg, hr0⟩ := h
 exact Kd.N_ne ho hb ht
theorem IsS60.fresh {w0 W : World} {g : Nat} {f0 : List Int} {f1 : Int} (h : IsS60 w0 W g f0 f1) : ∀ k, W.heap.size ≤ k → k ≠ g := by
 obtain ⟨A0, c0, hb, hg, hr0⟩ := h
 exact Kd.freshB hb
theorem IsS60.kept {w0 W : World} {g : Nat} {f0 : List Int} {f1 : Int} {W1 : World} {S : Nat → Prop} (h : IsS60 w0 W g f0 f1) (hk : Kept W W1 S) (hne : ¬ S g) : IsS60 w0 W1 g f0 f1 := by
 obtain ⟨A0, c0, hb, hg, hr0⟩ := h
 exact ⟨A0, c0, blk_kept hb hk hne, hg, hr0⟩
theorem IsS60.below {w0 W : World} {g : Nat} {f0 : List Int} {f1 : Int} {W1 : World} (h : IsS60 w0 W g f0 f1) (hw : Below W.heap.size W W1) : IsS60 w0 W1 g f0 f1 := h.grown (grown_of_below hw none) (by simp)
theorem IsS60.alloc {w0 W : World} {g : Nat} {f0 : List Int} {f1 : Int} (h : IsS60 w0 W g f0 f1) (o : Obj) : IsS60 w0 (W.alloc o) g f0 f1 := h.below (below_alloc (Below.refl _ _) o)
theorem IsS60.drewN {w0 W : World} {g : Nat} {f0 : List Int} {f1 : Int} (h : IsS60 w0 W g f0 f1) (m : Nat) : IsS60 w0 (W.drewN m) g f0 f1 := h
theorem IsS60.drew {w0 W : World} {g : Nat} {f0 : List Int} {f1 : Int} (h : IsS60 w0 W g f0 f1) : IsS60 w0 W.drew g f0 f1 := h
theorem IsS60.at_ {w0 W : World} {g : Nat} {f0 : List Int} {f1 : Int} {w' : World} {m : Nat} (hq : W.drewN m = w') (h : IsS60 w0 W g f0 f1) : IsS60 w0 w' g f0 f1 := by subst hq; exact IsS60.drewN h m
theorem IsS60.apart {w0 W : World} {g : Nat} {f0 : List Int} {f1 : Int} {α : Type} {d : Kd α} {e : Nat} {base : Nat} {ok : Nat → Prop} {v : Value} {xs : List α} (h : IsS60 w0 W g f0 f1) (ho : d.R e W base ok v xs) (ht : ∀ q, q ∈ e :: d.E → q ≠ 60) : d.R e W base (fun k => ok k ∧ k ≠ g) v xs := by
 obtain ⟨A0, c0, hb, hg, hr0⟩ := h
 exact Kd.R_types ho hb ht
theorem IsS60.own_ne {w0 W : World} {g : Nat} {f0 : List Int} {f1 : Int} {α : Type} {d : Kd α} {e : Nat} {base : Nat} {ok : Nat → Prop} {v : Value} {xs : List α} (h : IsS60 w0 W g f0 f1) (ho : d.R e W base ok v xs) (ht : e ≠ 60) : some g ≠ v.ownBlock := by
 obtain ⟨A0, c0, hb, hg, hr0⟩ := h
 exact Kd.R_ne ho hb ht
theorem IsS60.apartQ {w0 W : World} {g : Nat} {f0 : List Int} {f1 : Int} {α : Type} {d : Kd α} {e : Nat} {base : Nat} {ok : Nat → Prop} {v : Value} {xs : List α} (h : IsS60 w0 W g f0 f1) (ho : d.Q e W base ok v xs) (ht : ∀ q, q ∈ e :: d.E → q ≠ 60) : d.Q e W base (fun k => ok k ∧ k ≠ g) v xs := by
 obtain ⟨A0, c0, hb, hg, hr0⟩ := h
 exact Kd.Q_types ho hb ht
theorem IsS60.own_neQ {w0 W : World} {g : Nat} {f0 : List Int} {f1 : Int} {α : Type} {d : Kd α} {e : Nat} {base : Nat} {ok : Nat → Prop} {v : Value} {xs : List α} (h : IsS60 w0 W g f0 f1) (ho : d.Q e W base ok v xs) (ht : e ≠ 60) : some g ≠ v.ownBlock := by
 obtain ⟨A0, c0, hb, hg, hr0⟩ := h
 exact Kd.Q_ne ho hb ht
theorem IsS60.apartS {w0 W : World} {g : Nat} {f0 : List Int} {f1 : Int} {α : Type} {d : Kd α} {e : Nat} {base : Nat} {ok : Nat → Prop} {v : Value} {xs : List α} (h : IsS60 w0 W g f0 f1) (ho : d.S e W base ok v xs) (ht : ∀ q, q ∈ e :: d.E → q ≠ 60) : d.S e W base (fun k => ok k ∧ k ≠ g) v xs := by
 obtain ⟨A0, c0, hb, hg, hr0⟩ := h
 exact Kd.S_types ho hb ht
theorem IsS60.own_neS {w0 W : World} {g : Nat} {f0 : List Int} {f1 : Int} {α : Type} {d : Kd α} {e : Nat} {base : Nat} {ok : Nat → Prop} {v : Value} {xs : List α} (h : IsS60 w0 W g f0 f1) (ho : d.S e W base ok v xs) (ht : e ≠ 60) : some g ≠ v.ownBlock := by
 obtain ⟨A0, c0, hb, hg, hr0⟩ := h
 exact Kd.S_ne ho hb ht
theorem IsS60.lt {w0 W : World} {g : Nat} {f0 : List Int} {f1 : Int} (h : IsS60 w0 W g f0 f1) : g < W.heap.size := by
 obtain ⟨A0, c0, hb, hg, hr0⟩ := h
 exact blk_lt hb
theorem IsS60.ge {w0 W : World} {g : Nat} {f0 : List Int} {f1 : Int} (h : IsS60 w0 W g f0 f1) : w0.heap.size ≤ g := by
 obtain ⟨A0, c0, hb, hg, hr0⟩ := h
 exact hg
theorem IsS60.ne_blk {w0 W : World} {g : Nat} {f0 : List Int} {f1 : Int} {a : Nat} {cs : Array Value} {t : TypeId} {fr : Nat × Nat} (h : IsS60 w0 W g f0 f1) (hb2 : W.heap[a]? = some (.cells cs t fr)) (ht : t ≠ 60) : g ≠ a := by
 obtain ⟨A0, c0, hb, hg, hr0⟩ := h
 rintro rfl
 rw [hb] at hb2
 injection hb2 with hb2
 injection hb2 with _ ht2
 exact ht ht2.symm
theorem IsS60.far {w0 W : World} {g : Nat} {f0 : List Int} {f1 : Int} {p : Addr} (h : IsS60 w0 W g f0 f1) (hne : g ≠ p.block) (u : Value) : IsS60 w0 (W.setCell p u) g f0 f1 := by
 obtain ⟨A0, c0, hb, hg, hr0⟩ := h
 exact ⟨A0, c0, blk_far hb hne u, hg, hr0⟩
theorem cellS60_0 {W : World} {g : Nat} {A0 : Option Addr} {c0 : Nat} {f0 : List Int} {f1 : Int} (h : W.heap[g]? = some (.cells #[.slice A0 f0.length c0, .int .i64 f1] 60 (0, 0))) : W.cell? ⟨g, 0, none⟩ = some (.slice A0 f0.length c0) := (blk_cell h 0).trans rfl
theorem cellS60_1 {W : World} {g : Nat} {A0 : Option Addr} {c0 : Nat} {f0 : List Int} {f1 : Int} (h : W.heap[g]? = some (.cells #[.slice A0 f0.length c0, .int .i64 f1] 60 (0, 0))) : W.cell? ⟨g, 1, none⟩ = some (.int .i64 f1) := (blk_cell h 1).trans rfl
theorem IsS60.set_1 {w0 W : World} {g : Nat} {f0 : List Int} {f1 : Int} (h : IsS60 w0 W g f0 f1) (x : Int) : IsS60 w0 (W.setCell ⟨g, 1, none⟩ (.int .i64 x)) g f0 x := by
 obtain ⟨A0, c0, hb, hg, hr0⟩ := h
 exact ⟨A0, c0, by simpa using blk_set hb 1 (.int .i64 x), hg, hr0⟩
theorem IsS60.new (w0 W : World) (A0 : Option Addr) (c0 : Nat) (f0 : List Int) (f1 : Int) (hB : Below w0.heap.size w0 W) (hr0 : Kd.C (Kd.int .u8) w0 A0 f0.length f0) : IsS60 w0 (W.alloc (.cells #[.slice A0 f0.length c0, .int .i64 f1] 60)) W.heap.size f0 f1 := ⟨A0, c0, by simpa using heap_alloc_new W _, hB.size, hr0⟩
theorem farA60 {w0 W : World} {g : Nat} {f0 : List Int} {f1 : Int} {g2 j : Nat} {u : Value} (h : IsS60 w0 W g f0 f1) (hn : Aside0 (g ≠ g2)) : IsS60 w0 (W.setCell ⟨g2, j, none⟩ u) g f0 f1 := IsS60.far h hn.out u
theorem iS60 {w0 W W2 : World} {g : Nat} {f0 : List Int} {f1 : Int} {f0' : List Int} {f1' : Int} (a : IsS60 w0 W g f0 f1) (f : IsS60 w0 W g f0 f1 → IsS60 w0 W2 g f0' f1' := by intro h_; repeat (first | (with_reducible first | exact h_ | apply IsS60.alloc | apply IsS60.drewN | apply IsS60.drew | apply IsS60.set_1 | (refine farA60 ?_ ?_; rotate_left; assumption)) | exact h_)) : IsS60 w0 W2 g f0' f1' := f a
theorem wS60 {n : Nat} {w w' W : World} (a : Below n w w') (f : Below n w w' → Below n w W := by intro h_; repeat (first | (with_reducible first | exact h_ | apply below_alloc | apply pw_below_drewN | apply below_drew1 | (refine below_set ?_ ?_; rotate_left; exact IsS60.ge (Aside0.out (by assumption))) | (refine below_setA ?_ ?_; rotate_left; assumption)) | exact h_)) : Below n w W := f a
def spec_newReader.f (l0 : List Int) : Option (List Int × Int) := if (l0.length : Int) > 2000 then (if 2000 ≤ (l0.length : Int) then (some (l0.take 2000, 0)) else (none)) else (some (l0, 0))
set_option maxHeartbeats 8000000 in
set_option maxRecDepth 100000 in
theorem spec_newReader.calls (A0 : Option Addr) (c0 : Nat) (l0 : List Int) (r1 : List Int) (r2 : Int) (w0 w : World) (hB : Below w0.heap.size w0 w) (hr0 : Kd.C (Kd.int .u8) w0 A0 l0.length l0) (hc0 : l0.length ≤ c0) (h : spec_newReader.f l0 = some (r1, r2)) :
  Calls Try.prog 33 #[.slice A0 l0.length c0] w fun e w' => ∃ g_ : Nat, e = .returned (.pointer (some ⟨g_, 0, none⟩)) ∧ IsS60 w0 w' g_ r1 r2 ∧ Below w0.heap.size w0 w' ∧ Below w.heap.size w w' := by
 have hu60 := Try.underlying60
 have HR0 := aM hr0
 have HC0 := aM hc0
 clear hr0 hc0
 have HBW := aM (Below.refl w.heap.size w)
 have HW0 := aM hB.size
 have HB := aM hB
 clear hB
 unfold spec_newReader.f at h
 have H := h
 clear h
 by_cases c2 : (l0.length : Int) > 2000
 rotate_left
 ·rw [if_neg c2] at H
  have c2b0 : decide (2000 < (l0.length : Int)) = false := decide_eq_false c2
  have c2b1 : decide (2000 < l0.length) = false := decide_eq_false (by omega)
  clear c2
  simp only [Option.some.injEq, Prod.mk.injEq] at H
  obtain ⟨rfl, rfl⟩ := H
  go_enter Try.func33, Try.ntmps33
  go_wp2_with (first | ((with_reducible refine gate_dst (N := 10) rfl ?_); refine bxE (N := 10) (cs := #[.slice A0 l0.length c0, .int .i64 0]) (t := 60) ?_; intro gb193 hg w6 hbox hb; replace HB := bS HB hb; have BK193 := aM (hbox); have GW193 := aM ((by rw [hg]; exact (below_size (qW HBW.out)) : w.heap.size ≤ gb193)); have GE193 := aM ((Nat.le_trans HW0.out (by rw [hg]; exact (below_size (qW HBW.out)) : w.heap.size ≤ gb193) : w0.heap.size ≤ gb193)); replace HBW := aM (below_step HBW.out hb); clear hb hbox hg))
  go_ret
  exact ⟨_, rfl, (show IsS60 w0 _ gb193 l0 0 from ⟨_, _, by refine qB ?_; exact BK193.out, GE193.out, HR0.out⟩), by exact qW HB.out, by exact qW HBW.out⟩
 rw [if_pos c2] at H
 have c2b0 : decide (2000 < (l0.length : Int)) = true := decide_eq_true c2
 have c2b1 : decide (2000 < l0.length) = true := decide_eq_true (by omega)
 clear c2
 replace H := iS H
 obtain ⟨c3, H⟩ := H
 have c3b0 := eq_true c3
 have c3b1 : decide (2000 ≤ (l0.length : Int)) = true := decide_eq_true c3
 clear c3
 simp only [Option.some.injEq, Prod.mk.injEq] at H
 obtain ⟨rfl, rfl⟩ := H
 obtain ⟨i04, hi04, _, hsz4, _⟩ := info_parts info5
 obtain ⟨hcut4, hA4, hC4⟩ := print_take_of (P := Try.prog) (Value.int .u8) 0 27 5 .i64 Try.underlying27 hi04 hsz4 A0 c0 l0 2000 (by omega) oD HC0.out
 have HR191 := aM (Kd.C_of_reads (h1 := fun _ => rfl) (hA4 _ (Kd.reads_of_C HR0.out)))
 have HC191 := aM hC4
 clear hA4 hC4 hi04 hsz4
 go_enter Try.func33, Try.ntmps33
 go_wp2_with (first | ((with_reducible refine gate_dst (N := 10) rfl ?_); refine bxE (N := 10) (cs := #[.slice A0 (l0.take 2000).length c0, .int .i64 0]) (t := 60) ?_; intro gb192 hg w5 hbox hb; replace HB := bS HB hb; have BK192 := aM (hbox); have GW192 := aM ((by rw [hg]; exact (below_size (qW HBW.out)) : w.heap.size ≤ gb192)); have GE192 := aM ((Nat.le_trans HW0.out (by rw [hg]; exact (below_size (qW HBW.out)) : w.heap.size ≤ gb192) : w0.heap.size ≤ gb192)); replace HBW := aM (below_step HBW.out hb); clear hb hbox hg))
 go_ret
 exact ⟨_, rfl, (show IsS60 w0 _ gb192 (l0.take 2000) 0 from ⟨_, _, by refine qB ?_; exact BK192.out, GE192.out, HR191.out⟩), by exact qW HB.out, by exact qW HBW.out⟩
def spec_reader_pick.j0 : Nat → Int → Bool → List Int → Int → Option (Int × Int)
 | 0, _, _, _, _ => none
 | k + 1, x1, x24, x1000, x1001 => if x24 = true then (some (0, x1001)) else (if (wrap64 (x1001 - 1)) < (x1000.length : Int) then (if 0 ≤ (wrap64 (x1001 - 1)) then (if x1 = 0 then (none) else (some (Int.tmod (wrap64 (rd x1000 (wrap64 (x1001 - 1)))) x1, x1001))) else (none)) else (if (x1000.length : Int) = 0 then (none) else (if 0 ≤ (Int.tmod (wrap64 (x1001 - 1)) (x1000.length : Int)) then (if (Int.tmod (wrap64 (x1001 - 1)) (x1000.length : Int)) < (x1000.length : Int) then (if 0 ≤ (Int.tmod (wrap64 ((wrap64 ((wrap64 (x1001 - 1)) * 7)) + 3)) (x1000.length : Int)) then (if (Int.tmod (wrap64 ((wrap64 ((wrap64 (x1001 - 1)) * 7)) + 3)) (x1000.length : Int)) < (x1000.length : Int) then (if x1 = 0 then (none) else (some (Int.tmod (Go.bits .xor .i64 (wrap64 ((wrap64 ((wrap64 ((wrap64 ((wrap64 (rd x1000 (Int.tmod (wrap64 (x1001 - 1)) (x1000.length : Int)))) * 131)) + (wrap64 ((wrap64 (rd x1000 (Int.tmod (wrap64 ((wrap64 ((wrap64 (x1001 - 1)) * 7)) + 3)) (x1000.length : Int)))) * 1117)))) + (wrap64 ((wrap64 (x1001 - 1)) * 29)))) + (wrap64 ((wrap64 (Int.tdiv (wrap64 (x1001 - 1)) (x1000.length : Int))) * 53)))) (wrap64 (Int.tdiv (wrap64 ((wrap64 ((wrap64 ((wrap64 ((wrap64 (rd x1000 (Int.tmod (wrap64 (x1001 - 1)) (x1000.length : Int)))) * 131)) + (wrap64 ((wrap64 (rd x1000 (Int.tmod (wrap64 ((wrap64 ((wrap64 (x1001 - 1)) * 7)) + 3)) (x1000.length : Int)))) * 1117)))) + (wrap64 ((wrap64 (x1001 - 1)) * 29)))) + (wrap64 ((wrap64 (Int.tdiv (wrap64 (x1001 - 1)) (x1000.length : Int))) * 53)))) 64))) x1, x1001))) else (none)) else (none)) else (none)) else (none))))
def spec_reader_pick.f (k : Nat) (s0_0 : List Int) (s0_1 : Int) (a1 : Int) : Option (Int × Int) := if a1 < 1 then (spec_reader_pick.j0 k a1 true s0_0 (wrap64 (s0_1 + 1))) else (spec_reader_pick.j0 k a1 ((s0_0.length : Int) == 0) s0_0 (wrap64 (s0_1 + 1)))
theorem spec_reader_pick.mono_l : ∀ k, (∀ y0 y1 y2 y3, LeO (spec_reader_pick.j0 k y0 y1 y2 y3) (spec_reader_pick.j0 (k + 1) y0 y1 y2 y3))
 | 0 => fun _ _ _ _ r h => by simp [spec_reader_pick.j0] at h
 | k + 1 => by
  have ih0 := spec_reader_pick.mono_l k
  ·intro y0 y1 y2 y3
   unfold spec_reader_pick.j0
   repeat' first | (with_reducible first | exact ih0 _ _ _ _ | exact lR | exact lN | refine lI ?_ ?_ | refine lB ?_ fun _ => ?_) | exact ih0 _ _ _ _ | exact lN | refine lI ?_ ?_ | refine lB ?_ fun _ => ?_
theorem spec_reader_pick.mono : ∀ a0 a1 a2 k, LeO (spec_reader_pick.f k a0 a1 a2) (spec_reader_pick.f (k + 1) a0 a1 a2) := by
 intro a0 a1 a2 k
 have ih0 := spec_reader_pick.mono_l k
 unfold spec_reader_pick.f
 repeat' first | (with_reducible first | exact ih0 _ _ _ _ | exact lR | exact lN | refine lI ?_ ?_ | refine lB ?_ fun _ => ?_) | exact ih0 _ _ _ _ | exact lN | refine lI ?_ ?_ | refine lB ?_ fun _ => ?_
set_option maxHeartbeats 8000000 in
set_option maxRecDepth 100000 in
theorem spec_reader_pick.calls (k : Nat) (g : Nat) (s0_0 : List Int) (s0_1 : Int) (a1 : Int) (r1 : Int) (r2 : Int) (w0 w : World) (hI : IsS60 w0 w g s0_0 s0_1) (hB : Below w0.heap.size w0 w) (h : spec_reader_pick.f k s0_0 s0_1 a1 = some (r1, r2)) :
  Calls Try.prog 36 #[.pointer (some ⟨g, 0, none⟩), .int .i64 a1] w fun e w' => e = .returned (.int .i64 r1) ∧ IsS60 w0 w' g s0_0 r2 ∧ Below w0.heap.size w0 w' ∧ KeepBut w w' g none := by
 have HI0 := aM hI
 have HK := aM (KeepBut.refl w g none)
 have HL := aM hB.size
 clear hI
 have HW0 := aM hB.size
 have HB := aM hB
 clear hB
 unfold spec_reader_pick.f at h
 have H := h
 clear h
 have HC3 := aM H
 clear H
 obtain ⟨ASz4_0, cSz4_0, HGz4, hgz4, HSz4_0⟩ := HI0.out
 have hcz4_0 := cellS60_0 HGz4
 have hcz4_1 := cellS60_1 HGz4
 have hfz4_1 := blk_frozen HGz4 1
 clear HGz4 hgz4
 go_enter Try.func36, Try.ntmps36
 go_upto_region 2 with (fail)
 repeat (go_quiet (fail); go_upto_region 2 with (fail))
 go_cut [24] (fun v24 wc => ∃ (kq : Nat) (x24_2 : Bool), v24 = .bool x24_2 ∧ Aside0 (spec_reader_pick.j0 kq a1 x24_2 s0_0 (wrap64 (s0_1 + 1)) = some (r1, r2)) ∧ Aside0 (kq ≤ k) ∧ Aside0 (IsS60 w0 wc g s0_0 (wrap64 (s0_1 + 1))) ∧ Aside0 (KeepBut w wc g none) ∧ Aside0 (Below w0.heap.size w0 wc))
 case first =>
  have H := HC3.out
  clear HC3
  by_cases c5 : a1 < 1
  ·rw [if_pos c5] at H
   have c5b0 : decide (a1 < 1) = true := decide_eq_true c5
   clear c5
   (first | rw [c5b0] | (simp only [i64_w, i32_w]; rw [c5b0]) | skip)
   have H' := aM H
   clear H
   go_wp2
   repeat (go_quiet (fail); try go_wp2)
   go_meet
   case rel => exact ⟨_, (true), qE, H', ⟨by first | omega | exact Nat.le_refl _⟩, ⟨iS60 HI0.out⟩, ⟨kB HK.out⟩, ⟨wS60 HB.out⟩⟩
  rw [if_neg c5] at H
  have c5b0 : decide (a1 < 1) = false := decide_eq_false c5
  clear c5
  (first | rw [c5b0] | (simp only [i64_w, i32_w]; rw [c5b0]) | skip)
  have H' := aM H
  clear H
  obtain ⟨ASz6_0, cSz6_0, HGz6, hgz6, HSz6_0⟩ := HI0.out
  have hcz6_0 := cellS60_0 HGz6
  have hcz6_1 := cellS60_1 HGz6
  have hfz6_1 := blk_frozen HGz6 1
  clear HGz6 hgz6
  go_wp2
  repeat (go_quiet (fail); try go_wp2)
  go_meet
  case rel => exact ⟨_, (((s0_0.length : Int) == 0)), qE, H', ⟨by first | omega | exact Nat.le_refl _⟩, ⟨iS60 HI0.out⟩, ⟨kB HK.out⟩, ⟨wS60 HB.out⟩⟩
 case rest =>
  clear HC3
  try clear c5
  try clear c5b0
  try clear hcz4_0 hcz4_1 hfz4_1
  try clear hcz6_0 hcz6_1 hfz6_1
  obtain ⟨kq, x24_2, rfl, HA, HJ2, HI0, HK, HB⟩ := hcut
  cases kq with
  | zero => exact absurd HA.out (by simp [spec_reader_pick.j0])
  | succ kj2 =>
   have H := HA.out
   clear HA
   simp only [spec_reader_pick.j0] at H
   by_cases c7 : x24_2 = true
   ·subst c7
    have H1 : (some (0, (wrap64 (s0_1 + 1)))) = some (r1, r2) := by rw [if_pos rfl] at H; exact H
    clear H
    have H := H1
    clear H1
    simp only [Option.some.injEq, Prod.mk.injEq] at H
    obtain ⟨rfl, rfl⟩ := H
    go_wp2
    repeat (go_quiet (fail); try go_wp2)
    go_ret
    exact ⟨qX, iS60 HI0.out, wS60 HB.out, kB HK.out⟩
   replace c7 := Bool.eq_false_iff.mpr c7
   subst c7
   have H1 : (if (wrap64 ((wrap64 (s0_1 + 1)) - 1)) < (s0_0.length : Int) then (if 0 ≤ (wrap64 ((wrap64 (s0_1 + 1)) - 1)) then (if a1 = 0 then (none) else (some (Int.tmod (wrap64 (rd s0_0 (wrap64 ((wrap64 (s0_1 + 1)) - 1)))) a1, (wrap64 (s0_1 + 1))))) else (none)) else (if (s0_0.length : Int) = 0 then (none) else (if 0 ≤ (Int.tmod (wrap64 ((wrap64 (s0_1 + 1)) - 1)) (s0_0.length : Int)) then (if (Int.tmod (wrap64 ((wrap64 (s0_1 + 1)) - 1)) (s0_0.length : Int)) < (s0_0.length : Int) then (if 0 ≤ (Int.tmod (wrap64 ((wrap64 ((wrap64 ((wrap64 (s0_1 + 1)) - 1)) * 7)) + 3)) (s0_0.length : Int)) then (if (Int.tmod (wrap64 ((wrap64 ((wrap64 ((wrap64 (s0_1 + 1)) - 1)) * 7)) + 3)) (s0_0.length : Int)) < (s0_0.length : Int) then (if a1 = 0 then (none) else (some (Int.tmod (Go.bits .xor .i64 (wrap64 ((wrap64 ((wrap64 ((wrap64 ((wrap64 (rd s0_0 (Int.tmod (wrap64 ((wrap64 (s0_1 + 1)) - 1)) (s0_0.length : Int)))) * 131)) + (wrap64 ((wrap64 (rd s0_0 (Int.tmod (wrap64 ((wrap64 ((wrap64 ((wrap64 (s0_1 + 1)) - 1)) * 7)) + 3)) (s0_0.length : Int)))) * 1117)))) + (wrap64 ((wrap64 ((wrap64 (s0_1 + 1)) - 1)) * 29)))) + (wrap64 ((wrap64 (Int.tdiv (wrap64 ((wrap64 (s0_1 + 1)) - 1)) (s0_0.length : Int))) * 53)))) (wrap64 (Int.tdiv (wrap64 ((wrap64 ((wrap64 ((wrap64 ((wrap64 (rd s0_0 (Int.tmod (wrap64 ((wrap64 (s0_1 + 1)) - 1)) (s0_0.length : Int)))) * 131)) + (wrap64 ((wrap64 (rd s0_0 (Int.tmod (wrap64 ((wrap64 ((wrap64 ((wrap64 (s0_1 + 1)) - 1)) * 7)) + 3)) (s0_0.length : Int)))) * 1117)))) + (wrap64 ((wrap64 ((wrap64 (s0_1 + 1)) - 1)) * 29)))) + (wrap64 ((wrap64 (Int.tdiv (wrap64 ((wrap64 (s0_1 + 1)) - 1)) (s0_0.length : Int))) * 53)))) 64))) a1, (wrap64 (s0_1 + 1))))) else (none)) else (none)) else (none)) else (none)))) = some (r1, r2) := by rw [if_neg (show ¬ (false = true) by decide)] at H; exact H
   clear H
   have H := H1
   clear H1
   by_cases c8 : (wrap64 ((wrap64 (s0_1 + 1)) - 1)) < (s0_0.length : Int)
   ·rw [if_pos c8] at H
    have c8b0 : decide ((wrap64 ((wrap64 (s0_1 + 1)) - 1)) < (s0_0.length : Int)) = true := decide_eq_true c8
    clear c8
    obtain ⟨ji9, hji9⟩ : ∃ j_ : Int, (wrap64 ((wrap64 (s0_1 + 1)) - 1)) = j_ := ⟨_, rfl⟩
    replace H : (if 0 ≤ (ji9) then (if a1 = 0 then (none) else (some (Int.tmod (wrap64 (rd s0_0 (ji9))) a1, (wrap64 (s0_1 + 1))))) else (none)) = some (r1, r2) := by first | (rw [hji9] at H; exact H) | (simp only [hji9] at H ⊢; exact H)
    (try rw [hji9] at c8b0)
    have hji9w : (IntKind.i64.wrap ((wrap64 (s0_1 + 1)) - 1)) = ji9 := (i64_w _).trans hji9
    replace H := iD H
    obtain ⟨c10b0, H⟩ := H
    by_cases c11 : a1 = 0
    ·rw [if_pos c11] at H
     exact absurd H (by simp)
    rw [if_neg c11] at H
    have c11b0 : (a1 == 0) = false := beq_eq_false_iff_ne.mpr c11
    have c11b1 : (a1 != 0) = true := bne_iff_ne.mpr c11
    simp only [Option.some.injEq, Prod.mk.injEq] at H
    obtain ⟨rfl, rfl⟩ := H
    obtain ⟨ASz12_0, cSz12_0, HGz12, hgz12, HSz12_0⟩ := HI0.out
    have hcz12_0 := cellS60_0 HGz12
    have hcz12_1 := cellS60_1 HGz12
    have hfz12_1 := blk_frozen HGz12 1
    clear HGz12 hgz12
    obtain ⟨ad194, e194, hx194_0⟩ := Kd.at_int HSz12_0 (ji9) oD oD
    cases e194
    replace hx194_0 := pw_cell_below HB.out hx194_0
    have p194 := eq_true (oD : 0 ≤ ((ji9) : Int))
    have q194 := eq_true (oD : (ji9) < (s0_0.length : Int))
    go_wp2
    repeat (go_quiet (fail); try go_wp2)
    go_ret
    exact ⟨by first | rfl | (simp [errW_none, errW_some] <;> rfl) | (simp only [← hji9]; first | rfl | (simp [errW_none, errW_some] <;> rfl)) | (simp [*, errW_none, errW_some] <;> rfl), iS60 HI0.out, wS60 HB.out, kB HK.out⟩
   rw [if_neg c8] at H
   have c8b0 : decide ((wrap64 ((wrap64 (s0_1 + 1)) - 1)) < (s0_0.length : Int)) = false := decide_eq_false c8
   clear c8
   by_cases c13 : (s0_0.length : Int) = 0
   ·rw [if_pos c13] at H
    exact absurd H (by simp)
   rw [if_neg c13] at H
   have c13b0 : ((s0_0.length : Int) == 0) = false := beq_eq_false_iff_ne.mpr c13
   have c13b1 : ((s0_0.length : Int) != 0) = true := bne_iff_ne.mpr c13
   have c13b2 : ¬ (s0_0 = []) := fun h_ => c13 (by rw [h_]; rfl)
   obtain ⟨ji14, hji14⟩ : ∃ j_ : Int, (Int.tmod (wrap64 ((wrap64 (s0_1 + 1)) - 1)) (s0_0.length : Int)) = j_ := ⟨_, rfl⟩
   replace H : (if 0 ≤ (ji14) then (if (ji14) < (s0_0.length : Int) then (if 0 ≤ (Int.tmod (wrap64 ((wrap64 ((wrap64 ((wrap64 (s0_1 + 1)) - 1)) * 7)) + 3)) (s0_0.length : Int)) then (if (Int.tmod (wrap64 ((wrap64 ((wrap64 ((wrap64 (s0_1 + 1)) - 1)) * 7)) + 3)) (s0_0.length : Int)) < (s0_0.length : Int) then (if a1 = 0 then (none) else (some (Int.tmod (Go.bits .xor .i64 (wrap64 ((wrap64 ((wrap64 ((wrap64 ((wrap64 (rd s0_0 (ji14))) * 131)) + (wrap64 ((wrap64 (rd s0_0 (Int.tmod (wrap64 ((wrap64 ((wrap64 ((wrap64 (s0_1 + 1)) - 1)) * 7)) + 3)) (s0_0.length : Int)))) * 1117)))) + (wrap64 ((wrap64 ((wrap64 (s0_1 + 1)) - 1)) * 29)))) + (wrap64 ((wrap64 (Int.tdiv (wrap64 ((wrap64 (s0_1 + 1)) - 1)) (s0_0.length : Int))) * 53)))) (wrap64 (Int.tdiv (wrap64 ((wrap64 ((wrap64 ((wrap64 ((wrap64 (rd s0_0 (ji14))) * 131)) + (wrap64 ((wrap64 (rd s0_0 (Int.tmod (wrap64 ((wrap64 ((wrap64 ((wrap64 (s0_1 + 1)) - 1)) * 7)) + 3)) (s0_0.length : Int)))) * 1117)))) + (wrap64 ((wrap64 ((wrap64 (s0_1 + 1)) - 1)) * 29)))) + (wrap64 ((wrap64 (Int.tdiv (wrap64 ((wrap64 (s0_1 + 1)) - 1)) (s0_0.length : Int))) * 53)))) 64))) a1, (wrap64 (s0_1 + 1))))) else (none)) else (none)) else (none)) else (none)) = some (r1, r2) := by first | (rw [hji14] at H; exact H) | (simp only [hji14] at H ⊢; exact H)
   replace H := iD H
   obtain ⟨c15b0, H⟩ := H
   replace H := iD H
   obtain ⟨c16b0, H⟩ := H
   obtain ⟨ji17, hji17⟩ : ∃ j_ : Int, (Int.tmod (wrap64 ((wrap64 ((wrap64 ((wrap64 (s0_1 + 1)) - 1)) * 7)) + 3)) (s0_0.length : Int)) = j_ := ⟨_, rfl⟩
   replace H : (if 0 ≤ (ji17) then (if (ji17) < (s0_0.length : Int) then (if a1 = 0 then (none) else (some (Int.tmod (Go.bits .xor .i64 (wrap64 ((wrap64 ((wrap64 ((wrap64 ((wrap64 (rd s0_0 (ji14))) * 131)) + (wrap64 ((wrap64 (rd s0_0 (ji17))) * 1117)))) + (wrap64 ((wrap64 ((wrap64 (s0_1 + 1)) - 1)) * 29)))) + (wrap64 ((wrap64 (Int.tdiv (wrap64 ((wrap64 (s0_1 + 1)) - 1)) (s0_0.length : Int))) * 53)))) (wrap64 (Int.tdiv (wrap64 ((wrap64 ((wrap64 ((wrap64 ((wrap64 (rd s0_0 (ji14))) * 131)) + (wrap64 ((wrap64 (rd s0_0 (ji17))) * 1117)))) + (wrap64 ((wrap64 ((wrap64 (s0_1 + 1)) - 1)) * 29)))) + (wrap64 ((wrap64 (Int.tdiv (wrap64 ((wrap64 (s0_1 + 1)) - 1)) (s0_0.length : Int))) * 53)))) 64))) a1, (wrap64 (s0_1 + 1))))) else (none)) else (none)) = some (r1, r2) := by first | (rw [hji17] at H; exact H) | (simp only [hji17] at H ⊢; exact H)
   replace H := iD H
   obtain ⟨c18b0, H⟩ := H
   replace H := iD H
   obtain ⟨c19b0, H⟩ := H
   by_cases c20 : a1 = 0
   ·rw [if_pos c20] at H
    exact absurd H (by simp)
   rw [if_neg c20] at H
   have c20b0 : (a1 == 0) = false := beq_eq_false_iff_ne.mpr c20
   have c20b1 : (a1 != 0) = true := bne_iff_ne.mpr c20
   simp only [Option.some.injEq, Prod.mk.injEq] at H
   obtain ⟨rfl, rfl⟩ := H
   obtain ⟨ASz21_0, cSz21_0, HGz21, hgz21, HSz21_0⟩ := HI0.out
   have hcz21_0 := cellS60_0 HGz21
   have hcz21_1 := cellS60_1 HGz21
   have hfz21_1 := blk_frozen HGz21 1
   clear HGz21 hgz21
   obtain ⟨ad195, e195, hx195_0⟩ := Kd.at_int HSz21_0 (ji14) oD oD
   cases e195
   replace hx195_0 := pw_cell_below HB.out hx195_0
   have p195 := eq_true (oD : 0 ≤ ((ji14) : Int))
   have q195 := eq_true (oD : (ji14) < (s0_0.length : Int))
   obtain ⟨ad196, e196, hx196_0⟩ := Kd.at_int HSz21_0 (ji17) oD oD
   obtain rfl : ad195 = ad196 := (by injection e196)
   replace hx196_0 := pw_cell_below HB.out hx196_0
   have p196 := eq_true (oD : 0 ≤ ((ji17) : Int))
   have q196 := eq_true (oD : (ji17) < (s0_0.length : Int))
   go_wp2
   repeat (go_quiet (fail); try go_wp2)
   go_ret
   exact ⟨by first | rfl | (simp [errW_none, errW_some] <;> rfl) | (simp only [← hji14, ← hji17]; first | rfl | (simp [errW_none, errW_some] <;> rfl)) | (simp [*, errW_none, errW_some] <;> rfl), iS60 HI0.out, wS60 HB.out, kB HK.out⟩
def spec_reader_one.f (k : Nat) (s0_0 : List Int) (s0_1 : Int) (l1 : List Int) : Option (Int × Int) := (spec_reader_pick.f k s0_0 s0_1 (l1.length : Int)).bind fun bt197 => (if 0 ≤ bt197.1 then (if bt197.1 < (l1.length : Int) then (some (rd l1 bt197.1, bt197.2)) else (none)) else (none))
theorem spec_reader_one.mono : ∀ a0 a1 a2 k, LeO (spec_reader_one.f k a0 a1 a2) (spec_reader_one.f (k + 1) a0 a1 a2) := by
 intro a0 a1 a2 k
 unfold spec_reader_one.f
 repeat' first | (with_reducible first | exact spec_reader_pick.mono _ _ _ _ | exact lR | exact lN | refine lI ?_ ?_ | refine lB ?_ fun _ => ?_) | exact spec_reader_pick.mono _ _ _ _ | exact lN | refine lI ?_ ?_ | refine lB ?_ fun _ => ?_
set_option maxHeartbeats 8000000 in
set_option maxRecDepth 100000 in
theorem spec_reader_one.calls (k : Nat) (g : Nat) (s0_0 : List Int) (s0_1 : Int) (A1 : Option Addr) (c1 : Nat) (l1 : List Int) (r1 : Int) (r2 : Int) (w0 w : World) (hI : IsS60 w0 w g s0_0 s0_1) (hB : Below w0.heap.size w0 w) (hr1 : Kd.C (Kd.int .i64) w A1 l1.length l1) (hc1 : l1.length ≤ c1) (hf1 : ∀ ad, A1 = some ad → 0 < l1.length → ad.block ≠ g) (h : spec_reader_one.f k s0_0 s0_1 l1 = some (r1, r2)) :
  Calls Try.prog 35 #[.pointer (some ⟨g, 0, none⟩), .slice A1 l1.length c1] w fun e w' => e = .returned (.int .i64 r1) ∧ IsS60 w0 w' g s0_0 r2 ∧ Below w0.heap.size w0 w' ∧ KeepBut w w' g none := by
 have HR1 := aM hr1
 have HC1 := aM hc1
 clear hr1 hc1
 have HI0 := aM hI
 have HK := aM (KeepBut.refl w g none)
 have HL := aM hB.size
 clear hI
 have HW0 := aM hB.size
 have HB := aM hB
 clear hB
 unfold spec_reader_one.f at h
 have H := h
 clear h
 replace H := Option.bind_eq_some_iff.mp H
 obtain ⟨⟨t197, t198⟩, A30, H⟩ := H
 replace H : (if 0 ≤ t197 then (if t197 < (l1.length : Int) then (some (rd l1 t197, t198)) else (none)) else (none)) = some (r1, r2) := H
 have A3 := aM A30
 clear A30
 replace H := iD H
 obtain ⟨c4b0, H⟩ := H
 replace H := iD H
 obtain ⟨c5b0, H⟩ := H
 simp only [Option.some.injEq, Prod.mk.injEq] at H
 obtain ⟨rfl, rfl⟩ := H
 go_enter Try.func35, Try.ntmps35
 go_wp2_with (first | ((with_reducible refine gate_callee (f := 36) rfl ?_); refine gL (some 9) Try.func36 #[.pointer (some ⟨g, 0, none⟩), .int .i64 (l1.length : Int)] ?_; (with_reducible refine (spec_reader_pick.calls k g s0_0 s0_1 (l1.length : Int) t197 t198 w0 _ ?side1 ?side2 A3.out).mono ?_); (case side1 => exact iS60 HI0.out); (case side2 => exact wS60 HB.out); rintro e w6 ⟨rfl, hi, hb, hk⟩; refine ⟨_, rfl, ?_⟩; replace HK := aM (KeepBut.trans (kB HK.out) hk (.inl rfl)); replace HB := aM (hb); replace HI0 := aM (hi); clear hb hk hi; have p199 : 0 ≤ (t197 : Int) := oD; have q199 : t197 < (l1.length : Int) := oD; obtain ⟨ad199, e199, hx199_0⟩ := Kd.at_int HR1.out t197 p199 q199; cases e199; replace hx199_0 := keep_cell HK.out hx199_0 (by first | (rw [add_block]; exact hf1 _ rfl (by omega)) | exact hf1 _ rfl (by omega) | exact hf1 ad199 rfl (by omega)); replace p199 := eq_true p199; replace q199 := eq_true q199))
 go_ret
 exact ⟨qX, iS60 HI0.out, wS60 HB.out, kB HK.out⟩
def spec_copyInts.f (l0 : List Int) : Option (List Int) := (some (([] : List Int) : List Int)).bind fun y200 => (if y200.length + l0.length < 17592186044416 then (some (y200 ++ l0)) else (none))
set_option maxHeartbeats 8000000 in
set_option maxRecDepth 100000 in
theorem spec_copyInts.calls (A0 : Option Addr) (c0 : Nat) (l0 : List Int) (r : List Int) (w : World) (hr0 : Kd.C (Kd.int .i64) w A0 l0.length l0) (hc0 : l0.length ≤ c0) (h : spec_copyInts.f l0 = some r) :
  Calls Try.prog 52 #[.slice A0 l0.length c0] w fun e w' => ∃ v0_ : Value, e = .returned (v0_) ∧ Kd.R (Kd.int .i64) 3 w' w.heap.size (fun _ => True) v0_ r ∧ Below w.heap.size w w' := by
 have HR0 := aM hr0
 have HC0 := aM hc0
 clear hr0 hc0
 have HB := aM (Below.refl w.heap.size w)
 unfold spec_copyInts.f at h
 have H := h
 clear h
 obtain ⟨y200, hy200⟩ : ∃ y_ : List Int, y_ = (([] : List Int)) := ⟨_, rfl⟩
 replace H : (if y200.length + l0.length < 17592186044416 then (some (y200 ++ l0)) else (none)) = some r := rY hy200 H
 have Ny200 := aM hy200
 clear hy200
 replace H := iS H
 obtain ⟨c2, H⟩ := H
 have LMc2 := aM c2
 clear c2
 obtain ⟨y203, hy203⟩ : ∃ y_ : List Int, y_ = (y200 ++ l0) := ⟨_, rfl⟩
 replace H : (some y203) = some r := rY hy203 H
 have Ny203 := aM hy203
 clear hy203
 obtain rfl := Option.some.inj H
 go_enter Try.func52, Try.ntmps52
 go_wp2_with (first | ((with_reducible refine gate_dst (N := 3) rfl ?_); refine iL ([] : List Int) [] ?_; intro v201 w3 ho4 hb hg_ hnew_; clear hg_ hnew_; (first | rw [← Ny200.out] at ho4 | (simp only [Int.reduceToNat] at ho4; rw [← Ny200.out] at ho4)); have HO202 := oR ho4 HB; replace HB := bS HB hb; clear hb ho4) | ((with_reducible refine gate_builtin (b := .append) (xs := #[.tmp 3, .tmp 4]) rfl ?_); at_builtin; refine Kd.R_append_rows (Kd.int .i64) (w0 := w) w.heap.size rfl (.tmp 3) (.tmp 4) 22 3 (.int .i64 0) 8 rfl Try.underlying22 info3 rfl (by decide) (by omega) v201 y200 l0 _ _ _ (fun _ => True) (fun _ => False) rfl rfl ?aO ?aR (fun _ _ h => h) (fun _ h => h.elim) ?aF ?aB ?aS ?aL ?_; (case aR => exact qC (Kd.C_below HR0.out HB.out)); (case aB => exact (qW HB.out)); (case aF => exact (fun _ _ => trivial)); (case aO => exact (qR HO202.out)); (case aS => exact (below_size (qW HB.out))); (case aL => have := LMc2.out; omega); intro v204 w5 ho hb hg hat; rw [← Ny203.out] at ho; replace HB := aM (hb); have HO205 := aM (ho); clear HO202; clear ho hb hg hat))
 go_ret
 exact ⟨_, qX, by refine qR ?_; exact HO205.out, by exact qW HB.out⟩
def spec_reader_spoil.f (k : Nat) (s0_0 : List Int) (s0_1 : Int) (l1 : List Int) (a2 : Int) : Option (List Int × Int) := (spec_copyInts.f l1).bind fun t206 => ((spec_reader_pick.f k s0_0 s0_1 20).bind fun bt209 => (if bt209.1 = 0 then (if t206.length < 17592186044416 then (some ((t206 ++ [a2]), bt209.2)) else (none)) else (if bt209.1 = 1 then (if (t206.length : Int) > 0 then (if 1 ≤ (t206.length : Int) then (some ((t206.drop (1 : Int).toNat), bt209.2)) else (none)) else (some (t206, bt209.2))) else (if bt209.1 = 2 then (if (t206.length : Int) > 0 then ((spec_reader_pick.f k s0_0 bt209.2 (t206.length : Int)).bind fun bt217 => ((spec_reader_one.f k s0_0 bt217.2 (([(-1), a2, 0, 1] : List Int))).bind fun bt222 => (if 0 ≤ bt217.1 then (if bt217.1 < (t206.length : Int) then (some ((t206.set (bt217.1 : Int).toNat bt222.1), bt222.2)) else (none)) else (none)))) else (some (t206, bt209.2))) else (some (t206, bt209.2))))))
theorem spec_reader_spoil.mono : ∀ a0 a1 a2 a3 k, LeO (spec_reader_spoil.f k a0 a1 a2 a3) (spec_reader_spoil.f (k + 1) a0 a1 a2 a3) := by
 intro a0 a1 a2 a3 k
 unfold spec_reader_spoil.f
 repeat' first | (with_reducible first | exact spec_reader_one.mono _ _ _ _ | exact spec_reader_pick.mono _ _ _ _ | exact lR | exact lN | refine lI ?_ ?_ | refine lB ?_ fun _ => ?_) | exact spec_reader_one.mono _ _ _ _ | exact spec_reader_pick.mono _ _ _ _ | exact lN | refine lI ?_ ?_ | refine lB ?_ fun _ => ?_
set_option maxHeartbeats 8000000 in
set_option maxRecDepth 100000 in
theorem spec_reader_spoil.calls (k : Nat) (g : Nat) (s0_0 : List Int) (s0_1 : Int) (A1 : Option Addr) (c1 : Nat) (l1 : List Int) (a2 : Int) (r1 : List Int) (r2 : Int) (w0 w : World) (hI : IsS60 w0 w g s0_0 s0_1) (hB : Below w0.heap.size w0 w) (hr1 : Kd.C (Kd.int .i64) w A1 l1.length l1) (hc1 : l1.length ≤ c1) (hf1 : ∀ ad, A1 = some ad → 0 < l1.length → ad.block ≠ g) (h : spec_reader_spoil.f k s0_0 s0_1 l1 a2 = some (r1, r2)) :
  Calls Try.prog 37 #[.pointer (some ⟨g, 0, none⟩), .slice A1 l1.length c1, .int .i64 a2] w fun e w' => ∃ v0_ : Value, e = .returned (v0_) ∧ Kd.Q (Kd.int .i64) 3 w' w.heap.size (fun _ => True) v0_ r1 ∧ IsS60 w0 w' g s0_0 r2 ∧ Below w0.heap.size w0 w' ∧ KeepBut w w' g none := by
 have HR1 := aM hr1
 have HC1 := aM hc1
 clear hr1 hc1
 have HI0 := aM hI
 have HK := aM (KeepBut.refl w g none)
 have HL := aM hB.size
 clear hI
 have HW0 := aM hB.size
 have HB := aM hB
 clear hB
 unfold spec_reader_spoil.f at h
 have H := h
 clear h
 replace H := Option.bind_eq_some_iff.mp H
 obtain ⟨t206, A40, H⟩ := H
 replace H : ((spec_reader_pick.f k s0_0 s0_1 20).bind fun bt209 => (if bt209.1 = 0 then (if t206.length < 17592186044416 then (some ((t206 ++ [a2]), bt209.2)) else (none)) else (if bt209.1 = 1 then (if (t206.length : Int) > 0 then (if 1 ≤ (t206.length : Int) then (some ((t206.drop (1 : Int).toNat), bt209.2)) else (none)) else (some (t206, bt209.2))) else (if bt209.1 = 2 then (if (t206.length : Int) > 0 then ((spec_reader_pick.f k s0_0 bt209.2 (t206.length : Int)).bind fun bt217 => ((spec_reader_one.f k s0_0 bt217.2 (([(-1), a2, 0, 1] : List Int))).bind fun bt222 => (if 0 ≤ bt217.1 then (if bt217.1 < (t206.length : Int) then (some ((t206.set (bt217.1 : Int).toNat bt222.1), bt222.2)) else (none)) else (none)))) else (some (t206, bt209.2))) else (some (t206, bt209.2)))))) = some (r1, r2) := H
 have A4 := aM A40
 clear A40
 replace H := Option.bind_eq_some_iff.mp H
 obtain ⟨⟨t209, t210⟩, A50, H⟩ := H
 replace H : (if t209 = 0 then (if t206.length < 17592186044416 then (some ((t206 ++ [a2]), t210)) else (none)) else (if t209 = 1 then (if (t206.length : Int) > 0 then (if 1 ≤ (t206.length : Int) then (some ((t206.drop (1 : Int).toNat), t210)) else (none)) else (some (t206, t210))) else (if t209 = 2 then (if (t206.length : Int) > 0 then ((spec_reader_pick.f k s0_0 t210 (t206.length : Int)).bind fun bt217 => ((spec_reader_one.f k s0_0 bt217.2 (([(-1), a2, 0, 1] : List Int))).bind fun bt222 => (if 0 ≤ bt217.1 then (if bt217.1 < (t206.length : Int) then (some ((t206.set (bt217.1 : Int).toNat bt222.1), bt222.2)) else (none)) else (none)))) else (some (t206, t210))) else (some (t206, t210))))) = some (r1, r2) := H
 have A5 := aM A50
 clear A50
 by_cases c6 : t209 = 0
 ·rw [if_pos c6] at H
  have c6b0 : (t209 == 0) = true := beq_iff_eq.mpr c6
  have c6b1 : (t209 != 0) = false := bne_eq_false_iff_eq.mpr c6
  clear c6
  replace H := iS H
  obtain ⟨c7, H⟩ := H
  have LMc7 := aM c7
  clear c7
  obtain ⟨y211, hy211⟩ : ∃ y_ : List Int, y_ = (t206 ++ [a2]) := ⟨_, rfl⟩
  replace H : (some (y211, t210)) = some (r1, r2) := rY hy211 H
  have Ny211 := aM hy211
  clear hy211
  simp only [Option.some.injEq, Prod.mk.injEq] at H
  obtain ⟨rfl, rfl⟩ := H
  go_enter Try.func37, Try.ntmps37
  go_wp2_with (first | ((with_reducible refine gate_callee (f := 52) rfl ?_); refine gL (some 9) Try.func52 #[.slice A1 l1.length c1] ?_; (with_reducible refine (spec_copyInts.calls _ _ l1 t206 _ ?side1 ?side2 A4.out).mono ?_); (case side1 => exact Kd.C_keep 0 HR1.out (kB HK.out) hf1); (case side2 => exact HC1.out); rintro e w8 ⟨v207, rfl, ho0, hb⟩; refine ⟨_, rfl, ?_⟩; have HO208 := lK ho0 HK; replace HK := aM (KeepBut.trans (kB HK.out) (KeepBut.of_below hb g none) (.inl rfl)); replace HB := aM (below_step (wS60 HB.out) hb); replace HI0 := aM (IsS60.below (iS60 HI0.out) hb); clear hb ho0) | ((with_reducible refine gate_callee (f := 36) rfl ?_); refine gL (some 11) Try.func36 #[.pointer (some ⟨g, 0, none⟩), .int .i64 20] ?_; (with_reducible refine (spec_reader_pick.calls k g s0_0 s0_1 20 t209 t210 w0 _ ?side1 ?side2 A5.out).mono ?_); (case side1 => exact iS60 HI0.out); (case side2 => exact wS60 HB.out); rintro e w9 ⟨rfl, hi, hb, hk⟩; refine ⟨_, rfl, ?_⟩; replace HO208 := aM (Kd.R_mono (Kd.R_keep (IsS60.apart (show IsS60 w0 _ g s0_0 s0_1 from iS60 HI0.out) (qR HO208.out) (by decide)) hk (fun _ h => h.2)) (fun _ h => h.1)); replace HK := aM (KeepBut.trans (kB HK.out) hk (.inl rfl)); replace HB := aM (hb); replace HI0 := aM (hi); clear hb hk hi) | ((with_reducible refine gate_builtin (b := .append) (xs := #[.tmp 14, .tmp 16]) rfl ?_); at_builtin; refine Kd.R_append (Kd.int .i64) w.heap.size rfl (.tmp 14) (.tmp 16) 22 3 (.int .i64 0) 8 rfl Try.underlying22 info3 rfl (by decide) (by omega) v207 t206 a2 [.int .i64 a2] (fun _ => True) (fun _ => False) rfl rfl ?aP (fun _ hk => hk.elim) ?aF ?aO (Below.refl _ _) ?aS ?aL ?_; (case aP => exact rfl); (case aF => exact (fun _ _ => trivial)); (case aO => exact (qR HO208.out)); (case aS => exact (keep_size (w := w) (g := g) (row := none) (kB HK.out))); (case aL => have := LMc7.out; omega); intro v212 w10 ho hb hg hat; rw [← Ny211.out] at ho; replace HB := aM (below_weaken (wS60 HB.out) HL.out hb); replace HI0 := aM (IsS60.grown (iS60 HI0.out) hg (IsS60.own_ne HI0.out HO208.out (by decide))); replace HK := aM (KeepBut.trans (kB HK.out) (KeepBut.of_grown hg g) (Kd.R_base2 HO208.out)); have HO213 := aM (ho); clear HO208; clear ho hb hg hat))
  go_ret
  exact ⟨_, qX, Kd.Q_of_R (qR HO213.out), iS60 HI0.out, wS60 HB.out, kB HK.out⟩
 rw [if_neg c6] at H
 have c6b0 : (t209 == 0) = false := beq_eq_false_iff_ne.mpr c6
 have c6b1 : (t209 != 0) = true := bne_iff_ne.mpr c6
 by_cases c11 : t209 = 1
 ·rw [if_pos c11] at H
  have c11b0 : (t209 == 1) = true := beq_iff_eq.mpr c11
  have c11b1 : (t209 != 1) = false := bne_eq_false_iff_eq.mpr c11
  clear c11
  by_cases c12 : (t206.length : Int) > 0
  rotate_left
  ·rw [if_neg c12] at H
   have c12b0 : decide (0 < (t206.length : Int)) = false := decide_eq_false c12
   have c12b1 : decide (0 < t206.length) = false := decide_eq_false (by omega)
   clear c12
   simp only [Option.some.injEq, Prod.mk.injEq] at H
   obtain ⟨rfl, rfl⟩ := H
   go_enter Try.func37, Try.ntmps37
   go_wp2_with (first | ((with_reducible refine gate_callee (f := 52) rfl ?_); refine gL (some 9) Try.func52 #[.slice A1 l1.length c1] ?_; (with_reducible refine (spec_copyInts.calls _ _ l1 t206 _ ?side1 ?side2 A4.out).mono ?_); (case side1 => exact Kd.C_keep 0 HR1.out (kB HK.out) hf1); (case side2 => exact HC1.out); rintro e w18 ⟨v207, rfl, ho0, hb⟩; refine ⟨_, rfl, ?_⟩; have HO208 := lK ho0 HK; replace HK := aM (KeepBut.trans (kB HK.out) (KeepBut.of_below hb g none) (.inl rfl)); replace HB := aM (below_step (wS60 HB.out) hb); replace HI0 := aM (IsS60.below (iS60 HI0.out) hb); clear hb ho0) | ((with_reducible refine gate_callee (f := 36) rfl ?_); refine gL (some 11) Try.func36 #[.pointer (some ⟨g, 0, none⟩), .int .i64 20] ?_; (with_reducible refine (spec_reader_pick.calls k g s0_0 s0_1 20 t209 t210 w0 _ ?side1 ?side2 A5.out).mono ?_); (case side1 => exact iS60 HI0.out); (case side2 => exact wS60 HB.out); rintro e w19 ⟨rfl, hi, hb, hk⟩; refine ⟨_, rfl, ?_⟩; replace HO208 := aM (Kd.R_mono (Kd.R_keep (IsS60.apart (show IsS60 w0 _ g s0_0 s0_1 from iS60 HI0.out) (qR HO208.out) (by decide)) hk (fun _ h => h.2)) (fun _ h => h.1)); replace HK := aM (KeepBut.trans (kB HK.out) hk (.inl rfl)); replace HB := aM (hb); replace HI0 := aM (hi); clear hb hk hi; obtain ⟨Ao20, co20, rfl⟩ := sL HO208))
   go_ret
   exact ⟨_, qX, Kd.Q_of_R (qR HO208.out), iS60 HI0.out, wS60 HB.out, kB HK.out⟩
  rw [if_pos c12] at H
  have c12b0 : decide (0 < (t206.length : Int)) = true := decide_eq_true c12
  have c12b1 : decide (0 < t206.length) = true := decide_eq_true (by omega)
  clear c12
  replace H := iS H
  obtain ⟨c13, H⟩ := H
  have c13b0 := eq_true c13
  have c13b1 : decide (1 ≤ (t206.length : Int)) = true := decide_eq_true c13
  clear c13
  obtain ⟨y214, hy214⟩ : ∃ y_ : List Int, y_ = (t206.drop (1 : Int).toNat) := ⟨_, rfl⟩
  replace H : (some (y214, t210)) = some (r1, r2) := rY hy214 H
  have Ny214 := aM hy214
  clear hy214
  simp only [Option.some.injEq, Prod.mk.injEq] at H
  obtain ⟨rfl, rfl⟩ := H
  go_enter Try.func37, Try.ntmps37
  go_wp2_with (first | ((with_reducible refine gate_callee (f := 52) rfl ?_); refine gL (some 9) Try.func52 #[.slice A1 l1.length c1] ?_; (with_reducible refine (spec_copyInts.calls _ _ l1 t206 _ ?side1 ?side2 A4.out).mono ?_); (case side1 => exact Kd.C_keep 0 HR1.out (kB HK.out) hf1); (case side2 => exact HC1.out); rintro e w14 ⟨v207, rfl, ho0, hb⟩; refine ⟨_, rfl, ?_⟩; have HO208 := lK ho0 HK; replace HK := aM (KeepBut.trans (kB HK.out) (KeepBut.of_below hb g none) (.inl rfl)); replace HB := aM (below_step (wS60 HB.out) hb); replace HI0 := aM (IsS60.below (iS60 HI0.out) hb); clear hb ho0) | ((with_reducible refine gate_callee (f := 36) rfl ?_); refine gL (some 11) Try.func36 #[.pointer (some ⟨g, 0, none⟩), .int .i64 20] ?_; (with_reducible refine (spec_reader_pick.calls k g s0_0 s0_1 20 t209 t210 w0 _ ?side1 ?side2 A5.out).mono ?_); (case side1 => exact iS60 HI0.out); (case side2 => exact wS60 HB.out); rintro e w15 ⟨rfl, hi, hb, hk⟩; refine ⟨_, rfl, ?_⟩; replace HO208 := aM (Kd.R_mono (Kd.R_keep (IsS60.apart (show IsS60 w0 _ g s0_0 s0_1 from iS60 HI0.out) (qR HO208.out) (by decide)) hk (fun _ h => h.2)) (fun _ h => h.1)); replace HK := aM (KeepBut.trans (kB HK.out) hk (.inl rfl)); replace HB := aM (hb); replace HI0 := aM (hi); clear hb hk hi; obtain ⟨Ao16, co16, rfl⟩ := sL HO208; have q17 : (1 : Int) ≤ ((t206.length : Int) : Int) := oD; obtain ⟨i017, hi017, _, hsz17, _⟩ := info_parts info3; have hcut17 := cut_from (P := Try.prog) 22 3 .i64 Try.underlying22 hi017 1 hsz17 Ao16 t206.length co16 1 (by omega) q17; have hr17 := Kd.Q_drop (k := (1 : Int).toNat) (Kd.Q_of_R HO208.out) (by omega); obtain ⟨A17, hA17⟩ : ∃ A1, A1 = (if co16 = (1 : Int).toNat then Ao16 else (Ao16 : Option Addr).map (·.add ((1 : Int).toNat * 1))) := ⟨_, rfl⟩; obtain ⟨c17, hc17⟩ : ∃ c1, c1 = co16 - (1 : Int).toNat := ⟨_, rfl⟩; have hy17 : y214.length = t206.length - (1 : Int).toNat := (by rw [Ny214.out, List.length_drop]); rw [← Ny214.out] at hr17; rw [← hy17, ← hA17, ← hc17] at hcut17; replace hr17 : Kd.Q (Kd.int .i64) 3 w15 w.heap.size (fun _ => True) (.slice A17 y214.length c17) y214 := (by rw [hA17, hc17, hy17]; exact hr17); have HE17 : Aside0 ((Value.slice A17 y214.length c17).ownBlock = (.slice Ao16 t206.length co16 : Value).ownBlock) := ⟨by rw [hA17]; split <;> (cases (Ao16 : Option Addr) <;> rfl)⟩; clear hy17 hi017 hsz17 HO208 hA17 hc17; have HO216 := aM hr17; clear hr17; replace q17 := eq_true q17))
  go_ret
  exact ⟨_, qX, by (with_reducible repeat (first | apply Kd.Q_alloc | apply Kd.Q_drewN | apply Kd.Q_drew)); exact HO216.out, iS60 HI0.out, wS60 HB.out, kB HK.out⟩
 rw [if_neg c11] at H
 have c11b0 : (t209 == 1) = false := beq_eq_false_iff_ne.mpr c11
 have c11b1 : (t209 != 1) = true := bne_iff_ne.mpr c11
 by_cases c21 : t209 = 2
 rotate_left
 ·rw [if_neg c21] at H
  have c21b0 : (t209 == 2) = false := beq_eq_false_iff_ne.mpr c21
  have c21b1 : (t209 != 2) = true := bne_iff_ne.mpr c21
  simp only [Option.some.injEq, Prod.mk.injEq] at H
  obtain ⟨rfl, rfl⟩ := H
  go_enter Try.func37, Try.ntmps37
  go_wp2_with (first | ((with_reducible refine gate_callee (f := 52) rfl ?_); refine gL (some 9) Try.func52 #[.slice A1 l1.length c1] ?_; (with_reducible refine (spec_copyInts.calls _ _ l1 t206 _ ?side1 ?side2 A4.out).mono ?_); (case side1 => exact Kd.C_keep 0 HR1.out (kB HK.out) hf1); (case side2 => exact HC1.out); rintro e w41 ⟨v207, rfl, ho0, hb⟩; refine ⟨_, rfl, ?_⟩; have HO208 := lK ho0 HK; replace HK := aM (KeepBut.trans (kB HK.out) (KeepBut.of_below hb g none) (.inl rfl)); replace HB := aM (below_step (wS60 HB.out) hb); replace HI0 := aM (IsS60.below (iS60 HI0.out) hb); clear hb ho0) | ((with_reducible refine gate_callee (f := 36) rfl ?_); refine gL (some 11) Try.func36 #[.pointer (some ⟨g, 0, none⟩), .int .i64 20] ?_; (with_reducible refine (spec_reader_pick.calls k g s0_0 s0_1 20 t209 t210 w0 _ ?side1 ?side2 A5.out).mono ?_); (case side1 => exact iS60 HI0.out); (case side2 => exact wS60 HB.out); rintro e w42 ⟨rfl, hi, hb, hk⟩; refine ⟨_, rfl, ?_⟩; replace HO208 := aM (Kd.R_mono (Kd.R_keep (IsS60.apart (show IsS60 w0 _ g s0_0 s0_1 from iS60 HI0.out) (qR HO208.out) (by decide)) hk (fun _ h => h.2)) (fun _ h => h.1)); replace HK := aM (KeepBut.trans (kB HK.out) hk (.inl rfl)); replace HB := aM (hb); replace HI0 := aM (hi); clear hb hk hi))
  go_ret
  exact ⟨_, qX, Kd.Q_of_R (qR HO208.out), iS60 HI0.out, wS60 HB.out, kB HK.out⟩
 rw [if_pos c21] at H
 have c21b0 : (t209 == 2) = true := beq_iff_eq.mpr c21
 have c21b1 : (t209 != 2) = false := bne_eq_false_iff_eq.mpr c21
 clear c21
 by_cases c22 : (t206.length : Int) > 0
 rotate_left
 ·rw [if_neg c22] at H
  have c22b0 : decide (0 < (t206.length : Int)) = false := decide_eq_false c22
  have c22b1 : decide (0 < t206.length) = false := decide_eq_false (by omega)
  clear c22
  simp only [Option.some.injEq, Prod.mk.injEq] at H
  obtain ⟨rfl, rfl⟩ := H
  go_enter Try.func37, Try.ntmps37
  go_wp2_with (first | ((with_reducible refine gate_callee (f := 52) rfl ?_); refine gL (some 9) Try.func52 #[.slice A1 l1.length c1] ?_; (with_reducible refine (spec_copyInts.calls _ _ l1 t206 _ ?side1 ?side2 A4.out).mono ?_); (case side1 => exact Kd.C_keep 0 HR1.out (kB HK.out) hf1); (case side2 => exact HC1.out); rintro e w38 ⟨v207, rfl, ho0, hb⟩; refine ⟨_, rfl, ?_⟩; have HO208 := lK ho0 HK; replace HK := aM (KeepBut.trans (kB HK.out) (KeepBut.of_below hb g none) (.inl rfl)); replace HB := aM (below_step (wS60 HB.out) hb); replace HI0 := aM (IsS60.below (iS60 HI0.out) hb); clear hb ho0) | ((with_reducible refine gate_callee (f := 36) rfl ?_); refine gL (some 11) Try.func36 #[.pointer (some ⟨g, 0, none⟩), .int .i64 20] ?_; (with_reducible refine (spec_reader_pick.calls k g s0_0 s0_1 20 t209 t210 w0 _ ?side1 ?side2 A5.out).mono ?_); (case side1 => exact iS60 HI0.out); (case side2 => exact wS60 HB.out); rintro e w39 ⟨rfl, hi, hb, hk⟩; refine ⟨_, rfl, ?_⟩; replace HO208 := aM (Kd.R_mono (Kd.R_keep (IsS60.apart (show IsS60 w0 _ g s0_0 s0_1 from iS60 HI0.out) (qR HO208.out) (by decide)) hk (fun _ h => h.2)) (fun _ h => h.1)); replace HK := aM (KeepBut.trans (kB HK.out) hk (.inl rfl)); replace HB := aM (hb); replace HI0 := aM (hi); clear hb hk hi; obtain ⟨Ao40, co40, rfl⟩ := sL HO208))
  go_ret
  exact ⟨_, qX, Kd.Q_of_R (qR HO208.out), iS60 HI0.out, wS60 HB.out, kB HK.out⟩
 rw [if_pos c22] at H
 have c22b0 : decide (0 < (t206.length : Int)) = true := decide_eq_true c22
 have c22b1 : decide (0 < t206.length) = true := decide_eq_true (by omega)
 clear c22
 replace H := Option.bind_eq_some_iff.mp H
 obtain ⟨⟨t217, t218⟩, A230, H⟩ := H
 replace H : ((spec_reader_one.f k s0_0 t218 (([(-1), a2, 0, 1] : List Int))).bind fun bt222 => (if 0 ≤ t217 then (if t217 < (t206.length : Int) then (some ((t206.set (t217 : Int).toNat bt222.1), bt222.2)) else (none)) else (none))) = some (r1, r2) := H
 have A23 := aM A230
 clear A230
 obtain ⟨y219, hy219⟩ : ∃ y_ : List Int, y_ = (([(-1), a2, 0, 1] : List Int)) := ⟨_, rfl⟩
 replace H : ((spec_reader_one.f k s0_0 t218 y219).bind fun bt222 => (if 0 ≤ t217 then (if t217 < (t206.length : Int) then (some ((t206.set (t217 : Int).toNat bt222.1), bt222.2)) else (none)) else (none))) = some (r1, r2) := rY hy219 H
 have Ny219 := aM hy219
 clear hy219
 replace H := Option.bind_eq_some_iff.mp H
 obtain ⟨⟨t222, t223⟩, A240, H⟩ := H
 replace H : (if 0 ≤ t217 then (if t217 < (t206.length : Int) then (some ((t206.set (t217 : Int).toNat t222), t223)) else (none)) else (none)) = some (r1, r2) := H
 have A24 := aM A240
 clear A240
 replace H := iD H
 obtain ⟨c25b0, H⟩ := H
 replace H := iD H
 obtain ⟨c26b0, H⟩ := H
 obtain ⟨y224, hy224⟩ : ∃ y_ : List Int, y_ = (t206.set (t217 : Int).toNat t222) := ⟨_, rfl⟩
 replace H : (some (y224, t223)) = some (r1, r2) := rY hy224 H
 have Ny224 := aM hy224
 clear hy224
 simp only [Option.some.injEq, Prod.mk.injEq] at H
 obtain ⟨rfl, rfl⟩ := H
 go_enter Try.func37, Try.ntmps37
 go_wp2_with (first | ((with_reducible refine gate_callee (f := 52) rfl ?_); refine gL (some 9) Try.func52 #[.slice A1 l1.length c1] ?_; (with_reducible refine (spec_copyInts.calls _ _ l1 t206 _ ?side1 ?side2 A4.out).mono ?_); (case side1 => exact Kd.C_keep 0 HR1.out (kB HK.out) hf1); (case side2 => exact HC1.out); rintro e w28 ⟨v207, rfl, ho0, hb⟩; refine ⟨_, rfl, ?_⟩; have HO208 := lK ho0 HK; replace HK := aM (KeepBut.trans (kB HK.out) (KeepBut.of_below hb g none) (.inl rfl)); replace HB := aM (below_step (wS60 HB.out) hb); replace HI0 := aM (IsS60.below (iS60 HI0.out) hb); clear hb ho0) | ((with_reducible refine gate_callee (f := 36) rfl ?_); refine gL (some 11) Try.func36 #[.pointer (some ⟨g, 0, none⟩), .int .i64 20] ?_; (with_reducible refine (spec_reader_pick.calls k g s0_0 s0_1 20 t209 t210 w0 _ ?side1 ?side2 A5.out).mono ?_); (case side1 => exact iS60 HI0.out); (case side2 => exact wS60 HB.out); rintro e w29 ⟨rfl, hi, hb, hk⟩; refine ⟨_, rfl, ?_⟩; replace HO208 := aM (Kd.R_mono (Kd.R_keep (IsS60.apart (show IsS60 w0 _ g s0_0 s0_1 from iS60 HI0.out) (qR HO208.out) (by decide)) hk (fun _ h => h.2)) (fun _ h => h.1)); replace HK := aM (KeepBut.trans (kB HK.out) hk (.inl rfl)); replace HB := aM (hb); replace HI0 := aM (hi); clear hb hk hi; obtain ⟨Ao30, co30, rfl⟩ := sL HO208) | ((with_reducible refine gate_callee (f := 36) rfl ?_); refine gL (some 34) Try.func36 #[.pointer (some ⟨g, 0, none⟩), .int .i64 (t206.length : Int)] ?_; (with_reducible refine (spec_reader_pick.calls k g s0_0 t210 (t206.length : Int) t217 t218 w0 _ ?side1 ?side2 A23.out).mono ?_); (case side1 => exact iS60 HI0.out); (case side2 => exact wS60 HB.out); rintro e w31 ⟨rfl, hi, hb, hk⟩; refine ⟨_, rfl, ?_⟩; replace HO208 := aM (Kd.R_mono (Kd.R_keep (IsS60.apart (show IsS60 w0 _ g s0_0 t210 from iS60 HI0.out) (qR HO208.out) (by decide)) hk (fun _ h => h.2)) (fun _ h => h.1)); replace HK := aM (KeepBut.trans (kB HK.out) hk (.inl rfl)); replace HB := aM (hb); replace HI0 := aM (hi); clear hb hk hi) | ((with_reducible refine gate_dst (N := 37) rfl ?_); refine iL ([(-1), a2, 0, 1] : List Int) [.int .i64 (-1), .int .i64 a2, .int .i64 0, .int .i64 1] ?_; intro v220 w32 ho33 hb hg_ hnew_; clear hg_ hnew_; (first | rw [← Ny219.out] at ho33 | (simp only [Int.reduceToNat] at ho33; rw [← Ny219.out] at ho33)); have HO221 := aM (Kd.R_lower (Kd.R_new' ho33 (Kd.R_lt (qR HO208.out))) (keep_size (w := w) (g := g) (row := none) (kB HK.out))); replace HO208 := aM (Kd.R_elder' (qR HO208.out) (Kd.R_base ho33) hb); replace HK := aM (KeepBut.trans (kB HK.out) (KeepBut.of_below hb g none) (.inl rfl)); replace HB := aM (below_step (wS60 HB.out) hb); replace HI0 := aM (IsS60.below (iS60 HI0.out) hb); clear hb ho33; obtain ⟨Ao34, co34, rfl⟩ := sL HO221) | ((with_reducible refine gate_callee (f := 35) rfl ?_); refine gL (some 38) Try.func35 #[.pointer (some ⟨g, 0, none⟩), .slice Ao34 y219.length co34] ?_; (with_reducible refine (spec_reader_one.calls k g s0_0 t218 _ _ y219 t222 t223 w0 _ ?side1 ?side2 ?side3 ?side4 ?side5 A24.out).mono ?_); (case side1 => exact iS60 HI0.out); (case side2 => exact wS60 HB.out); (case side3 => exact qC (Kd.R_reads' HO221.out).2.2); (case side4 => exact (Kd.R_reads' HO221.out).2.1); (case side5 => exact far_slice (IsS60.own_ne HI0.out HO221.out (by decide))); rintro e w35 ⟨rfl, hi, hb, hk⟩; refine ⟨_, rfl, ?_⟩; replace HO208 := aM (Kd.R_mono (Kd.R_keep (IsS60.apart (show IsS60 w0 _ g s0_0 t218 from iS60 HI0.out) (qR HO208.out) (by decide)) hk (fun _ h => h.2)) (fun _ h => h.1)); replace HO221 := aM (Kd.R_mono (Kd.R_keep (IsS60.apart (show IsS60 w0 _ g s0_0 t218 from iS60 HI0.out) (qR HO221.out) (by decide)) hk (fun _ h => h.2)) (fun _ h => h.1)); replace HK := aM (KeepBut.trans (kB HK.out) hk (.inl rfl)); replace HB := aM (hb); replace HI0 := aM (hi); clear hb hk hi; have p27 : 0 ≤ (t217 : Int) := oD; have q27 : (t217 : Int) < ((t206.length : Int) : Int) := oD; obtain ⟨go27, co27, eo27, gb27, gl27, cl27, HG27⟩ := Kd.R_form HO208.out (by omega); (first | cases eo27 | (injection eo27 with ea_ en_ ec_; (first | subst ea_ | (injection ea_ with ea_; subst ea_)); subst ec_; clear en_)); have GB27 := aM gb27; have GG27 := aM HG27; clear gb27 gl27 HG27; obtain ⟨hx27_0, hf27_0⟩ := Kd.R_celln 0 HO208.out (t217 : Int) p27 q27; replace p27 := eq_true p27; replace q27 := eq_true q27; have n_ := aM (Kd.R_mono (ok' := (fun k_ => some k_ ≠ (.slice Ao34 y219.length co34 : Value).ownBlock)) HO208.out (fun k_ hk => hk.2)); clear HO208; have HO208 := n_; clear n_; obtain ⟨hy36_, hz36_⟩ := Kd.R_celln 0 HO208.out (t217 : Int) oD oD; have HP36 := Kd.R_putg HO208.out (t217 : Int) t222) | ((with_reducible refine gate_store (t := 3) (p := 39) rfl ?_); refine store_event (t := 3) (p := 39) (v := ?vo_w37) (w1 := (w35.setCell ⟨go27, (t217 : Int).toNat, none⟩ (.int .i64 t222))) ?hg ?ho ?hn ?hr ?_; (case ho => rfl); (case hg => rfl); (case hn => rfl); (case hr => first | (go_simp; done) | (go_simp; rfl)); intro w37 hw; have hg : w35.grownBy w37 (some go27) := (by rw [hw]; exact HP36.2); have hp_ : Kd.R (Kd.int .i64) 3 w37 w.heap.size (fun k_ => some k_ ≠ (.slice Ao34 y219.length co34 : Value).ownBlock) (.slice (some ⟨go27, 0, none⟩) t206.length co30) y224 := (by rw [hw, Ny224.out]; exact HP36.1); clear HP36; replace HI0 := aM (IsS60.grown (iS60 HI0.out) hg (IsS60.own_ne HI0.out HO208.out (by decide))); replace HO221 := aM (Kd.R_after (v := (.slice (some ⟨go27, 0, none⟩) t206.length co30)) (v1 := (.slice (some ⟨go27, 0, none⟩) t206.length co30)) (ok := (fun _ => True)) (qR HO221.out) hg (.inl rfl)); replace HB := aM ((by rw [hw]; exact below_set (HB.out) (Nat.le_trans HL.out GB27.out) : Below w0.heap.size w0 w37)); replace HK := aM (KeepBut.trans (kB HK.out) (KeepBut.of_grown hg g) (Kd.R_base2 HO208.out)); replace HO208 := aM (hp_); clear hg hw hp_))
 go_ret
 exact ⟨_, qX, Kd.Q_of_R (by refine qR ?_; exact Kd.R_mono HO208.out (fun _ hk => trivial)), iS60 HI0.out, wS60 HB.out, kB HK.out⟩
def spec_validCounts.f (k : Nat) (l0 : List Int) : Option (Bool) := (spec_inRange.f (l0.length : Int) 1 16).bind fun t245 => (if t245 = true then ((spec_allIn.f k l0 0 9999).bind fun t246 => (some t246)) else (some false))
theorem spec_validCounts.mono : ∀ a0 k, LeO (spec_validCounts.f k a0) (spec_validCounts.f (k + 1) a0) := by
 intro a0 k
 unfold spec_validCounts.f
 repeat' first | (with_reducible first | exact spec_allIn.mono _ _ _ _ | exact lR | exact lN | refine lI ?_ ?_ | refine lB ?_ fun _ => ?_) | exact spec_allIn.mono _ _ _ _ | exact lN | refine lI ?_ ?_ | refine lB ?_ fun _ => ?_
set_option maxHeartbeats 8000000 in
set_option maxRecDepth 100000 in
theorem spec_validCounts.calls (k : Nat) (A0 : Option Addr) (c0 : Nat) (l0 : List Int) (r : Bool) (w : World) (hr0 : Kd.C (Kd.int .i64) w A0 l0.length l0) (hc0 : l0.length ≤ c0) (h : spec_validCounts.f k l0 = some r) :
  Calls Try.prog 41 #[.slice A0 l0.length c0] w fun e w' => e = .returned (.bool r) ∧ Drawn0 w w' := by
 have HR0 := aM hr0
 have HC0 := aM hc0
 clear hr0 hc0
 unfold spec_validCounts.f at h
 have H := h
 clear h
 replace H := Option.bind_eq_some_iff.mp H
 obtain ⟨t245, A20, H⟩ := H
 replace H : (if t245 = true then ((spec_allIn.f k l0 0 9999).bind fun t246 => (some t246)) else (some false)) = some r := H
 have A2 := aM A20
 clear A20
 by_cases c3 : t245 = true
 rotate_left
 ·replace c3 := Bool.eq_false_iff.mpr c3
  subst c3
  have H1 : (some false) = some r := by rw [if_neg (show ¬ (false = true) by decide)] at H; exact H
  clear H
  have H := H1
  clear H1
  obtain rfl := Option.some.inj H
  go_enter Try.func41, Try.ntmps41
  go_wp2_with (first | ((with_reducible refine gate_callee (f := 47) rfl ?_); refine gL (some 5) Try.func47 #[.int .i64 (l0.length : Int), .int .i64 1, .int .i64 16] ?_; (with_reducible refine (spec_inRange.calls (l0.length : Int) 1 16 false _ A2.out).mono ?_); rintro e w' ⟨rfl, ⟨nd, rfl⟩⟩; refine ⟨_, rfl, ?_⟩))
  go_ret
  exact ⟨qE, qD⟩
 subst c3
 have H1 : ((spec_allIn.f k l0 0 9999).bind fun t246 => (some t246)) = some r := by rw [if_pos rfl] at H; exact H
 clear H
 have H := H1
 clear H1
 replace H := Option.bind_eq_some_iff.mp H
 obtain ⟨t246, A40, H⟩ := H
 replace H : (some t246) = some r := H
 have A4 := aM A40
 clear A40
 obtain rfl := Option.some.inj H
 go_enter Try.func41, Try.ntmps41
 go_wp2_with (first | ((with_reducible refine gate_callee (f := 47) rfl ?_); refine gL (some 5) Try.func47 #[.int .i64 (l0.length : Int), .int .i64 1, .int .i64 16] ?_; (with_reducible refine (spec_inRange.calls (l0.length : Int) 1 16 true _ A2.out).mono ?_); rintro e w' ⟨rfl, ⟨nd, rfl⟩⟩; refine ⟨_, rfl, ?_⟩) | (go_at_call 48; (with_reducible refine (spec_allIn.calls k _ _ l0 0 9999 t246 _ ?side1 ?side2 A4.out).mono ?_); (case side1 => exact qC HR0.out); (case side2 => exact HC0.out); rintro e w' ⟨rfl, ⟨nd, rfl⟩⟩))
 go_ret
 exact ⟨qE, qD⟩
def spec_lightest.l0 : Nat → List Int → List Bool → Int → Int → Option (Int)
 | 0, _, _, _, _ => none
 | k + 1, x0, x1, x5, x6 => if x6 < (x0.length : Int) then (if 0 ≤ x6 then (if x6 < (x1.length : Int) then (if rdOf false x1 x6 = true then (spec_lightest.l0 k x0 x1 x5 (wrap64 (x6 + 1))) else (if x5 < 0 then (spec_lightest.l0 k x0 x1 x6 (wrap64 (x6 + 1))) else (if 0 ≤ x5 then (if x5 < (x0.length : Int) then (if (rd x0 x6) < (rd x0 x5) then (spec_lightest.l0 k x0 x1 x6 (wrap64 (x6 + 1))) else (spec_lightest.l0 k x0 x1 x5 (wrap64 (x6 + 1)))) else (none)) else (none)))) else (none)) else (none)) else (some x5)
def spec_lightest.f (k : Nat) (l0 : List Int) (l1 : List Bool) : Option (Int) := spec_lightest.l0 k l0 l1 (-1) 0
theorem spec_lightest.mono_l : ∀ k, (∀ y0 y1 y2 y3, LeO (spec_lightest.l0 k y0 y1 y2 y3) (spec_lightest.l0 (k + 1) y0 y1 y2 y3))
 | 0 => fun _ _ _ _ r h => by simp [spec_lightest.l0] at h
 | k + 1 => by
  have ih0 := spec_lightest.mono_l k
  ·intro y0 y1 y2 y3
   unfold spec_lightest.l0
   repeat' first | (with_reducible first | exact ih0 _ _ _ _ | exact lR | exact lN | refine lI ?_ ?_ | refine lB ?_ fun _ => ?_) | exact ih0 _ _ _ _ | exact lN | refine lI ?_ ?_ | refine lB ?_ fun _ => ?_
theorem spec_lightest.mono : ∀ a0 a1 k, LeO (spec_lightest.f k a0 a1) (spec_lightest.f (k + 1) a0 a1) := by
 intro a0 a1 k
 have ih0 := spec_lightest.mono_l k
 unfold spec_lightest.f
 repeat' first | (with_reducible first | exact ih0 _ _ _ _ | exact lR | exact lN | refine lI ?_ ?_ | refine lB ?_ fun _ => ?_) | exact ih0 _ _ _ _ | exact lN | refine lI ?_ ?_ | refine lB ?_ fun _ => ?_
set_option maxHeartbeats 8000000 in
set_option maxRecDepth 100000 in
theorem spec_lightest.calls (k : Nat) (A0 : Option Addr) (c0 : Nat) (l0 : List Int) (A1 : Option Addr) (c1 : Nat) (l1 : List Bool) (r : Int) (w : World) (hr0 : Kd.C (Kd.int .i64) w A0 l0.length l0) (hc0 : l0.length ≤ c0) (hr1 : Kd.C Kd.bool w A1 l1.length l1) (hc1 : l1.length ≤ c1) (h : spec_lightest.f k l0 l1 = some r) :
  Calls Try.prog 54 #[.slice A0 l0.length c0, .slice A1 l1.length c1] w fun e w' => e = .returned (.int .i64 r) ∧ Drawn0 w w' := by
 have HR0 := aM hr0
 have HC0 := aM hc0
 clear hr0 hc0
 have HR1 := aM hr1
 have HC1 := aM hc1
 clear hr1 hc1
 unfold spec_lightest.f at h
 have H := h
 clear h
 have H' := aM H
 clear H
 go_enter Try.func54, Try.ntmps54
 go_wp2
 repeat (go_quiet (fail); try go_wp2)
 go_loopg [5, 6] k (fun kq v5 v6 w' => ∃ (x5_1 : Int) (x6_1 : Int), v5 = .int .i64 x5_1 ∧ v6 = .int .i64 x6_1 ∧ Aside0 (spec_lightest.l0 kq l0 l1 x5_1 x6_1 = some r) ∧ Aside0 (kq ≤ k) ∧ Drawn0 w w')
 case atStart => exact ⟨((-1)), (0), qE, qE, H', ⟨Nat.le_refl _⟩, qD⟩
 case round =>
  clear H'
  try clear c1
  obtain ⟨x5_1, x6_1, rfl, rfl, HA, HK1, ⟨m1, rfl⟩⟩ := hrel
  cases gk with
  | zero => exact absurd HA.out (by simp [spec_lightest.l0])
  | succ k1 =>
   have H := HA.out
   clear HA
   simp only [spec_lightest.l0] at H
   by_cases c3 : x6_1 < (l0.length : Int)
   rotate_left
   ·rw [if_neg c3] at H
    have c3b0 : decide (x6_1 < (l0.length : Int)) = false := decide_eq_false c3
    clear c3
    obtain rfl := Option.some.inj H
    go_wp2
    repeat (go_quiet (fail); try go_wp2)
    go_ret
    exact ⟨qE, qD⟩
   rw [if_pos c3] at H
   have c3b0 : decide (x6_1 < (l0.length : Int)) = true := decide_eq_true c3
   clear c3
   replace H := iD H
   obtain ⟨c4b0, H⟩ := H
   replace H := iD H
   obtain ⟨c5b0, H⟩ := H
   obtain ⟨bq6, hbq6⟩ : ∃ b_ : Bool, b_ = (rdOf false l1 x6_1) := ⟨_, rfl⟩
   replace H : (if bq6 = true then (spec_lightest.l0 k1 l0 l1 x5_1 (wrap64 (x6_1 + 1))) else (if x5_1 < 0 then (spec_lightest.l0 k1 l0 l1 x6_1 (wrap64 (x6_1 + 1))) else (if 0 ≤ x5_1 then (if x5_1 < (l0.length : Int) then (if (rd l0 x6_1) < (rd l0 x5_1) then (spec_lightest.l0 k1 l0 l1 x6_1 (wrap64 (x6_1 + 1))) else (spec_lightest.l0 k1 l0 l1 x5_1 (wrap64 (x6_1 + 1)))) else (none)) else (none)))) = some r := by rw [← hbq6] at H; exact H
   have Nbq6 := aM hbq6
   clear hbq6
   by_cases c7 : bq6 = true
   ·subst c7
    have H1 : (spec_lightest.l0 k1 l0 l1 x5_1 (wrap64 (x6_1 + 1))) = some r := by rw [if_pos rfl] at H; exact H
    clear H
    have H := H1
    clear H1
    have H' := aM H
    clear H
    obtain ⟨ad247, e247, hx247_0⟩ := Kd.at_bool HR1.out x6_1 oD oD
    (try rw [← Nbq6.out] at hx247_0)
    cases e247
    have p247 := eq_true (oD : 0 ≤ (x6_1 : Int))
    have q247 := eq_true (oD : x6_1 < (l1.length : Int))
    go_wp2
    repeat (go_quiet (fail); try go_wp2)
    go_roundg k1
    case measure => have := HK1.out; omega
    case rel => exact ⟨(x5_1), (wrap64 (x6_1 + 1)), qE, qE, H', ⟨by have := HK1.out; omega⟩, qD⟩
   replace c7 := Bool.eq_false_iff.mpr c7
   subst c7
   have H1 : (if x5_1 < 0 then (spec_lightest.l0 k1 l0 l1 x6_1 (wrap64 (x6_1 + 1))) else (if 0 ≤ x5_1 then (if x5_1 < (l0.length : Int) then (if (rd l0 x6_1) < (rd l0 x5_1) then (spec_lightest.l0 k1 l0 l1 x6_1 (wrap64 (x6_1 + 1))) else (spec_lightest.l0 k1 l0 l1 x5_1 (wrap64 (x6_1 + 1)))) else (none)) else (none))) = some r := by rw [if_neg (show ¬ (false = true) by decide)] at H; exact H
   clear H
   have H := H1
   clear H1
   by_cases c8 : x5_1 < 0
   ·rw [if_pos c8] at H
    have c8b0 : decide (x5_1 < 0) = true := decide_eq_true c8
    clear c8
    have H' := aM H
    clear H
    obtain ⟨ad247, e247, hx247_0⟩ := Kd.at_bool HR1.out x6_1 oD oD
    (try rw [← Nbq6.out] at hx247_0)
    cases e247
    have p247 := eq_true (oD : 0 ≤ (x6_1 : Int))
    have q247 := eq_true (oD : x6_1 < (l1.length : Int))
    go_wp2
    repeat (go_quiet (fail); try go_wp2)
    go_roundg k1
    case measure => have := HK1.out; omega
    case rel => exact ⟨(x6_1), (wrap64 (x6_1 + 1)), qE, qE, H', ⟨by have := HK1.out; omega⟩, qD⟩
   rw [if_neg c8] at H
   have c8b0 : decide (x5_1 < 0) = false := decide_eq_false c8
   clear c8
   replace H := iD H
   obtain ⟨c9b0, H⟩ := H
   replace H := iD H
   obtain ⟨c10b0, H⟩ := H
   by_cases c11 : (rd l0 x6_1) < (rd l0 x5_1)
   ·rw [if_pos c11] at H
    have c11b0 : decide ((rd l0 x6_1) < (rd l0 x5_1)) = true := decide_eq_true c11
    clear c11
    have H' := aM H
    clear H
    obtain ⟨ad247, e247, hx247_0⟩ := Kd.at_bool HR1.out x6_1 oD oD
    (try rw [← Nbq6.out] at hx247_0)
    cases e247
    have p247 := eq_true (oD : 0 ≤ (x6_1 : Int))
    have q247 := eq_true (oD : x6_1 < (l1.length : Int))
    obtain ⟨ad248, e248, hx248_0⟩ := Kd.at_int HR0.out x6_1 oD oD
    cases e248
    have p248 := eq_true (oD : 0 ≤ (x6_1 : Int))
    have q248 := eq_true (oD : x6_1 < (l0.length : Int))
    obtain ⟨ad249, e249, hx249_0⟩ := Kd.at_int HR0.out x5_1 oD oD
    obtain rfl : ad248 = ad249 := (by injection e249)
    have p249 := eq_true (oD : 0 ≤ (x5_1 : Int))
    have q249 := eq_true (oD : x5_1 < (l0.length : Int))
    go_wp2
    repeat (go_quiet (fail); try go_wp2)
    go_roundg k1
    case measure => have := HK1.out; omega
    case rel => exact ⟨(x6_1), (wrap64 (x6_1 + 1)), qE, qE, H', ⟨by have := HK1.out; omega⟩, qD⟩
   rw [if_neg c11] at H
   have c11b0 : decide ((rd l0 x6_1) < (rd l0 x5_1)) = false := decide_eq_false c11
   clear c11
   have H' := aM H
   clear H
   obtain ⟨ad247, e247, hx247_0⟩ := Kd.at_bool HR1.out x6_1 oD oD
   (try rw [← Nbq6.out] at hx247_0)
   cases e247
   have p247 := eq_true (oD : 0 ≤ (x6_1 : Int))
   have q247 := eq_true (oD : x6_1 < (l1.length : Int))
   obtain ⟨ad248, e248, hx248_0⟩ := Kd.at_int HR0.out x6_1 oD oD
   cases e248
   have p248 := eq_true (oD : 0 ≤ (x6_1 : Int))
   have q248 := eq_true (oD : x6_1 < (l0.length : Int))
   obtain ⟨ad249, e249, hx249_0⟩ := Kd.at_int HR0.out x5_1 oD oD
   obtain rfl : ad248 = ad249 := (by injection e249)
   have p249 := eq_true (oD : 0 ≤ (x5_1 : Int))
   have q249 := eq_true (oD : x5_1 < (l0.length : Int))
   go_wp2
   repeat (go_quiet (fail); try go_wp2)
   go_roundg k1
   case measure => have := HK1.out; omega
   case rel => exact ⟨(x5_1), (wrap64 (x6_1 + 1)), qE, qE, H', ⟨by have := HK1.out; omega⟩, qD⟩
end Go.Proofs.Ytcmkijmjafgkfaa.P
