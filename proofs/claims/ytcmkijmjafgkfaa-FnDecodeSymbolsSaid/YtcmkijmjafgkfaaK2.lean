/- Contracts and row, written by a program of this place out of the translation: the call answers true and its argument reads as before, for every input; no condition. -/
import Derived.Test.YtcmkijmjafgkfaaK0
import Derived.Test.YtcmkijmjafgkfaaK1
namespace Go.Proofs.Ytcmkijmjafgkfaa.P
open Go.RowKit Go.Proofs.YtcmkijmjafgkfaaW.PrintWords Go.Proofs.YtcmkijmjafgkfaaW.PrintLast Go.Proofs.YtcmkijmjafgkfaaW.PrintMore
attribute [local go_sem] max2_int min2_int max_two min_two max_three min_three max_four min_four   -- for this text's walks alone
set_option linter.unusedVariables false
set_option linter.unusedSimpArgs false
def spec_CanonicalCodes.f (k : Nat) (l0 : List Int) : Option (List Int) := (spec_validLengths.f k l0).bind fun t538 => (if t538 = true then ((spec_canonicalCodes.f k l0).bind fun t539 => (some t539)) else (some ([] : List Int)))
theorem spec_CanonicalCodes.mono : ∀ a0 k, LeO (spec_CanonicalCodes.f k a0) (spec_CanonicalCodes.f (k + 1) a0) := by
 intro a0 k
 unfold spec_CanonicalCodes.f
 repeat' first | (with_reducible first | exact spec_canonicalCodes.mono _ _ | exact spec_validLengths.mono _ _ | exact lR | exact lN | refine lI ?_ ?_ | refine lB ?_ fun _ => ?_) | exact spec_canonicalCodes.mono _ _ | exact spec_validLengths.mono _ _ | exact lN | refine lI ?_ ?_ | refine lB ?_ fun _ => ?_
set_option maxHeartbeats 8000000 in
set_option maxRecDepth 100000 in
theorem spec_CanonicalCodes.calls (k : Nat) (A0 : Option Addr) (c0 : Nat) (l0 : List Int) (r : List Int) (w : World) (hr0 : Kd.C (Kd.int .i64) w A0 l0.length l0) (hc0 : l0.length ≤ c0) (h : spec_CanonicalCodes.f k l0 = some r) :
  Calls Try.prog 29 #[.slice A0 l0.length c0] w fun e w' => ∃ v0_ : Value, e = .returned (v0_) ∧ Kd.R (Kd.int .i64) 3 w' w.heap.size (fun _ => True) v0_ r ∧ Below w.heap.size w w' := by
 have HR0 := aM hr0
 have HC0 := aM hc0
 clear hr0 hc0
 have HB := aM (Below.refl w.heap.size w)
 unfold spec_CanonicalCodes.f at h
 have H := h
 clear h
 replace H := Option.bind_eq_some_iff.mp H
 obtain ⟨t538, A20, H⟩ := H
 replace H : (if t538 = true then ((spec_canonicalCodes.f k l0).bind fun t539 => (some t539)) else (some ([] : List Int))) = some r := H
 have A2 := aM A20
 clear A20
 by_cases c3 : t538 = true
 rotate_left
 ·replace c3 := Bool.eq_false_iff.mpr c3
  subst c3
  have H1 : (some ([] : List Int)) = some r := by rw [if_neg (show ¬ (false = true) by decide)] at H; exact H
  clear H
  have H := H1
  clear H1
  obtain rfl := Option.some.inj H
  go_enter Try.func29, Try.ntmps29
  go_wp2_with (first | ((with_reducible refine gate_callee (f := 30) rfl ?_); refine gL (some 4) Try.func30 #[.slice A0 l0.length c0] ?_; (with_reducible refine (spec_validLengths.calls k _ _ l0 false _ ?side1 ?side2 A2.out).mono ?_); (case side1 => exact qC HR0.out); (case side2 => exact HC0.out); rintro e w' ⟨rfl, ⟨nd, rfl⟩⟩; refine ⟨_, rfl, ?_⟩))
  go_ret
  exact ⟨_, qX, qN, by exact qW HB.out⟩
 subst c3
 have H1 : ((spec_canonicalCodes.f k l0).bind fun t539 => (some t539)) = some r := by rw [if_pos rfl] at H; exact H
 clear H
 have H := H1
 clear H1
 replace H := Option.bind_eq_some_iff.mp H
 obtain ⟨t539, A40, H⟩ := H
 replace H : (some t539) = some r := H
 have A4 := aM A40
 clear A40
 obtain rfl := Option.some.inj H
 go_enter Try.func29, Try.ntmps29
 go_wp2_with (first | ((with_reducible refine gate_callee (f := 30) rfl ?_); refine gL (some 4) Try.func30 #[.slice A0 l0.length c0] ?_; (with_reducible refine (spec_validLengths.calls k _ _ l0 true _ ?side1 ?side2 A2.out).mono ?_); (case side1 => exact qC HR0.out); (case side2 => exact HC0.out); rintro e w' ⟨rfl, ⟨nd, rfl⟩⟩; refine ⟨_, rfl, ?_⟩) | ((with_reducible refine gate_callee (f := 38) rfl ?_); refine gL (some 7) Try.func38 #[.slice A0 l0.length c0] ?_; (with_reducible refine (spec_canonicalCodes.calls k _ _ l0 t539 _ ?side1 ?side2 A4.out).mono ?_); (case side1 => exact qC HR0.out); (case side2 => exact HC0.out); rintro e w5 ⟨v540, rfl, ho0, hb⟩; refine ⟨_, rfl, ?_⟩; have HO541 := oR ho0 HB; replace HB := bS HB hb; clear hb ho0))
 go_ret
 exact ⟨_, qX, by refine qR ?_; exact HO541.out, by exact qW HB.out⟩
def spec_digits.l0 : Nat → Int → List Int → Int → Option (ByteArray)
 | 0, _, _, _ => none
 | k + 1, x0, x5, x6 => if x6 ≥ 0 then (if 0 ≤ x6 then (if x5.length < 140737488355328 then (spec_digits.l0 k x0 (x5 ++ [(wrap64 (48 + (Int.tmod (shr .i64 x0 x6) 2))) % 256]) (wrap64 (x6 - 1))) else (none)) else (none)) else (some (strOfNums x5))
def spec_digits.f (k : Nat) (a0 : Int) (a1 : Int) : Option (ByteArray) := spec_digits.l0 k a0 (([] : List Int)) (wrap64 (a1 - 1))
theorem spec_digits.mono_l : ∀ k, (∀ y0 y1 y2, LeO (spec_digits.l0 k y0 y1 y2) (spec_digits.l0 (k + 1) y0 y1 y2))
 | 0 => fun _ _ _ r h => by simp [spec_digits.l0] at h
 | k + 1 => by
  have ih0 := spec_digits.mono_l k
  ·intro y0 y1 y2
   unfold spec_digits.l0
   repeat' first | (with_reducible first | exact ih0 _ _ _ | exact lR | exact lN | refine lI ?_ ?_ | refine lB ?_ fun _ => ?_) | exact ih0 _ _ _ | exact lN | refine lI ?_ ?_ | refine lB ?_ fun _ => ?_
theorem spec_digits.mono : ∀ a0 a1 k, LeO (spec_digits.f k a0 a1) (spec_digits.f (k + 1) a0 a1) := by
 intro a0 a1 k
 have ih0 := spec_digits.mono_l k
 unfold spec_digits.f
 repeat' first | (with_reducible first | exact ih0 _ _ _ | exact lR | exact lN | refine lI ?_ ?_ | refine lB ?_ fun _ => ?_) | exact ih0 _ _ _ | exact lN | refine lI ?_ ?_ | refine lB ?_ fun _ => ?_
set_option maxHeartbeats 8000000 in
set_option maxRecDepth 100000 in
theorem spec_digits.calls (k : Nat) (a0 : Int) (a1 : Int) (r : ByteArray) (w : World) (h : spec_digits.f k a0 a1 = some r) :
  Calls Try.prog 50 #[.int .i64 a0, .int .i64 a1] w fun e w' => e = .returned (.string r) ∧ Below w.heap.size w w' := by
 have HB := aM (Below.refl w.heap.size w)
 unfold spec_digits.f at h
 have H := h
 clear h
 obtain ⟨y113, hy113⟩ : ∃ y_ : List Int, y_ = (([] : List Int)) := ⟨_, rfl⟩
 replace H : (spec_digits.l0 k a0 y113 (wrap64 (a1 - 1))) = some r := rY hy113 H
 have Ny113 := aM hy113
 clear hy113
 have H' := aM H
 clear H
 go_enter Try.func50, Try.ntmps50
 go_wp2_with (first | ((with_reducible refine gate_dst (N := 7) rfl ?_); refine Kd.R_lit (Kd.int .u8) _ 5 ?hg (N := 7) ?hd (xs := ([] : List Int)) (inner := []) (ok := fun _ => True) (okp := fun _ => True) ?hr ?hp (fun _ hk => hk) trivial (Below.refl _ _) (Nat.le_refl _) (by simp) ?_; (case hd => rfl); (case hg => rfl); (case hr => first | (go_simp; done) | (go_simp; rfl)); (case hp => exact (Reps.none _ _)); intro v114 w3 ho4 hb hg_ hnew_; clear hg_ hnew_; (first | rw [← Ny113.out] at ho4 | (simp only [Int.reduceToNat] at ho4; rw [← Ny113.out] at ho4)); have HO115 := oR ho4 HB; replace HB := bS HB hb; clear hb ho4))
 go_loopg [5, 6] k (fun kq v5 v6 w' => ∃ (x5_1 : List Int) (x6_1 : Int), v6 = .int .i64 x6_1 ∧ Aside0 (spec_digits.l0 kq a0 x5_1 x6_1 = some r) ∧ Aside0 (kq ≤ k) ∧ Aside0 (Kd.R (Kd.int .u8) 5 w' w.heap.size (fun _ => True) v5 x5_1) ∧ Aside0 (Below w.heap.size w w'))
 case atStart => exact ⟨(y113), (wrap64 (a1 - 1)), qE, H', ⟨Nat.le_refl _⟩, ⟨by refine qR ?_; exact HO115.out⟩, ⟨by exact qW HB.out⟩⟩
 case round =>
  clear H'
  obtain ⟨x5_1, x6_1, rfl, HA, HK1, HO_5, HB⟩ := hrel
  cases gk with
  | zero => exact absurd HA.out (by simp [spec_digits.l0])
  | succ k1 =>
   have H := HA.out
   clear HA
   simp only [spec_digits.l0] at H
   by_cases c5 : x6_1 ≥ 0
   rotate_left
   ·rw [if_neg c5] at H
    have c5b0 : decide (0 ≤ x6_1) = false := decide_eq_false c5
    clear c5
    obtain rfl := Option.some.inj H
    have hcv10 := own_string (P := Try.prog) Try.underlying27 Try.underlying5 Try.underlying9 (Kd.own_of_R HO_5.out)
    go_wp2
    go_ret
    exact ⟨qX, by exact qW HB.out⟩
   rw [if_pos c5] at H
   have c5b0 : decide (0 ≤ x6_1) = true := decide_eq_true c5
   clear c5
   replace H := iS H
   obtain ⟨c6, H⟩ := H
   have c6b0 := eq_true c6
   have c6b1 : decide (0 ≤ x6_1) = true := decide_eq_true c6
   clear c6
   obtain ⟨ji7, hji7⟩ : ∃ j_ : Int, (shr .i64 a0 x6_1) = j_ := ⟨_, rfl⟩
   replace H : (if x5_1.length < 140737488355328 then (spec_digits.l0 k1 a0 (x5_1 ++ [(wrap64 (48 + (Int.tmod (ji7) 2))) % 256]) (wrap64 (x6_1 - 1))) else (none)) = some r := by first | (rw [hji7] at H; exact H) | (simp only [hji7] at H ⊢; exact H)
   have hji7_ : (a0 / 2 ^ min x6_1.toNat 64) = ji7 := hji7
   have hji7z : x6_1 ≤ 64 → (a0 / 2 ^ x6_1.toNat) = ji7 := shr_small hji7
   replace H := iS H
   obtain ⟨c8, H⟩ := H
   have LMc8 := aM c8
   clear c8
   obtain ⟨y116, hy116⟩ : ∃ y_ : List Int, y_ = (x5_1 ++ [(wrap64 (48 + (Int.tmod (ji7) 2))) % 256]) := ⟨_, rfl⟩
   replace H : (spec_digits.l0 k1 a0 y116 (wrap64 (x6_1 - 1))) = some r := rY hy116 H
   have Ny116 := aM hy116
   clear hy116
   have H' := aM H
   clear H
   go_wp2_with (first | ((with_reducible refine gate_builtin (b := .append) (xs := #[.tmp 14, .tmp 21]) rfl ?_); at_builtin; refine Kd.R_append (Kd.int .u8) (w0 := w) w.heap.size rfl (.tmp 14) (.tmp 21) 27 5 (.int .u8 0) 1 rfl Try.underlying27 info5 rfl (by decide) (by omega) u5 x5_1 ((wrap64 (48 + (Int.tmod (ji7) 2))) % 256) [.int .u8 ((wrap64 (48 + (Int.tmod (ji7) 2))) % 256)] (fun _ => True) (fun _ => False) rfl rfl ?aP (fun _ hk => hk.elim) ?aF ?aO ?aB ?aS ?aL ?_; (case aP => exact rfl); (case aB => exact (qW HB.out)); (case aF => exact (fun _ _ => trivial)); (case aO => exact (qR HO_5.out)); (case aS => exact (below_size (qW HB.out))); (case aL => have := LMc8.out; omega); intro v117 w9 ho hb hg hat; rw [← Ny116.out] at ho; replace HB := aM (hb); have HO118 := aM (ho); clear HO_5; clear ho hb hg hat))
   go_roundg k1
   case measure => have := HK1.out; omega
   case rel => exact ⟨(y116), (wrap64 (x6_1 - 1)), qE, H', ⟨by have := HK1.out; omega⟩, ⟨by refine qR ?_; exact HO118.out⟩, ⟨by exact qW HB.out⟩⟩
def spec_encodeSymbols.l0 : Nat → List Int → List Int → ByteArray → List Int → Int → Option (ByteArray × Bool)
 | 0, _, _, _, _, _ => none
 | k + 1, x0, x1, x6, x7, x8 => if x8 < (x0.length : Int) then (if 0 ≤ x8 then ((spec_inRange.f (rd x0 x8) 0 (wrap64 ((x1.length : Int) - 1))).bind fun t123 => (if t123 = true then (if 0 ≤ (rd x0 x8) then (if (rd x0 x8) < (x1.length : Int) then (if (rd x1 (rd x0 x8)) = 0 then (some ((⟨#[]⟩ : ByteArray), false)) else (if (rd x0 x8) < (x7.length : Int) then ((spec_digits.f k (rd x7 (rd x0 x8)) (rd x1 (rd x0 x8))).bind fun t130 => (if x6.size + t130.size ≤ 9223372036854775807 then (spec_encodeSymbols.l0 k x0 x1 (x6 ++ t130) x7 (wrap64 (x8 + 1))) else (none))) else (none))) else (none)) else (none)) else (some ((⟨#[]⟩ : ByteArray), false)))) else (none)) else (some (x6, true))
def spec_encodeSymbols.f (k : Nat) (l0 : List Int) (l1 : List Int) : Option (ByteArray × Bool) := (spec_canonicalCodes.f k l1).bind fun t119 => (spec_encodeSymbols.l0 k l0 l1 (⟨#[]⟩ : ByteArray) t119 0)
theorem spec_encodeSymbols.mono_l : ∀ k, (∀ y0 y1 y2 y3 y4, LeO (spec_encodeSymbols.l0 k y0 y1 y2 y3 y4) (spec_encodeSymbols.l0 (k + 1) y0 y1 y2 y3 y4))
 | 0 => fun _ _ _ _ _ r h => by simp [spec_encodeSymbols.l0] at h
 | k + 1 => by
  have ih0 := spec_encodeSymbols.mono_l k
  ·intro y0 y1 y2 y3 y4
   unfold spec_encodeSymbols.l0
   repeat' first | (with_reducible first | exact ih0 _ _ _ _ _ | exact spec_canonicalCodes.mono _ _ | exact spec_digits.mono _ _ _ | exact lR | exact lN | refine lI ?_ ?_ | refine lB ?_ fun _ => ?_) | exact ih0 _ _ _ _ _ | exact spec_canonicalCodes.mono _ _ | exact spec_digits.mono _ _ _ | exact lN | refine lI ?_ ?_ | refine lB ?_ fun _ => ?_
theorem spec_encodeSymbols.mono : ∀ a0 a1 k, LeO (spec_encodeSymbols.f k a0 a1) (spec_encodeSymbols.f (k + 1) a0 a1) := by
 intro a0 a1 k
 have ih0 := spec_encodeSymbols.mono_l k
 unfold spec_encodeSymbols.f
 repeat' first | (with_reducible first | exact ih0 _ _ _ _ _ | exact spec_canonicalCodes.mono _ _ | exact spec_digits.mono _ _ _ | exact lR | exact lN | refine lI ?_ ?_ | refine lB ?_ fun _ => ?_) | exact ih0 _ _ _ _ _ | exact spec_canonicalCodes.mono _ _ | exact spec_digits.mono _ _ _ | exact lN | refine lI ?_ ?_ | refine lB ?_ fun _ => ?_
def spec_encodeSymbols.T8 : Bool × List (List Nat × List Nat) := (true, [([], []), ([], []), ([], []), ([], []), ([2, 3], [2, 3]), ([4], [4]), ([1, 5], [1, 5]), ([6], [6]), ([], []), ([], []), ([], []), ([9, 10], [9, 10]), ([11], [11]), ([8, 12], [8, 12]), ([13], [13]), ([7, 14], [7, 14]), ([0, 15], [0, 15]), ([16, 15, 0, 1, 2, 3, 4, 5, 6, 7, 8, 9, 10, 11, 12, 13, 14, 15, 16], [0, 16])])
def spec_encodeSymbols.B8 : List Nat := [0, 0, 0, 0, 12, 28, 62, 126, 0, 0, 0, 1536, 3584, 7936, 16128, 32766, 65535, 131071]
theorem spec_encodeSymbols.tab8 : rtab .any (opsOf Try.f31 8) = spec_encodeSymbols.T8 := by kernel_rfl
theorem spec_encodeSymbols.bits8 : waitsOk spec_encodeSymbols.T8.2 spec_encodeSymbols.B8 = true := by kernel_rfl
set_option maxHeartbeats 8000000 in
set_option maxRecDepth 100000 in
theorem spec_encodeSymbols.calls (k : Nat) (A0 : Option Addr) (c0 : Nat) (l0 : List Int) (A1 : Option Addr) (c1 : Nat) (l1 : List Int) (r1 : ByteArray) (r2 : Bool) (w : World) (hr0 : Kd.C (Kd.int .i64) w A0 l0.length l0) (hc0 : l0.length ≤ c0) (hr1 : Kd.C (Kd.int .i64) w A1 l1.length l1) (hc1 : l1.length ≤ c1) (h : spec_encodeSymbols.f k l0 l1 = some (r1, r2)) :
  Calls Try.prog 31 #[.slice A0 l0.length c0, .slice A1 l1.length c1] w fun e w' => e = .returned (.tuple #[.string r1, .bool r2]) ∧ Below w.heap.size w w' := by
 have HR0 := aM hr0
 have HC0 := aM hc0
 clear hr0 hc0
 have HR1 := aM hr1
 have HC1 := aM hc1
 clear hr1 hc1
 have HB := aM (Below.refl w.heap.size w)
 unfold spec_encodeSymbols.f at h
 have H := h
 clear h
 replace H := Option.bind_eq_some_iff.mp H
 obtain ⟨t119, A30, H⟩ := H
 replace H : (spec_encodeSymbols.l0 k l0 l1 (⟨#[]⟩ : ByteArray) t119 0) = some (r1, r2) := H
 have A3 := aM A30
 clear A30
 have H' := aM H
 clear H
 go_enter Try.func31, Try.ntmps31
 go_wp2_with (first | ((with_reducible refine gate_callee (f := 38) rfl ?_); refine gL (some 10) Try.func38 #[.slice A1 l1.length c1] ?_; (with_reducible refine (spec_canonicalCodes.calls k _ _ l1 t119 _ ?side1 ?side2 A3.out).mono ?_); (case side1 => exact qC HR1.out); (case side2 => exact HC1.out); rintro e w4 ⟨v120, rfl, ho0, hb⟩; refine ⟨_, rfl, ?_⟩; have HO121 := oR ho0 HB; replace HB := bS HB hb; clear hb ho0))
 go_loopg [6, 8] k (fun kq v6 v8 w' => ∃ (x6_1 : ByteArray) (x8_1 : Int), v6 = .string x6_1 ∧ v8 = .int .i64 x8_1 ∧ Aside0 (spec_encodeSymbols.l0 kq l0 l1 x6_1 t119 x8_1 = some (r1, r2)) ∧ Aside0 (kq ≤ k) ∧ Aside0 (Kd.R (Kd.int .i64) 3 w' w.heap.size (fun _ => True) v120 t119) ∧ Aside0 (Below w.heap.size w w'))
 case atStart => exact ⟨((⟨#[]⟩ : ByteArray)), (0), qE, qE, H', ⟨Nat.le_refl _⟩, ⟨by refine qR ?_; exact HO121.out⟩, ⟨by exact qW HB.out⟩⟩
 case round =>
  clear H'
  try clear c1
  obtain ⟨x6_1, x8_1, rfl, rfl, HA, HK1, HO_7, HB⟩ := hrel
  cases gk with
  | zero => exact absurd HA.out (by simp [spec_encodeSymbols.l0])
  | succ k1 =>
   have H := HA.out
   clear HA
   simp only [spec_encodeSymbols.l0] at H
   by_cases c5 : x8_1 < (l0.length : Int)
   rotate_left
   ·rw [if_neg c5] at H
    have c5b0 : decide (x8_1 < (l0.length : Int)) = false := decide_eq_false c5
    clear c5
    simp only [Option.some.injEq, Prod.mk.injEq] at H
    obtain ⟨rfl, rfl⟩ := H
    go_wp2
    go_ret2
    exact ⟨qX, by exact qW HB.out⟩
   rw [if_pos c5] at H
   have c5b0 : decide (x8_1 < (l0.length : Int)) = true := decide_eq_true c5
   clear c5
   replace H := iD H
   obtain ⟨c6b0, H⟩ := H
   replace H := Option.bind_eq_some_iff.mp H
   obtain ⟨t123, A70, H⟩ := H
   replace H : (if t123 = true then (if 0 ≤ (rd l0 x8_1) then (if (rd l0 x8_1) < (l1.length : Int) then (if (rd l1 (rd l0 x8_1)) = 0 then (some ((⟨#[]⟩ : ByteArray), false)) else (if (rd l0 x8_1) < (t119.length : Int) then ((spec_digits.f k1 (rd t119 (rd l0 x8_1)) (rd l1 (rd l0 x8_1))).bind fun t130 => (if x6_1.size + t130.size ≤ 9223372036854775807 then (spec_encodeSymbols.l0 k1 l0 l1 (x6_1 ++ t130) t119 (wrap64 (x8_1 + 1))) else (none))) else (none))) else (none)) else (none)) else (some ((⟨#[]⟩ : ByteArray), false))) = some (r1, r2) := H
   have A7 := aM A70
   clear A70
   by_cases c8 : t123 = true
   rotate_left
   ·replace c8 := Bool.eq_false_iff.mpr c8
    subst c8
    have H1 : (some ((⟨#[]⟩ : ByteArray), false)) = some (r1, r2) := by rw [if_neg (show ¬ (false = true) by decide)] at H; exact H
    clear H
    have H := H1
    clear H1
    simp only [Option.some.injEq, Prod.mk.injEq] at H
    obtain ⟨rfl, rfl⟩ := H
    obtain ⟨ad122, e122, hx122_0⟩ := Kd.at_int HR0.out x8_1 oD oD
    cases e122
    replace hx122_0 := bD HB hx122_0
    have p122 := eq_true (oD : 0 ≤ (x8_1 : Int))
    have q122 := eq_true (oD : x8_1 < (l0.length : Int))
    go_wp2_with (first | ((with_reducible refine gate_callee (f := 47) rfl ?_); refine gL (some 24) Try.func47 #[.int .i64 (rd l0 x8_1), .int .i64 0, .int .i64 (wrap64 ((l1.length : Int) - 1))] ?_; (with_reducible refine (spec_inRange.calls (rd l0 x8_1) 0 (wrap64 ((l1.length : Int) - 1)) false _ A7.out).mono ?_); rintro e w' ⟨rfl, ⟨nd, rfl⟩⟩; refine ⟨_, rfl, ?_⟩))
    go_ret2
    exact ⟨qX, by exact qW HB.out⟩
   subst c8
   have H1 : (if 0 ≤ (rd l0 x8_1) then (if (rd l0 x8_1) < (l1.length : Int) then (if (rd l1 (rd l0 x8_1)) = 0 then (some ((⟨#[]⟩ : ByteArray), false)) else (if (rd l0 x8_1) < (t119.length : Int) then ((spec_digits.f k1 (rd t119 (rd l0 x8_1)) (rd l1 (rd l0 x8_1))).bind fun t130 => (if x6_1.size + t130.size ≤ 9223372036854775807 then (spec_encodeSymbols.l0 k1 l0 l1 (x6_1 ++ t130) t119 (wrap64 (x8_1 + 1))) else (none))) else (none))) else (none)) else (none)) = some (r1, r2) := by rw [if_pos rfl] at H; exact H
   clear H
   have H := H1
   clear H1
   replace H := iD H
   obtain ⟨c9b0, H⟩ := H
   replace H := iD H
   obtain ⟨c10b0, H⟩ := H
   by_cases c11 : (rd l1 (rd l0 x8_1)) = 0
   ·rw [if_pos c11] at H
    have c11b0 : ((rd l1 (rd l0 x8_1)) == 0) = true := beq_iff_eq.mpr c11
    have c11b1 : ((rd l1 (rd l0 x8_1)) != 0) = false := bne_eq_false_iff_eq.mpr c11
    clear c11
    simp only [Option.some.injEq, Prod.mk.injEq] at H
    obtain ⟨rfl, rfl⟩ := H
    obtain ⟨ad122, e122, hx122_0⟩ := Kd.at_int HR0.out x8_1 oD oD
    cases e122
    replace hx122_0 := bD HB hx122_0
    have p122 := eq_true (oD : 0 ≤ (x8_1 : Int))
    have q122 := eq_true (oD : x8_1 < (l0.length : Int))
    go_wp2_with (first | ((with_reducible refine gate_callee (f := 47) rfl ?_); refine gL (some 24) Try.func47 #[.int .i64 (rd l0 x8_1), .int .i64 0, .int .i64 (wrap64 ((l1.length : Int) - 1))] ?_; (with_reducible refine (spec_inRange.calls (rd l0 x8_1) 0 (wrap64 ((l1.length : Int) - 1)) true _ A7.out).mono ?_); rintro e w' ⟨rfl, ⟨nd, rfl⟩⟩; refine ⟨_, rfl, ?_⟩; have p124 : 0 ≤ (x8_1 : Int) := oD; have q124 : x8_1 < (l0.length : Int) := oD; obtain ⟨ad124, e124, hx124_0⟩ := Kd.at_int HR0.out x8_1 p124 q124; obtain rfl : ad122 = ad124 := (by injection e124); replace hx124_0 := bD HB hx124_0; replace p124 := eq_true p124; replace q124 := eq_true q124; have p125 : 0 ≤ ((rd l0 x8_1) : Int) := oD; have q125 : (rd l0 x8_1) < (l1.length : Int) := oD; obtain ⟨ad125, e125, hx125_0⟩ := Kd.at_int HR1.out (rd l0 x8_1) p125 q125; cases e125; replace hx125_0 := bD HB hx125_0; replace p125 := eq_true p125; replace q125 := eq_true q125))
    go_ret2
    exact ⟨qX, by exact qW HB.out⟩
   rw [if_neg c11] at H
   have c11b0 : ((rd l1 (rd l0 x8_1)) == 0) = false := beq_eq_false_iff_ne.mpr c11
   have c11b1 : ((rd l1 (rd l0 x8_1)) != 0) = true := bne_iff_ne.mpr c11
   replace H := iD H
   obtain ⟨c12b0, H⟩ := H
   replace H := Option.bind_eq_some_iff.mp H
   obtain ⟨t130, A130, H⟩ := H
   replace H : (if x6_1.size + t130.size ≤ 9223372036854775807 then (spec_encodeSymbols.l0 k1 l0 l1 (x6_1 ++ t130) t119 (wrap64 (x8_1 + 1))) else (none)) = some (r1, r2) := H
   have A13 := aM A130
   clear A130
   replace H := iS H
   obtain ⟨c14, H⟩ := H
   have c14b0 := eq_true c14
   have c14b1 : decide (x6_1.size + t130.size ≤ 9223372036854775807) = true := decide_eq_true c14
   try have c14b2 : (9223372036854775807 < x6_1.size + t130.size) = False := eq_false (Nat.not_lt.2 c14)
   have H' := aM H
   clear H
   obtain ⟨ad122, e122, hx122_0⟩ := Kd.at_int HR0.out x8_1 oD oD
   cases e122
   replace hx122_0 := bD HB hx122_0
   have p122 := eq_true (oD : 0 ≤ (x8_1 : Int))
   have q122 := eq_true (oD : x8_1 < (l0.length : Int))
   try go_wp2_with (first | ((with_reducible refine gate_callee (f := 47) rfl ?_); refine gL (some 24) Try.func47 #[.int .i64 (rd l0 x8_1), .int .i64 0, .int .i64 (wrap64 ((l1.length : Int) - 1))] ?_; (with_reducible refine (spec_inRange.calls (rd l0 x8_1) 0 (wrap64 ((l1.length : Int) - 1)) true _ A7.out).mono ?_); rintro e w' ⟨rfl, ⟨nd, rfl⟩⟩; refine ⟨_, rfl, ?_⟩; have p124 : 0 ≤ (x8_1 : Int) := oD; have q124 : x8_1 < (l0.length : Int) := oD; obtain ⟨ad124, e124, hx124_0⟩ := Kd.at_int HR0.out x8_1 p124 q124; obtain rfl : ad122 = ad124 := (by injection e124); replace hx124_0 := bD HB hx124_0; replace p124 := eq_true p124; replace q124 := eq_true q124; have p125 : 0 ≤ ((rd l0 x8_1) : Int) := oD; have q125 : (rd l0 x8_1) < (l1.length : Int) := oD; obtain ⟨ad125, e125, hx125_0⟩ := Kd.at_int HR1.out (rd l0 x8_1) p125 q125; cases e125; replace hx125_0 := bD HB hx125_0; replace p125 := eq_true p125; replace q125 := eq_true q125))
   (try (rw [drewN_self wr]; generalize hq_ : World.drewN wr _ = wr; replace HO_7 : Aside0 (Kd.R (Kd.int .i64) 3 wr w.heap.size (fun _ => True) v120 t119) := ⟨by rw [← hq_]; exact (qR HO_7.out)⟩; replace HB : Aside0 (Below w.heap.size w wr) := ⟨by rw [← hq_]; exact (qW HB.out)⟩; clear hq_))
   replace HO_7 := aM (Kd.R_drew HO_7.out)
   replace HB := aM (below_drew1 HB.out)
   obtain ⟨ad126, e126, hx126_0⟩ := Kd.at_int HR0.out x8_1 oD oD
   have hw126_0 := hx126_0
   obtain rfl : ad122 = ad126 := (by injection e126)
   replace hx126_0 := bD HB hx126_0
   have p126 := eq_true (oD : 0 ≤ (x8_1 : Int))
   have q126 := eq_true (oD : x8_1 < (l0.length : Int))
   obtain ⟨Ao16, co16, eo16⟩ := Kd.R_slice HO_7.out
   (first | subst eo16 | (injection eo16 with f1_ f2_ f3_; have f4_ := f1_.symm; have f5_ := f3_.symm; clear f1_ f2_ f3_; subst f4_; subst f5_))
   obtain ⟨ad127, e127, hx127_0⟩ := Kd.at_int (Kd.R_reads' HO_7.out).2.2 (rd l0 x8_1) oD oD
   cases e127
   have p127 := eq_true (oD : 0 ≤ ((rd l0 x8_1) : Int))
   have q127 := eq_true (oD : (rd l0 x8_1) < (t119.length : Int))
   obtain ⟨ad128, e128, hx128_0⟩ := Kd.at_int HR0.out x8_1 oD oD
   have hw128_0 := hx128_0
   obtain rfl : ad122 = ad128 := (by injection e128)
   replace hx128_0 := bD HB hx128_0
   have p128 := eq_true (oD : 0 ≤ (x8_1 : Int))
   have q128 := eq_true (oD : x8_1 < (l0.length : Int))
   obtain ⟨ad129, e129, hx129_0⟩ := Kd.at_int HR1.out (rd l0 x8_1) oD oD
   have hw129_0 := hx129_0
   obtain rfl : ad125 = ad129 := (by injection e129)
   replace hx129_0 := bD HB hx129_0
   have p129 := eq_true (oD : 0 ≤ ((rd l0 x8_1) : Int))
   have q129 := eq_true (oD : (rd l0 x8_1) < (l1.length : Int))
   refine start_ (n := 18) (S := fun w' => w'.cell? (ad122.add (x8_1).toNat) = some (.int .i64 (rd l0 x8_1)) ∧ w'.cell? (ad127.add ((rd l0 x8_1)).toNat) = some (.int .i64 (rd t119 (rd l0 x8_1))) ∧ w'.cell? (ad122.add (x8_1).toNat) = some (.int .i64 (rd l0 x8_1)) ∧ w'.cell? (ad125.add ((rd l0 x8_1)).toNat) = some (.int .i64 (rd l1 (rd l0 x8_1)))) (ds := []) (bA 18 0) (by kernel_rfl) rfl rfl ⟨(bC HB hw126_0), hx127_0, (bC HB hw128_0), (bC HB hw129_0)⟩ (fun hHeld => ?_); refine with_tabW spec_encodeSymbols.tab8 spec_encodeSymbols.bits8 (fun HT_ HW_ => ?_)
   generalize wr.drew = w15 at HO_7 HB hx126_0 hx127_0 hx128_0 hx129_0 hHeld ⊢
   refine pQ 0 36 HT_ (bA 18 1) ?_
   refine pQ 1 37 HT_ (bA 18 3) ?_
   refine pQ 2 38 HT_ (bA 18 7) ?_
   refine pQ 3 39 HT_ (bA 18 15) ?_
   refine pQ 4 40 HT_ (bA 18 31) ?_
   refine pQ 8 44 HT_ (bA 18 287) ?_
   refine pQ 9 45 HT_ (bA 18 799) ?_
   refine pQ 10 46 HT_ (bA 18 1823) ?_
   refine pQ 11 47 HT_ (bA 18 3871) ?_
   refine take_ (i := 5) (N := some 41) (v := ?_) (a' := ?_) (bA 18 3903) rfl rfl (take_ofW HT_.out HW_.out (by kernel_rfl)) (fun _ _ _ h => h) (Or.inl ⟨by rfl, ?_⟩) hHeld ?_ ?_
   rotate_left
   ·rintro w' ⟨s0, s1, s2, s3⟩
    go_simp
    with_reducible rfl
   rotate_left
   ·refine pZ ?_
    rfl
   refine pQ 6 42 HT_ (bA 18 3967) ?_
   refine take_ (i := 7) (N := some 43) (v := ?_) (a' := ?_) (bA 18 4095) rfl rfl (take_ofW HT_.out HW_.out (by kernel_rfl)) (fun _ _ _ h => h) (Or.inl ⟨by rfl, ?_⟩) hHeld ?_ ?_
   rotate_left
   ·rintro w' ⟨s0, s1, s2, s3⟩
    go_simp
    with_reducible rfl
   rotate_left
   ·refine pZ ?_
    rfl
   refine take_ (i := 12) (N := some 48) (v := ?_) (a' := ?_) (bA 18 8191) rfl rfl (take_ofW HT_.out HW_.out (by kernel_rfl)) (fun _ _ _ h => h) (Or.inl ⟨by rfl, ?_⟩) hHeld ?_ ?_
   rotate_left
   ·rintro w' ⟨s0, s1, s2, s3⟩
    go_simp
    with_reducible rfl
   rotate_left
   ·refine pZ ?_
    rfl
   refine pQ 13 49 HT_ (bA 18 16383) ?_
   refine take_ (i := 14) (N := some 50) (v := ?_) (a' := ?_) (bA 18 32767) rfl rfl (take_ofW HT_.out HW_.out (by kernel_rfl)) (fun _ _ _ h => h) (Or.inl ⟨by rfl, ?_⟩) hHeld ?_ ?_
   rotate_left
   ·rintro w' ⟨s0, s1, s2, s3⟩
    go_simp
    with_reducible rfl
   rotate_left
   ·refine pZ ?_
    rfl
   refine one_ (i := 15) (N := some 51) (bA 18 65535) rfl rfl (one_of HT_.out (by kernel_rfl)) (by decide) (fun K hK => ?_)
   refine goes_ Try.func50 (by kernel_rfl) rfl #[.int .i64 (rd t119 (rd l0 x8_1)), .int .i64 (rd l1 (rd l0 x8_1))] (by rfl) rfl rfl qM ?_
   with_reducible refine (spec_digits.calls k1 (rd t119 (rd l0 x8_1)) (rd l1 (rd l0 x8_1)) t130 _ A13.out).mono ?_
   rintro e w17 ⟨rfl, hb⟩
   have HS1_ := (hb.cell (World.block_lt_of_cell? _ _ (hHeld.2.1))).trans (hHeld.2.1)
   refine ⟨_, rfl, ?_⟩
   replace HO_7 := aM (Kd.R_below (qR HO_7.out) hb)
   replace HB := bS HB hb
   (try clear hb)
   (try clear hb2)
   (try clear hk)
   (try clear hi)
   refine hK.out _ _ ⟨(bC HB hw126_0), HS1_, (bC HB hw128_0), (bC HB hw129_0)⟩ (fun hHeld => ?_)
   clear hK K
   refine norm_ (a' := ?_) ?_ ?_
   rotate_left
   ·show Act.put _ (some 51) _ = _
    refine pZ ?_
    rfl
   refine pQ 16 52 HT_ (bA 18 131071) ?_
   refine pQ 17 6 HT_ (bA 18 262143) ?_
   refine done_ (done_of HT_.out (by kernel_rfl)) ?_
   try go_wp2
   go_roundg k1
   case measure => have := HK1.out; omega
   case rel => exact ⟨(x6_1 ++ t130), (wrap64 (x8_1 + 1)), qE, qE, H', ⟨by have := HK1.out; omega⟩, ⟨by refine qR ?_; exact HO_7.out⟩, ⟨by exact qW HB.out⟩⟩
def spec_EncodeSymbols.f (k : Nat) (l0 : List Int) (l1 : List Int) : Option (ByteArray × Bool) := (spec_validLengths.f k l1).bind fun t131 => (if t131 = true then (if (l0.length : Int) > 1200 then (some ((⟨#[]⟩ : ByteArray), false)) else ((spec_encodeSymbols.f k l0 l1).bind fun bt132 => (some (bt132.1, bt132.2)))) else (some ((⟨#[]⟩ : ByteArray), false)))
theorem spec_EncodeSymbols.mono : ∀ a0 a1 k, LeO (spec_EncodeSymbols.f k a0 a1) (spec_EncodeSymbols.f (k + 1) a0 a1) := by
 intro a0 a1 k
 unfold spec_EncodeSymbols.f
 repeat' first | (with_reducible first | exact spec_encodeSymbols.mono _ _ _ | exact spec_validLengths.mono _ _ | exact lR | exact lN | refine lI ?_ ?_ | refine lB ?_ fun _ => ?_) | exact spec_encodeSymbols.mono _ _ _ | exact spec_validLengths.mono _ _ | exact lN | refine lI ?_ ?_ | refine lB ?_ fun _ => ?_
set_option maxHeartbeats 8000000 in
set_option maxRecDepth 100000 in
theorem spec_EncodeSymbols.calls (k : Nat) (A0 : Option Addr) (c0 : Nat) (l0 : List Int) (A1 : Option Addr) (c1 : Nat) (l1 : List Int) (r1 : ByteArray) (r2 : Bool) (w : World) (hr0 : Kd.C (Kd.int .i64) w A0 l0.length l0) (hc0 : l0.length ≤ c0) (hr1 : Kd.C (Kd.int .i64) w A1 l1.length l1) (hc1 : l1.length ≤ c1) (h : spec_EncodeSymbols.f k l0 l1 = some (r1, r2)) :
  Calls Try.prog 13 #[.slice A0 l0.length c0, .slice A1 l1.length c1] w fun e w' => e = .returned (.tuple #[.string r1, .bool r2]) ∧ Below w.heap.size w w' := by
 have HR0 := aM hr0
 have HC0 := aM hc0
 clear hr0 hc0
 have HR1 := aM hr1
 have HC1 := aM hc1
 clear hr1 hc1
 have HB := aM (Below.refl w.heap.size w)
 unfold spec_EncodeSymbols.f at h
 have H := h
 clear h
 replace H := Option.bind_eq_some_iff.mp H
 obtain ⟨t131, A30, H⟩ := H
 replace H : (if t131 = true then (if (l0.length : Int) > 1200 then (some ((⟨#[]⟩ : ByteArray), false)) else ((spec_encodeSymbols.f k l0 l1).bind fun bt132 => (some (bt132.1, bt132.2)))) else (some ((⟨#[]⟩ : ByteArray), false))) = some (r1, r2) := H
 have A3 := aM A30
 clear A30
 by_cases c4 : t131 = true
 rotate_left
 ·replace c4 := Bool.eq_false_iff.mpr c4
  subst c4
  have H1 : (some ((⟨#[]⟩ : ByteArray), false)) = some (r1, r2) := by rw [if_neg (show ¬ (false = true) by decide)] at H; exact H
  clear H
  have H := H1
  clear H1
  simp only [Option.some.injEq, Prod.mk.injEq] at H
  obtain ⟨rfl, rfl⟩ := H
  go_enter Try.func13, Try.ntmps13
  go_wp2_with (first | ((with_reducible refine gate_callee (f := 30) rfl ?_); refine gL (some 7) Try.func30 #[.slice A1 l1.length c1] ?_; (with_reducible refine (spec_validLengths.calls k _ _ l1 false _ ?side1 ?side2 A3.out).mono ?_); (case side1 => exact qC HR1.out); (case side2 => exact HC1.out); rintro e w' ⟨rfl, ⟨nd, rfl⟩⟩; refine ⟨_, rfl, ?_⟩))
  go_ret2
  exact ⟨qX, by exact qW HB.out⟩
 subst c4
 have H1 : (if (l0.length : Int) > 1200 then (some ((⟨#[]⟩ : ByteArray), false)) else ((spec_encodeSymbols.f k l0 l1).bind fun bt132 => (some (bt132.1, bt132.2)))) = some (r1, r2) := by rw [if_pos rfl] at H; exact H
 clear H
 have H := H1
 clear H1
 by_cases c5 : (l0.length : Int) > 1200
 ·rw [if_pos c5] at H
  have c5b0 : decide (1200 < (l0.length : Int)) = true := decide_eq_true c5
  have c5b1 : decide (1200 < l0.length) = true := decide_eq_true (by omega)
  clear c5
  simp only [Option.some.injEq, Prod.mk.injEq] at H
  obtain ⟨rfl, rfl⟩ := H
  go_enter Try.func13, Try.ntmps13
  go_wp2_with (first | ((with_reducible refine gate_callee (f := 30) rfl ?_); refine gL (some 7) Try.func30 #[.slice A1 l1.length c1] ?_; (with_reducible refine (spec_validLengths.calls k _ _ l1 true _ ?side1 ?side2 A3.out).mono ?_); (case side1 => exact qC HR1.out); (case side2 => exact HC1.out); rintro e w' ⟨rfl, ⟨nd, rfl⟩⟩; refine ⟨_, rfl, ?_⟩))
  go_ret2
  exact ⟨qX, by exact qW HB.out⟩
 rw [if_neg c5] at H
 have c5b0 : decide (1200 < (l0.length : Int)) = false := decide_eq_false c5
 have c5b1 : decide (1200 < l0.length) = false := decide_eq_false (by omega)
 clear c5
 replace H := Option.bind_eq_some_iff.mp H
 obtain ⟨⟨t132, t133⟩, A60, H⟩ := H
 replace H : (some (t132, t133)) = some (r1, r2) := H
 have A6 := aM A60
 clear A60
 simp only [Option.some.injEq, Prod.mk.injEq] at H
 obtain ⟨rfl, rfl⟩ := H
 go_enter Try.func13, Try.ntmps13
 go_wp2_with (first | ((with_reducible refine gate_callee (f := 30) rfl ?_); refine gL (some 7) Try.func30 #[.slice A1 l1.length c1] ?_; (with_reducible refine (spec_validLengths.calls k _ _ l1 true _ ?side1 ?side2 A3.out).mono ?_); (case side1 => exact qC HR1.out); (case side2 => exact HC1.out); rintro e w' ⟨rfl, ⟨nd, rfl⟩⟩; refine ⟨_, rfl, ?_⟩) | ((with_reducible refine gate_callee (f := 31) rfl ?_); refine gL (some 16) Try.func31 #[.slice A0 l0.length c0, .slice A1 l1.length c1] ?_; (with_reducible refine (spec_encodeSymbols.calls k _ _ l0 _ _ l1 t132 t133 _ ?side1 ?side2 ?side3 ?side4 A6.out).mono ?_); (case side1 => exact qC HR0.out); (case side2 => exact HC0.out); (case side3 => exact qC HR1.out); (case side4 => exact HC1.out); rintro e w7 ⟨rfl, hb⟩; refine ⟨_, rfl, ?_⟩; replace HB := bS HB hb; clear hb))
 go_ret2
 exact ⟨qX, by exact qW HB.out⟩
mutual
def impl_EncodeSymbols.j0 : Nat → List Int → List Int → List Int → Bool → Option (ByteArray × Bool)
 | 0, _, _, _, _ => none
 | k + 1, x0, x1, x6, x23 => if x23 = true then (some ((⟨#[]⟩ : ByteArray), false)) else (impl_EncodeSymbols.l0 k x1 x6 (([] : List Int)) x0 (x0.length : Int) 0)
def impl_EncodeSymbols.l0 : Nat → List Int → List Int → List Int → List Int → Int → Int → Option (ByteArray × Bool)
 | 0, _, _, _, _, _, _ => none
 | k + 1, x1, x6, x8, x25, x26, x27 => if x27 < x26 then (if 0 ≤ x27 then (if x27 < (x25.length : Int) then (if (rd x25 x27) < 0 then (impl_EncodeSymbols.j2 k x1 x6 x8 (rd x25 x27) x25 x26 x27 true) else (if (rd x25 x27) ≥ (x1.length : Int) then (impl_EncodeSymbols.j2 k x1 x6 x8 (rd x25 x27) x25 x26 x27 true) else (if 0 ≤ (rd x25 x27) then (if (rd x25 x27) < (x1.length : Int) then (impl_EncodeSymbols.j2 k x1 x6 x8 (rd x25 x27) x25 x26 x27 ((rd x1 (rd x25 x27)) == 0)) else (none)) else (none)))) else (none)) else (none)) else (some (strOfNums x8, true))
def impl_EncodeSymbols.j2 : Nat → List Int → List Int → List Int → Int → List Int → Int → Int → Bool → Option (ByteArray × Bool)
 | 0, _, _, _, _, _, _, _, _ => none
 | k + 1, x1, x6, x8, x10, x25, x26, x27, x45 => if x45 = true then (some ((⟨#[]⟩ : ByteArray), false)) else (if 0 ≤ x10 then (if x10 < (x1.length : Int) then (impl_EncodeSymbols.l1 k x1 x6 x8 x10 (wrap64 ((rd x1 x10) - 1)) x25 x26 x27) else (none)) else (none))
def impl_EncodeSymbols.l1 : Nat → List Int → List Int → List Int → Int → Int → List Int → Int → Int → Option (ByteArray × Bool)
 | 0, _, _, _, _, _, _, _, _ => none
 | k + 1, x1, x6, x8, x10, x11, x25, x26, x27 => if x11 ≥ 0 then (if 0 ≤ x10 then (if x10 < (x6.length : Int) then (if 0 ≤ x11 then (if x8.length < 140737488355328 then (impl_EncodeSymbols.l1 k x1 x6 (x8 ++ [(wrap64 (48 + (Go.bits .and .i64 (shr .i64 (rd x6 x10) x11) 1))) % 256]) x10 (wrap64 (x11 - 1)) x25 x26 x27) else (none)) else (none)) else (none)) else (none)) else (impl_EncodeSymbols.l0 k x1 x6 x8 x25 x26 (wrap64 (x27 + 1)))
end
def impl_EncodeSymbols.f (k : Nat) (l0 : List Int) (l1 : List Int) : Option (ByteArray × Bool) := (impl_canonical.f k l1).bind fun bt151 => (if bt151.2 = true then (impl_EncodeSymbols.j0 k l0 l1 bt151.1 (decide ((l0.length : Int) > 1200))) else (impl_EncodeSymbols.j0 k l0 l1 bt151.1 true))
theorem impl_EncodeSymbols.mono_l : ∀ k, (∀ y0 y1 y2 y3, LeO (impl_EncodeSymbols.j0 k y0 y1 y2 y3) (impl_EncodeSymbols.j0 (k + 1) y0 y1 y2 y3)) ∧ (∀ y0 y1 y2 y3 y4 y5, LeO (impl_EncodeSymbols.l0 k y0 y1 y2 y3 y4 y5) (impl_EncodeSymbols.l0 (k + 1) y0 y1 y2 y3 y4 y5)) ∧ (∀ y0 y1 y2 y3 y4 y5 y6 y7, LeO (impl_EncodeSymbols.j2 k y0 y1 y2 y3 y4 y5 y6 y7) (impl_EncodeSymbols.j2 (k + 1) y0 y1 y2 y3 y4 y5 y6 y7)) ∧ (∀ y0 y1 y2 y3 y4 y5 y6 y7, LeO (impl_EncodeSymbols.l1 k y0 y1 y2 y3 y4 y5 y6 y7) (impl_EncodeSymbols.l1 (k + 1) y0 y1 y2 y3 y4 y5 y6 y7))
 | 0 => ⟨fun _ _ _ _ r h => by simp [impl_EncodeSymbols.j0] at h, fun _ _ _ _ _ _ r h => by simp [impl_EncodeSymbols.l0] at h, fun _ _ _ _ _ _ _ _ r h => by simp [impl_EncodeSymbols.j2] at h, fun _ _ _ _ _ _ _ _ r h => by simp [impl_EncodeSymbols.l1] at h⟩
 | k + 1 => by
  obtain ⟨ih0, ih1, ih2, ih3⟩ := impl_EncodeSymbols.mono_l k
  refine ⟨?_, ?_, ?_, ?_⟩
  all_goals intros
  all_goals first | unfold impl_EncodeSymbols.j0 | unfold impl_EncodeSymbols.l0 | unfold impl_EncodeSymbols.j2 | unfold impl_EncodeSymbols.l1
  all_goals repeat' first | (with_reducible first | exact ih0 _ _ _ _ | exact ih1 _ _ _ _ _ _ | exact ih2 _ _ _ _ _ _ _ _ | exact ih3 _ _ _ _ _ _ _ _ | exact impl_canonical.mono _ _ | exact lR | exact lN | refine lI ?_ ?_ | refine lB ?_ fun _ => ?_) | exact ih0 _ _ _ _ | exact ih1 _ _ _ _ _ _ | exact ih2 _ _ _ _ _ _ _ _ | exact ih3 _ _ _ _ _ _ _ _ | exact impl_canonical.mono _ _ | exact lN | refine lI ?_ ?_ | refine lB ?_ fun _ => ?_
theorem impl_EncodeSymbols.mono : ∀ a0 a1 k, LeO (impl_EncodeSymbols.f k a0 a1) (impl_EncodeSymbols.f (k + 1) a0 a1) := by
 intro a0 a1 k
 obtain ⟨ih0, ih1, ih2, ih3⟩ := impl_EncodeSymbols.mono_l k
 unfold impl_EncodeSymbols.f
 repeat' first | (with_reducible first | exact ih0 _ _ _ _ | exact ih1 _ _ _ _ _ _ | exact ih2 _ _ _ _ _ _ _ _ | exact ih3 _ _ _ _ _ _ _ _ | exact impl_canonical.mono _ _ | exact lR | exact lN | refine lI ?_ ?_ | refine lB ?_ fun _ => ?_) | exact ih0 _ _ _ _ | exact ih1 _ _ _ _ _ _ | exact ih2 _ _ _ _ _ _ _ _ | exact ih3 _ _ _ _ _ _ _ _ | exact impl_canonical.mono _ _ | exact lN | refine lI ?_ ?_ | refine lB ?_ fun _ => ?_
set_option maxHeartbeats 8000000 in
set_option maxRecDepth 100000 in
theorem impl_EncodeSymbols.calls (k : Nat) (A0 : Option Addr) (c0 : Nat) (l0 : List Int) (A1 : Option Addr) (c1 : Nat) (l1 : List Int) (r1 : ByteArray) (r2 : Bool) (w : World) (hr0 : Kd.C (Kd.int .i64) w A0 l0.length l0) (hc0 : l0.length ≤ c0) (hr1 : Kd.C (Kd.int .i64) w A1 l1.length l1) (hc1 : l1.length ≤ c1) (h : impl_EncodeSymbols.f k l0 l1 = some (r1, r2)) :
  Calls Try.prog 15 #[.slice A0 l0.length c0, .slice A1 l1.length c1] w fun e w' => e = .returned (.tuple #[.string r1, .bool r2]) ∧ Below w.heap.size w w' := by
 have HR0 := aM hr0
 have HC0 := aM hc0
 clear hr0 hc0
 have HR1 := aM hr1
 have HC1 := aM hc1
 clear hr1 hc1
 have HB := aM (Below.refl w.heap.size w)
 unfold impl_EncodeSymbols.f at h
 have H := h
 clear h
 replace H := Option.bind_eq_some_iff.mp H
 obtain ⟨⟨t151, t152⟩, A30, H⟩ := H
 replace H : (if t152 = true then (impl_EncodeSymbols.j0 k l0 l1 t151 (decide ((l0.length : Int) > 1200))) else (impl_EncodeSymbols.j0 k l0 l1 t151 true)) = some (r1, r2) := H
 have A3 := aM A30
 clear A30
 have HC4 := aM H
 clear H
 go_enter Try.func15, Try.ntmps15
 go_upto_region 2 with (first | ((with_reducible refine gate_callee (f := 32) rfl ?_); refine gL (some 14) Try.func32 #[.slice A1 l1.length c1] ?_; (with_reducible refine (impl_canonical.calls k _ _ l1 t151 t152 _ ?side1 ?side2 A3.out).mono ?_); (case side1 => exact qC HR1.out); (case side2 => exact HC1.out); rintro e w5 ⟨v153, rfl, ho0, hb⟩; refine ⟨_, rfl, ?_⟩; have HO154 := oR ho0 HB; replace HB := bS HB hb; clear hb ho0))
 (try simp only [Act.put, List.setIfInBounds_toArray, List.set_cons_zero, List.set_cons_succ])
 go_cut [23] (fun v23 wc => ∃ (kq : Nat) (x23_3 : Bool), v23 = .bool x23_3 ∧ Aside0 (impl_EncodeSymbols.j0 kq l0 l1 t151 x23_3 = some (r1, r2)) ∧ Aside0 (kq ≤ k) ∧ Aside0 (Kd.R (Kd.int .i64) 3 wc w.heap.size (fun _ => True) v153 t151) ∧ Aside0 (Below w.heap.size w wc))
 case first =>
  have H := HC4.out
  clear HC4
  by_cases c6 : t152 = true
  ·subst c6
   have H1 : (impl_EncodeSymbols.j0 k l0 l1 t151 (decide ((l0.length : Int) > 1200))) = some (r1, r2) := by rw [if_pos rfl] at H; exact H
   clear H
   have H := H1
   clear H1
   have H' := aM H
   clear H
   go_wp2
   go_meet
   case rel => exact ⟨_, (decide ((l0.length : Int) > 1200)), qE, H', ⟨by first | omega | exact Nat.le_refl _⟩, ⟨by refine qR ?_; exact HO154.out⟩, ⟨by exact qW HB.out⟩⟩
  replace c6 := Bool.eq_false_iff.mpr c6
  subst c6
  have H1 : (impl_EncodeSymbols.j0 k l0 l1 t151 true) = some (r1, r2) := by rw [if_neg (show ¬ (false = true) by decide)] at H; exact H
  clear H
  have H := H1
  clear H1
  have H' := aM H
  clear H
  go_wp2
  go_meet
  case rel => exact ⟨_, (true), qE, H', ⟨by first | omega | exact Nat.le_refl _⟩, ⟨by refine qR ?_; exact HO154.out⟩, ⟨by exact qW HB.out⟩⟩
 case rest =>
  clear HC4
  try clear c1
  try clear c6
  obtain ⟨kq, x23_3, rfl, HA, HJ3, HO_6, HB⟩ := hcut
  cases kq with
  | zero => exact absurd HA.out (by simp [impl_EncodeSymbols.j0])
  | succ kj3 =>
   have H := HA.out
   clear HA
   simp only [impl_EncodeSymbols.j0] at H
   by_cases c7 : x23_3 = true
   ·subst c7
    have H1 : (some ((⟨#[]⟩ : ByteArray), false)) = some (r1, r2) := by rw [if_pos rfl] at H; exact H
    clear H
    have H := H1
    clear H1
    simp only [Option.some.injEq, Prod.mk.injEq] at H
    obtain ⟨rfl, rfl⟩ := H
    go_wp2
    go_ret2
    exact ⟨qX, by exact qW HB.out⟩
   replace c7 := Bool.eq_false_iff.mpr c7
   subst c7
   have H1 : (impl_EncodeSymbols.l0 kj3 l1 t151 (([] : List Int)) l0 (l0.length : Int) 0) = some (r1, r2) := by rw [if_neg (show ¬ (false = true) by decide)] at H; exact H
   clear H
   have H := H1
   clear H1
   obtain ⟨y155, hy155⟩ : ∃ y_ : List Int, y_ = (([] : List Int)) := ⟨_, rfl⟩
   replace H : (impl_EncodeSymbols.l0 kj3 l1 t151 y155 l0 (l0.length : Int) 0) = some (r1, r2) := rY hy155 H
   have Ny155 := aM hy155
   clear hy155
   have H' := aM H
   clear H
   go_wp2_with (first | ((with_reducible refine gate_dst (N := 24) rfl ?_); (try (refine gate_guard (by rfl) ?_; dsimp only)); refine Kd.R_lit (Kd.int .u8) _ 5 ?hg (N := 24) ?hd (xs := ([] : List Int)) (inner := []) (ok := fun _ => True) (okp := fun _ => True) ?hr ?hp (fun _ hk => hk) trivial (Below.refl _ _) (Nat.le_refl _) (by simp) ?_; (case hd => rfl); (case hg => rfl); (case hr => first | (go_simp; done) | (go_simp; rfl)); (case hp => exact (Reps.none _ _)); intro v156 w8 ho9 hb hg_ hnew_; clear hg_ hnew_; (first | rw [← Ny155.out] at ho9 | (simp only [Int.reduceToNat] at ho9; rw [← Ny155.out] at ho9)); replace HO_6 := aM (Kd.R_below (qR HO_6.out) hb); have HO157 := oR ho9 HB; replace HB := bS HB hb; clear hb ho9))
   go_loopg [8, 27] kj3 (fun kq v8 v27 w' => ∃ (x8_2 : List Int) (x27_2 : Int), v27 = .int .i64 x27_2 ∧ Aside0 (impl_EncodeSymbols.l0 kq l1 t151 x8_2 l0 (l0.length : Int) x27_2 = some (r1, r2)) ∧ Aside0 (kq ≤ kj3) ∧ Aside0 (Kd.R (Kd.int .i64) 3 w' w.heap.size (fun _ => True) v153 t151) ∧ Aside0 (Kd.R (Kd.int .u8) 5 w' w.heap.size (fun _ => True) v8 x8_2) ∧ Aside0 (Below w.heap.size w w'))
   case atStart => exact ⟨(y155), (0), qE, H', ⟨Nat.le_refl _⟩, ⟨by refine qR ?_; exact HO_6.out⟩, ⟨by refine qR ?_; exact HO157.out⟩, ⟨by exact qW HB.out⟩⟩
   case round =>
    clear H'
    try clear c1
    try clear c6
    try clear c7
    obtain ⟨x8_2, x27_2, rfl, HA, HK2, HO_6, HO_8, HB⟩ := hrel
    cases gk with
    | zero => exact absurd HA.out (by simp [impl_EncodeSymbols.l0])
    | succ k2 =>
     have H := HA.out
     clear HA
     simp only [impl_EncodeSymbols.l0] at H
     by_cases c10 : x27_2 < (l0.length : Int)
     rotate_left
     ·rw [if_neg c10] at H
      have c10b0 : decide (x27_2 < (l0.length : Int)) = false := decide_eq_false c10
      clear c10
      simp only [Option.some.injEq, Prod.mk.injEq] at H
      obtain ⟨rfl, rfl⟩ := H
      have hcv29 := own_string (P := Try.prog) Try.underlying27 Try.underlying5 Try.underlying9 (Kd.own_of_R HO_8.out)
      go_wp2
      go_ret2
      exact ⟨qX, by exact qW HB.out⟩
     rw [if_pos c10] at H
     have c10b0 : decide (x27_2 < (l0.length : Int)) = true := decide_eq_true c10
     clear c10
     replace H := iD H
     obtain ⟨c11b0, H⟩ := H
     replace H := iD H
     obtain ⟨c12b0, H⟩ := H
     have HC13 := aM H
     clear H
     obtain ⟨ad158, e158, hx158_0⟩ := Kd.at_int HR0.out x27_2 oD oD
     cases e158
     replace hx158_0 := bD HB hx158_0
     have p158 := eq_true (oD : 0 ≤ (x27_2 : Int))
     have q158 := eq_true (oD : x27_2 < (l0.length : Int))
     go_upto_region 8 with (fail)
     go_cut [45] (fun v45 wc => ∃ (kq : Nat) (x45_12 : Bool), v45 = .bool x45_12 ∧ Aside0 (impl_EncodeSymbols.j2 kq l1 t151 x8_2 (rd l0 x27_2) l0 (l0.length : Int) x27_2 x45_12 = some (r1, r2)) ∧ Aside0 (kq ≤ k2) ∧ Aside0 (Kd.R (Kd.int .i64) 3 wc w.heap.size (fun _ => True) v153 t151) ∧ Aside0 (Kd.R (Kd.int .u8) 5 wc w.heap.size (fun _ => True) u8 x8_2) ∧ Aside0 (Below w.heap.size w wc))
     case first =>
      have H := HC13.out
      clear HC13
      by_cases c14 : (rd l0 x27_2) < 0
      ·rw [if_pos c14] at H
       have c14b0 : decide ((rd l0 x27_2) < 0) = true := decide_eq_true c14
       clear c14
       (first | rw [c14b0] | (simp only [i64_w, i32_w]; rw [c14b0]) | skip)
       have H' := aM H
       clear H
       go_wp2
       go_meet
       case rel => exact ⟨_, (true), qE, H', ⟨by have := HJ3.out; have := HK2.out; first | omega | exact Nat.le_refl _⟩, ⟨by refine qR ?_; exact HO_6.out⟩, ⟨by refine qR ?_; exact HO_8.out⟩, ⟨by exact qW HB.out⟩⟩
      rw [if_neg c14] at H
      have c14b0 : decide ((rd l0 x27_2) < 0) = false := decide_eq_false c14
      clear c14
      (first | rw [c14b0] | (simp only [i64_w, i32_w]; rw [c14b0]) | skip)
      by_cases c15 : (rd l0 x27_2) ≥ (l1.length : Int)
      ·rw [if_pos c15] at H
       have c15b0 : decide ((l1.length : Int) ≤ (rd l0 x27_2)) = true := decide_eq_true c15
       clear c15
       have H' := aM H
       clear H
       go_wp2
       go_meet
       case rel => exact ⟨_, (true), qE, H', ⟨by have := HJ3.out; have := HK2.out; first | omega | exact Nat.le_refl _⟩, ⟨by refine qR ?_; exact HO_6.out⟩, ⟨by refine qR ?_; exact HO_8.out⟩, ⟨by exact qW HB.out⟩⟩
      rw [if_neg c15] at H
      have c15b0 : decide ((l1.length : Int) ≤ (rd l0 x27_2)) = false := decide_eq_false c15
      clear c15
      replace H := iD H
      obtain ⟨c16b0, H⟩ := H
      replace H := iD H
      obtain ⟨c17b0, H⟩ := H
      have H' := aM H
      clear H
      obtain ⟨ad159, e159, hx159_0⟩ := Kd.at_int HR1.out (rd l0 x27_2) oD oD
      cases e159
      replace hx159_0 := bD HB hx159_0
      have p159 := eq_true (oD : 0 ≤ ((rd l0 x27_2) : Int))
      have q159 := eq_true (oD : (rd l0 x27_2) < (l1.length : Int))
      go_wp2
      go_meet
      case rel => exact ⟨_, (((rd l1 (rd l0 x27_2)) == 0)), qE, H', ⟨by have := HJ3.out; have := HK2.out; first | omega | exact Nat.le_refl _⟩, ⟨by refine qR ?_; exact HO_6.out⟩, ⟨by refine qR ?_; exact HO_8.out⟩, ⟨by exact qW HB.out⟩⟩
     case rest =>
      clear HC13
      try clear c1
      try clear c6
      try clear c7
      try clear c10
      try clear c10b0
      try clear c11b0
      try clear c12b0
      try clear c14
      try clear c14b0
      try clear c15
      try clear c15b0
      try clear c16b0
      try clear c17b0
      try clear hx158_0
      try clear hx159_0
      try clear p158
      try clear p159
      try clear q158
      try clear q159
      obtain ⟨kq, x45_12, rfl, HA, HJ12, HO_6, HO_8, HB⟩ := hcut
      cases kq with
      | zero => exact absurd HA.out (by simp [impl_EncodeSymbols.j2])
      | succ kj12 =>
       have H := HA.out
       clear HA
       simp only [impl_EncodeSymbols.j2] at H
       by_cases c18 : x45_12 = true
       ·subst c18
        have H1 : (some ((⟨#[]⟩ : ByteArray), false)) = some (r1, r2) := by rw [if_pos rfl] at H; exact H
        clear H
        have H := H1
        clear H1
        simp only [Option.some.injEq, Prod.mk.injEq] at H
        obtain ⟨rfl, rfl⟩ := H
        go_wp2
        go_ret2
        exact ⟨qX, by exact qW HB.out⟩
       replace c18 := Bool.eq_false_iff.mpr c18
       subst c18
       have H1 : (if 0 ≤ (rd l0 x27_2) then (if (rd l0 x27_2) < (l1.length : Int) then (impl_EncodeSymbols.l1 kj12 l1 t151 x8_2 (rd l0 x27_2) (wrap64 ((rd l1 (rd l0 x27_2)) - 1)) l0 (l0.length : Int) x27_2) else (none)) else (none)) = some (r1, r2) := by rw [if_neg (show ¬ (false = true) by decide)] at H; exact H
       clear H
       have H := H1
       clear H1
       replace H := iD H
       obtain ⟨c19b0, H⟩ := H
       replace H := iD H
       obtain ⟨c20b0, H⟩ := H
       have H' := aM H
       clear H
       obtain ⟨ad160, e160, hx160_0⟩ := Kd.at_int HR1.out (rd l0 x27_2) oD oD
       cases e160
       replace hx160_0 := bD HB hx160_0
       have p160 := eq_true (oD : 0 ≤ ((rd l0 x27_2) : Int))
       have q160 := eq_true (oD : (rd l0 x27_2) < (l1.length : Int))
       go_wp2
       go_loopg [8, 11] kj12 (fun kq v8 v11 w' => ∃ (x8_4 : List Int) (x11_4 : Int), v11 = .int .i64 x11_4 ∧ Aside0 (impl_EncodeSymbols.l1 kq l1 t151 x8_4 (rd l0 x27_2) x11_4 l0 (l0.length : Int) x27_2 = some (r1, r2)) ∧ Aside0 (kq ≤ kj12) ∧ Aside0 (Kd.R (Kd.int .i64) 3 w' w.heap.size (fun _ => True) v153 t151) ∧ Aside0 (Kd.R (Kd.int .u8) 5 w' w.heap.size (fun _ => True) v8 x8_4) ∧ Aside0 (Below w.heap.size w w'))
       case atStart => exact ⟨(x8_2), (wrap64 ((rd l1 (rd l0 x27_2)) - 1)), qE, H', ⟨Nat.le_refl _⟩, ⟨by refine qR ?_; exact HO_6.out⟩, ⟨by refine qR ?_; exact HO_8.out⟩, ⟨by exact qW HB.out⟩⟩
       case round =>
        clear H'
        try clear c1
        try clear c6
        try clear c7
        try clear c10
        try clear c10b0
        try clear c11b0
        try clear c12b0
        try clear c14
        try clear c14b0
        try clear c15
        try clear c15b0
        try clear c16b0
        try clear c17b0
        try clear c18
        try clear c19b0
        try clear c20b0
        try clear hx158_0
        try clear hx159_0
        try clear hx160_0
        try clear p158
        try clear p159
        try clear p160
        try clear q158
        try clear q159
        try clear q160
        obtain ⟨x8_4, x11_4, rfl, HA, HK4, HO_6, HO_8, HB⟩ := hrel
        cases gk with
        | zero => exact absurd HA.out (by simp [impl_EncodeSymbols.l1])
        | succ k4 =>
         have H := HA.out
         clear HA
         simp only [impl_EncodeSymbols.l1] at H
         by_cases c21 : x11_4 ≥ 0
         rotate_left
         ·rw [if_neg c21] at H
          have c21b0 : decide (0 ≤ x11_4) = false := decide_eq_false c21
          clear c21
          have H' := aM H
          clear H
          go_wp2
          go_roundg k4
          case measure => have := HJ3.out; have := HK2.out; have := HJ12.out; have := HK4.out; omega
          case rel => exact ⟨(x8_4), (wrap64 (x27_2 + 1)), qE, H', ⟨by have := HJ3.out; have := HK2.out; have := HJ12.out; have := HK4.out; omega⟩, ⟨by refine qR ?_; exact HO_6.out⟩, ⟨by refine qR ?_; exact HO_8.out⟩, ⟨by exact qW HB.out⟩⟩
         rw [if_pos c21] at H
         have c21b0 : decide (0 ≤ x11_4) = true := decide_eq_true c21
         clear c21
         replace H := iD H
         obtain ⟨c22b0, H⟩ := H
         replace H := iD H
         obtain ⟨c23b0, H⟩ := H
         replace H := iS H
         obtain ⟨c24, H⟩ := H
         have c24b0 := eq_true c24
         have c24b1 : decide (0 ≤ x11_4) = true := decide_eq_true c24
         clear c24
         obtain ⟨ji25, hji25⟩ : ∃ j_ : Int, (shr .i64 (rd t151 (rd l0 x27_2)) x11_4) = j_ := ⟨_, rfl⟩
         replace H : (if x8_4.length < 140737488355328 then (impl_EncodeSymbols.l1 k4 l1 t151 (x8_4 ++ [(wrap64 (48 + (Go.bits .and .i64 (ji25) 1))) % 256]) (rd l0 x27_2) (wrap64 (x11_4 - 1)) l0 (l0.length : Int) x27_2) else (none)) = some (r1, r2) := by first | (rw [hji25] at H; exact H) | (simp only [hji25] at H ⊢; exact H)
         have hji25_ : ((rd t151 (rd l0 x27_2)) / 2 ^ min x11_4.toNat 64) = ji25 := hji25
         have hji25z : x11_4 ≤ 64 → ((rd t151 (rd l0 x27_2)) / 2 ^ x11_4.toNat) = ji25 := shr_small hji25
         replace H := iS H
         obtain ⟨c26, H⟩ := H
         have LMc26 := aM c26
         clear c26
         obtain ⟨y162, hy162⟩ : ∃ y_ : List Int, y_ = (x8_4 ++ [(wrap64 (48 + (Go.bits .and .i64 (ji25) 1))) % 256]) := ⟨_, rfl⟩
         replace H : (impl_EncodeSymbols.l1 k4 l1 t151 y162 (rd l0 x27_2) (wrap64 (x11_4 - 1)) l0 (l0.length : Int) x27_2) = some (r1, r2) := rY hy162 H
         have Ny162 := aM hy162
         clear hy162
         have H' := aM H
         clear H
         obtain ⟨Ao27, co27, rfl⟩ := sL HO_6
         obtain ⟨ad161, e161, hx161_0⟩ := Kd.at_int (Kd.R_reads' HO_6.out).2.2 (rd l0 x27_2) oD oD
         cases e161
         have p161 := eq_true (oD : 0 ≤ ((rd l0 x27_2) : Int))
         have q161 := eq_true (oD : (rd l0 x27_2) < (t151.length : Int))
         go_wp2_with (first | ((with_reducible refine gate_builtin (b := .append) (xs := #[.tmp 55, .tmp 65]) rfl ?_); (try (refine gate_guard (by rfl) ?_; dsimp only)); at_builtin; refine Kd.R_append (Kd.int .u8) (w0 := w) w.heap.size rfl (.tmp 55) (.tmp 65) 27 5 (.int .u8 0) 1 rfl Try.underlying27 info5 rfl (by decide) (by omega) u8 x8_4 ((wrap64 (48 + (Go.bits .and .i64 (ji25) 1))) % 256) [.int .u8 ((wrap64 (48 + (Go.bits .and .i64 (ji25) 1))) % 256)] (fun _ => True) (fun _ => False) rfl rfl ?aP (fun _ hk => hk.elim) ?aF ?aO ?aB ?aS ?aL ?_; (case aP => exact rfl); (case aB => exact (qW HB.out)); (case aF => exact (fun _ _ => trivial)); (case aO => exact (qR HO_8.out)); (case aS => exact (below_size (qW HB.out))); (case aL => have := LMc26.out; omega); intro v163 w28 ho hb hg hat; rw [← Ny162.out] at ho; replace HO_6 := aM (Kd.R_over' (qR HO_6.out) (Kd.R_typed (qR HO_8.out)) (by decide) hg); replace HB := aM (hb); have HO164 := aM (ho); clear HO_8; clear ho hb hg hat))
         go_roundg k4
         case measure => have := HJ3.out; have := HK2.out; have := HJ12.out; have := HK4.out; omega
         case rel => exact ⟨(y162), (wrap64 (x11_4 - 1)), qE, H', ⟨by have := HJ3.out; have := HK2.out; have := HJ12.out; have := HK4.out; omega⟩, ⟨by refine qR ?_; exact HO_6.out⟩, ⟨by refine qR ?_; exact HO164.out⟩, ⟨by exact qW HB.out⟩⟩
def spec_symbolAt.l0 : Nat → ByteArray → Int → List Int → List Int → Int → Option (Int × Int)
 | 0, _, _, _, _, _ => none
 | k + 1, x0, x1, x2, x3, x10 => if x10 < (x2.length : Int) then (if 0 ≤ x10 then (if (rd x2 x10) > 0 then (if (rd x2 x10) ≤ (wrap64 ((x0.size : Int) - x1)) then (if 0 ≤ x1 then (if x1 ≤ (wrap64 (x1 + (rd x2 x10))) then (if (wrap64 (x1 + (rd x2 x10))) ≤ (x0.size : Int) then (if x10 < (x3.length : Int) then ((spec_digits.f k (rd x3 x10) (rd x2 x10)).bind fun t378 => (if (x0.extract (x1 : Int).toNat ((wrap64 (x1 + (rd x2 x10))) : Int).toNat).toList = t378.toList then (some (x10, wrap64 (x1 + (rd x2 x10)))) else (spec_symbolAt.l0 k x0 x1 x2 x3 (wrap64 (x10 + 1))))) else (none)) else (none)) else (none)) else (none)) else (spec_symbolAt.l0 k x0 x1 x2 x3 (wrap64 (x10 + 1)))) else (spec_symbolAt.l0 k x0 x1 x2 x3 (wrap64 (x10 + 1)))) else (none)) else (some ((-1), (-1)))
def spec_symbolAt.f (k : Nat) (a0 : ByteArray) (a1 : Int) (l2 : List Int) (l3 : List Int) : Option (Int × Int) := spec_symbolAt.l0 k a0 a1 l2 l3 0
theorem spec_symbolAt.mono_l : ∀ k, (∀ y0 y1 y2 y3 y4, LeO (spec_symbolAt.l0 k y0 y1 y2 y3 y4) (spec_symbolAt.l0 (k + 1) y0 y1 y2 y3 y4))
 | 0 => fun _ _ _ _ _ r h => by simp [spec_symbolAt.l0] at h
 | k + 1 => by
  have ih0 := spec_symbolAt.mono_l k
  ·intro y0 y1 y2 y3 y4
   unfold spec_symbolAt.l0
   repeat' first | (with_reducible first | exact ih0 _ _ _ _ _ | exact spec_digits.mono _ _ _ | exact lR | exact lN | refine lI ?_ ?_ | refine lB ?_ fun _ => ?_) | exact ih0 _ _ _ _ _ | exact spec_digits.mono _ _ _ | exact lN | refine lI ?_ ?_ | refine lB ?_ fun _ => ?_
theorem spec_symbolAt.mono : ∀ a0 a1 a2 a3 k, LeO (spec_symbolAt.f k a0 a1 a2 a3) (spec_symbolAt.f (k + 1) a0 a1 a2 a3) := by
 intro a0 a1 a2 a3 k
 have ih0 := spec_symbolAt.mono_l k
 unfold spec_symbolAt.f
 repeat' first | (with_reducible first | exact ih0 _ _ _ _ _ | exact spec_digits.mono _ _ _ | exact lR | exact lN | refine lI ?_ ?_ | refine lB ?_ fun _ => ?_) | exact ih0 _ _ _ _ _ | exact spec_digits.mono _ _ _ | exact lN | refine lI ?_ ?_ | refine lB ?_ fun _ => ?_
def spec_symbolAt.T5 : Bool × List (List Nat × List Nat) := (true, [([], []), ([0], [0]), ([1], [1]), ([2], [2]), ([2], [2]), ([4, 2], [2, 4]), ([2], [2]), ([5, 6, 2], [2, 5, 6]), ([3, 7, 2], [2, 3, 7]), ([2, 8], [2, 8]), ([9, 2], [9]), ([10], [10]), ([10], [10]), ([10], [10]), ([10], [10]), ([13, 14, 10], [10, 13, 14]), ([11, 12, 15, 10], [10, 11, 12, 15]), ([10], [10]), ([10], [10]), ([17, 18, 10], [10, 17, 18]), ([19, 10], [10, 19]), ([10], [10]), ([20, 21, 10, 10], [10, 20, 21]), ([16, 22, 10], [10, 16, 22]), ([10, 23], [10, 23])])
def spec_symbolAt.B5 : List Nat := [0, 1, 3, 7, 7, 23, 7, 119, 255, 511, 1023, 2047, 2047, 2047, 2047, 26623, 65535, 2047, 2047, 395263, 919551, 2047, 4065279, 8388607, 16777215]
theorem spec_symbolAt.tab5 : rtab .any (opsOf Try.f39 5) = spec_symbolAt.T5 := by kernel_rfl
theorem spec_symbolAt.bits5 : waitsOk spec_symbolAt.T5.2 spec_symbolAt.B5 = true := by kernel_rfl
set_option maxHeartbeats 8000000 in
set_option maxRecDepth 100000 in
theorem spec_symbolAt.calls (k : Nat) (a0 : ByteArray) (a1 : Int) (A2 : Option Addr) (c2 : Nat) (l2 : List Int) (A3 : Option Addr) (c3 : Nat) (l3 : List Int) (r1 : Int) (r2 : Int) (w : World) (hr2 : Kd.C (Kd.int .i64) w A2 l2.length l2) (hc2 : l2.length ≤ c2) (hr3 : Kd.C (Kd.int .i64) w A3 l3.length l3) (hc3 : l3.length ≤ c3) (h : spec_symbolAt.f k a0 a1 l2 l3 = some (r1, r2)) :
  Calls Try.prog 39 #[.string a0, .int .i64 a1, .slice A2 l2.length c2, .slice A3 l3.length c3] w fun e w' => e = .returned (.tuple #[.int .i64 r1, .int .i64 r2]) ∧ Below w.heap.size w w' := by
 have HR2 := aM hr2
 have HC2 := aM hc2
 clear hr2 hc2
 have HR3 := aM hr3
 have HC3 := aM hc3
 clear hr3 hc3
 have HB := aM (Below.refl w.heap.size w)
 unfold spec_symbolAt.f at h
 have H := h
 clear h
 have H' := aM H
 clear H
 go_enter Try.func39, Try.ntmps39
 go_wp2
 go_loopg [10] k (fun kq v10 w' => ∃ (x10_1 : Int), v10 = .int .i64 x10_1 ∧ Aside0 (spec_symbolAt.l0 kq a0 a1 l2 l3 x10_1 = some (r1, r2)) ∧ Aside0 (kq ≤ k) ∧ Aside0 (Below w.heap.size w w'))
 case atStart => exact ⟨(0), qE, H', ⟨Nat.le_refl _⟩, ⟨by exact qW HB.out⟩⟩
 case round =>
  clear H'
  try clear c2
  try clear c3
  obtain ⟨x10_1, rfl, HA, HK1, HB⟩ := hrel
  cases gk with
  | zero => exact absurd HA.out (by simp [spec_symbolAt.l0])
  | succ k1 =>
   have H := HA.out
   clear HA
   simp only [spec_symbolAt.l0] at H
   by_cases c5 : x10_1 < (l2.length : Int)
   rotate_left
   ·rw [if_neg c5] at H
    have c5b0 : decide (x10_1 < (l2.length : Int)) = false := decide_eq_false c5
    clear c5
    simp only [Option.some.injEq, Prod.mk.injEq] at H
    obtain ⟨rfl, rfl⟩ := H
    go_wp2
    go_ret2
    exact ⟨qX, by exact qW HB.out⟩
   rw [if_pos c5] at H
   have c5b0 : decide (x10_1 < (l2.length : Int)) = true := decide_eq_true c5
   clear c5
   replace H := iD H
   obtain ⟨c6b0, H⟩ := H
   by_cases c7 : (rd l2 x10_1) > 0
   rotate_left
   ·rw [if_neg c7] at H
    have c7b0 : decide (0 < (rd l2 x10_1)) = false := decide_eq_false c7
    clear c7
    have H' := aM H
    clear H
    obtain ⟨ad376, e376, hx376_0⟩ := Kd.at_int HR2.out x10_1 oD oD
    cases e376
    replace hx376_0 := bD HB hx376_0
    have p376 := eq_true (oD : 0 ≤ (x10_1 : Int))
    have q376 := eq_true (oD : x10_1 < (l2.length : Int))
    try go_wp2
    replace HB := aM (below_drew1 HB.out)
    refine start_ (n := 25) (S := fun w' => True) (ds := []) (bA 25 0) (by kernel_rfl) rfl rfl trivial (fun hHeld => ?_); refine with_tabW spec_symbolAt.tab5 spec_symbolAt.bits5 (fun HT_ HW_ => ?_)
    generalize wr.drew = w20 at HB hHeld ⊢
    refine pQ 0 22 HT_ (bA 25 1) ?_
    refine pQ 1 23 HT_ (bA 25 3) ?_
    refine pQ 2 24 HT_ (bA 25 7) ?_
    refine pure_ (i := 3) (N := some 25) (v := undef) (a' := ?_) (bA 25 15) rfl rfl (any_of HT_.out (by kernel_rfl)) (fun _ _ _ h => h) (Or.inr ⟨by rfl, rfl⟩) ?_ ?_
    rotate_left
    ·refine pZ ?_
     rfl
    refine pure_ (i := 4) (N := some 26) (v := undef) (a' := ?_) (bA 25 31) rfl rfl (any_of HT_.out (by kernel_rfl)) (fun _ _ _ h => h) (Or.inr ⟨by rfl, rfl⟩) ?_ ?_
    rotate_left
    ·refine pZ ?_
     rfl
    refine pure_ (i := 5) (N := some 27) (v := undef) (a' := ?_) (bA 25 63) rfl rfl (any_of HT_.out (by kernel_rfl)) (fun _ _ _ h => h) (Or.inr ⟨by rfl, rfl⟩) ?_ ?_
    rotate_left
    ·refine pZ ?_
     rfl
    refine pure_ (i := 6) (N := some 28) (v := undef) (a' := ?_) (bA 25 127) rfl rfl (any_of HT_.out (by kernel_rfl)) (fun _ _ _ h => h) (Or.inr ⟨by rfl, rfl⟩) ?_ ?_
    rotate_left
    ·refine pZ ?_
     rfl
    refine pure_ (i := 7) (N := some 29) (v := undef) (a' := ?_) (bA 25 255) rfl rfl (any_of HT_.out (by kernel_rfl)) (fun _ _ _ h => h) (Or.inr ⟨by rfl, rfl⟩) ?_ ?_
    rotate_left
    ·refine pZ ?_
     rfl
    refine pure_ (i := 8) (N := some 30) (v := undef) (a' := ?_) (bA 25 511) rfl rfl (any_of HT_.out (by kernel_rfl)) (fun _ _ _ h => h) (Or.inr ⟨by rfl, rfl⟩) ?_ ?_
    rotate_left
    ·refine pZ ?_
     rfl
    refine pQ 9 31 HT_ (bA 25 1023) ?_
    refine pQ 10 32 HT_ (bA 25 2047) ?_
    refine pure_ (i := 11) (N := some 33) (v := undef) (a' := ?_) (bA 25 4095) rfl rfl (any_of HT_.out (by kernel_rfl)) (fun _ _ _ h => h) (Or.inr ⟨by rfl, rfl⟩) ?_ ?_
    rotate_left
    ·refine pZ ?_
     rfl
    refine pure_ (i := 12) (N := some 34) (v := undef) (a' := ?_) (bA 25 8191) rfl rfl (any_of HT_.out (by kernel_rfl)) (fun _ _ _ h => h) (Or.inr ⟨by rfl, rfl⟩) ?_ ?_
    rotate_left
    ·refine pZ ?_
     rfl
    refine pure_ (i := 13) (N := some 35) (v := undef) (a' := ?_) (bA 25 16383) rfl rfl (any_of HT_.out (by kernel_rfl)) (fun _ _ _ h => h) (Or.inr ⟨by rfl, rfl⟩) ?_ ?_
    rotate_left
    ·refine pZ ?_
     rfl
    refine pure_ (i := 14) (N := some 36) (v := undef) (a' := ?_) (bA 25 32767) rfl rfl (any_of HT_.out (by kernel_rfl)) (fun _ _ _ h => h) (Or.inr ⟨by rfl, rfl⟩) ?_ ?_
    rotate_left
    ·refine pZ ?_
     rfl
    refine pure_ (i := 15) (N := some 37) (v := undef) (a' := ?_) (bA 25 65535) rfl rfl (any_of HT_.out (by kernel_rfl)) (fun _ _ _ h => h) (Or.inr ⟨by rfl, rfl⟩) ?_ ?_
    rotate_left
    ·refine pZ ?_
     rfl
    refine pure_ (i := 16) (N := some 38) (v := undef) (a' := ?_) (bA 25 131071) rfl rfl (any_of HT_.out (by kernel_rfl)) (fun _ _ _ h => h) (Or.inr ⟨by rfl, rfl⟩) ?_ ?_
    rotate_left
    ·refine pZ ?_
     rfl
    refine pure_ (i := 17) (N := some 39) (v := undef) (a' := ?_) (bA 25 262143) rfl rfl (any_of HT_.out (by kernel_rfl)) (fun _ _ _ h => h) (Or.inr ⟨by rfl, rfl⟩) ?_ ?_
    rotate_left
    ·refine pZ ?_
     rfl
    refine pure_ (i := 18) (N := some 40) (v := undef) (a' := ?_) (bA 25 524287) rfl rfl (any_of HT_.out (by kernel_rfl)) (fun _ _ _ h => h) (Or.inr ⟨by rfl, rfl⟩) ?_ ?_
    rotate_left
    ·refine pZ ?_
     rfl
    refine pure_ (i := 19) (N := some 41) (v := undef) (a' := ?_) (bA 25 1048575) rfl rfl (any_of HT_.out (by kernel_rfl)) (fun _ _ _ h => h) (Or.inr ⟨by rfl, rfl⟩) ?_ ?_
    rotate_left
    ·refine pZ ?_
     rfl
    refine pure_ (i := 20) (N := some 42) (v := undef) (a' := ?_) (bA 25 2097151) rfl rfl (any_of HT_.out (by kernel_rfl)) (fun _ _ _ h => h) (Or.inr ⟨by rfl, rfl⟩) ?_ ?_
    rotate_left
    ·refine pZ ?_
     rfl
    refine pure_ (i := 21) (N := some 43) (v := undef) (a' := ?_) (bA 25 4194303) rfl rfl (any_of HT_.out (by kernel_rfl)) (fun _ _ _ h => h) (Or.inr ⟨by rfl, rfl⟩) ?_ ?_
    rotate_left
    ·refine pZ ?_
     rfl
    refine pure_ (i := 22) (N := some 44) (v := undef) (a' := ?_) (bA 25 8388607) rfl rfl (any_of HT_.out (by kernel_rfl)) (fun _ _ _ h => h) (Or.inr ⟨by rfl, rfl⟩) ?_ ?_
    rotate_left
    ·refine pZ ?_
     rfl
    refine pure_ (i := 23) (N := some 45) (v := undef) (a' := ?_) (bA 25 16777215) rfl rfl (any_of HT_.out (by kernel_rfl)) (fun _ _ _ h => h) (Or.inr ⟨by rfl, rfl⟩) ?_ ?_
    rotate_left
    ·refine pZ ?_
     rfl
    refine pQ 24 46 HT_ (bA 25 33554431) ?_
    refine done_ (done_of HT_.out (by kernel_rfl)) ?_
    try go_wp2
    go_roundg k1
    case measure => have := HK1.out; omega
    case rel => exact ⟨(wrap64 (x10_1 + 1)), qE, H', ⟨by have := HK1.out; omega⟩, ⟨by exact qW HB.out⟩⟩
   rw [if_pos c7] at H
   have c7b0 : decide (0 < (rd l2 x10_1)) = true := decide_eq_true c7
   clear c7
   by_cases c8 : (rd l2 x10_1) ≤ (wrap64 ((a0.size : Int) - a1))
   rotate_left
   ·rw [if_neg c8] at H
    have c8b0 : decide ((rd l2 x10_1) ≤ (wrap64 ((a0.size : Int) - a1))) = false := decide_eq_false c8
    clear c8
    have H' := aM H
    clear H
    obtain ⟨ad376, e376, hx376_0⟩ := Kd.at_int HR2.out x10_1 oD oD
    cases e376
    replace hx376_0 := bD HB hx376_0
    have p376 := eq_true (oD : 0 ≤ (x10_1 : Int))
    have q376 := eq_true (oD : x10_1 < (l2.length : Int))
    try go_wp2
    replace HB := aM (below_drew1 HB.out)
    refine start_ (n := 25) (S := fun w' => True) (ds := []) (bA 25 0) (by kernel_rfl) rfl rfl trivial (fun hHeld => ?_); refine with_tabW spec_symbolAt.tab5 spec_symbolAt.bits5 (fun HT_ HW_ => ?_)
    generalize wr.drew = w19 at HB hHeld ⊢
    refine pQ 0 22 HT_ (bA 25 1) ?_
    refine pQ 1 23 HT_ (bA 25 3) ?_
    refine pQ 2 24 HT_ (bA 25 7) ?_
    refine pQ 3 25 HT_ (bA 25 15) ?_
    refine pQ 4 26 HT_ (bA 25 31) ?_
    refine pQ 5 27 HT_ (bA 25 63) ?_
    refine pQ 6 28 HT_ (bA 25 127) ?_
    refine pQ 7 29 HT_ (bA 25 255) ?_
    refine pQ 8 30 HT_ (bA 25 511) ?_
    refine pQ 9 31 HT_ (bA 25 1023) ?_
    refine pQ 10 32 HT_ (bA 25 2047) ?_
    refine pure_ (i := 11) (N := some 33) (v := undef) (a' := ?_) (bA 25 4095) rfl rfl (any_of HT_.out (by kernel_rfl)) (fun _ _ _ h => h) (Or.inr ⟨by rfl, rfl⟩) ?_ ?_
    rotate_left
    ·refine pZ ?_
     rfl
    refine pure_ (i := 12) (N := some 34) (v := undef) (a' := ?_) (bA 25 8191) rfl rfl (any_of HT_.out (by kernel_rfl)) (fun _ _ _ h => h) (Or.inr ⟨by rfl, rfl⟩) ?_ ?_
    rotate_left
    ·refine pZ ?_
     rfl
    refine pure_ (i := 13) (N := some 35) (v := undef) (a' := ?_) (bA 25 16383) rfl rfl (any_of HT_.out (by kernel_rfl)) (fun _ _ _ h => h) (Or.inr ⟨by rfl, rfl⟩) ?_ ?_
    rotate_left
    ·refine pZ ?_
     rfl
    refine pure_ (i := 14) (N := some 36) (v := undef) (a' := ?_) (bA 25 32767) rfl rfl (any_of HT_.out (by kernel_rfl)) (fun _ _ _ h => h) (Or.inr ⟨by rfl, rfl⟩) ?_ ?_
    rotate_left
    ·refine pZ ?_
     rfl
    refine pure_ (i := 15) (N := some 37) (v := undef) (a' := ?_) (bA 25 65535) rfl rfl (any_of HT_.out (by kernel_rfl)) (fun _ _ _ h => h) (Or.inr ⟨by rfl, rfl⟩) ?_ ?_
    rotate_left
    ·refine pZ ?_
     rfl
    refine pure_ (i := 16) (N := some 38) (v := undef) (a' := ?_) (bA 25 131071) rfl rfl (any_of HT_.out (by kernel_rfl)) (fun _ _ _ h => h) (Or.inr ⟨by rfl, rfl⟩) ?_ ?_
    rotate_left
    ·refine pZ ?_
     rfl
    refine pure_ (i := 17) (N := some 39) (v := undef) (a' := ?_) (bA 25 262143) rfl rfl (any_of HT_.out (by kernel_rfl)) (fun _ _ _ h => h) (Or.inr ⟨by rfl, rfl⟩) ?_ ?_
    rotate_left
    ·refine pZ ?_
     rfl
    refine pure_ (i := 18) (N := some 40) (v := undef) (a' := ?_) (bA 25 524287) rfl rfl (any_of HT_.out (by kernel_rfl)) (fun _ _ _ h => h) (Or.inr ⟨by rfl, rfl⟩) ?_ ?_
    rotate_left
    ·refine pZ ?_
     rfl
    refine pure_ (i := 19) (N := some 41) (v := undef) (a' := ?_) (bA 25 1048575) rfl rfl (any_of HT_.out (by kernel_rfl)) (fun _ _ _ h => h) (Or.inr ⟨by rfl, rfl⟩) ?_ ?_
    rotate_left
    ·refine pZ ?_
     rfl
    refine pure_ (i := 20) (N := some 42) (v := undef) (a' := ?_) (bA 25 2097151) rfl rfl (any_of HT_.out (by kernel_rfl)) (fun _ _ _ h => h) (Or.inr ⟨by rfl, rfl⟩) ?_ ?_
    rotate_left
    ·refine pZ ?_
     rfl
    refine pure_ (i := 21) (N := some 43) (v := undef) (a' := ?_) (bA 25 4194303) rfl rfl (any_of HT_.out (by kernel_rfl)) (fun _ _ _ h => h) (Or.inr ⟨by rfl, rfl⟩) ?_ ?_
    rotate_left
    ·refine pZ ?_
     rfl
    refine pure_ (i := 22) (N := some 44) (v := undef) (a' := ?_) (bA 25 8388607) rfl rfl (any_of HT_.out (by kernel_rfl)) (fun _ _ _ h => h) (Or.inr ⟨by rfl, rfl⟩) ?_ ?_
    rotate_left
    ·refine pZ ?_
     rfl
    refine pure_ (i := 23) (N := some 45) (v := undef) (a' := ?_) (bA 25 16777215) rfl rfl (any_of HT_.out (by kernel_rfl)) (fun _ _ _ h => h) (Or.inr ⟨by rfl, rfl⟩) ?_ ?_
    rotate_left
    ·refine pZ ?_
     rfl
    refine pQ 24 46 HT_ (bA 25 33554431) ?_
    refine done_ (done_of HT_.out (by kernel_rfl)) ?_
    try go_wp2
    go_roundg k1
    case measure => have := HK1.out; omega
    case rel => exact ⟨(wrap64 (x10_1 + 1)), qE, H', ⟨by have := HK1.out; omega⟩, ⟨by exact qW HB.out⟩⟩
   rw [if_pos c8] at H
   have c8b0 : decide ((rd l2 x10_1) ≤ (wrap64 ((a0.size : Int) - a1))) = true := decide_eq_true c8
   clear c8
   replace H := iS H
   obtain ⟨c9, H⟩ := H
   have c9b0 := eq_true c9
   have c9b1 : decide (0 ≤ a1) = true := decide_eq_true c9
   clear c9
   replace H := iS H
   obtain ⟨c10, H⟩ := H
   have c10b0 := eq_true c10
   have c10b1 : decide (a1 ≤ (wrap64 (a1 + (rd l2 x10_1)))) = true := decide_eq_true c10
   replace H := iS H
   obtain ⟨c11, H⟩ := H
   have c11b0 := eq_true c11
   have c11b1 : decide ((wrap64 (a1 + (rd l2 x10_1))) ≤ (a0.size : Int)) = true := decide_eq_true c11
   replace H := iD H
   obtain ⟨c12b0, H⟩ := H
   replace H := Option.bind_eq_some_iff.mp H
   obtain ⟨t378, A130, H⟩ := H
   replace H : (if (a0.extract (a1 : Int).toNat ((wrap64 (a1 + (rd l2 x10_1))) : Int).toNat).toList = t378.toList then (some (x10_1, wrap64 (a1 + (rd l2 x10_1)))) else (spec_symbolAt.l0 k1 a0 a1 l2 l3 (wrap64 (x10_1 + 1)))) = some (r1, r2) := H
   have A13 := aM A130
   clear A130
   by_cases c14 : (a0.extract (a1 : Int).toNat ((wrap64 (a1 + (rd l2 x10_1))) : Int).toNat).toList = t378.toList
   ·rw [if_pos c14] at H
    have c14b0 : ((a0.extract (a1 : Int).toNat ((wrap64 (a1 + (rd l2 x10_1))) : Int).toNat).toList == t378.toList) = true := beq_iff_eq.mpr c14
    have c14b1 : ((a0.extract (a1 : Int).toNat ((wrap64 (a1 + (rd l2 x10_1))) : Int).toNat).toList != t378.toList) = false := bne_eq_false_iff_eq.mpr c14
    clear c14
    simp only [Option.some.injEq, Prod.mk.injEq] at H
    obtain ⟨rfl, rfl⟩ := H
    obtain ⟨ad376, e376, hx376_0⟩ := Kd.at_int HR2.out x10_1 oD oD
    cases e376
    replace hx376_0 := bD HB hx376_0
    have p376 := eq_true (oD : 0 ≤ (x10_1 : Int))
    have q376 := eq_true (oD : x10_1 < (l2.length : Int))
    try go_wp2
    replace HB := aM (below_drew1 HB.out)
    obtain ⟨ad377, e377, hx377_0⟩ := Kd.at_int HR3.out x10_1 oD oD
    have hw377_0 := hx377_0
    cases e377
    replace hx377_0 := bD HB hx377_0
    have p377 := eq_true (oD : 0 ≤ (x10_1 : Int))
    have q377 := eq_true (oD : x10_1 < (l3.length : Int))
    refine start_ (n := 25) (S := fun w' => w'.cell? (ad377.add (x10_1).toNat) = some (.int .i64 (rd l3 x10_1))) (ds := []) (bA 25 0) (by kernel_rfl) rfl rfl ((bC HB hw377_0)) (fun hHeld => ?_); refine with_tabW spec_symbolAt.tab5 spec_symbolAt.bits5 (fun HT_ HW_ => ?_)
    generalize wr.drew = w15 at HB hx377_0 hHeld ⊢
    refine pQ 0 22 HT_ (bA 25 1) ?_
    refine pQ 1 23 HT_ (bA 25 3) ?_
    refine pQ 2 24 HT_ (bA 25 7) ?_
    refine pQ 3 25 HT_ (bA 25 15) ?_
    refine pQ 4 26 HT_ (bA 25 31) ?_
    refine pQ 5 27 HT_ (bA 25 63) ?_
    refine pQ 6 28 HT_ (bA 25 127) ?_
    refine pQ 7 29 HT_ (bA 25 255) ?_
    refine pQ 8 30 HT_ (bA 25 511) ?_
    refine pQ 9 31 HT_ (bA 25 1023) ?_
    refine pQ 10 32 HT_ (bA 25 2047) ?_
    refine pQ 11 33 HT_ (bA 25 4095) ?_
    refine pQ 12 34 HT_ (bA 25 8191) ?_
    refine pQ 13 35 HT_ (bA 25 16383) ?_
    refine pQ 14 36 HT_ (bA 25 32767) ?_
    refine pQ 15 37 HT_ (bA 25 65535) ?_
    refine pQ 16 38 HT_ (bA 25 131071) ?_
    refine pQ 17 39 HT_ (bA 25 262143) ?_
    refine pQ 18 40 HT_ (bA 25 524287) ?_
    refine pQ 19 41 HT_ (bA 25 1048575) ?_
    refine pQ 21 43 HT_ (bA 25 3145727) ?_
    refine take_ (i := 20) (N := some 42) (v := ?_) (a' := ?_) (bA 25 4194303) rfl rfl (take_ofW HT_.out HW_.out (by kernel_rfl)) (fun _ _ _ h => h) (Or.inl ⟨by rfl, ?_⟩) hHeld ?_ ?_
    rotate_left
    ·intro w' s0
     go_simp
     with_reducible rfl
    rotate_left
    ·refine pZ ?_
     rfl
    refine one_ (i := 22) (N := some 44) (bA 25 8388607) rfl rfl (one_of HT_.out (by kernel_rfl)) (by decide) (fun K hK => ?_)
    refine goes_ Try.func50 (by kernel_rfl) rfl #[.int .i64 (rd l3 x10_1), .int .i64 (rd l2 x10_1)] (by rfl) rfl rfl qM ?_
    with_reducible refine (spec_digits.calls k1 (rd l3 x10_1) (rd l2 x10_1) t378 _ A13.out).mono ?_
    rintro e w16 ⟨rfl, hb⟩
    refine ⟨_, rfl, ?_⟩
    replace HB := bS HB hb
    (try clear hb)
    (try clear hb2)
    (try clear hk)
    (try clear hi)
    refine hK.out _ _ ((bC HB hw377_0)) (fun hHeld => ?_)
    clear hK K
    refine norm_ (a' := ?_) ?_ ?_
    rotate_left
    ·show Act.put _ (some 44) _ = _
     refine pZ ?_
     rfl
    refine pQ 23 45 HT_ (bA 25 16777215) ?_
    refine pQ 24 46 HT_ (bA 25 33554431) ?_
    refine done_ (done_of HT_.out (by kernel_rfl)) ?_
    try go_wp2
    go_ret2
    exact ⟨qX, by exact qW HB.out⟩
   rw [if_neg c14] at H
   have c14b0 : ((a0.extract (a1 : Int).toNat ((wrap64 (a1 + (rd l2 x10_1))) : Int).toNat).toList == t378.toList) = false := beq_eq_false_iff_ne.mpr c14
   have c14b1 : ((a0.extract (a1 : Int).toNat ((wrap64 (a1 + (rd l2 x10_1))) : Int).toNat).toList != t378.toList) = true := bne_iff_ne.mpr c14
   have H' := aM H
   clear H
   obtain ⟨ad376, e376, hx376_0⟩ := Kd.at_int HR2.out x10_1 oD oD
   cases e376
   replace hx376_0 := bD HB hx376_0
   have p376 := eq_true (oD : 0 ≤ (x10_1 : Int))
   have q376 := eq_true (oD : x10_1 < (l2.length : Int))
   try go_wp2
   replace HB := aM (below_drew1 HB.out)
   obtain ⟨ad377, e377, hx377_0⟩ := Kd.at_int HR3.out x10_1 oD oD
   have hw377_0 := hx377_0
   cases e377
   replace hx377_0 := bD HB hx377_0
   have p377 := eq_true (oD : 0 ≤ (x10_1 : Int))
   have q377 := eq_true (oD : x10_1 < (l3.length : Int))
   refine start_ (n := 25) (S := fun w' => w'.cell? (ad377.add (x10_1).toNat) = some (.int .i64 (rd l3 x10_1))) (ds := []) (bA 25 0) (by kernel_rfl) rfl rfl ((bC HB hw377_0)) (fun hHeld => ?_); refine with_tabW spec_symbolAt.tab5 spec_symbolAt.bits5 (fun HT_ HW_ => ?_)
   generalize wr.drew = w17 at HB hx377_0 hHeld ⊢
   refine pQ 0 22 HT_ (bA 25 1) ?_
   refine pQ 1 23 HT_ (bA 25 3) ?_
   refine pQ 2 24 HT_ (bA 25 7) ?_
   refine pQ 3 25 HT_ (bA 25 15) ?_
   refine pQ 4 26 HT_ (bA 25 31) ?_
   refine pQ 5 27 HT_ (bA 25 63) ?_
   refine pQ 6 28 HT_ (bA 25 127) ?_
   refine pQ 7 29 HT_ (bA 25 255) ?_
   refine pQ 8 30 HT_ (bA 25 511) ?_
   refine pQ 9 31 HT_ (bA 25 1023) ?_
   refine pQ 10 32 HT_ (bA 25 2047) ?_
   refine pQ 11 33 HT_ (bA 25 4095) ?_
   refine pQ 12 34 HT_ (bA 25 8191) ?_
   refine pQ 13 35 HT_ (bA 25 16383) ?_
   refine pQ 14 36 HT_ (bA 25 32767) ?_
   refine pQ 15 37 HT_ (bA 25 65535) ?_
   refine pQ 16 38 HT_ (bA 25 131071) ?_
   refine pQ 17 39 HT_ (bA 25 262143) ?_
   refine pQ 18 40 HT_ (bA 25 524287) ?_
   refine pQ 19 41 HT_ (bA 25 1048575) ?_
   refine pQ 21 43 HT_ (bA 25 3145727) ?_
   refine take_ (i := 20) (N := some 42) (v := ?_) (a' := ?_) (bA 25 4194303) rfl rfl (take_ofW HT_.out HW_.out (by kernel_rfl)) (fun _ _ _ h => h) (Or.inl ⟨by rfl, ?_⟩) hHeld ?_ ?_
   rotate_left
   ·intro w' s0
    go_simp
    with_reducible rfl
   rotate_left
   ·refine pZ ?_
    rfl
   refine one_ (i := 22) (N := some 44) (bA 25 8388607) rfl rfl (one_of HT_.out (by kernel_rfl)) (by decide) (fun K hK => ?_)
   refine goes_ Try.func50 (by kernel_rfl) rfl #[.int .i64 (rd l3 x10_1), .int .i64 (rd l2 x10_1)] (by rfl) rfl rfl qM ?_
   with_reducible refine (spec_digits.calls k1 (rd l3 x10_1) (rd l2 x10_1) t378 _ A13.out).mono ?_
   rintro e w18 ⟨rfl, hb⟩
   refine ⟨_, rfl, ?_⟩
   replace HB := bS HB hb
   (try clear hb)
   (try clear hb2)
   (try clear hk)
   (try clear hi)
   refine hK.out _ _ ((bC HB hw377_0)) (fun hHeld => ?_)
   clear hK K
   refine norm_ (a' := ?_) ?_ ?_
   rotate_left
   ·show Act.put _ (some 44) _ = _
    refine pZ ?_
    rfl
   refine pQ 23 45 HT_ (bA 25 16777215) ?_
   refine pQ 24 46 HT_ (bA 25 33554431) ?_
   refine done_ (done_of HT_.out (by kernel_rfl)) ?_
   try go_wp2
   go_roundg k1
   case measure => have := HK1.out; omega
   case rel => exact ⟨(wrap64 (x10_1 + 1)), qE, H', ⟨by have := HK1.out; omega⟩, ⟨by exact qW HB.out⟩⟩
theorem dcArr : Go.WideMaps.ArrKey Try.prog 47 3 2 := ⟨Try.underlying47, by kernel_rfl, by kernel_rfl, by kernel_rfl⟩
theorem dcSize : ∃ m, (Try.prog).types.size = m + 1 := by
 have h : 0 < (Try.prog).types.size := of_decide_eq_true (by kernel_rfl)
 exact ⟨_, (Nat.succ_pred_eq_of_pos h).symm⟩
def dcKey (len code : Int) : Lit := .string (keyBytes [.int .i64 len, .int .i64 code])
theorem dcKeyOf {a b : Int} (wa : (Lit.int .i64 a).wf = true) (wb : (Lit.int .i64 b).wf = true) : keyOf Try.prog 47 (.agg #[.int .i64 a, .int .i64 b]) = some (dcKey a b) := Go.WideMaps.keyOf_pair dcArr Try.underlying3 dcSize wa wb
theorem dcKeyed : Go.Maps.Keyed Try.prog 47 := Go.Maps.Keyed.of_law (deep_law_laid (by kernel_rfl) (m := 2) (by omega) (of_decide_eq_true (by kernel_rfl)) (by kernel_rfl) (by rw [Try.underlying47]))
theorem dcKey_inj {a b a' b' : Int} (wa : (Lit.int .i64 a).wf = true) (wb : (Lit.int .i64 b).wf = true) (wa' : (Lit.int .i64 a').wf = true) (wb' : (Lit.int .i64 b').wf = true) (h : dcKey a b = dcKey a' b') : a = a' ∧ b = b' := by
 have h1 := dcKeyed.inj (dcKeyOf wa wb) (h ▸ dcKeyOf wa' wb')
 simp only [Value.agg.injEq] at h1
 have h2 := congrArg Array.toList h1
 simp only [List.cons.injEq, Value.int.injEq, and_true, true_and] at h2
 exact h2
def dcMap (l c : List Int) : Nat → DataW Unit
 | 0 => .map []
 | n + 1 => if 0 < rd l (n : Int) then (dcMap l c n).put (dcKey (rd l (n : Int)) (rd c (n : Int))) (.lit (.int .i64 (n : Int))) else dcMap l c n
def dcLook (l c : List Int) (len code : Int) : Nat → Option Int
 | 0 => none
 | n + 1 => if 0 < rd l (n : Int) ∧ rd l (n : Int) = len ∧ rd c (n : Int) = code then some (n : Int) else dcLook l c len code n
theorem dcMap_is (l c : List Int) : ∀ n, Go.Maps.IsMap (dcMap l c n)
 | 0 => Go.Maps.isMap_empty
 | n + 1 => by
  unfold dcMap
  split
  ·exact (dcMap_is l c n).put _ _
  ·exact dcMap_is l c n
theorem dcMap_at (l c : List Int) (hl : ∀ i, (Lit.int .i64 (rd l i)).wf = true) (hc : ∀ i, (Lit.int .i64 (rd c i)).wf = true) (len code : Int) (wl : (Lit.int .i64 len).wf = true) (wc : (Lit.int .i64 code).wf = true) :
  ∀ n, (dcMap l c n).atKey (dcKey len code) (.lit (.int .i64 0)) = .lit (.int .i64 ((dcLook l c len code n).getD 0)) ∧ Go.Maps.has (dcMap l c n) (dcKey len code) = (dcLook l c len code n).isSome
 | 0 => ⟨rfl, rfl⟩
 | n + 1 => by
  have ih := dcMap_at l c hl hc len code wl wc n
  unfold dcMap dcLook
  by_cases h0 : 0 < rd l (n : Int)
  ·rw [if_pos h0]
   by_cases h1 : rd l (n : Int) = len ∧ rd c (n : Int) = code
   ·rw [if_pos ⟨h0, h1⟩, ← h1.1, ← h1.2]
    exact ⟨Go.Maps.atKey_put_same (dcMap_is l c n) (dcKeyed.key (dcKeyOf (hl _) (hc _))) _ _, Go.Maps.has_put_same (dcMap_is l c n) (dcKeyed.key (dcKeyOf (hl _) (hc _))) _⟩
   ·rw [if_neg (fun h => h1 h.2)]
    have hne : dcKey len code ≠ dcKey (rd l (n : Int)) (rd c (n : Int)) := fun e => h1 ⟨((dcKey_inj wl wc (hl _) (hc _) e).1).symm, ((dcKey_inj wl wc (hl _) (hc _) e).2).symm⟩
    rw [Go.Maps.atKey_put_other hne, Go.Maps.has_put_other hne]
    exact ih
  ·rw [if_neg h0, if_neg (fun h => h0 h.1)]
   exact ih
def dcOk (l c : List Int) : Bool := decide (l.length ≤ 16) && decide (c.length = l.length) && l.all (fun x => (Lit.int .i64 x).wf) && c.all (fun x => (Lit.int .i64 x).wf)
def dcGo (l c : List Int) (s : ByteArray) : Nat → List Int → Int → Int → Int → Option (List Int × Bool)
 | 0, _, _, _, _ => none
 | k + 1, out, len, code, i => if i < (s.size : Int) then (if 0 ≤ i then (if (bt s i = 48 ∨ bt s i = 49) ∧ len ≠ 16 then (match dcLook l c (wrap64 (len + 1)) (wrap64 (wrap64 (2 * code) + (bt s i - 48))) l.length with
   | none => dcGo l c s k out (wrap64 (len + 1)) (wrap64 (wrap64 (2 * code) + (bt s i - 48))) (wrap64 (i + 1))
   | some v => if (out.length : Int) = 1200 then some (([] : List Int), false) else (if out.length < 17592186044416 then dcGo l c s k (out ++ [v]) 0 0 (wrap64 (i + 1)) else none)) else some (([] : List Int), false)) else none) else (if 0 < len then some (([] : List Int), false) else some (out, true))
theorem dcGo_mono (l c : List Int) (s : ByteArray) : ∀ k out len code i, LeO (dcGo l c s k out len code i) (dcGo l c s (k + 1) out len code i)
 | 0, _, _, _, _ => LeO.none _
 | k + 1, out, len, code, i => by
  have ih := dcGo_mono l c s k
  rw [dcGo, dcGo]
  refine LeO.ite (LeO.ite (LeO.ite ?_ (LeO.refl _)) (LeO.refl _)) (LeO.refl _)
  cases dcLook l c (wrap64 (len + 1)) (wrap64 (wrap64 (2 * code) + (bt s i - 48))) l.length with
  | none => exact ih _ _ _ _
  | some v => exact LeO.ite (LeO.refl _) (LeO.ite (ih _ _ _ _) (LeO.refl _))
def impl_DecodeSymbols.f (k : Nat) (a0 : ByteArray) (l1 : List Int) : Option (List Int × Bool) := (impl_canonical.f k l1).bind fun t => (if t.2 = true then (if dcOk l1 t.1 = true then dcGo l1 t.1 a0 k ([] : List Int) 0 0 0 else none) else (some (([] : List Int), false)))
theorem impl_DecodeSymbols.mono : ∀ a0 a1 k, LeO (impl_DecodeSymbols.f k a0 a1) (impl_DecodeSymbols.f (k + 1) a0 a1) := fun a0 a1 k =>
 LeO.bind (impl_canonical.mono _ _) (fun _ => LeO.ite (LeO.ite (dcGo_mono _ _ _ _ _ _ _ _) (LeO.refl _)) (LeO.refl _))
theorem dcOk_at {l c : List Int} (h : dcOk l c = true) : l.length ≤ 16 ∧ c.length = l.length ∧ (∀ i, (Lit.int .i64 (rd l i)).wf = true) ∧ ∀ i, (Lit.int .i64 (rd c i)).wf = true := by
 unfold dcOk at h
 simp only [Bool.and_eq_true, decide_eq_true_eq, List.all_eq_true] at h
 obtain ⟨⟨⟨h1, h2⟩, h3⟩, h4⟩ := h
 have g : ∀ xs : List Int, (∀ x ∈ xs, (Lit.int .i64 x).wf = true) → ∀ i, (Lit.int .i64 (rd xs i)).wf = true := fun xs hx i => by
  unfold rd
  rw [List.getD_eq_getElem?_getD]
  cases e : xs[i.toNat]? with
  | none => decide
  | some x => exact hx x (List.mem_of_getElem? e)
 exact ⟨h1, h2, g l h3, g c h4⟩
theorem dcOwn {P : Program} {kt : TypeId} {R : Value → Option (DataW Unit × List MemPlace)} {w w' : World} {b n : Nat} {D : DataW Unit} (h : w.ownsMap P kt R b n D) (hb : Below w.heap.size w w') : w'.ownsMap P kt R b n D := by
 have hl := h.lt
 obtain ⟨es, clock, hb', F, hs, hD⟩ := h
 exact ⟨es, clock, (hb.block b hl).trans hb', F, hs, hD⟩
set_option maxHeartbeats 8000000 in
set_option maxRecDepth 100000 in
theorem impl_DecodeSymbols.calls (k : Nat) (a0 : ByteArray) (A1 : Option Addr) (c1 : Nat) (l1 : List Int) (r1 : List Int) (r2 : Bool) (w : World) (hr1 : Kd.C (Kd.int .i64) w A1 l1.length l1) (hc1 : l1.length ≤ c1) (h : impl_DecodeSymbols.f k a0 l1 = some (r1, r2)) :
 Calls Try.prog 18 #[.string a0, .slice A1 l1.length c1] w fun e w' => ∃ v0_ : Value, e = .returned (.tuple #[v0_, .bool r2]) ∧ Kd.R (Kd.int .i64) 3 w' w.heap.size (fun _ => True) v0_ r1 ∧ Below w.heap.size w w' := by
 have hmm := @run_makeMap Try.prog
 unfold impl_DecodeSymbols.f at h
 obtain ⟨⟨t1, t2⟩, q0, H⟩ := Option.bind_eq_some_iff.mp h
 clear h
 cases t2 with
 | false =>
  replace H : some (([] : List Int), false) = some (r1, r2) := H
  simp only [Option.some.injEq, Prod.mk.injEq] at H
  obtain ⟨rfl, rfl⟩ := H
  go_enter Try.func18, Try.ntmps18
  go_wp2_with (first | ((with_reducible refine gate_callee (f := 32) rfl ?_); refine goesL_ (some 19) rfl rfl Try.func32 (by kernel_rfl) rfl #[.slice A1 l1.length c1] rfl (by (try simp only [List.map_toArray, List.map_cons, List.map_nil]); first | done | rfl) ?_; (with_reducible refine (impl_canonical.calls k _ _ l1 t1 false _ ?side1 ?side2 q0).mono ?_); (case side1 => exact qC hr1); (case side2 => exact hc1); rintro e w5 ⟨v5, rfl, ho5, hb5⟩; refine ⟨_, rfl, ?_⟩))
  go_ret2
  exact ⟨_, rfl, Kd.R_nil _ _ _ _ _, by repeat (first | exact hb5 | apply below_alloc | apply pw_below_drewN | apply below_drew1)⟩
 | true =>
  replace H : (if dcOk l1 t1 = true then dcGo l1 t1 a0 k ([] : List Int) 0 0 0 else none) = some (r1, r2) := H
  by_cases hok : dcOk l1 t1 = true
  case neg => rw [if_neg hok] at H; cases H
  rw [if_pos hok] at H
  obtain ⟨hlen, hcl, hwl, hwc⟩ := dcOk_at hok
  go_enter Try.func18, Try.ntmps18
  go_wp2_with (first | ((with_reducible refine gate_callee (f := 32) rfl ?_); refine goesL_ (some 19) rfl rfl Try.func32 (by kernel_rfl) rfl #[.slice A1 l1.length c1] rfl (by (try simp only [List.map_toArray, List.map_cons, List.map_nil]); first | done | rfl) ?_; (with_reducible refine (impl_canonical.calls k _ _ l1 t1 true _ ?side1 ?side2 q0).mono ?_); (case side1 => exact qC hr1); (case side2 => exact hc1); rintro e w5 ⟨v5, rfl, ho5, hb5⟩; refine ⟨_, rfl, ?_⟩; obtain ⟨Ac, cc, ec⟩ := Kd.R_slice ho5; subst ec))
  have HRl : Kd.C (Kd.int .i64) w5 A1 l1.length l1 := Kd.C_below hr1 hb5
  have HRc : Kd.C (Kd.int .i64) w5 Ac t1.length t1 := (Kd.R_reads' ho5).2.2
  rw [hcl] at HRc
  generalize hb_ : w5.heap.size = b
  go_loopw [27] (fun i wr => ∃ n : Nat, n ≤ l1.length ∧ i = .int .i64 (n : Int) ∧ wr.ownsMap Try.prog 47 (plainElem (H := Unit) Try.prog 3) b n (dcMap l1 t1 n) ∧ Below w5.heap.size w5 wr)
   (fun i _ => l1.length - (intOf i).toNat)
  case atStart => exact ⟨0, Nat.zero_le _, rfl, hb_ ▸ World.ownsMap_made _ _ _ _, (Below.refl _ _).alloc (Nat.le_refl _) _⟩
  case round =>
   obtain ⟨n, hn, rfl, hown, hbl⟩ := hrel
   by_cases hlt : n < l1.length
   ·have d1 : decide ((n : Int) < (l1.length : Int)) = true := decide_eq_true (by omega)
    have p1 : 0 ≤ (n : Int) := by omega
    have p2 : (n : Int) < (l1.length : Int) := by omega
    obtain ⟨ad1, e1, hx1⟩ := Kd.at_int HRl (n : Int) p1 p2
    obtain ⟨ad2, e2, hx2⟩ := Kd.at_int HRc (n : Int) p1 p2
    cases e1
    cases e2
    replace hx1 := (hbl.cell (World.block_lt_of_cell? w5 _ hx1)).trans hx1
    replace hx2 := (hbl.cell (World.block_lt_of_cell? w5 _ hx2)).trans hx2
    rw [Int.toNat_natCast] at hx1 hx2
    have wn : (Lit.int .i64 (n : Int)).wf = true := by
     have h1 : IntKind.i64.min = -9223372036854775808 := rfl
     have h2 : IntKind.i64.max = 9223372036854775807 := rfl
     simp only [Lit.wf, h1, h2, Bool.and_eq_true, decide_eq_true_eq]
     omega
    by_cases hpos : 0 < rd l1 (n : Int)
    rotate_left
    ·have d2 : decide (0 < rd l1 (n : Int)) = false := decide_eq_false hpos
     go_wp2
     exact ⟨⟨n + 1, hlt, by simp, by rw [dcMap, if_neg hpos]; exact hown.mono (Nat.le_succ _), hbl⟩, by simp [intOf]; omega⟩
    have d2 : decide (0 < rd l1 (n : Int)) = true := decide_eq_true hpos
    go_wp2_with (first | (at_mapUpdate; refine wpList_mapUpdate_own _ rfl _ _ _ 46 rfl 47 3 dcKeyed Try.underlying46 _ b n _ rfl hown (by unfold maxLen; omega) _ _ _ rfl rfl (dcKeyOf (hwl _) (hwc _)) _ [] (plainElem_int Try.underlying3 wn) ?_; intro w1 hown1 hgrow1))
    exact ⟨⟨n + 1, hlt, by simp, by rw [dcMap, if_pos hpos]; exact hown1, hbl.grown hgrow1 hbl.size (fun j hj => by cases hj; exact hb_ ▸ Nat.le_refl _)⟩, by simp [intOf]; omega⟩
   have d1 : decide ((n : Int) < (l1.length : Int)) = false := decide_eq_false (by omega)
   have hnl : n = l1.length := by omega
   subst hnl
   go_wp2_with (first | ((with_reducible refine gate_dst (N := 43) rfl ?_); refine iL ([] : List Int) [] ?_; intro v43 w43 ho43 hb43 hg43 hnew_; clear hnew_))
   obtain ⟨W6, eW6⟩ : ∃ W, W = wr := ⟨_, rfl⟩
   subst eW6
   have H' := aM H
   clear H
   go_loopg [11, 12, 13, 46] k (fun kq v11 v12 v13 v46 w' => ∃ (out : List Int) (len code i : Int), v12 = .int .i64 len ∧ v13 = .int .i64 code ∧ v46 = .int .i64 i ∧ Aside0 (dcGo l1 t1 a0 kq out len code i = some (r1, r2)) ∧ Aside0 (kq ≤ k) ∧ Aside0 (Kd.R (Kd.int .i64) 3 w' W6.heap.size (fun _ => True) v11 out) ∧ Aside0 (Below W6.heap.size W6 w'))
   case atStart => exact ⟨[], 0, 0, 0, rfl, rfl, rfl, H', ⟨Nat.le_refl _⟩, ⟨ho43⟩, ⟨hb43⟩⟩
   case round =>
    clear H'
    obtain ⟨out, len, code, i, rfl, rfl, rfl, HA, HK, HO, HB⟩ := hrel
    cases gk with
    | zero => exact absurd HA.out (by simp [dcGo])
    | succ k1 =>
     have H := HA.out
     clear HA
     rw [dcGo] at H
     by_cases c9 : i < (a0.size : Int)
     rotate_left
     ·rw [if_neg c9] at H
      have d1 : decide (i < (a0.size : Int)) = false := decide_eq_false c9
      by_cases c7 : 0 < len
      ·rw [if_pos c7] at H
       have d2 : decide (0 < len) = true := decide_eq_true c7
       simp only [Option.some.injEq, Prod.mk.injEq] at H
       obtain ⟨rfl, rfl⟩ := H
       go_wp2
       go_ret2
       exact ⟨_, rfl, Kd.R_nil _ _ _ _ _, below_then (below_then hb5 hb5.size hbl) (Nat.le_trans hb5.size hbl.size) HB.out⟩
      rw [if_neg c7] at H
      have d2 : decide (0 < len) = false := decide_eq_false c7
      simp only [Option.some.injEq, Prod.mk.injEq] at H
      obtain ⟨rfl, rfl⟩ := H
      go_wp2
      go_ret2
      exact ⟨_, rfl, Kd.R_lower HO.out (Nat.le_trans hb5.size hbl.size), below_then (below_then hb5 hb5.size hbl) (Nat.le_trans hb5.size hbl.size) HB.out⟩
     rw [if_pos c9] at H
     have d1 : decide (i < (a0.size : Int)) = true := decide_eq_true c9
     by_cases c0 : 0 ≤ i
     case neg => rw [if_neg c0] at H; cases H
     rw [if_pos c0] at H
     have p1 := eq_true c0
     have q1 := eq_true c9
     by_cases c16 : len = 16
     ·subst c16
      rw [if_neg (fun h => h.2 rfl)] at H
      simp only [Option.some.injEq, Prod.mk.injEq] at H
      obtain ⟨rfl, rfl⟩ := H
      by_cases b48 : bt a0 i = 48
      ·have hx := fun h => (bt_at a0 i h).trans b48
       go_wp2
       go_ret2
       exact ⟨_, rfl, Kd.R_nil _ _ _ _ _, below_then (below_then hb5 hb5.size hbl) (Nat.le_trans hb5.size hbl.size) HB.out⟩
      by_cases b49 : bt a0 i = 49
      ·have hx := fun h => (bt_at a0 i h).trans b49
       go_wp2
       go_ret2
       exact ⟨_, rfl, Kd.R_nil _ _ _ _ _, below_then (below_then hb5 hb5.size hbl) (Nat.le_trans hb5.size hbl.size) HB.out⟩
      have hx := bt_at a0 i
      have g2 : (bt a0 i == 48) = false := beq_eq_false_iff_ne.mpr b48
      have g3 : (bt a0 i == 49) = false := beq_eq_false_iff_ne.mpr b49
      have g4 : (bt a0 i != 48) = true := bne_iff_ne.mpr b48
      have g5 : (bt a0 i != 49) = true := bne_iff_ne.mpr b49
      go_wp2
      go_ret2
      exact ⟨_, rfl, Kd.R_nil _ _ _ _ _, below_then (below_then hb5 hb5.size hbl) (Nat.le_trans hb5.size hbl.size) HB.out⟩
     have f1 : (len == 16) = false := beq_eq_false_iff_ne.mpr c16
     by_cases b48 : bt a0 i = 48
     ·have hx := fun h => (bt_at a0 i h).trans b48
      rw [if_pos ⟨Or.inl b48, c16⟩, b48, show wrap64 (2 * code) + ((48 : Int) - 48) = wrap64 (2 * code) by omega] at H
      have hm := dcMap_at l1 t1 hwl hwc (wrap64 (len + 1)) (wrap64 (wrap64 (2 * code))) (wrap64_wf _) (wrap64_wf _) l1.length
      cases hL : dcLook l1 t1 (wrap64 (len + 1)) (wrap64 (wrap64 (2 * code))) l1.length with
      | none =>
       rw [hL] at H hm
       replace H : dcGo l1 t1 a0 k1 out (wrap64 (len + 1)) (wrap64 (wrap64 (2 * code))) (wrap64 (i + 1)) = some (r1, r2) := H
       have H' := aM H
       clear H
       simp only [Option.isSome_none, Option.getD_none] at hm
       go_wp2_with (first | (at_lookup; refine wpList_lookup_own_ok_int _ rfl _ _ 46 rfl 47 3 .i64 dcKeyed Try.underlying46 Try.underlying3 (by kernel_rfl) b l1.length _ rfl (dcOwn hown (qW HB.out)) _ _ rfl (dcKeyOf (wrap64_wf _) (wrap64_wf _)) ?_; intro cv hat hwcv; rw [hm.2]))
       go_roundg k1
       case measure => have := HK.out; omega
       case rel => exact ⟨out, wrap64 (len + 1), wrap64 (wrap64 (2 * code)), wrap64 (i + 1), rfl, rfl, rfl, H', ⟨by have := HK.out; omega⟩, ⟨by refine qR ?_; exact HO.out⟩, ⟨by exact qW HB.out⟩⟩
      | some v =>
       rw [hL] at H hm
       replace H : (if (out.length : Int) = 1200 then some (([] : List Int), false) else (if out.length < 17592186044416 then dcGo l1 t1 a0 k1 (out ++ [v]) 0 0 (wrap64 (i + 1)) else none)) = some (r1, r2) := H
       simp only [Option.isSome_some, Option.getD_some] at hm
       obtain ⟨Ao, co, rfl⟩ := sL HO
       by_cases c12 : (out.length : Int) = 1200
       ·rw [if_pos c12] at H
        have g1 : ((out.length : Int) == 1200) = true := beq_iff_eq.mpr c12
        simp only [Option.some.injEq, Prod.mk.injEq] at H
        obtain ⟨rfl, rfl⟩ := H
        go_wp2_with (first | (at_lookup; refine wpList_lookup_own_ok_int _ rfl _ _ 46 rfl 47 3 .i64 dcKeyed Try.underlying46 Try.underlying3 (by kernel_rfl) b l1.length _ rfl (dcOwn hown (qW HB.out)) _ _ rfl (dcKeyOf (wrap64_wf _) (wrap64_wf _)) ?_; intro cv hat hwcv; rw [hm.2]; obtain rfl : v = cv := (by have h_ := hm.1.symm.trans hat; simpa using h_)))
        go_ret2
        exact ⟨_, rfl, Kd.R_nil _ _ _ _ _, below_then (below_then hb5 hb5.size hbl) (Nat.le_trans hb5.size hbl.size) (qW HB.out)⟩
       rw [if_neg c12] at H
       have g1 : ((out.length : Int) == 1200) = false := beq_eq_false_iff_ne.mpr c12
       by_cases c13 : out.length < 17592186044416
       case neg => rw [if_neg c13] at H; cases H
       rw [if_pos c13] at H
       have H' := aM H
       clear H
       go_wp2_with (first | (at_lookup; refine wpList_lookup_own_ok_int _ rfl _ _ 46 rfl 47 3 .i64 dcKeyed Try.underlying46 Try.underlying3 (by kernel_rfl) b l1.length _ rfl (dcOwn hown (qW HB.out)) _ _ rfl (dcKeyOf (wrap64_wf _) (wrap64_wf _)) ?_; intro cv hat hwcv; rw [hm.2]; obtain rfl : v = cv := (by have h_ := hm.1.symm.trans hat; simpa using h_)) | ((with_reducible refine gate_builtin (b := .append) (xs := #[.tmp 86, .tmp 88]) rfl ?_); at_builtin; refine Kd.R_append (Kd.int .i64) (w0 := W6) W6.heap.size rfl (.tmp 86) (.tmp 88) 22 3 (.int .i64 0) 8 rfl Try.underlying22 info3 rfl (by decide) (by omega) (.slice Ao out.length co) out v [.int .i64 v] (fun _ => True) (fun _ => False) rfl rfl ?aP (fun _ hk => hk.elim) ?aF ?aO ?aB ?aS ?aL ?_; (case aP => exact rfl); (case aB => exact (qW HB.out)); (case aF => exact (fun k_ hk => trivial)); (case aO => exact (qR HO.out)); (case aS => exact (below_size (qW HB.out))); (case aL => omega); intro v89 w89 ho89 hb89 hg89 hat89))
       go_roundg k1
       case measure => have := HK.out; omega
       case rel => exact ⟨out ++ [v], 0, 0, wrap64 (i + 1), rfl, rfl, rfl, H', ⟨by have := HK.out; omega⟩, ⟨ho89⟩, ⟨hb89⟩⟩
     by_cases b49 : bt a0 i = 49
     rotate_left
     ·rw [if_neg (fun h => h.1.elim b48 b49)] at H
      simp only [Option.some.injEq, Prod.mk.injEq] at H
      obtain ⟨rfl, rfl⟩ := H
      have hx := bt_at a0 i
      have g2 : (bt a0 i == 48) = false := beq_eq_false_iff_ne.mpr b48
      have g3 : (bt a0 i == 49) = false := beq_eq_false_iff_ne.mpr b49
      have g4 : (bt a0 i != 48) = true := bne_iff_ne.mpr b48
      have g5 : (bt a0 i != 49) = true := bne_iff_ne.mpr b49
      go_wp2
      go_ret2
      exact ⟨_, rfl, Kd.R_nil _ _ _ _ _, below_then (below_then hb5 hb5.size hbl) (Nat.le_trans hb5.size hbl.size) HB.out⟩
     have hx := fun h => (bt_at a0 i h).trans b49
     rw [if_pos ⟨Or.inr b49, c16⟩, b49, show wrap64 (2 * code) + ((49 : Int) - 48) = wrap64 (2 * code) + 1 by omega] at H
     have hm := dcMap_at l1 t1 hwl hwc (wrap64 (len + 1)) (wrap64 (wrap64 (2 * code) + 1)) (wrap64_wf _) (wrap64_wf _) l1.length
     cases hL : dcLook l1 t1 (wrap64 (len + 1)) (wrap64 (wrap64 (2 * code) + 1)) l1.length with
     | none =>
      rw [hL] at H hm
      replace H : dcGo l1 t1 a0 k1 out (wrap64 (len + 1)) (wrap64 (wrap64 (2 * code) + 1)) (wrap64 (i + 1)) = some (r1, r2) := H
      have H' := aM H
      clear H
      simp only [Option.isSome_none, Option.getD_none] at hm
      go_wp2_with (first | (at_lookup; refine wpList_lookup_own_ok_int _ rfl _ _ 46 rfl 47 3 .i64 dcKeyed Try.underlying46 Try.underlying3 (by kernel_rfl) b l1.length _ rfl (dcOwn hown (qW HB.out)) _ _ rfl (dcKeyOf (wrap64_wf _) (wrap64_wf _)) ?_; intro cv hat hwcv; rw [hm.2]))
      go_roundg k1
      case measure => have := HK.out; omega
      case rel => exact ⟨out, wrap64 (len + 1), wrap64 (wrap64 (2 * code) + 1), wrap64 (i + 1), rfl, rfl, rfl, H', ⟨by have := HK.out; omega⟩, ⟨by refine qR ?_; exact HO.out⟩, ⟨by exact qW HB.out⟩⟩
     | some v =>
      rw [hL] at H hm
      replace H : (if (out.length : Int) = 1200 then some (([] : List Int), false) else (if out.length < 17592186044416 then dcGo l1 t1 a0 k1 (out ++ [v]) 0 0 (wrap64 (i + 1)) else none)) = some (r1, r2) := H
      simp only [Option.isSome_some, Option.getD_some] at hm
      obtain ⟨Ao, co, rfl⟩ := sL HO
      by_cases c12 : (out.length : Int) = 1200
      ·rw [if_pos c12] at H
       have g1 : ((out.length : Int) == 1200) = true := beq_iff_eq.mpr c12
       simp only [Option.some.injEq, Prod.mk.injEq] at H
       obtain ⟨rfl, rfl⟩ := H
       go_wp2_with (first | (at_lookup; refine wpList_lookup_own_ok_int _ rfl _ _ 46 rfl 47 3 .i64 dcKeyed Try.underlying46 Try.underlying3 (by kernel_rfl) b l1.length _ rfl (dcOwn hown (qW HB.out)) _ _ rfl (dcKeyOf (wrap64_wf _) (wrap64_wf _)) ?_; intro cv hat hwcv; rw [hm.2]; obtain rfl : v = cv := (by have h_ := hm.1.symm.trans hat; simpa using h_)))
       go_ret2
       exact ⟨_, rfl, Kd.R_nil _ _ _ _ _, below_then (below_then hb5 hb5.size hbl) (Nat.le_trans hb5.size hbl.size) (qW HB.out)⟩
      rw [if_neg c12] at H
      have g1 : ((out.length : Int) == 1200) = false := beq_eq_false_iff_ne.mpr c12
      by_cases c13 : out.length < 17592186044416
      case neg => rw [if_neg c13] at H; cases H
      rw [if_pos c13] at H
      have H' := aM H
      clear H
      go_wp2_with (first | (at_lookup; refine wpList_lookup_own_ok_int _ rfl _ _ 46 rfl 47 3 .i64 dcKeyed Try.underlying46 Try.underlying3 (by kernel_rfl) b l1.length _ rfl (dcOwn hown (qW HB.out)) _ _ rfl (dcKeyOf (wrap64_wf _) (wrap64_wf _)) ?_; intro cv hat hwcv; rw [hm.2]; obtain rfl : v = cv := (by have h_ := hm.1.symm.trans hat; simpa using h_)) | ((with_reducible refine gate_builtin (b := .append) (xs := #[.tmp 86, .tmp 88]) rfl ?_); at_builtin; refine Kd.R_append (Kd.int .i64) (w0 := W6) W6.heap.size rfl (.tmp 86) (.tmp 88) 22 3 (.int .i64 0) 8 rfl Try.underlying22 info3 rfl (by decide) (by omega) (.slice Ao out.length co) out v [.int .i64 v] (fun _ => True) (fun _ => False) rfl rfl ?aP (fun _ hk => hk.elim) ?aF ?aO ?aB ?aS ?aL ?_; (case aP => exact rfl); (case aB => exact (qW HB.out)); (case aF => exact (fun k_ hk => trivial)); (case aO => exact (qR HO.out)); (case aS => exact (below_size (qW HB.out))); (case aL => omega); intro v89 w89 ho89 hb89 hg89 hat89))
      go_roundg k1
      case measure => have := HK.out; omega
      case rel => exact ⟨out ++ [v], 0, 0, wrap64 (i + 1), rfl, rfl, rfl, H', ⟨by have := HK.out; omega⟩, ⟨ho89⟩, ⟨hb89⟩⟩
def spec_DecodeSymbols.l0 : Nat → ByteArray → List Int → List Int → List Int → Int → Option (List Int × Bool)
 | 0, _, _, _, _, _ => none
 | k + 1, x0, x1, x6, x7, x8 => if x8 < (x0.size : Int) then ((spec_symbolAt.f k x0 x8 x1 x7).bind fun bt386 => (if bt386.1 < 0 then (some (([] : List Int), false)) else (if (x6.length : Int) = 1200 then (some (([] : List Int), false)) else (if x6.length < 17592186044416 then (spec_DecodeSymbols.l0 k x0 x1 (x6 ++ [bt386.1]) x7 bt386.2) else (none))))) else (some (x6, true))
def spec_DecodeSymbols.f (k : Nat) (a0 : ByteArray) (l1 : List Int) : Option (List Int × Bool) := (spec_validLengths.f k l1).bind fun t382 => (if t382 = true then ((spec_canonicalCodes.f k l1).bind fun t383 => (spec_DecodeSymbols.l0 k a0 l1 (([] : List Int)) t383 0)) else (some (([] : List Int), false)))
theorem spec_DecodeSymbols.mono_l : ∀ k, (∀ y0 y1 y2 y3 y4, LeO (spec_DecodeSymbols.l0 k y0 y1 y2 y3 y4) (spec_DecodeSymbols.l0 (k + 1) y0 y1 y2 y3 y4))
 | 0 => fun _ _ _ _ _ r h => by simp [spec_DecodeSymbols.l0] at h
 | k + 1 => by
  have ih0 := spec_DecodeSymbols.mono_l k
  ·intro y0 y1 y2 y3 y4
   unfold spec_DecodeSymbols.l0
   repeat' first | (with_reducible first | exact ih0 _ _ _ _ _ | exact spec_canonicalCodes.mono _ _ | exact spec_symbolAt.mono _ _ _ _ _ | exact spec_validLengths.mono _ _ | exact lR | exact lN | refine lI ?_ ?_ | refine lB ?_ fun _ => ?_) | exact ih0 _ _ _ _ _ | exact spec_canonicalCodes.mono _ _ | exact spec_symbolAt.mono _ _ _ _ _ | exact spec_validLengths.mono _ _ | exact lN | refine lI ?_ ?_ | refine lB ?_ fun _ => ?_
theorem spec_DecodeSymbols.mono : ∀ a0 a1 k, LeO (spec_DecodeSymbols.f k a0 a1) (spec_DecodeSymbols.f (k + 1) a0 a1) := by
 intro a0 a1 k
 have ih0 := spec_DecodeSymbols.mono_l k
 unfold spec_DecodeSymbols.f
 repeat' first | (with_reducible first | exact ih0 _ _ _ _ _ | exact spec_canonicalCodes.mono _ _ | exact spec_symbolAt.mono _ _ _ _ _ | exact spec_validLengths.mono _ _ | exact lR | exact lN | refine lI ?_ ?_ | refine lB ?_ fun _ => ?_) | exact ih0 _ _ _ _ _ | exact spec_canonicalCodes.mono _ _ | exact spec_symbolAt.mono _ _ _ _ _ | exact spec_validLengths.mono _ _ | exact lN | refine lI ?_ ?_ | refine lB ?_ fun _ => ?_
set_option maxHeartbeats 8000000 in
set_option maxRecDepth 100000 in
theorem spec_DecodeSymbols.calls (k : Nat) (a0 : ByteArray) (A1 : Option Addr) (c1 : Nat) (l1 : List Int) (r1 : List Int) (r2 : Bool) (w : World) (hr1 : Kd.C (Kd.int .i64) w A1 l1.length l1) (hc1 : l1.length ≤ c1) (h : spec_DecodeSymbols.f k a0 l1 = some (r1, r2)) :
  Calls Try.prog 20 #[.string a0, .slice A1 l1.length c1] w fun e w' => ∃ v0_ : Value, e = .returned (.tuple #[v0_, .bool r2]) ∧ Kd.R (Kd.int .i64) 3 w' w.heap.size (fun _ => True) v0_ r1 ∧ Below w.heap.size w w' := by
 have HR1 := aM hr1
 have HC1 := aM hc1
 clear hr1 hc1
 have HB := aM (Below.refl w.heap.size w)
 unfold spec_DecodeSymbols.f at h
 have H := h
 clear h
 obtain ⟨y379, hy379⟩ : ∃ y_ : List Int, y_ = (([] : List Int)) := ⟨_, rfl⟩
 replace H : ((spec_validLengths.f k l1).bind fun t382 => (if t382 = true then ((spec_canonicalCodes.f k l1).bind fun t383 => (spec_DecodeSymbols.l0 k a0 l1 y379 t383 0)) else (some (([] : List Int), false)))) = some (r1, r2) := rY hy379 H
 have Ny379 := aM hy379
 clear hy379
 replace H := Option.bind_eq_some_iff.mp H
 obtain ⟨t382, A30, H⟩ := H
 replace H : (if t382 = true then ((spec_canonicalCodes.f k l1).bind fun t383 => (spec_DecodeSymbols.l0 k a0 l1 y379 t383 0)) else (some (([] : List Int), false))) = some (r1, r2) := H
 have A3 := aM A30
 clear A30
 by_cases c4 : t382 = true
 rotate_left
 ·replace c4 := Bool.eq_false_iff.mpr c4
  subst c4
  have H1 : (some (([] : List Int), false)) = some (r1, r2) := by rw [if_neg (show ¬ (false = true) by decide)] at H; exact H
  clear H
  have H := H1
  clear H1
  simp only [Option.some.injEq, Prod.mk.injEq] at H
  obtain ⟨rfl, rfl⟩ := H
  go_enter Try.func20, Try.ntmps20
  go_wp2_with (first | ((with_reducible refine gate_dst (N := 11) rfl ?_); (try (refine gate_guard (by rfl) ?_; dsimp only)); refine iL ([] : List Int) [] ?_; intro v380 w23 ho24 hb hg_ hnew_; clear hg_ hnew_; (first | rw [← Ny379.out] at ho24 | (simp only [Int.reduceToNat] at ho24; rw [← Ny379.out] at ho24)); have HO381 := oR ho24 HB; replace HB := bS HB hb; clear hb ho24) | ((with_reducible refine gate_callee (f := 30) rfl ?_); refine gL (some 13) Try.func30 #[.slice A1 l1.length c1] ?_; (with_reducible refine (spec_validLengths.calls k _ _ l1 false _ ?side1 ?side2 A3.out).mono ?_); (case side1 => exact qC (Kd.C_below HR1.out HB.out)); (case side2 => exact HC1.out); rintro e w' ⟨rfl, ⟨nd, rfl⟩⟩; refine ⟨_, rfl, ?_⟩))
  go_ret2
  exact ⟨_, qX, qN, by exact qW HB.out⟩
 subst c4
 have H1 : ((spec_canonicalCodes.f k l1).bind fun t383 => (spec_DecodeSymbols.l0 k a0 l1 y379 t383 0)) = some (r1, r2) := by rw [if_pos rfl] at H; exact H
 clear H
 have H := H1
 clear H1
 replace H := Option.bind_eq_some_iff.mp H
 obtain ⟨t383, A50, H⟩ := H
 replace H : (spec_DecodeSymbols.l0 k a0 l1 y379 t383 0) = some (r1, r2) := H
 have A5 := aM A50
 clear A50
 have H' := aM H
 clear H
 go_enter Try.func20, Try.ntmps20
 go_wp2_with (first | ((with_reducible refine gate_dst (N := 11) rfl ?_); (try (refine gate_guard (by rfl) ?_; dsimp only)); refine iL ([] : List Int) [] ?_; intro v380 w6 ho7 hb hg_ hnew_; clear hg_ hnew_; (first | rw [← Ny379.out] at ho7 | (simp only [Int.reduceToNat] at ho7; rw [← Ny379.out] at ho7)); have HO381 := oR ho7 HB; replace HB := bS HB hb; clear hb ho7) | ((with_reducible refine gate_callee (f := 30) rfl ?_); refine gL (some 13) Try.func30 #[.slice A1 l1.length c1] ?_; (with_reducible refine (spec_validLengths.calls k _ _ l1 true _ ?side1 ?side2 A3.out).mono ?_); (case side1 => exact qC (Kd.C_below HR1.out HB.out)); (case side2 => exact HC1.out); rintro e w' ⟨rfl, ⟨nd, rfl⟩⟩; refine ⟨_, rfl, ?_⟩) | ((with_reducible refine gate_callee (f := 38) rfl ?_); refine gL (some 16) Try.func38 #[.slice A1 l1.length c1] ?_; (with_reducible refine (spec_canonicalCodes.calls k _ _ l1 t383 _ ?side1 ?side2 A5.out).mono ?_); (case side1 => exact qC (Kd.C_below HR1.out (qW HB.out))); (case side2 => exact HC1.out); rintro e w8 ⟨v384, rfl, ho0, hb⟩; refine ⟨_, rfl, ?_⟩; have HO385 := nR ho0 HO381 HB; replace HO381 := aM (Kd.R_elder' (qR HO381.out) (Kd.R_base ho0) hb); replace HB := bS HB hb; clear hb ho0))
 go_loopg [6, 8] k (fun kq v6 v8 w' => ∃ (x6_1 : List Int) (x8_1 : Int), v8 = .int .i64 x8_1 ∧ Aside0 (spec_DecodeSymbols.l0 kq a0 l1 x6_1 t383 x8_1 = some (r1, r2)) ∧ Aside0 (kq ≤ k) ∧ Aside0 (Kd.R (Kd.int .i64) 3 w' w.heap.size (fun k_ => some k_ ≠ (v384 : Value).ownBlock) v6 x6_1) ∧ Aside0 (Kd.R (Kd.int .i64) 3 w' w.heap.size (fun k_ => some k_ ≠ (v6 : Value).ownBlock) v384 t383) ∧ Aside0 (Below w.heap.size w w'))
 case atStart => exact ⟨(y379), (0), qE, H', ⟨Nat.le_refl _⟩, ⟨by refine qR ?_; exact Kd.R_mono HO381.out (fun _ hk => hk.2)⟩, ⟨by refine qR ?_; exact Kd.R_mono HO385.out (fun _ hk => hk.2)⟩, ⟨by exact qW HB.out⟩⟩
 case round =>
  clear H'
  try clear c1
  try clear c4
  obtain ⟨x6_1, x8_1, rfl, HA, HK1, HO_6, HO_7, HB⟩ := hrel
  cases gk with
  | zero => exact absurd HA.out (by simp [spec_DecodeSymbols.l0])
  | succ k1 =>
   have H := HA.out
   clear HA
   simp only [spec_DecodeSymbols.l0] at H
   by_cases c9 : x8_1 < (a0.size : Int)
   rotate_left
   ·rw [if_neg c9] at H
    have c9b0 : decide (x8_1 < (a0.size : Int)) = false := decide_eq_false c9
    clear c9
    simp only [Option.some.injEq, Prod.mk.injEq] at H
    obtain ⟨rfl, rfl⟩ := H
    go_wp2
    go_ret2
    exact ⟨_, qX, by refine qR ?_; exact Kd.R_mono HO_6.out (fun _ hk => trivial), by exact qW HB.out⟩
   rw [if_pos c9] at H
   have c9b0 : decide (x8_1 < (a0.size : Int)) = true := decide_eq_true c9
   clear c9
   replace H := Option.bind_eq_some_iff.mp H
   obtain ⟨⟨t386, t387⟩, A100, H⟩ := H
   replace H : (if t386 < 0 then (some (([] : List Int), false)) else (if (x6_1.length : Int) = 1200 then (some (([] : List Int), false)) else (if x6_1.length < 17592186044416 then (spec_DecodeSymbols.l0 k1 a0 l1 (x6_1 ++ [t386]) t383 t387) else (none)))) = some (r1, r2) := H
   have A10 := aM A100
   clear A100
   by_cases c11 : t386 < 0
   ·rw [if_pos c11] at H
    have c11b0 : decide (t386 < 0) = true := decide_eq_true c11
    clear c11
    simp only [Option.some.injEq, Prod.mk.injEq] at H
    obtain ⟨rfl, rfl⟩ := H
    obtain ⟨Ao12, co12, rfl⟩ := sL HO_7
    go_wp2_with (first | ((with_reducible refine gate_callee (f := 39) rfl ?_); refine gL (some 26) Try.func39 #[.string a0, .int .i64 x8_1, .slice A1 l1.length c1, .slice Ao12 t383.length co12] ?_; (with_reducible refine (spec_symbolAt.calls k1 a0 x8_1 _ _ l1 _ _ t383 t386 t387 _ ?side1 ?side2 ?side3 ?side4 A10.out).mono ?_); (case side1 => exact qC (Kd.C_below HR1.out HB.out)); (case side2 => exact HC1.out); (case side3 => exact qC (Kd.R_reads' HO_7.out).2.2); (case side4 => exact (Kd.R_reads' HO_7.out).2.1); rintro e w13 ⟨rfl, hb⟩; refine ⟨_, rfl, ?_⟩; replace HO_6 := aM (Kd.R_below (qR HO_6.out) hb); replace HO_7 := aM (Kd.R_below (qR HO_7.out) hb); replace HB := bS HB hb; clear hb))
    go_ret2
    exact ⟨_, qX, qN, by exact qW HB.out⟩
   rw [if_neg c11] at H
   have c11b0 : decide (t386 < 0) = false := decide_eq_false c11
   clear c11
   by_cases c14 : (x6_1.length : Int) = 1200
   ·rw [if_pos c14] at H
    have c14b0 : ((x6_1.length : Int) == 1200) = true := beq_iff_eq.mpr c14
    have c14b1 : ((x6_1.length : Int) != 1200) = false := bne_eq_false_iff_eq.mpr c14
    clear c14
    simp only [Option.some.injEq, Prod.mk.injEq] at H
    obtain ⟨rfl, rfl⟩ := H
    obtain ⟨Ao15, co15, rfl⟩ := sL HO_7
    go_wp2_with (first | ((with_reducible refine gate_callee (f := 39) rfl ?_); refine gL (some 26) Try.func39 #[.string a0, .int .i64 x8_1, .slice A1 l1.length c1, .slice Ao15 t383.length co15] ?_; (with_reducible refine (spec_symbolAt.calls k1 a0 x8_1 _ _ l1 _ _ t383 t386 t387 _ ?side1 ?side2 ?side3 ?side4 A10.out).mono ?_); (case side1 => exact qC (Kd.C_below HR1.out HB.out)); (case side2 => exact HC1.out); (case side3 => exact qC (Kd.R_reads' HO_7.out).2.2); (case side4 => exact (Kd.R_reads' HO_7.out).2.1); rintro e w16 ⟨rfl, hb⟩; refine ⟨_, rfl, ?_⟩; replace HO_6 := aM (Kd.R_below (qR HO_6.out) hb); replace HO_7 := aM (Kd.R_below (qR HO_7.out) hb); replace HB := bS HB hb; clear hb; obtain ⟨Ao17, co17, rfl⟩ := sL HO_6))
    go_ret2
    exact ⟨_, qX, qN, by exact qW HB.out⟩
   rw [if_neg c14] at H
   have c14b0 : ((x6_1.length : Int) == 1200) = false := beq_eq_false_iff_ne.mpr c14
   have c14b1 : ((x6_1.length : Int) != 1200) = true := bne_iff_ne.mpr c14
   replace H := iS H
   obtain ⟨c18, H⟩ := H
   have LMc18 := aM c18
   clear c18
   obtain ⟨y388, hy388⟩ : ∃ y_ : List Int, y_ = (x6_1 ++ [t386]) := ⟨_, rfl⟩
   replace H : (spec_DecodeSymbols.l0 k1 a0 l1 y388 t383 t387) = some (r1, r2) := rY hy388 H
   have Ny388 := aM hy388
   clear hy388
   have H' := aM H
   clear H
   obtain ⟨Ao19, co19, rfl⟩ := sL HO_7
   go_wp2_with (first | ((with_reducible refine gate_callee (f := 39) rfl ?_); refine gL (some 26) Try.func39 #[.string a0, .int .i64 x8_1, .slice A1 l1.length c1, .slice Ao19 t383.length co19] ?_; (with_reducible refine (spec_symbolAt.calls k1 a0 x8_1 _ _ l1 _ _ t383 t386 t387 _ ?side1 ?side2 ?side3 ?side4 A10.out).mono ?_); (case side1 => exact qC (Kd.C_below HR1.out HB.out)); (case side2 => exact HC1.out); (case side3 => exact qC (Kd.R_reads' HO_7.out).2.2); (case side4 => exact (Kd.R_reads' HO_7.out).2.1); rintro e w20 ⟨rfl, hb⟩; refine ⟨_, rfl, ?_⟩; replace HO_6 := aM (Kd.R_below (qR HO_6.out) hb); replace HO_7 := aM (Kd.R_below (qR HO_7.out) hb); replace HB := bS HB hb; clear hb; obtain ⟨Ao21, co21, rfl⟩ := sL HO_6) | ((with_reducible refine gate_builtin (b := .append) (xs := #[.tmp 36, .tmp 38]) rfl ?_); (try (refine gate_guard (by rfl) ?_; dsimp only)); at_builtin; refine Kd.R_append (Kd.int .i64) (w0 := w) w.heap.size rfl (.tmp 36) (.tmp 38) 22 3 (.int .i64 0) 8 rfl Try.underlying22 info3 rfl (by decide) (by omega) (.slice Ao21 x6_1.length co21) x6_1 t386 [.int .i64 t386] (fun k_ => some k_ ≠ (.slice Ao19 t383.length co19 : Value).ownBlock) (fun _ => False) rfl rfl ?aP (fun _ hk => hk.elim) ?aF ?aO ?aB ?aS ?aL ?_; (case aP => exact rfl); (case aB => exact (qW HB.out)); (case aF => exact (fun k_ hk => Kd.fresh' (Kd.R_lt (qR HO_7.out)) k_ hk)); (case aO => exact (qR HO_6.out)); (case aS => exact (below_size (qW HB.out))); (case aL => have := LMc18.out; omega); intro v389 w22 ho hb hg hat; rw [← Ny388.out] at ho; replace HO_7 := aM (Kd.R_after (ok := (fun _ => True)) (by refine qR ?_; exact Kd.R_mono HO_7.out (fun _ hk => ⟨trivial, hk⟩)) hg hat); replace HB := aM (hb); have HO390 := aM (ho); clear HO_6; clear ho hb hg hat))
   go_roundg k1
   case measure => have := HK1.out; omega
   case rel => exact ⟨(y388), (t387), qE, H', ⟨by have := HK1.out; omega⟩, ⟨by refine qR ?_; exact HO390.out⟩, ⟨by refine qR ?_; exact Kd.R_mono HO_7.out (fun _ hk => hk.2)⟩, ⟨by exact qW HB.out⟩⟩
def spec_reader_of.f (k : Nat) (s0_0 : List Int) (s0_1 : Int) (l1 : List ByteArray) : Option (ByteArray × Int) := (spec_reader_pick.f k s0_0 s0_1 (l1.length : Int)).bind fun bt427 => (if 0 ≤ bt427.1 then (if bt427.1 < (l1.length : Int) then (some (rdOf ByteArray.empty l1 bt427.1, bt427.2)) else (none)) else (none))
theorem spec_reader_of.mono : ∀ a0 a1 a2 k, LeO (spec_reader_of.f k a0 a1 a2) (spec_reader_of.f (k + 1) a0 a1 a2) := by
 intro a0 a1 a2 k
 unfold spec_reader_of.f
 repeat' first | (with_reducible first | exact spec_reader_pick.mono _ _ _ _ | exact lR | exact lN | refine lI ?_ ?_ | refine lB ?_ fun _ => ?_) | exact spec_reader_pick.mono _ _ _ _ | exact lN | refine lI ?_ ?_ | refine lB ?_ fun _ => ?_
set_option maxHeartbeats 8000000 in
set_option maxRecDepth 100000 in
theorem spec_reader_of.calls (k : Nat) (g : Nat) (s0_0 : List Int) (s0_1 : Int) (A1 : Option Addr) (c1 : Nat) (l1 : List ByteArray) (r1 : ByteArray) (r2 : Int) (w0 w : World) (hI : IsS60 w0 w g s0_0 s0_1) (hB : Below w0.heap.size w0 w) (hr1 : Kd.C Kd.string w A1 l1.length l1) (hc1 : l1.length ≤ c1) (hf1 : ∀ ad, A1 = some ad → 0 < l1.length → ad.block ≠ g) (h : spec_reader_of.f k s0_0 s0_1 l1 = some (r1, r2)) :
  Calls Try.prog 53 #[.pointer (some ⟨g, 0, none⟩), .slice A1 l1.length c1] w fun e w' => e = .returned (.string r1) ∧ IsS60 w0 w' g s0_0 r2 ∧ Below w0.heap.size w0 w' ∧ KeepBut w w' g none := by
 have HR1 := aM hr1
 have HC1 := aM hc1
 clear hr1 hc1
 have HI0 := aM hI
 have HK := aM (KeepBut.refl w g none)
 have HL := aM hB.size
 clear hI
 have HW0 := aM hB.size
 have HB := aM hB
 clear hB
 unfold spec_reader_of.f at h
 have H := h
 clear h
 replace H := Option.bind_eq_some_iff.mp H
 obtain ⟨⟨t427, t428⟩, A30, H⟩ := H
 replace H : (if 0 ≤ t427 then (if t427 < (l1.length : Int) then (some (rdOf ByteArray.empty l1 t427, t428)) else (none)) else (none)) = some (r1, r2) := H
 have A3 := aM A30
 clear A30
 replace H := iD H
 obtain ⟨c4b0, H⟩ := H
 replace H := iD H
 obtain ⟨c5b0, H⟩ := H
 simp only [Option.some.injEq, Prod.mk.injEq] at H
 obtain ⟨rfl, rfl⟩ := H
 go_enter Try.func53, Try.ntmps53
 go_wp2_with (first | ((with_reducible refine gate_callee (f := 36) rfl ?_); refine gL (some 9) Try.func36 #[.pointer (some ⟨g, 0, none⟩), .int .i64 (l1.length : Int)] ?_; (with_reducible refine (spec_reader_pick.calls k g s0_0 s0_1 (l1.length : Int) t427 t428 w0 _ ?side1 ?side2 A3.out).mono ?_); (case side1 => exact iS60 HI0.out); (case side2 => exact wS60 HB.out); rintro e w6 ⟨rfl, hi, hb, hk⟩; refine ⟨_, rfl, ?_⟩; replace HK := aM (KeepBut.trans (kB HK.out) hk (.inl rfl)); replace HB := aM (hb); replace HI0 := aM (hi); clear hb hk hi; have p429 : 0 ≤ (t427 : Int) := oD; have q429 : t427 < (l1.length : Int) := oD; obtain ⟨ad429, e429, hx429_0⟩ := Kd.at_string HR1.out t427 p429 q429; cases e429; replace hx429_0 := keep_cell HK.out hx429_0 (by first | (rw [add_block]; exact hf1 _ rfl (by omega)) | exact hf1 _ rfl (by omega) | exact hf1 ad429 rfl (by omega)); replace p429 := eq_true p429; replace q429 := eq_true q429))
 go_ret
 exact ⟨qX, iS60 HI0.out, wS60 HB.out, kB HK.out⟩
def spec_mutate.f (k : Nat) (s0_0 : List Int) (s0_1 : Int) (a1 : ByteArray) : Option (ByteArray × Int) := (spec_reader_pick.f k s0_0 s0_1 (wrap64 ((a1.size : Int) + 1))).bind fun bt430 => ((spec_reader_pick.f k s0_0 bt430.2 5).bind fun bt432 => (if bt432.1 = 0 then (if bt430.1 < (a1.size : Int) then (if 0 ≤ bt430.1 then (if bt430.1 ≤ (a1.size : Int) then ((spec_reader_of.f k s0_0 bt432.2 (([(⟨#[48]⟩ : ByteArray), (⟨#[49]⟩ : ByteArray), (⟨#[32]⟩ : ByteArray), (⟨#[47]⟩ : ByteArray), (⟨#[102]⟩ : ByteArray), (⟨#[97]⟩ : ByteArray), (⟨#[120]⟩ : ByteArray), (⟨#[57]⟩ : ByteArray)] : List ByteArray))).bind fun bt437 => (if (a1.extract 0 (bt430.1 : Int).toNat).size + bt437.1.size ≤ 9223372036854775807 then (if 0 ≤ (wrap64 (bt430.1 + 1)) then (if (wrap64 (bt430.1 + 1)) ≤ (a1.size : Int) then (if ((a1.extract 0 (bt430.1 : Int).toNat) ++ bt437.1).size + (a1.extract ((wrap64 (bt430.1 + 1)) : Int).toNat a1.size).size ≤ 9223372036854775807 then (some (((a1.extract 0 (bt430.1 : Int).toNat) ++ bt437.1) ++ (a1.extract ((wrap64 (bt430.1 + 1)) : Int).toNat a1.size), bt437.2)) else (none)) else (none)) else (none)) else (none))) else (none)) else (none)) else (some (a1, bt432.2))) else (if bt432.1 = 1 then (if 0 ≤ bt430.1 then (if bt430.1 ≤ (a1.size : Int) then (some (a1.extract 0 (bt430.1 : Int).toNat, bt432.2)) else (none)) else (none)) else (if bt432.1 = 2 then ((spec_reader_of.f k s0_0 bt432.2 (([(⟨#[48]⟩ : ByteArray), (⟨#[32]⟩ : ByteArray), (⟨#[47]⟩ : ByteArray), (⟨#[32, 49]⟩ : ByteArray), (⟨#[120]⟩ : ByteArray), (⟨#[48, 48]⟩ : ByteArray)] : List ByteArray))).bind fun bt442 => (if a1.size + bt442.1.size ≤ 9223372036854775807 then (some (a1 ++ bt442.1, bt442.2)) else (none))) else (some (a1, bt432.2))))))
theorem spec_mutate.mono : ∀ a0 a1 a2 k, LeO (spec_mutate.f k a0 a1 a2) (spec_mutate.f (k + 1) a0 a1 a2) := by
 intro a0 a1 a2 k
 unfold spec_mutate.f
 repeat' first | (with_reducible first | exact spec_reader_of.mono _ _ _ _ | exact spec_reader_pick.mono _ _ _ _ | exact lR | exact lN | refine lI ?_ ?_ | refine lB ?_ fun _ => ?_) | exact spec_reader_of.mono _ _ _ _ | exact spec_reader_pick.mono _ _ _ _ | exact lN | refine lI ?_ ?_ | refine lB ?_ fun _ => ?_
def spec_mutate.T5 : Bool × List (List Nat × List Nat) := (true, [([], []), ([], []), ([0, 1], [0, 1]), ([], []), ([], []), ([3, 4], [3, 4]), ([2, 5], [2, 5]), ([], []), ([], []), ([8], [8]), ([7, 9], [7, 9]), ([6, 10], [6, 10]), ([11, 5, 0, 1, 2, 3, 4, 5, 6, 7, 8, 9, 10, 11], [11])])
def spec_mutate.B5 : List Nat := [0, 0, 3, 0, 0, 24, 63, 0, 0, 256, 896, 2047, 4095]
theorem spec_mutate.tab5 : rtab .any (opsOf Try.f40 5) = spec_mutate.T5 := by kernel_rfl
theorem spec_mutate.bits5 : waitsOk spec_mutate.T5.2 spec_mutate.B5 = true := by kernel_rfl
set_option maxHeartbeats 8000000 in
set_option maxRecDepth 100000 in
theorem spec_mutate.calls (k : Nat) (g : Nat) (s0_0 : List Int) (s0_1 : Int) (a1 : ByteArray) (r1 : ByteArray) (r2 : Int) (w0 w : World) (hI : IsS60 w0 w g s0_0 s0_1) (hB : Below w0.heap.size w0 w) (h : spec_mutate.f k s0_0 s0_1 a1 = some (r1, r2)) :
  Calls Try.prog 40 #[.pointer (some ⟨g, 0, none⟩), .string a1] w fun e w' => e = .returned (.string r1) ∧ IsS60 w0 w' g s0_0 r2 ∧ Below w0.heap.size w0 w' ∧ KeepBut w w' g none := by
 have HI0 := aM hI
 have HK := aM (KeepBut.refl w g none)
 have HL := aM hB.size
 clear hI
 have HW0 := aM hB.size
 have HB := aM hB
 clear hB
 unfold spec_mutate.f at h
 have H := h
 clear h
 replace H := Option.bind_eq_some_iff.mp H
 obtain ⟨⟨t430, t431⟩, A30, H⟩ := H
 replace H : ((spec_reader_pick.f k s0_0 t431 5).bind fun bt432 => (if bt432.1 = 0 then (if t430 < (a1.size : Int) then (if 0 ≤ t430 then (if t430 ≤ (a1.size : Int) then ((spec_reader_of.f k s0_0 bt432.2 (([(⟨#[48]⟩ : ByteArray), (⟨#[49]⟩ : ByteArray), (⟨#[32]⟩ : ByteArray), (⟨#[47]⟩ : ByteArray), (⟨#[102]⟩ : ByteArray), (⟨#[97]⟩ : ByteArray), (⟨#[120]⟩ : ByteArray), (⟨#[57]⟩ : ByteArray)] : List ByteArray))).bind fun bt437 => (if (a1.extract 0 (t430 : Int).toNat).size + bt437.1.size ≤ 9223372036854775807 then (if 0 ≤ (wrap64 (t430 + 1)) then (if (wrap64 (t430 + 1)) ≤ (a1.size : Int) then (if ((a1.extract 0 (t430 : Int).toNat) ++ bt437.1).size + (a1.extract ((wrap64 (t430 + 1)) : Int).toNat a1.size).size ≤ 9223372036854775807 then (some (((a1.extract 0 (t430 : Int).toNat) ++ bt437.1) ++ (a1.extract ((wrap64 (t430 + 1)) : Int).toNat a1.size), bt437.2)) else (none)) else (none)) else (none)) else (none))) else (none)) else (none)) else (some (a1, bt432.2))) else (if bt432.1 = 1 then (if 0 ≤ t430 then (if t430 ≤ (a1.size : Int) then (some (a1.extract 0 (t430 : Int).toNat, bt432.2)) else (none)) else (none)) else (if bt432.1 = 2 then ((spec_reader_of.f k s0_0 bt432.2 (([(⟨#[48]⟩ : ByteArray), (⟨#[32]⟩ : ByteArray), (⟨#[47]⟩ : ByteArray), (⟨#[32, 49]⟩ : ByteArray), (⟨#[120]⟩ : ByteArray), (⟨#[48, 48]⟩ : ByteArray)] : List ByteArray))).bind fun bt442 => (if a1.size + bt442.1.size ≤ 9223372036854775807 then (some (a1 ++ bt442.1, bt442.2)) else (none))) else (some (a1, bt432.2)))))) = some (r1, r2) := H
 have A3 := aM A30
 clear A30
 replace H := Option.bind_eq_some_iff.mp H
 obtain ⟨⟨t432, t433⟩, A40, H⟩ := H
 replace H : (if t432 = 0 then (if t430 < (a1.size : Int) then (if 0 ≤ t430 then (if t430 ≤ (a1.size : Int) then ((spec_reader_of.f k s0_0 t433 (([(⟨#[48]⟩ : ByteArray), (⟨#[49]⟩ : ByteArray), (⟨#[32]⟩ : ByteArray), (⟨#[47]⟩ : ByteArray), (⟨#[102]⟩ : ByteArray), (⟨#[97]⟩ : ByteArray), (⟨#[120]⟩ : ByteArray), (⟨#[57]⟩ : ByteArray)] : List ByteArray))).bind fun bt437 => (if (a1.extract 0 (t430 : Int).toNat).size + bt437.1.size ≤ 9223372036854775807 then (if 0 ≤ (wrap64 (t430 + 1)) then (if (wrap64 (t430 + 1)) ≤ (a1.size : Int) then (if ((a1.extract 0 (t430 : Int).toNat) ++ bt437.1).size + (a1.extract ((wrap64 (t430 + 1)) : Int).toNat a1.size).size ≤ 9223372036854775807 then (some (((a1.extract 0 (t430 : Int).toNat) ++ bt437.1) ++ (a1.extract ((wrap64 (t430 + 1)) : Int).toNat a1.size), bt437.2)) else (none)) else (none)) else (none)) else (none))) else (none)) else (none)) else (some (a1, t433))) else (if t432 = 1 then (if 0 ≤ t430 then (if t430 ≤ (a1.size : Int) then (some (a1.extract 0 (t430 : Int).toNat, t433)) else (none)) else (none)) else (if t432 = 2 then ((spec_reader_of.f k s0_0 t433 (([(⟨#[48]⟩ : ByteArray), (⟨#[32]⟩ : ByteArray), (⟨#[47]⟩ : ByteArray), (⟨#[32, 49]⟩ : ByteArray), (⟨#[120]⟩ : ByteArray), (⟨#[48, 48]⟩ : ByteArray)] : List ByteArray))).bind fun bt442 => (if a1.size + bt442.1.size ≤ 9223372036854775807 then (some (a1 ++ bt442.1, bt442.2)) else (none))) else (some (a1, t433))))) = some (r1, r2) := H
 have A4 := aM A40
 clear A40
 by_cases c5 : t432 = 0
 rotate_left
 ·rw [if_neg c5] at H
  have c5b0 : (t432 == 0) = false := beq_eq_false_iff_ne.mpr c5
  have c5b1 : (t432 != 0) = true := bne_iff_ne.mpr c5
  by_cases c24 : t432 = 1
  ·rw [if_pos c24] at H
   have c24b0 : (t432 == 1) = true := beq_iff_eq.mpr c24
   have c24b1 : (t432 != 1) = false := bne_eq_false_iff_eq.mpr c24
   clear c24
   replace H := iS H
   obtain ⟨c25, H⟩ := H
   have c25b0 := eq_true c25
   have c25b1 : decide (0 ≤ t430) = true := decide_eq_true c25
   clear c25
   replace H := iS H
   obtain ⟨c26, H⟩ := H
   have c26b0 := eq_true c26
   have c26b1 : decide (t430 ≤ (a1.size : Int)) = true := decide_eq_true c26
   clear c26
   simp only [Option.some.injEq, Prod.mk.injEq] at H
   obtain ⟨rfl, rfl⟩ := H
   go_enter Try.func40, Try.ntmps40
   go_wp2_with (first | ((with_reducible refine gate_callee (f := 36) rfl ?_); refine gL (some 10) Try.func36 #[.pointer (some ⟨g, 0, none⟩), .int .i64 (wrap64 ((a1.size : Int) + 1))] ?_; (with_reducible refine (spec_reader_pick.calls k g s0_0 s0_1 (wrap64 ((a1.size : Int) + 1)) t430 t431 w0 _ ?side1 ?side2 A3.out).mono ?_); (case side1 => exact iS60 HI0.out); (case side2 => exact wS60 HB.out); rintro e w27 ⟨rfl, hi, hb, hk⟩; refine ⟨_, rfl, ?_⟩; replace HK := aM (KeepBut.trans (kB HK.out) hk (.inl rfl)); replace HB := aM (hb); replace HI0 := aM (hi); clear hb hk hi) | ((with_reducible refine gate_callee (f := 36) rfl ?_); refine gL (some 12) Try.func36 #[.pointer (some ⟨g, 0, none⟩), .int .i64 5] ?_; (with_reducible refine (spec_reader_pick.calls k g s0_0 t431 5 t432 t433 w0 _ ?side1 ?side2 A4.out).mono ?_); (case side1 => exact iS60 HI0.out); (case side2 => exact wS60 HB.out); rintro e w28 ⟨rfl, hi, hb, hk⟩; refine ⟨_, rfl, ?_⟩; replace HK := aM (KeepBut.trans (kB HK.out) hk (.inl rfl)); replace HB := aM (hb); replace HI0 := aM (hi); clear hb hk hi))
   go_ret
   exact ⟨qX, iS60 HI0.out, wS60 HB.out, kB HK.out⟩
  rw [if_neg c24] at H
  have c24b0 : (t432 == 1) = false := beq_eq_false_iff_ne.mpr c24
  have c24b1 : (t432 != 1) = true := bne_iff_ne.mpr c24
  by_cases c29 : t432 = 2
  rotate_left
  ·rw [if_neg c29] at H
   have c29b0 : (t432 == 2) = false := beq_eq_false_iff_ne.mpr c29
   have c29b1 : (t432 != 2) = true := bne_iff_ne.mpr c29
   simp only [Option.some.injEq, Prod.mk.injEq] at H
   obtain ⟨rfl, rfl⟩ := H
   go_enter Try.func40, Try.ntmps40
   go_wp2_with (first | ((with_reducible refine gate_callee (f := 36) rfl ?_); refine gL (some 10) Try.func36 #[.pointer (some ⟨g, 0, none⟩), .int .i64 (wrap64 ((a1.size : Int) + 1))] ?_; (with_reducible refine (spec_reader_pick.calls k g s0_0 s0_1 (wrap64 ((a1.size : Int) + 1)) t430 t431 w0 _ ?side1 ?side2 A3.out).mono ?_); (case side1 => exact iS60 HI0.out); (case side2 => exact wS60 HB.out); rintro e w38 ⟨rfl, hi, hb, hk⟩; refine ⟨_, rfl, ?_⟩; replace HK := aM (KeepBut.trans (kB HK.out) hk (.inl rfl)); replace HB := aM (hb); replace HI0 := aM (hi); clear hb hk hi) | ((with_reducible refine gate_callee (f := 36) rfl ?_); refine gL (some 12) Try.func36 #[.pointer (some ⟨g, 0, none⟩), .int .i64 5] ?_; (with_reducible refine (spec_reader_pick.calls k g s0_0 t431 5 t432 t433 w0 _ ?side1 ?side2 A4.out).mono ?_); (case side1 => exact iS60 HI0.out); (case side2 => exact wS60 HB.out); rintro e w39 ⟨rfl, hi, hb, hk⟩; refine ⟨_, rfl, ?_⟩; replace HK := aM (KeepBut.trans (kB HK.out) hk (.inl rfl)); replace HB := aM (hb); replace HI0 := aM (hi); clear hb hk hi))
   go_ret
   exact ⟨qX, iS60 HI0.out, wS60 HB.out, kB HK.out⟩
  rw [if_pos c29] at H
  have c29b0 : (t432 == 2) = true := beq_iff_eq.mpr c29
  have c29b1 : (t432 != 2) = false := bne_eq_false_iff_eq.mpr c29
  clear c29
  obtain ⟨y439, hy439⟩ : ∃ y_ : List ByteArray, y_ = (([(⟨#[48]⟩ : ByteArray), (⟨#[32]⟩ : ByteArray), (⟨#[47]⟩ : ByteArray), (⟨#[32, 49]⟩ : ByteArray), (⟨#[120]⟩ : ByteArray), (⟨#[48, 48]⟩ : ByteArray)] : List ByteArray)) := ⟨_, rfl⟩
  replace H : ((spec_reader_of.f k s0_0 t433 y439).bind fun bt442 => (if a1.size + bt442.1.size ≤ 9223372036854775807 then (some (a1 ++ bt442.1, bt442.2)) else (none))) = some (r1, r2) := rY hy439 H
  have Ny439 := aM hy439
  clear hy439
  replace H := Option.bind_eq_some_iff.mp H
  obtain ⟨⟨t442, t443⟩, A300, H⟩ := H
  replace H : (if a1.size + t442.size ≤ 9223372036854775807 then (some (a1 ++ t442, t443)) else (none)) = some (r1, r2) := H
  have A30 := aM A300
  clear A300
  replace H := iS H
  obtain ⟨c31, H⟩ := H
  have c31b0 := eq_true c31
  have c31b1 : decide (a1.size + t442.size ≤ 9223372036854775807) = true := decide_eq_true c31
  try have c31b2 : (9223372036854775807 < a1.size + t442.size) = False := eq_false (Nat.not_lt.2 c31)
  simp only [Option.some.injEq, Prod.mk.injEq] at H
  obtain ⟨rfl, rfl⟩ := H
  go_enter Try.func40, Try.ntmps40
  go_wp2_with (first | ((with_reducible refine gate_callee (f := 36) rfl ?_); refine gL (some 10) Try.func36 #[.pointer (some ⟨g, 0, none⟩), .int .i64 (wrap64 ((a1.size : Int) + 1))] ?_; (with_reducible refine (spec_reader_pick.calls k g s0_0 s0_1 (wrap64 ((a1.size : Int) + 1)) t430 t431 w0 _ ?side1 ?side2 A3.out).mono ?_); (case side1 => exact iS60 HI0.out); (case side2 => exact wS60 HB.out); rintro e w32 ⟨rfl, hi, hb, hk⟩; refine ⟨_, rfl, ?_⟩; replace HK := aM (KeepBut.trans (kB HK.out) hk (.inl rfl)); replace HB := aM (hb); replace HI0 := aM (hi); clear hb hk hi) | ((with_reducible refine gate_callee (f := 36) rfl ?_); refine gL (some 12) Try.func36 #[.pointer (some ⟨g, 0, none⟩), .int .i64 5] ?_; (with_reducible refine (spec_reader_pick.calls k g s0_0 t431 5 t432 t433 w0 _ ?side1 ?side2 A4.out).mono ?_); (case side1 => exact iS60 HI0.out); (case side2 => exact wS60 HB.out); rintro e w33 ⟨rfl, hi, hb, hk⟩; refine ⟨_, rfl, ?_⟩; replace HK := aM (KeepBut.trans (kB HK.out) hk (.inl rfl)); replace HB := aM (hb); replace HI0 := aM (hi); clear hb hk hi) | ((with_reducible refine gate_dst (N := 40) rfl ?_); refine Kd.R_lit Kd.string _ 9 ?hg (N := 40) ?hd (xs := ([(⟨#[48]⟩ : ByteArray), (⟨#[32]⟩ : ByteArray), (⟨#[47]⟩ : ByteArray), (⟨#[32, 49]⟩ : ByteArray), (⟨#[120]⟩ : ByteArray), (⟨#[48, 48]⟩ : ByteArray)] : List ByteArray)) (inner := [.string (⟨#[48]⟩ : ByteArray), .string (⟨#[32]⟩ : ByteArray), .string (⟨#[47]⟩ : ByteArray), .string (⟨#[32, 49]⟩ : ByteArray), .string (⟨#[120]⟩ : ByteArray), .string (⟨#[48, 48]⟩ : ByteArray)]) (ok := fun _ => True) (okp := fun _ => True) ?hr ?hp (fun _ hk => hk) trivial (Below.refl _ _) (Nat.le_refl _) (by simp) ?_; (case hd => rfl); (case hg => rfl); (case hr => first | (go_simp; done) | (go_simp; rfl)); (case hp => exact (Reps.one (show Kd.M Kd.string _ _ _ (⟨#[48]⟩ : ByteArray) [.string (⟨#[48]⟩ : ByteArray)] from rfl) (Reps.one (show Kd.M Kd.string _ _ _ (⟨#[32]⟩ : ByteArray) [.string (⟨#[32]⟩ : ByteArray)] from rfl) (Reps.one (show Kd.M Kd.string _ _ _ (⟨#[47]⟩ : ByteArray) [.string (⟨#[47]⟩ : ByteArray)] from rfl) (Reps.one (show Kd.M Kd.string _ _ _ (⟨#[32, 49]⟩ : ByteArray) [.string (⟨#[32, 49]⟩ : ByteArray)] from rfl) (Reps.one (show Kd.M Kd.string _ _ _ (⟨#[120]⟩ : ByteArray) [.string (⟨#[120]⟩ : ByteArray)] from rfl) (Reps.one (show Kd.M Kd.string _ _ _ (⟨#[48, 48]⟩ : ByteArray) [.string (⟨#[48, 48]⟩ : ByteArray)] from rfl) (Reps.none _ _)))))))); intro v440 w34 ho35 hb hg_ hnew_; clear hg_ hnew_; (first | rw [← Ny439.out] at ho35 | (simp only [Int.reduceToNat] at ho35; rw [← Ny439.out] at ho35)); have HO441 := lK ho35 HK; replace HK := aM (KeepBut.trans (kB HK.out) (KeepBut.of_below hb g none) (.inl rfl)); replace HB := aM (below_step (wS60 HB.out) hb); replace HI0 := aM (IsS60.below (iS60 HI0.out) hb); clear hb ho35; obtain ⟨Ao36, co36, rfl⟩ := sL HO441) | ((with_reducible refine gate_callee (f := 53) rfl ?_); refine gL (some 41) Try.func53 #[.pointer (some ⟨g, 0, none⟩), .slice Ao36 y439.length co36] ?_; (with_reducible refine (spec_reader_of.calls k g s0_0 t433 _ _ y439 t442 t443 w0 _ ?side1 ?side2 ?side3 ?side4 ?side5 A30.out).mono ?_); (case side1 => exact iS60 HI0.out); (case side2 => exact wS60 HB.out); (case side3 => exact qC (Kd.R_reads' HO441.out).2.2); (case side4 => exact (Kd.R_reads' HO441.out).2.1); (case side5 => exact far_slice (IsS60.own_ne HI0.out HO441.out (by decide))); rintro e w37 ⟨rfl, hi, hb, hk⟩; refine ⟨_, rfl, ?_⟩; replace HO441 := aM (Kd.R_mono (Kd.R_keep (IsS60.apart (show IsS60 w0 _ g s0_0 t433 from iS60 HI0.out) (qR HO441.out) (by decide)) hk (fun _ h => h.2)) (fun _ h => h.1)); replace HK := aM (KeepBut.trans (kB HK.out) hk (.inl rfl)); replace HB := aM (hb); replace HI0 := aM (hi); clear hb hk hi))
  go_ret
  exact ⟨qX, iS60 HI0.out, wS60 HB.out, kB HK.out⟩
 rw [if_pos c5] at H
 have c5b0 : (t432 == 0) = true := beq_iff_eq.mpr c5
 have c5b1 : (t432 != 0) = false := bne_eq_false_iff_eq.mpr c5
 clear c5
 by_cases c6 : t430 < (a1.size : Int)
 rotate_left
 ·rw [if_neg c6] at H
  have c6b0 : decide (t430 < (a1.size : Int)) = false := decide_eq_false c6
  clear c6
  simp only [Option.some.injEq, Prod.mk.injEq] at H
  obtain ⟨rfl, rfl⟩ := H
  go_enter Try.func40, Try.ntmps40
  go_wp2_with (first | ((with_reducible refine gate_callee (f := 36) rfl ?_); refine gL (some 10) Try.func36 #[.pointer (some ⟨g, 0, none⟩), .int .i64 (wrap64 ((a1.size : Int) + 1))] ?_; (with_reducible refine (spec_reader_pick.calls k g s0_0 s0_1 (wrap64 ((a1.size : Int) + 1)) t430 t431 w0 _ ?side1 ?side2 A3.out).mono ?_); (case side1 => exact iS60 HI0.out); (case side2 => exact wS60 HB.out); rintro e w22 ⟨rfl, hi, hb, hk⟩; refine ⟨_, rfl, ?_⟩; replace HK := aM (KeepBut.trans (kB HK.out) hk (.inl rfl)); replace HB := aM (hb); replace HI0 := aM (hi); clear hb hk hi) | ((with_reducible refine gate_callee (f := 36) rfl ?_); refine gL (some 12) Try.func36 #[.pointer (some ⟨g, 0, none⟩), .int .i64 5] ?_; (with_reducible refine (spec_reader_pick.calls k g s0_0 t431 5 t432 t433 w0 _ ?side1 ?side2 A4.out).mono ?_); (case side1 => exact iS60 HI0.out); (case side2 => exact wS60 HB.out); rintro e w23 ⟨rfl, hi, hb, hk⟩; refine ⟨_, rfl, ?_⟩; replace HK := aM (KeepBut.trans (kB HK.out) hk (.inl rfl)); replace HB := aM (hb); replace HI0 := aM (hi); clear hb hk hi))
  go_ret
  exact ⟨qX, iS60 HI0.out, wS60 HB.out, kB HK.out⟩
 rw [if_pos c6] at H
 have c6b0 : decide (t430 < (a1.size : Int)) = true := decide_eq_true c6
 clear c6
 replace H := iS H
 obtain ⟨c7, H⟩ := H
 have c7b0 := eq_true c7
 have c7b1 : decide (0 ≤ t430) = true := decide_eq_true c7
 clear c7
 replace H := iS H
 obtain ⟨c8, H⟩ := H
 have c8b0 := eq_true c8
 have c8b1 : decide (t430 ≤ (a1.size : Int)) = true := decide_eq_true c8
 clear c8
 obtain ⟨y434, hy434⟩ : ∃ y_ : List ByteArray, y_ = (([(⟨#[48]⟩ : ByteArray), (⟨#[49]⟩ : ByteArray), (⟨#[32]⟩ : ByteArray), (⟨#[47]⟩ : ByteArray), (⟨#[102]⟩ : ByteArray), (⟨#[97]⟩ : ByteArray), (⟨#[120]⟩ : ByteArray), (⟨#[57]⟩ : ByteArray)] : List ByteArray)) := ⟨_, rfl⟩
 replace H : ((spec_reader_of.f k s0_0 t433 y434).bind fun bt437 => (if (a1.extract 0 (t430 : Int).toNat).size + bt437.1.size ≤ 9223372036854775807 then (if 0 ≤ (wrap64 (t430 + 1)) then (if (wrap64 (t430 + 1)) ≤ (a1.size : Int) then (if ((a1.extract 0 (t430 : Int).toNat) ++ bt437.1).size + (a1.extract ((wrap64 (t430 + 1)) : Int).toNat a1.size).size ≤ 9223372036854775807 then (some (((a1.extract 0 (t430 : Int).toNat) ++ bt437.1) ++ (a1.extract ((wrap64 (t430 + 1)) : Int).toNat a1.size), bt437.2)) else (none)) else (none)) else (none)) else (none))) = some (r1, r2) := rY hy434 H
 have Ny434 := aM hy434
 clear hy434
 replace H := Option.bind_eq_some_iff.mp H
 obtain ⟨⟨t437, t438⟩, A90, H⟩ := H
 replace H : (if (a1.extract 0 (t430 : Int).toNat).size + t437.size ≤ 9223372036854775807 then (if 0 ≤ (wrap64 (t430 + 1)) then (if (wrap64 (t430 + 1)) ≤ (a1.size : Int) then (if ((a1.extract 0 (t430 : Int).toNat) ++ t437).size + (a1.extract ((wrap64 (t430 + 1)) : Int).toNat a1.size).size ≤ 9223372036854775807 then (some (((a1.extract 0 (t430 : Int).toNat) ++ t437) ++ (a1.extract ((wrap64 (t430 + 1)) : Int).toNat a1.size), t438)) else (none)) else (none)) else (none)) else (none)) = some (r1, r2) := H
 have A9 := aM A90
 clear A90
 replace H := iS H
 obtain ⟨c10, H⟩ := H
 have c10b0 := eq_true c10
 have c10b1 : decide ((a1.extract 0 (t430 : Int).toNat).size + t437.size ≤ 9223372036854775807) = true := decide_eq_true c10
 try have c10b2 : (9223372036854775807 < (a1.extract 0 (t430 : Int).toNat).size + t437.size) = False := eq_false (Nat.not_lt.2 c10)
 try have c10b3 : (9223372036854775807 < (t430 : Int).toNat + t437.size) = False := eq_false (by have h_ := c10; have h2_ : (t430 : Int) ≤ (a1.size : Int) := oD; rw [ByteArray.size_extract] at h_; omega)
 obtain ⟨ji11, hji11⟩ : ∃ j_ : Int, (wrap64 (t430 + 1)) = j_ := ⟨_, rfl⟩
 replace H : (if 0 ≤ (ji11) then (if (ji11) ≤ (a1.size : Int) then (if ((a1.extract 0 (t430 : Int).toNat) ++ t437).size + (a1.extract ((ji11) : Int).toNat a1.size).size ≤ 9223372036854775807 then (some (((a1.extract 0 (t430 : Int).toNat) ++ t437) ++ (a1.extract ((ji11) : Int).toNat a1.size), t438)) else (none)) else (none)) else (none)) = some (r1, r2) := by first | (rw [hji11] at H; exact H) | (simp only [hji11] at H ⊢; exact H)
 (try rw [hji11] at A3)
 (try rw [hji11] at A4)
 (try rw [hji11] at A9)
 have hji11w : (IntKind.i64.wrap (t430 + 1)) = ji11 := (i64_w _).trans hji11
 replace H := iS H
 obtain ⟨c12, H⟩ := H
 have c12b0 := eq_true c12
 have c12b1 : decide (0 ≤ (ji11)) = true := decide_eq_true c12
 clear c12
 replace H := iS H
 obtain ⟨c13, H⟩ := H
 have c13b0 := eq_true c13
 have c13b1 : decide ((ji11) ≤ (a1.size : Int)) = true := decide_eq_true c13
 clear c13
 replace H := iS H
 obtain ⟨c14, H⟩ := H
 have c14b0 := eq_true c14
 have c14b1 : decide (((a1.extract 0 (t430 : Int).toNat) ++ t437).size + (a1.extract ((ji11) : Int).toNat a1.size).size ≤ 9223372036854775807) = true := decide_eq_true c14
 try have c14b2 : (9223372036854775807 < ((a1.extract 0 (t430 : Int).toNat) ++ t437).size + (a1.extract ((ji11) : Int).toNat a1.size).size) = False := eq_false (Nat.not_lt.2 c14)
 try have c14b3 : (9223372036854775807 < (t430 : Int).toNat + t437.size + (a1.size - (ji11 : Int).toNat)) = False := eq_false (by have h_ := c14; have h2_ : (t430 : Int) ≤ (a1.size : Int) := oD; rw [ByteArray.size_append, ByteArray.size_extract, ByteArray.size_extract] at h_; omega)
 simp only [Option.some.injEq, Prod.mk.injEq] at H
 obtain ⟨rfl, rfl⟩ := H
 go_enter Try.func40, Try.ntmps40
 try go_wp2_with (first | ((with_reducible refine gate_callee (f := 36) rfl ?_); refine gL (some 10) Try.func36 #[.pointer (some ⟨g, 0, none⟩), .int .i64 (wrap64 ((a1.size : Int) + 1))] ?_; (with_reducible refine (spec_reader_pick.calls k g s0_0 s0_1 (wrap64 ((a1.size : Int) + 1)) t430 t431 w0 _ ?side1 ?side2 A3.out).mono ?_); (case side1 => exact iS60 HI0.out); (case side2 => exact wS60 HB.out); rintro e w15 ⟨rfl, hi, hb, hk⟩; refine ⟨_, rfl, ?_⟩; replace HK := aM (KeepBut.trans (kB HK.out) hk (.inl rfl)); replace HB := aM (hb); replace HI0 := aM (hi); clear hb hk hi) | ((with_reducible refine gate_callee (f := 36) rfl ?_); refine gL (some 12) Try.func36 #[.pointer (some ⟨g, 0, none⟩), .int .i64 5] ?_; (with_reducible refine (spec_reader_pick.calls k g s0_0 t431 5 t432 t433 w0 _ ?side1 ?side2 A4.out).mono ?_); (case side1 => exact iS60 HI0.out); (case side2 => exact wS60 HB.out); rintro e w16 ⟨rfl, hi, hb, hk⟩; refine ⟨_, rfl, ?_⟩; replace HK := aM (KeepBut.trans (kB HK.out) hk (.inl rfl)); replace HB := aM (hb); replace HI0 := aM (hi); clear hb hk hi))
 replace HI0 := aM (IsS60.drew HI0.out)
 replace HK := aM (keep_drew HK.out)
 replace HB := aM (below_drew1 HB.out)
 refine start_ (n := 13) (S := fun w' => True) (ds := []) (bA 13 0) (by kernel_rfl) rfl rfl trivial (fun hHeld => ?_); refine with_tabW spec_mutate.tab5 spec_mutate.bits5 (fun HT_ HW_ => ?_)
 generalize w16.drew = w17 at HI0 HK HB hHeld ⊢
 refine pQ 0 19 HT_ (bA 13 1) ?_
 refine pQ 1 20 HT_ (bA 13 3) ?_
 refine pQ 2 21 HT_ (bA 13 7) ?_
 refine pQ 3 22 HT_ (bA 13 15) ?_
 refine pQ 7 26 HT_ (bA 13 143) ?_
 refine pQ 8 27 HT_ (bA 13 399) ?_
 refine pQ 9 28 HT_ (bA 13 911) ?_
 refine pQ 10 29 HT_ (bA 13 1935) ?_
 refine one_ (i := 4) (N := some 23) (bA 13 1951) rfl rfl (one_of HT_.out (by kernel_rfl)) (by decide) (fun K hK => ?_)
 refine Kd.R_lit_step Kd.string _ 9 ?hg (N := 23) ?hd (xs := ([(⟨#[48]⟩ : ByteArray), (⟨#[49]⟩ : ByteArray), (⟨#[32]⟩ : ByteArray), (⟨#[47]⟩ : ByteArray), (⟨#[102]⟩ : ByteArray), (⟨#[97]⟩ : ByteArray), (⟨#[120]⟩ : ByteArray), (⟨#[57]⟩ : ByteArray)] : List ByteArray)) (inner := [.string (⟨#[48]⟩ : ByteArray), .string (⟨#[49]⟩ : ByteArray), .string (⟨#[32]⟩ : ByteArray), .string (⟨#[47]⟩ : ByteArray), .string (⟨#[102]⟩ : ByteArray), .string (⟨#[97]⟩ : ByteArray), .string (⟨#[120]⟩ : ByteArray), .string (⟨#[57]⟩ : ByteArray)]) (ok := fun _ => True) (okp := fun _ => True) ?hr ?hp (fun _ hk => hk) trivial (Below.refl _ _) (Nat.le_refl _) (by simp) ?_; (case hd => rfl); (case hg => rfl); (case hr => first | (go_simp; done) | (go_simp; rfl)); (case hp => exact (Reps.one (show Kd.M Kd.string _ _ _ (⟨#[48]⟩ : ByteArray) [.string (⟨#[48]⟩ : ByteArray)] from rfl) (Reps.one (show Kd.M Kd.string _ _ _ (⟨#[49]⟩ : ByteArray) [.string (⟨#[49]⟩ : ByteArray)] from rfl) (Reps.one (show Kd.M Kd.string _ _ _ (⟨#[32]⟩ : ByteArray) [.string (⟨#[32]⟩ : ByteArray)] from rfl) (Reps.one (show Kd.M Kd.string _ _ _ (⟨#[47]⟩ : ByteArray) [.string (⟨#[47]⟩ : ByteArray)] from rfl) (Reps.one (show Kd.M Kd.string _ _ _ (⟨#[102]⟩ : ByteArray) [.string (⟨#[102]⟩ : ByteArray)] from rfl) (Reps.one (show Kd.M Kd.string _ _ _ (⟨#[97]⟩ : ByteArray) [.string (⟨#[97]⟩ : ByteArray)] from rfl) (Reps.one (show Kd.M Kd.string _ _ _ (⟨#[120]⟩ : ByteArray) [.string (⟨#[120]⟩ : ByteArray)] from rfl) (Reps.one (show Kd.M Kd.string _ _ _ (⟨#[57]⟩ : ByteArray) [.string (⟨#[57]⟩ : ByteArray)] from rfl) (Reps.none _ _))))))))))
 intro v435 w18 ho19 hb hg_ hnew_
 clear hg_ hnew_
 (first | rw [← Ny434.out] at ho19 | (simp only [Int.reduceToNat] at ho19; rw [← Ny434.out] at ho19))
 have HO436 := lK ho19 HK
 replace HK := aM (KeepBut.trans (kB HK.out) (KeepBut.of_below hb g none) (.inl rfl))
 replace HB := aM (below_step (wS60 HB.out) hb)
 replace HI0 := aM (IsS60.below (iS60 HI0.out) hb)
 clear hb ho19
 obtain ⟨Ao20, co20, eo20⟩ := Kd.R_slice HO436.out
 (first | subst eo20 | (injection eo20 with f1_ f2_ f3_; have f4_ := f1_.symm; have f5_ := f3_.symm; clear f1_ f2_ f3_; subst f4_; subst f5_))
 refine hK.out _ _ trivial (fun hHeld => ?_)
 clear hK K
 refine norm_ (a' := ?_) ?_ ?_
 rotate_left
 ·show Act.put _ (some 23) _ = _
  refine pZ ?_
  rfl
 refine one_ (i := 5) (N := some 24) (bA 13 1983) rfl rfl (one_of HT_.out (by kernel_rfl)) (by decide) (fun K hK => ?_)
 refine goes_ Try.func53 (by kernel_rfl) rfl #[.pointer (some ⟨g, 0, none⟩), .slice Ao20 y434.length co20] (by rfl) rfl rfl qM ?_
 with_reducible refine (spec_reader_of.calls k g s0_0 t433 _ _ y434 t437 t438 w0 _ ?side1 ?side2 ?side3 ?side4 ?side5 A9.out).mono ?_
 (case side1 => exact iS60 HI0.out)
 (case side2 => exact wS60 HB.out)
 (case side3 => exact qC (Kd.R_reads' HO436.out).2.2)
 (case side4 => exact (Kd.R_reads' HO436.out).2.1)
 (case side5 => exact far_slice (IsS60.own_ne HI0.out HO436.out (by decide)))
 rintro e w21 ⟨rfl, hi, hb, hk⟩
 refine ⟨_, rfl, ?_⟩
 replace HO436 := aM (Kd.R_mono (Kd.R_keep (IsS60.apart (show IsS60 w0 _ g s0_0 t433 from iS60 HI0.out) (qR HO436.out) (by decide)) hk (fun _ h => h.2)) (fun _ h => h.1))
 replace HK := aM (KeepBut.trans (kB HK.out) hk (.inl rfl))
 replace HB := aM (hb)
 replace HI0 := aM (hi)
 (try clear hb)
 (try clear hb2)
 (try clear hk)
 (try clear hi)
 refine hK.out _ _ trivial (fun hHeld => ?_)
 clear hK K
 refine norm_ (a' := ?_) ?_ ?_
 rotate_left
 ·show Act.put _ (some 24) _ = _
  refine pZ ?_
  rfl
 refine pQ 6 25 HT_ (bA 13 2047) ?_
 refine pQ 11 30 HT_ (bA 13 4095) ?_
 refine pQ 12 4 HT_ (bA 13 8191) ?_
 refine done_ (done_of HT_.out (by kernel_rfl)) ?_
 try go_wp2
 go_ret
 exact ⟨by first | rfl | (simp [errW_none, errW_some] <;> rfl) | (simp only [← hji11]; first | rfl | (simp [errW_none, errW_some] <;> rfl)) | (simp [*, errW_none, errW_some] <;> rfl), iS60 HI0.out, wS60 HB.out, kB HK.out⟩
def spec_DrawDecodeSymbols.f (k : Nat) (l0 : List Int) : Option (ByteArray × List Int) := (spec_newReader.f l0).bind fun bt444 => ((spec_DrawEncodeSymbols.f k l0).bind fun bt447 => ((spec_EncodeSymbols.f k bt447.1 bt447.2).bind fun bt453 => ((spec_reader_pick.f k bt444.1 bt444.2 8).bind fun bt455 => (if bt455.1 = 0 then (if bt453.1.size + 1 ≤ 9223372036854775807 then (some (bt453.1 ++ (⟨#[48]⟩ : ByteArray), bt447.2)) else (none)) else (if bt455.1 = 1 then ((spec_mutate.f k bt444.1 bt455.2 bt453.1).bind fun bt457 => (some (bt457.1, bt447.2))) else (some (bt453.1, bt447.2)))))))
theorem spec_DrawDecodeSymbols.mono : ∀ a0 k, LeO (spec_DrawDecodeSymbols.f k a0) (spec_DrawDecodeSymbols.f (k + 1) a0) := by
 intro a0 k
 unfold spec_DrawDecodeSymbols.f
 repeat' first | (with_reducible first | exact spec_DrawEncodeSymbols.mono _ _ | exact spec_EncodeSymbols.mono _ _ _ | exact spec_mutate.mono _ _ _ _ | exact spec_reader_pick.mono _ _ _ _ | exact lR | exact lN | refine lI ?_ ?_ | refine lB ?_ fun _ => ?_) | exact spec_DrawEncodeSymbols.mono _ _ | exact spec_EncodeSymbols.mono _ _ _ | exact spec_mutate.mono _ _ _ _ | exact spec_reader_pick.mono _ _ _ _ | exact lN | refine lI ?_ ?_ | refine lB ?_ fun _ => ?_
set_option maxHeartbeats 8000000 in
set_option maxRecDepth 100000 in
theorem spec_DrawDecodeSymbols.calls (k : Nat) (A0 : Option Addr) (c0 : Nat) (l0 : List Int) (r1 : ByteArray) (r2 : List Int) (w : World) (hr0 : Kd.C (Kd.int .u8) w A0 l0.length l0) (hc0 : l0.length ≤ c0) (h : spec_DrawDecodeSymbols.f k l0 = some (r1, r2)) :
  Calls Try.prog 23 #[.slice A0 l0.length c0] w fun e w' => ∃ v1_ : Value, e = .returned (.tuple #[.string r1, v1_]) ∧ Kd.Q (Kd.int .i64) 3 w' w.heap.size (fun _ => True) v1_ r2 ∧ Below w.heap.size w w' := by
 have HR0 := aM hr0
 have HC0 := aM hc0
 clear hr0 hc0
 have HB := aM (Below.refl w.heap.size w)
 unfold spec_DrawDecodeSymbols.f at h
 have H := h
 clear h
 replace H := Option.bind_eq_some_iff.mp H
 obtain ⟨⟨t444, t445⟩, A20, H⟩ := H
 replace H : ((spec_DrawEncodeSymbols.f k l0).bind fun bt447 => ((spec_EncodeSymbols.f k bt447.1 bt447.2).bind fun bt453 => ((spec_reader_pick.f k t444 t445 8).bind fun bt455 => (if bt455.1 = 0 then (if bt453.1.size + 1 ≤ 9223372036854775807 then (some (bt453.1 ++ (⟨#[48]⟩ : ByteArray), bt447.2)) else (none)) else (if bt455.1 = 1 then ((spec_mutate.f k t444 bt455.2 bt453.1).bind fun bt457 => (some (bt457.1, bt447.2))) else (some (bt453.1, bt447.2))))))) = some (r1, r2) := H
 have A2 := aM A20
 clear A20
 replace H := Option.bind_eq_some_iff.mp H
 obtain ⟨⟨t447, t448⟩, A30, H⟩ := H
 replace H : ((spec_EncodeSymbols.f k t447 t448).bind fun bt453 => ((spec_reader_pick.f k t444 t445 8).bind fun bt455 => (if bt455.1 = 0 then (if bt453.1.size + 1 ≤ 9223372036854775807 then (some (bt453.1 ++ (⟨#[48]⟩ : ByteArray), t448)) else (none)) else (if bt455.1 = 1 then ((spec_mutate.f k t444 bt455.2 bt453.1).bind fun bt457 => (some (bt457.1, t448))) else (some (bt453.1, t448)))))) = some (r1, r2) := H
 have A3 := aM A30
 clear A30
 replace H := Option.bind_eq_some_iff.mp H
 obtain ⟨⟨t453, t454⟩, A40, H⟩ := H
 replace H : ((spec_reader_pick.f k t444 t445 8).bind fun bt455 => (if bt455.1 = 0 then (if t453.size + 1 ≤ 9223372036854775807 then (some (t453 ++ (⟨#[48]⟩ : ByteArray), t448)) else (none)) else (if bt455.1 = 1 then ((spec_mutate.f k t444 bt455.2 t453).bind fun bt457 => (some (bt457.1, t448))) else (some (t453, t448))))) = some (r1, r2) := H
 have A4 := aM A40
 clear A40
 replace H := Option.bind_eq_some_iff.mp H
 obtain ⟨⟨t455, t456⟩, A50, H⟩ := H
 replace H : (if t455 = 0 then (if t453.size + 1 ≤ 9223372036854775807 then (some (t453 ++ (⟨#[48]⟩ : ByteArray), t448)) else (none)) else (if t455 = 1 then ((spec_mutate.f k t444 t456 t453).bind fun bt457 => (some (bt457.1, t448))) else (some (t453, t448)))) = some (r1, r2) := H
 have A5 := aM A50
 clear A50
 by_cases c6 : t455 = 0
 ·rw [if_pos c6] at H
  have c6b0 : (t455 == 0) = true := beq_iff_eq.mpr c6
  have c6b1 : (t455 != 0) = false := bne_eq_false_iff_eq.mpr c6
  clear c6
  replace H := iS H
  obtain ⟨c7, H⟩ := H
  have c7b0 := eq_true c7
  have c7b1 : decide (t453.size + 1 ≤ 9223372036854775807) = true := decide_eq_true c7
  try have c7b2 : (9223372036854775807 < t453.size + 1) = False := eq_false (Nat.not_lt.2 c7)
  simp only [Option.some.injEq, Prod.mk.injEq] at H
  obtain ⟨rfl, rfl⟩ := H
  go_enter Try.func23, Try.ntmps23
  go_wp2_with (first | ((with_reducible refine gate_callee (f := 33) rfl ?_); refine gL (some 10) Try.func33 #[.slice A0 l0.length c0] ?_; (with_reducible refine (spec_newReader.calls _ _ l0 t444 t445 w _ ?side1 ?side2 ?side3 A2.out).mono ?_); (case side1 => exact qW HB.out); (case side2 => exact HR0.out); (case side3 => exact HC0.out); rintro e w8 ⟨g446, rfl, hi, hb, hb2⟩; refine ⟨_, rfl, ?_⟩; replace HB := aM (hb); have HI446 := aM (hi); clear hb hb2 hi) | ((with_reducible refine gate_callee (f := 17) rfl ?_); refine gL (some 13) Try.func17 #[.slice A0 l0.length c0] ?_; (with_reducible refine (spec_DrawEncodeSymbols.calls k _ _ l0 t447 t448 _ ?side1 ?side2 A3.out).mono ?_); (case side1 => exact qC (Kd.C_below HR0.out HB.out)); (case side2 => exact HC0.out); rintro e w9 ⟨v449, v451, rfl, ho0, ho1, hb⟩; refine ⟨_, rfl, ?_⟩; have HO450 := aM (Kd.Q_lower ho0 (below_size (wS60 HB.out))); have HO452 := aM (Kd.Q_lower ho1 (below_size (wS60 HB.out))); replace HB := aM (below_step (wS60 HB.out) hb); replace HI446 := aM (IsS60.below (iS60 HI446.out) hb); clear hb ho0 ho1; obtain ⟨Ao10, co10, eo10, _⟩ := Kd.Q_slice HO450.out; subst eo10; obtain ⟨Ao11, co11, eo11, _⟩ := Kd.Q_slice HO452.out; subst eo11) | ((with_reducible refine gate_callee (f := 13) rfl ?_); refine gL (some 19) Try.func13 #[.slice Ao10 t447.length co10, .slice Ao11 t448.length co11] ?_; (with_reducible refine (spec_EncodeSymbols.calls k _ _ t447 _ _ t448 t453 t454 _ ?side1 ?side2 ?side3 ?side4 A4.out).mono ?_); (case side1 => exact qC (Kd.Q_reads' HO450.out).2.2); (case side2 => exact (Kd.Q_reads' HO450.out).2.1); (case side3 => exact qC (Kd.Q_reads' HO452.out).2.2); (case side4 => exact (Kd.Q_reads' HO452.out).2.1); rintro e w12 ⟨rfl, hb⟩; refine ⟨_, rfl, ?_⟩; replace HO450 := aM (Kd.Q_below (qQ HO450.out) hb); replace HO452 := aM (Kd.Q_below (qQ HO452.out) hb); replace HB := aM (below_step (wS60 HB.out) hb); replace HI446 := aM (IsS60.below (iS60 HI446.out) hb); clear hb) | ((with_reducible refine gate_callee (f := 36) rfl ?_); refine gL (some 23) Try.func36 #[.pointer (some ⟨g446, 0, none⟩), .int .i64 8] ?_; (with_reducible refine (spec_reader_pick.calls k g446 t444 t445 8 t455 t456 w _ ?side1 ?side2 A5.out).mono ?_); (case side1 => exact iS60 HI446.out); (case side2 => exact wS60 HB.out); rintro e w13 ⟨rfl, hi, hb, hk⟩; refine ⟨_, rfl, ?_⟩; replace HO450 := aM (Kd.Q_mono (Kd.Q_keep (IsS60.apartQ (show IsS60 w _ g446 t444 t445 from iS60 HI446.out) (qQ HO450.out) (by decide)) hk (fun _ h => h.2)) (fun _ h => h.1)); replace HO452 := aM (Kd.Q_mono (Kd.Q_keep (IsS60.apartQ (show IsS60 w _ g446 t444 t445 from iS60 HI446.out) (qQ HO452.out) (by decide)) hk (fun _ h => h.2)) (fun _ h => h.1)); replace HB := aM (hb); replace HI446 := aM (hi); clear hb hk hi))
  go_ret2
  exact ⟨_, qX, by (with_reducible repeat (first | apply Kd.Q_alloc | apply Kd.Q_drewN | apply Kd.Q_drew)); exact Kd.Q_mono HO452.out (fun _ hk => trivial), wS60 HB.out⟩
 rw [if_neg c6] at H
 have c6b0 : (t455 == 0) = false := beq_eq_false_iff_ne.mpr c6
 have c6b1 : (t455 != 0) = true := bne_iff_ne.mpr c6
 by_cases c14 : t455 = 1
 rotate_left
 ·rw [if_neg c14] at H
  have c14b0 : (t455 == 1) = false := beq_eq_false_iff_ne.mpr c14
  have c14b1 : (t455 != 1) = true := bne_iff_ne.mpr c14
  simp only [Option.some.injEq, Prod.mk.injEq] at H
  obtain ⟨rfl, rfl⟩ := H
  go_enter Try.func23, Try.ntmps23
  go_wp2_with (first | ((with_reducible refine gate_callee (f := 33) rfl ?_); refine gL (some 10) Try.func33 #[.slice A0 l0.length c0] ?_; (with_reducible refine (spec_newReader.calls _ _ l0 t444 t445 w _ ?side1 ?side2 ?side3 A2.out).mono ?_); (case side1 => exact qW HB.out); (case side2 => exact HR0.out); (case side3 => exact HC0.out); rintro e w23 ⟨g446, rfl, hi, hb, hb2⟩; refine ⟨_, rfl, ?_⟩; replace HB := aM (hb); have HI446 := aM (hi); clear hb hb2 hi) | ((with_reducible refine gate_callee (f := 17) rfl ?_); refine gL (some 13) Try.func17 #[.slice A0 l0.length c0] ?_; (with_reducible refine (spec_DrawEncodeSymbols.calls k _ _ l0 t447 t448 _ ?side1 ?side2 A3.out).mono ?_); (case side1 => exact qC (Kd.C_below HR0.out HB.out)); (case side2 => exact HC0.out); rintro e w24 ⟨v449, v451, rfl, ho0, ho1, hb⟩; refine ⟨_, rfl, ?_⟩; have HO450 := aM (Kd.Q_lower ho0 (below_size (wS60 HB.out))); have HO452 := aM (Kd.Q_lower ho1 (below_size (wS60 HB.out))); replace HB := aM (below_step (wS60 HB.out) hb); replace HI446 := aM (IsS60.below (iS60 HI446.out) hb); clear hb ho0 ho1; obtain ⟨Ao25, co25, eo25, _⟩ := Kd.Q_slice HO450.out; subst eo25; obtain ⟨Ao26, co26, eo26, _⟩ := Kd.Q_slice HO452.out; subst eo26) | ((with_reducible refine gate_callee (f := 13) rfl ?_); refine gL (some 19) Try.func13 #[.slice Ao25 t447.length co25, .slice Ao26 t448.length co26] ?_; (with_reducible refine (spec_EncodeSymbols.calls k _ _ t447 _ _ t448 t453 t454 _ ?side1 ?side2 ?side3 ?side4 A4.out).mono ?_); (case side1 => exact qC (Kd.Q_reads' HO450.out).2.2); (case side2 => exact (Kd.Q_reads' HO450.out).2.1); (case side3 => exact qC (Kd.Q_reads' HO452.out).2.2); (case side4 => exact (Kd.Q_reads' HO452.out).2.1); rintro e w27 ⟨rfl, hb⟩; refine ⟨_, rfl, ?_⟩; replace HO450 := aM (Kd.Q_below (qQ HO450.out) hb); replace HO452 := aM (Kd.Q_below (qQ HO452.out) hb); replace HB := aM (below_step (wS60 HB.out) hb); replace HI446 := aM (IsS60.below (iS60 HI446.out) hb); clear hb) | ((with_reducible refine gate_callee (f := 36) rfl ?_); refine gL (some 23) Try.func36 #[.pointer (some ⟨g446, 0, none⟩), .int .i64 8] ?_; (with_reducible refine (spec_reader_pick.calls k g446 t444 t445 8 t455 t456 w _ ?side1 ?side2 A5.out).mono ?_); (case side1 => exact iS60 HI446.out); (case side2 => exact wS60 HB.out); rintro e w28 ⟨rfl, hi, hb, hk⟩; refine ⟨_, rfl, ?_⟩; replace HO450 := aM (Kd.Q_mono (Kd.Q_keep (IsS60.apartQ (show IsS60 w _ g446 t444 t445 from iS60 HI446.out) (qQ HO450.out) (by decide)) hk (fun _ h => h.2)) (fun _ h => h.1)); replace HO452 := aM (Kd.Q_mono (Kd.Q_keep (IsS60.apartQ (show IsS60 w _ g446 t444 t445 from iS60 HI446.out) (qQ HO452.out) (by decide)) hk (fun _ h => h.2)) (fun _ h => h.1)); replace HB := aM (hb); replace HI446 := aM (hi); clear hb hk hi))
  go_ret2
  exact ⟨_, qX, by (with_reducible repeat (first | apply Kd.Q_alloc | apply Kd.Q_drewN | apply Kd.Q_drew)); exact Kd.Q_mono HO452.out (fun _ hk => trivial), wS60 HB.out⟩
 rw [if_pos c14] at H
 have c14b0 : (t455 == 1) = true := beq_iff_eq.mpr c14
 have c14b1 : (t455 != 1) = false := bne_eq_false_iff_eq.mpr c14
 clear c14
 replace H := Option.bind_eq_some_iff.mp H
 obtain ⟨⟨t457, t458⟩, A150, H⟩ := H
 replace H : (some (t457, t448)) = some (r1, r2) := H
 have A15 := aM A150
 clear A150
 simp only [Option.some.injEq, Prod.mk.injEq] at H
 obtain ⟨rfl, rfl⟩ := H
 go_enter Try.func23, Try.ntmps23
 go_wp2_with (first | ((with_reducible refine gate_callee (f := 33) rfl ?_); refine gL (some 10) Try.func33 #[.slice A0 l0.length c0] ?_; (with_reducible refine (spec_newReader.calls _ _ l0 t444 t445 w _ ?side1 ?side2 ?side3 A2.out).mono ?_); (case side1 => exact qW HB.out); (case side2 => exact HR0.out); (case side3 => exact HC0.out); rintro e w16 ⟨g446, rfl, hi, hb, hb2⟩; refine ⟨_, rfl, ?_⟩; replace HB := aM (hb); have HI446 := aM (hi); clear hb hb2 hi) | ((with_reducible refine gate_callee (f := 17) rfl ?_); refine gL (some 13) Try.func17 #[.slice A0 l0.length c0] ?_; (with_reducible refine (spec_DrawEncodeSymbols.calls k _ _ l0 t447 t448 _ ?side1 ?side2 A3.out).mono ?_); (case side1 => exact qC (Kd.C_below HR0.out HB.out)); (case side2 => exact HC0.out); rintro e w17 ⟨v449, v451, rfl, ho0, ho1, hb⟩; refine ⟨_, rfl, ?_⟩; have HO450 := aM (Kd.Q_lower ho0 (below_size (wS60 HB.out))); have HO452 := aM (Kd.Q_lower ho1 (below_size (wS60 HB.out))); replace HB := aM (below_step (wS60 HB.out) hb); replace HI446 := aM (IsS60.below (iS60 HI446.out) hb); clear hb ho0 ho1; obtain ⟨Ao18, co18, eo18, _⟩ := Kd.Q_slice HO450.out; subst eo18; obtain ⟨Ao19, co19, eo19, _⟩ := Kd.Q_slice HO452.out; subst eo19) | ((with_reducible refine gate_callee (f := 13) rfl ?_); refine gL (some 19) Try.func13 #[.slice Ao18 t447.length co18, .slice Ao19 t448.length co19] ?_; (with_reducible refine (spec_EncodeSymbols.calls k _ _ t447 _ _ t448 t453 t454 _ ?side1 ?side2 ?side3 ?side4 A4.out).mono ?_); (case side1 => exact qC (Kd.Q_reads' HO450.out).2.2); (case side2 => exact (Kd.Q_reads' HO450.out).2.1); (case side3 => exact qC (Kd.Q_reads' HO452.out).2.2); (case side4 => exact (Kd.Q_reads' HO452.out).2.1); rintro e w20 ⟨rfl, hb⟩; refine ⟨_, rfl, ?_⟩; replace HO450 := aM (Kd.Q_below (qQ HO450.out) hb); replace HO452 := aM (Kd.Q_below (qQ HO452.out) hb); replace HB := aM (below_step (wS60 HB.out) hb); replace HI446 := aM (IsS60.below (iS60 HI446.out) hb); clear hb) | ((with_reducible refine gate_callee (f := 36) rfl ?_); refine gL (some 23) Try.func36 #[.pointer (some ⟨g446, 0, none⟩), .int .i64 8] ?_; (with_reducible refine (spec_reader_pick.calls k g446 t444 t445 8 t455 t456 w _ ?side1 ?side2 A5.out).mono ?_); (case side1 => exact iS60 HI446.out); (case side2 => exact wS60 HB.out); rintro e w21 ⟨rfl, hi, hb, hk⟩; refine ⟨_, rfl, ?_⟩; replace HO450 := aM (Kd.Q_mono (Kd.Q_keep (IsS60.apartQ (show IsS60 w _ g446 t444 t445 from iS60 HI446.out) (qQ HO450.out) (by decide)) hk (fun _ h => h.2)) (fun _ h => h.1)); replace HO452 := aM (Kd.Q_mono (Kd.Q_keep (IsS60.apartQ (show IsS60 w _ g446 t444 t445 from iS60 HI446.out) (qQ HO452.out) (by decide)) hk (fun _ h => h.2)) (fun _ h => h.1)); replace HB := aM (hb); replace HI446 := aM (hi); clear hb hk hi) | ((with_reducible refine gate_callee (f := 40) rfl ?_); refine gL (some 32) Try.func40 #[.pointer (some ⟨g446, 0, none⟩), .string t453] ?_; (with_reducible refine (spec_mutate.calls k g446 t444 t456 t453 t457 t458 w _ ?side1 ?side2 A15.out).mono ?_); (case side1 => exact iS60 HI446.out); (case side2 => exact wS60 HB.out); rintro e w22 ⟨rfl, hi, hb, hk⟩; refine ⟨_, rfl, ?_⟩; replace HO450 := aM (Kd.Q_mono (Kd.Q_keep (IsS60.apartQ (show IsS60 w _ g446 t444 t456 from iS60 HI446.out) (qQ HO450.out) (by decide)) hk (fun _ h => h.2)) (fun _ h => h.1)); replace HO452 := aM (Kd.Q_mono (Kd.Q_keep (IsS60.apartQ (show IsS60 w _ g446 t444 t456 from iS60 HI446.out) (qQ HO452.out) (by decide)) hk (fun _ h => h.2)) (fun _ h => h.1)); replace HB := aM (hb); replace HI446 := aM (hi); clear hb hk hi))
 go_ret2
 exact ⟨_, qX, by (with_reducible repeat (first | apply Kd.Q_alloc | apply Kd.Q_drewN | apply Kd.Q_drew)); exact Kd.Q_mono HO452.out (fun _ hk => trivial), wS60 HB.out⟩
def laws_FnDecodeSymbols.j0 : Nat → ByteArray → List Int → List Int → Bool → List Int → Bool → Bool → Option (Bool)
 | 0, _, _, _, _, _, _, _ => none
 | k + 1, x3, x4, x5, x6, x7, x8, x43 => if x43 = true then ((laws_equalInts.f k x5 x7).bind fun t472 => (if t472 = true then (some (x6 == x8)) else (some false))) else ((impl_EncodeSymbols.f k x5 x4).bind fun bt473 => (if bt473.2 = true then (some (bt473.1.toList == x3.toList)) else (some false)))
def laws_FnDecodeSymbols.f (k : Nat) (l0 : List Int) : Option (Bool) := if (l0.length : Int) > 1048576 then (some true) else ((spec_DrawDecodeSymbols.f k l0).bind fun bt459 => ((impl_DecodeSymbols.f k bt459.1 bt459.2).bind fun bt463 => ((spec_DecodeSymbols.f k bt459.1 bt459.2).bind fun bt467 => ((laws_equalInts.f k bt463.1 bt467.1).bind fun t471 => (if t471 = true then (if (bt463.2 != bt467.2) = true then (laws_FnDecodeSymbols.j0 k bt459.1 bt459.2 bt463.1 bt463.2 bt467.1 bt467.2 true) else (laws_FnDecodeSymbols.j0 k bt459.1 bt459.2 bt463.1 bt463.2 bt467.1 bt467.2 (!bt463.2))) else (laws_FnDecodeSymbols.j0 k bt459.1 bt459.2 bt463.1 bt463.2 bt467.1 bt467.2 true))))))
theorem laws_FnDecodeSymbols.mono_l : ∀ k, (∀ y0 y1 y2 y3 y4 y5 y6, LeO (laws_FnDecodeSymbols.j0 k y0 y1 y2 y3 y4 y5 y6) (laws_FnDecodeSymbols.j0 (k + 1) y0 y1 y2 y3 y4 y5 y6))
 | 0 => fun _ _ _ _ _ _ _ r h => by simp [laws_FnDecodeSymbols.j0] at h
 | k + 1 => by
  have ih0 := laws_FnDecodeSymbols.mono_l k
  ·intro y0 y1 y2 y3 y4 y5 y6
   unfold laws_FnDecodeSymbols.j0
   repeat' first | (with_reducible first | exact ih0 _ _ _ _ _ _ _ | exact impl_DecodeSymbols.mono _ _ _ | exact impl_EncodeSymbols.mono _ _ _ | exact laws_equalInts.mono _ _ _ | exact spec_DecodeSymbols.mono _ _ _ | exact spec_DrawDecodeSymbols.mono _ _ | exact lR | exact lN | refine lI ?_ ?_ | refine lB ?_ fun _ => ?_) | exact ih0 _ _ _ _ _ _ _ | exact impl_DecodeSymbols.mono _ _ _ | exact impl_EncodeSymbols.mono _ _ _ | exact laws_equalInts.mono _ _ _ | exact spec_DecodeSymbols.mono _ _ _ | exact spec_DrawDecodeSymbols.mono _ _ | exact lN | refine lI ?_ ?_ | refine lB ?_ fun _ => ?_
theorem laws_FnDecodeSymbols.mono : ∀ a0 k, LeO (laws_FnDecodeSymbols.f k a0) (laws_FnDecodeSymbols.f (k + 1) a0) := by
 intro a0 k
 have ih0 := laws_FnDecodeSymbols.mono_l k
 unfold laws_FnDecodeSymbols.f
 repeat' first | (with_reducible first | exact ih0 _ _ _ _ _ _ _ | exact impl_DecodeSymbols.mono _ _ _ | exact impl_EncodeSymbols.mono _ _ _ | exact laws_equalInts.mono _ _ _ | exact spec_DecodeSymbols.mono _ _ _ | exact spec_DrawDecodeSymbols.mono _ _ | exact lR | exact lN | refine lI ?_ ?_ | refine lB ?_ fun _ => ?_) | exact ih0 _ _ _ _ _ _ _ | exact impl_DecodeSymbols.mono _ _ _ | exact impl_EncodeSymbols.mono _ _ _ | exact laws_equalInts.mono _ _ _ | exact spec_DecodeSymbols.mono _ _ _ | exact spec_DrawDecodeSymbols.mono _ _ | exact lN | refine lI ?_ ?_ | refine lB ?_ fun _ => ?_
set_option maxHeartbeats 8000000 in
set_option maxRecDepth 100000 in
theorem laws_FnDecodeSymbols.calls (k : Nat) (A0 : Option Addr) (c0 : Nat) (l0 : List Int) (r : Bool) (w : World) (hr0 : Kd.C (Kd.int .u8) w A0 l0.length l0) (hc0 : l0.length ≤ c0) (h : laws_FnDecodeSymbols.f k l0 = some r) (hrt : r = true) :
  Calls Try.prog 6 #[.slice A0 l0.length c0] w fun e w' => e = .returned (.bool r) ∧ Below w.heap.size w w' := by
 have HR0 := aM hr0
 have HC0 := aM hc0
 clear hr0 hc0
 have HB := aM (Below.refl w.heap.size w)
 unfold laws_FnDecodeSymbols.f at h
 have H := h
 clear h
 by_cases c2 : (l0.length : Int) > 1048576
 ·rw [if_pos c2] at H
  have c2b0 : decide (1048576 < (l0.length : Int)) = true := decide_eq_true c2
  have c2b1 : decide (1048576 < l0.length) = true := decide_eq_true (by omega)
  clear c2
  obtain rfl := Option.some.inj H
  go_enter Try.func6, Try.ntmps6
  go_wp2
  go_ret
  exact ⟨qX, by exact qW HB.out⟩
 rw [if_neg c2] at H
 have c2b0 : decide (1048576 < (l0.length : Int)) = false := decide_eq_false c2
 have c2b1 : decide (1048576 < l0.length) = false := decide_eq_false (by omega)
 clear c2
 replace H := Option.bind_eq_some_iff.mp H
 obtain ⟨⟨t459, t460⟩, A30, H⟩ := H
 replace H : ((impl_DecodeSymbols.f k t459 t460).bind fun bt463 => ((spec_DecodeSymbols.f k t459 t460).bind fun bt467 => ((laws_equalInts.f k bt463.1 bt467.1).bind fun t471 => (if t471 = true then (if (bt463.2 != bt467.2) = true then (laws_FnDecodeSymbols.j0 k t459 t460 bt463.1 bt463.2 bt467.1 bt467.2 true) else (laws_FnDecodeSymbols.j0 k t459 t460 bt463.1 bt463.2 bt467.1 bt467.2 (!bt463.2))) else (laws_FnDecodeSymbols.j0 k t459 t460 bt463.1 bt463.2 bt467.1 bt467.2 true))))) = some r := H
 have A3 := aM A30
 clear A30
 replace H := Option.bind_eq_some_iff.mp H
 obtain ⟨⟨t463, t464⟩, A40, H⟩ := H
 replace H : ((spec_DecodeSymbols.f k t459 t460).bind fun bt467 => ((laws_equalInts.f k t463 bt467.1).bind fun t471 => (if t471 = true then (if (t464 != bt467.2) = true then (laws_FnDecodeSymbols.j0 k t459 t460 t463 t464 bt467.1 bt467.2 true) else (laws_FnDecodeSymbols.j0 k t459 t460 t463 t464 bt467.1 bt467.2 (!t464))) else (laws_FnDecodeSymbols.j0 k t459 t460 t463 t464 bt467.1 bt467.2 true)))) = some r := H
 have A4 := aM A40
 clear A40
 replace H := Option.bind_eq_some_iff.mp H
 obtain ⟨⟨t467, t468⟩, A50, H⟩ := H
 replace H : ((laws_equalInts.f k t463 t467).bind fun t471 => (if t471 = true then (if (t464 != t468) = true then (laws_FnDecodeSymbols.j0 k t459 t460 t463 t464 t467 t468 true) else (laws_FnDecodeSymbols.j0 k t459 t460 t463 t464 t467 t468 (!t464))) else (laws_FnDecodeSymbols.j0 k t459 t460 t463 t464 t467 t468 true))) = some r := H
 have A5 := aM A50
 clear A50
 have HC6 := aM H
 clear H
 go_enter Try.func6, Try.ntmps6
 go_upto_region 6 with (first | ((with_reducible refine gate_callee (f := 23) rfl ?_); refine gL (some 16) Try.func23 #[.slice A0 l0.length c0] ?_; (with_reducible refine (spec_DrawDecodeSymbols.calls k _ _ l0 t459 t460 _ ?side1 ?side2 A3.out).mono ?_); (case side1 => exact qC HR0.out); (case side2 => exact HC0.out); rintro e w7 ⟨v461, rfl, ho0, hb⟩; refine ⟨_, rfl, ?_⟩; have HO462 := aM (Kd.Q_lower ho0 (below_size (qW HB.out))); replace HB := bS HB hb; clear hb ho0; obtain ⟨Ao8, co8, eo8, _⟩ := Kd.Q_slice HO462.out; subst eo8) | ((with_reducible refine gate_callee (f := 18) rfl ?_); refine gL (some 22) Try.func18 #[.string t459, .slice Ao8 t460.length co8] ?_; (with_reducible refine (impl_DecodeSymbols.calls k t459 _ _ t460 t463 t464 _ ?side1 ?side2 A4.out).mono ?_); (case side1 => exact qC (Kd.Q_reads' HO462.out).2.2); (case side2 => exact (Kd.Q_reads' HO462.out).2.1); rintro e w9 ⟨v465, rfl, ho0, hb⟩; refine ⟨_, rfl, ?_⟩; have HO466 := aM (Kd.R_lower (Kd.R_new' ho0 (Kd.Q_lt (qQ HO462.out))) (below_size (qW HB.out))); replace HO462 := aM (Kd.Q_elder' (qQ HO462.out) (Kd.R_base ho0) hb); replace HB := bS HB hb; clear hb ho0) | ((with_reducible refine gate_callee (f := 20) rfl ?_); refine gL (some 28) Try.func20 #[.string t459, .slice Ao8 t460.length co8] ?_; (with_reducible refine (spec_DecodeSymbols.calls k t459 _ _ t460 t467 t468 _ ?side1 ?side2 A5.out).mono ?_); (case side1 => exact qC (Kd.Q_reads' HO462.out).2.2); (case side2 => exact (Kd.Q_reads' HO462.out).2.1); rintro e w10 ⟨v469, rfl, ho0, hb⟩; refine ⟨_, rfl, ?_⟩; have HO470 := aM (Kd.R_lower (Kd.R_new' (Kd.R_new' ho0 (Kd.Q_lt (qQ HO462.out))) (Kd.R_lt (qR HO466.out))) (below_size (qW HB.out))); replace HO462 := aM (Kd.Q_elder' (qQ HO462.out) (Kd.R_base ho0) hb); replace HO466 := aM (Kd.R_elder' (qR HO466.out) (Kd.R_base ho0) hb); replace HB := bS HB hb; clear hb ho0))
 (try simp only [Act.put, List.setIfInBounds_toArray, List.set_cons_zero, List.set_cons_succ])
 go_cut [43] (fun v43 wc => ∃ (kq : Nat) (x43_5 : Bool), v43 = .bool x43_5 ∧ Aside0 (laws_FnDecodeSymbols.j0 kq t459 t460 t463 t464 t467 t468 x43_5 = some r) ∧ Aside0 (kq ≤ k) ∧ Aside0 (Kd.Q (Kd.int .i64) 3 wc w.heap.size (fun k_ => some k_ ≠ (v465 : Value).ownBlock ∧ some k_ ≠ (v469 : Value).ownBlock) (.slice Ao8 t460.length co8) t460) ∧ Aside0 (Kd.R (Kd.int .i64) 3 wc w.heap.size (fun k_ => some k_ ≠ ((.slice Ao8 t460.length co8) : Value).ownBlock ∧ some k_ ≠ (v469 : Value).ownBlock) v465 t463) ∧ Aside0 (Kd.R (Kd.int .i64) 3 wc w.heap.size (fun k_ => some k_ ≠ ((.slice Ao8 t460.length co8) : Value).ownBlock ∧ some k_ ≠ (v465 : Value).ownBlock) v469 t467) ∧ Aside0 (Below w.heap.size w wc))
 case first =>
  have H := HC6.out
  clear HC6
  replace H := Option.bind_eq_some_iff.mp H
  obtain ⟨t471, A110, H⟩ := H
  replace H : (if t471 = true then (if (t464 != t468) = true then (laws_FnDecodeSymbols.j0 k t459 t460 t463 t464 t467 t468 true) else (laws_FnDecodeSymbols.j0 k t459 t460 t463 t464 t467 t468 (!t464))) else (laws_FnDecodeSymbols.j0 k t459 t460 t463 t464 t467 t468 true)) = some r := H
  have A11 := aM A110
  clear A110
  by_cases c12 : t471 = true
  rotate_left
  ·replace c12 := Bool.eq_false_iff.mpr c12
   subst c12
   have H1 : (laws_FnDecodeSymbols.j0 k t459 t460 t463 t464 t467 t468 true) = some r := by rw [if_neg (show ¬ (false = true) by decide)] at H; exact H
   clear H
   have H := H1
   clear H1
   have H' := aM H
   clear H
   obtain ⟨Ao18, co18, rfl⟩ := sL HO466
   obtain ⟨Ao19, co19, rfl⟩ := sL HO470
   go_wp2_with (first | ((with_reducible refine gate_callee (f := 19) rfl ?_); refine gL (some 33) Try.func19 #[.slice Ao18 t463.length co18, .slice Ao19 t467.length co19] ?_; (with_reducible refine (laws_equalInts.calls k _ _ t463 _ _ t467 false _ ?side1 ?side2 ?side3 ?side4 A11.out).mono ?_); (case side1 => exact qC (Kd.R_reads' HO466.out).2.2); (case side2 => exact (Kd.R_reads' HO466.out).2.1); (case side3 => exact qC (Kd.R_reads' HO470.out).2.2); (case side4 => exact (Kd.R_reads' HO470.out).2.1); rintro e w' ⟨rfl, ⟨nd, rfl⟩⟩; refine ⟨_, rfl, ?_⟩))
   go_meet
   case rel => exact ⟨_, (true), qE, H', ⟨by first | omega | exact Nat.le_refl _⟩, ⟨by (with_reducible repeat (first | apply Kd.Q_alloc | apply Kd.Q_drewN | apply Kd.Q_drew)); exact Kd.Q_mono HO462.out (fun _ hk => ⟨hk.1.2, hk.2⟩)⟩, ⟨by refine qR ?_; exact Kd.R_mono HO466.out (fun _ hk => ⟨hk.1.2, hk.2⟩)⟩, ⟨by refine qR ?_; exact Kd.R_mono HO470.out (fun _ hk => ⟨hk.1.2, hk.2⟩)⟩, ⟨by exact qW HB.out⟩⟩
  subst c12
  have H1 : (if (t464 != t468) = true then (laws_FnDecodeSymbols.j0 k t459 t460 t463 t464 t467 t468 true) else (laws_FnDecodeSymbols.j0 k t459 t460 t463 t464 t467 t468 (!t464))) = some r := by rw [if_pos rfl] at H; exact H
  clear H
  have H := H1
  clear H1
  by_cases c13 : (t464 != t468) = true
  rotate_left
  ·rw [if_neg c13] at H
   have c13b0 : (t464 != t468) = false := by simpa using c13
   (try (have c13b1 : decide (t464 = t468) = true := by simpa using c13))
   (try (have c13b2 : (t464 == t468) = true := by simpa using c13))
   clear c13
   (first | rw [c13b0] | (simp only [i64_w, i32_w]; rw [c13b0]) | skip)
   have H' := aM H
   clear H
   obtain ⟨Ao16, co16, rfl⟩ := sL HO466
   obtain ⟨Ao17, co17, rfl⟩ := sL HO470
   go_wp2_with (first | ((with_reducible refine gate_callee (f := 19) rfl ?_); refine gL (some 33) Try.func19 #[.slice Ao16 t463.length co16, .slice Ao17 t467.length co17] ?_; (with_reducible refine (laws_equalInts.calls k _ _ t463 _ _ t467 true _ ?side1 ?side2 ?side3 ?side4 A11.out).mono ?_); (case side1 => exact qC (Kd.R_reads' HO466.out).2.2); (case side2 => exact (Kd.R_reads' HO466.out).2.1); (case side3 => exact qC (Kd.R_reads' HO470.out).2.2); (case side4 => exact (Kd.R_reads' HO470.out).2.1); rintro e w' ⟨rfl, ⟨nd, rfl⟩⟩; refine ⟨_, rfl, ?_⟩))
   go_meet
   case rel => exact ⟨_, (!t464), qE, H', ⟨by first | omega | exact Nat.le_refl _⟩, ⟨by (with_reducible repeat (first | apply Kd.Q_alloc | apply Kd.Q_drewN | apply Kd.Q_drew)); exact Kd.Q_mono HO462.out (fun _ hk => ⟨hk.1.2, hk.2⟩)⟩, ⟨by refine qR ?_; exact Kd.R_mono HO466.out (fun _ hk => ⟨hk.1.2, hk.2⟩)⟩, ⟨by refine qR ?_; exact Kd.R_mono HO470.out (fun _ hk => ⟨hk.1.2, hk.2⟩)⟩, ⟨by exact qW HB.out⟩⟩
  rw [if_pos c13] at H
  have c13b0 : (t464 != t468) = true := c13
  (try (have c13b1 : decide (t464 = t468) = false := by simpa using c13))
  (try (have c13b2 : (t464 == t468) = false := by simpa using c13))
  (try (have c13b3 : ¬ (t464 = t468) := by simpa using c13))
  clear c13
  (first | rw [c13b0] | (simp only [i64_w, i32_w]; rw [c13b0]) | skip)
  have H' := aM H
  clear H
  obtain ⟨Ao14, co14, rfl⟩ := sL HO466
  obtain ⟨Ao15, co15, rfl⟩ := sL HO470
  go_wp2_with (first | ((with_reducible refine gate_callee (f := 19) rfl ?_); refine gL (some 33) Try.func19 #[.slice Ao14 t463.length co14, .slice Ao15 t467.length co15] ?_; (with_reducible refine (laws_equalInts.calls k _ _ t463 _ _ t467 true _ ?side1 ?side2 ?side3 ?side4 A11.out).mono ?_); (case side1 => exact qC (Kd.R_reads' HO466.out).2.2); (case side2 => exact (Kd.R_reads' HO466.out).2.1); (case side3 => exact qC (Kd.R_reads' HO470.out).2.2); (case side4 => exact (Kd.R_reads' HO470.out).2.1); rintro e w' ⟨rfl, ⟨nd, rfl⟩⟩; refine ⟨_, rfl, ?_⟩))
  go_meet
  case rel => exact ⟨_, (true), qE, H', ⟨by first | omega | exact Nat.le_refl _⟩, ⟨by (with_reducible repeat (first | apply Kd.Q_alloc | apply Kd.Q_drewN | apply Kd.Q_drew)); exact Kd.Q_mono HO462.out (fun _ hk => ⟨hk.1.2, hk.2⟩)⟩, ⟨by refine qR ?_; exact Kd.R_mono HO466.out (fun _ hk => ⟨hk.1.2, hk.2⟩)⟩, ⟨by refine qR ?_; exact Kd.R_mono HO470.out (fun _ hk => ⟨hk.1.2, hk.2⟩)⟩, ⟨by exact qW HB.out⟩⟩
 case rest =>
  clear HC6
  try clear c2
  try clear c2b0
  try clear c2b1
  try clear c12
  try clear c13
  try clear c13b0
  try clear c13b1
  try clear c13b2
  obtain ⟨kq, x43_5, rfl, HA, HJ5, HO_4, HO_5, HO_7, HB⟩ := hcut
  cases kq with
  | zero => exact absurd HA.out (by simp [laws_FnDecodeSymbols.j0])
  | succ kj5 =>
   have H := HA.out
   clear HA
   simp only [laws_FnDecodeSymbols.j0] at H
   by_cases c20 : x43_5 = true
   ·subst c20
    have H1 : ((laws_equalInts.f kj5 t463 t467).bind fun t472 => (if t472 = true then (some (t464 == t468)) else (some false))) = some r := by rw [if_pos rfl] at H; exact H
    clear H
    have H := H1
    clear H1
    replace H := Option.bind_eq_some_iff.mp H
    obtain ⟨t472, A210, H⟩ := H
    replace H : (if t472 = true then (some (t464 == t468)) else (some false)) = some r := H
    have A21 := aM A210
    clear A210
    by_cases c22 : t472 = true
    rotate_left
    ·replace c22 := Bool.eq_false_iff.mpr c22
     subst c22
     have H1 : (some false) = some r := by rw [if_neg (show ¬ (false = true) by decide)] at H; exact H
     clear H
     have H := H1
     clear H1
     obtain rfl := Option.some.inj H
     exact absurd hrt (by decide)
    subst c22
    have H1 : (some (t464 == t468)) = some r := by rw [if_pos rfl] at H; exact H
    clear H
    have H := H1
    clear H1
    obtain rfl := Option.some.inj H
    obtain ⟨Ao23, co23, rfl⟩ := sL HO_5
    obtain ⟨Ao24, co24, rfl⟩ := sL HO_7
    go_wp2_with (first | ((with_reducible refine gate_callee (f := 19) rfl ?_); refine gL (some 46) Try.func19 #[.slice Ao23 t463.length co23, .slice Ao24 t467.length co24] ?_; (with_reducible refine (laws_equalInts.calls kj5 _ _ t463 _ _ t467 true _ ?side1 ?side2 ?side3 ?side4 A21.out).mono ?_); (case side1 => exact qC (Kd.R_reads' HO_5.out).2.2); (case side2 => exact (Kd.R_reads' HO_5.out).2.1); (case side3 => exact qC (Kd.R_reads' HO_7.out).2.2); (case side4 => exact (Kd.R_reads' HO_7.out).2.1); rintro e w' ⟨rfl, ⟨nd, rfl⟩⟩; refine ⟨_, rfl, ?_⟩))
    go_ret
    exact ⟨qX, by exact qW HB.out⟩
   replace c20 := Bool.eq_false_iff.mpr c20
   subst c20
   have H1 : ((impl_EncodeSymbols.f kj5 t463 t460).bind fun bt473 => (if bt473.2 = true then (some (bt473.1.toList == t459.toList)) else (some false))) = some r := by rw [if_neg (show ¬ (false = true) by decide)] at H; exact H
   clear H
   have H := H1
   clear H1
   replace H := Option.bind_eq_some_iff.mp H
   obtain ⟨⟨t473, t474⟩, A270, H⟩ := H
   replace H : (if t474 = true then (some (t473.toList == t459.toList)) else (some false)) = some r := H
   have A27 := aM A270
   clear A270
   by_cases c28 : t474 = true
   rotate_left
   ·replace c28 := Bool.eq_false_iff.mpr c28
    subst c28
    have H1 : (some false) = some r := by rw [if_neg (show ¬ (false = true) by decide)] at H; exact H
    clear H
    have H := H1
    clear H1
    obtain rfl := Option.some.inj H
    exact absurd hrt (by decide)
   subst c28
   have H1 : (some (t473.toList == t459.toList)) = some r := by rw [if_pos rfl] at H; exact H
   clear H
   have H := H1
   clear H1
   obtain rfl := Option.some.inj H
   obtain ⟨Ao29, co29, rfl⟩ := sL HO_5
   go_wp2_with (first | ((with_reducible refine gate_callee (f := 15) rfl ?_); refine gL (some 55) Try.func15 #[.slice Ao29 t463.length co29, .slice Ao8 t460.length co8] ?_; (with_reducible refine (impl_EncodeSymbols.calls kj5 _ _ t463 _ _ t460 t473 true _ ?side1 ?side2 ?side3 ?side4 A27.out).mono ?_); (case side1 => exact qC (Kd.R_reads' HO_5.out).2.2); (case side2 => exact (Kd.R_reads' HO_5.out).2.1); (case side3 => exact qC (Kd.Q_reads' HO_4.out).2.2); (case side4 => exact (Kd.Q_reads' HO_4.out).2.1); rintro e w30 ⟨rfl, hb⟩; refine ⟨_, rfl, ?_⟩; replace HO_4 := aM (Kd.Q_below (qQ HO_4.out) hb); replace HO_5 := aM (Kd.R_below (qR HO_5.out) hb); replace HO_7 := aM (Kd.R_below (qR HO_7.out) hb); replace HB := bS HB hb; clear hb))
   go_ret
   exact ⟨qX, by exact qW HB.out⟩
def laws_FnDecodeSymbols.Pure : Prop := ∀ (l0 : List Int), l0.length ≤ maxLen → l0.length * 1 ≤ 140737488351232 → (∀ x ∈ l0, (Lit.int .u8 x).wf = true) → ∃ k, laws_FnDecodeSymbols.f k l0 = some true
theorem laws_FnDecodeSymbols.walk (P : laws_FnDecodeSymbols.Pure) (a0 : Option Addr) (len0 cap0 : Nat) (z0 : List Int) (w : World) (w0 : (a0 = none ∧ len0 = 0 ∧ cap0 = 0 ∧ z0 = []) ∨ ∃ x, a0 = some x ∧ len0 ≤ cap0 ∧ cap0 ≤ maxLen ∧ z0.length = cap0 ∧ (∀ i, i < z0.length → w.cell? (x.add i) = some (.int .u8 (z0.getD i 0))) ∧ ∀ n ∈ z0, (Lit.int .u8 n).wf = true) (y0 : len0 * 1 ≤ 140737488351232) :
  Calls Try.prog 6 #[.slice a0 len0 cap0] w fun e w' => e = .returned (.bool true) ∧ Below w.heap.size w w' := by
 obtain ⟨l0, rfl, hr0, hm0, hw0, hc0⟩ := ReadsInt.ofRowC w0
 obtain ⟨k, h⟩ := P l0 hm0 y0 hw0
 refine (laws_FnDecodeSymbols.calls k _ _ l0 true w (Kd.C_of_reads (d := (0 : Int)) (h1 := fun _ => rfl) hr0) hc0 h rfl).mono ?_
 rintro e w' ⟨rfl, hd⟩
 exact ⟨rfl, hd⟩
end Go.Proofs.Ytcmkijmjafgkfaa.P
