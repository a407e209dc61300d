/- Contracts and row, written by a program of this place out of the translation: the call answers true and its argument reads as before, for every input; no condition. -/
import Derived.Test.YtbldmekplkjfiaaK0
import Derived.Test.YtbldmekplkjfiaaK1
namespace Go.Proofs.Ytbldmekplkjfiaa.P
open Go.RowKit Go.Proofs.YtbldmekplkjfiaaW.PrintWords Go.Proofs.YtbldmekplkjfiaaW.PrintLast Go.Proofs.YtbldmekplkjfiaaW.PrintMore
attribute [local go_sem] max2_int min2_int max_two min_two max_three min_three max_four min_four   -- for this text's walks alone
set_option linter.unusedVariables false
set_option linter.unusedSimpArgs false
def slices_Equal_int_int.l0 : Nat → List Int → List Int → Int → Int → Option (Bool)
 | 0, _, _, _, _ => none
 | k + 1, x0, x1, x12, x13 => if x13 < x12 then (if 0 ≤ x13 then (if x13 < (x0.length : Int) then (if x13 < (x1.length : Int) then (if (rd x0 x13) = (rd x1 x13) then (slices_Equal_int_int.l0 k x0 x1 x12 (wrap64 (x13 + 1))) else (some false)) else (none)) else (none)) else (none)) else (some true)
def slices_Equal_int_int.f (k : Nat) (l0 : List Int) (l1 : List Int) : Option (Bool) := if (l0.length : Int) = (l1.length : Int) then (slices_Equal_int_int.l0 k l0 l1 (l0.length : Int) 0) else (some false)
theorem slices_Equal_int_int.mono_l : ∀ k, (∀ y0 y1 y2 y3, LeO (slices_Equal_int_int.l0 k y0 y1 y2 y3) (slices_Equal_int_int.l0 (k + 1) y0 y1 y2 y3))
 | 0 => fun _ _ _ _ r h => by simp [slices_Equal_int_int.l0] at h
 | k + 1 => by
  have ih0 := slices_Equal_int_int.mono_l k
  ·intro y0 y1 y2 y3
   unfold slices_Equal_int_int.l0
   repeat' first | (with_reducible first | exact ih0 _ _ _ _ | exact lR | exact lN | refine lI ?_ ?_ | refine lB ?_ fun _ => ?_) | exact ih0 _ _ _ _ | exact lN | refine lI ?_ ?_ | refine lB ?_ fun _ => ?_
theorem slices_Equal_int_int.mono : ∀ a0 a1 k, LeO (slices_Equal_int_int.f k a0 a1) (slices_Equal_int_int.f (k + 1) a0 a1) := by
 intro a0 a1 k
 have ih0 := slices_Equal_int_int.mono_l k
 unfold slices_Equal_int_int.f
 repeat' first | (with_reducible first | exact ih0 _ _ _ _ | exact lR | exact lN | refine lI ?_ ?_ | refine lB ?_ fun _ => ?_) | exact ih0 _ _ _ _ | exact lN | refine lI ?_ ?_ | refine lB ?_ fun _ => ?_
set_option maxHeartbeats 8000000 in
set_option maxRecDepth 100000 in
theorem slices_Equal_int_int.calls (k : Nat) (A0 : Option Addr) (c0 : Nat) (l0 : List Int) (A1 : Option Addr) (c1 : Nat) (l1 : List Int) (r : Bool) (w : World) (hr0 : Kd.C (Kd.int .i64) w A0 l0.length l0) (hc0 : l0.length ≤ c0) (hr1 : Kd.C (Kd.int .i64) w A1 l1.length l1) (hc1 : l1.length ≤ c1) (h : slices_Equal_int_int.f k l0 l1 = some r) :
  Calls Try.prog 65 #[.slice A0 l0.length c0, .slice A1 l1.length c1] w fun e w' => e = .returned (.bool r) ∧ Drawn0 w w' := by
 have HR0 := aM hr0
 have HC0 := aM hc0
 clear hr0 hc0
 have HR1 := aM hr1
 have HC1 := aM hc1
 clear hr1 hc1
 unfold slices_Equal_int_int.f at h
 have H := h
 clear h
 by_cases c3 : (l0.length : Int) = (l1.length : Int)
 rotate_left
 ·rw [if_neg c3] at H
  have c3b0 : ((l0.length : Int) == (l1.length : Int)) = false := beq_eq_false_iff_ne.mpr c3
  have c3b1 : ((l0.length : Int) != (l1.length : Int)) = true := bne_iff_ne.mpr c3
  have c3b2 : (l0.length == l1.length) = false := by first | simpa using c3 | (simp at c3 ⊢; omega)
  obtain rfl := Option.some.inj H
  go_enter Try.func65, Try.ntmps65
  go_wp2
  repeat (go_quiet (fail); try go_wp2)
  go_ret
  exact ⟨qE, qD⟩
 rw [if_pos c3] at H
 have c3b0 : ((l0.length : Int) == (l1.length : Int)) = true := beq_iff_eq.mpr c3
 have c3b1 : ((l0.length : Int) != (l1.length : Int)) = false := bne_eq_false_iff_eq.mpr c3
 have c3b2 : (l0.length == l1.length) = true := by first | simpa using c3 | (simp at c3 ⊢; omega)
 clear c3
 have H' := aM H
 clear H
 go_enter Try.func65, Try.ntmps65
 go_wp2
 repeat (go_quiet (fail); try go_wp2)
 go_loopg [13] k (fun kq v13 w' => ∃ (x13_1 : Int), v13 = .int .i64 x13_1 ∧ Aside0 (slices_Equal_int_int.l0 kq l0 l1 (l0.length : Int) x13_1 = some r) ∧ Aside0 (kq ≤ k) ∧ Drawn0 w w')
 case atStart => exact ⟨(0), qE, H', ⟨Nat.le_refl _⟩, qD⟩
 case round =>
  clear H'
  try clear c1
  try clear c3
  try clear c3b0
  try clear c3b1
  try clear c3b2
  obtain ⟨x13_1, rfl, HA, HK1, ⟨m1, rfl⟩⟩ := hrel
  cases gk with
  | zero => exact absurd HA.out (by simp [slices_Equal_int_int.l0])
  | succ k1 =>
   have H := HA.out
   clear HA
   simp only [slices_Equal_int_int.l0] at H
   by_cases c4 : x13_1 < (l0.length : Int)
   rotate_left
   ·rw [if_neg c4] at H
    have c4b0 : decide (x13_1 < (l0.length : Int)) = false := decide_eq_false c4
    clear c4
    obtain rfl := Option.some.inj H
    go_wp2
    repeat (go_quiet (fail); try go_wp2)
    go_ret
    exact ⟨qE, qD⟩
   rw [if_pos c4] at H
   have c4b0 : decide (x13_1 < (l0.length : Int)) = true := decide_eq_true c4
   clear c4
   replace H := iD H
   obtain ⟨c5b0, H⟩ := H
   replace H := iD H
   obtain ⟨c6b0, H⟩ := H
   replace H := iD H
   obtain ⟨c7b0, H⟩ := H
   by_cases c8 : (rd l0 x13_1) = (rd l1 x13_1)
   rotate_left
   ·rw [if_neg c8] at H
    have c8b0 : ((rd l0 x13_1) == (rd l1 x13_1)) = false := beq_eq_false_iff_ne.mpr c8
    have c8b1 : ((rd l0 x13_1) != (rd l1 x13_1)) = true := bne_iff_ne.mpr c8
    obtain rfl := Option.some.inj H
    obtain ⟨ad339, e339, hx339_0⟩ := Kd.at_int HR0.out x13_1 oD oD
    cases e339
    have p339 := eq_true (oD : 0 ≤ (x13_1 : Int))
    have q339 := eq_true (oD : x13_1 < (l0.length : Int))
    obtain ⟨ad340, e340, hx340_0⟩ := Kd.at_int HR1.out x13_1 oD oD
    cases e340
    have p340 := eq_true (oD : 0 ≤ (x13_1 : Int))
    have q340 := eq_true (oD : x13_1 < (l1.length : Int))
    go_wp2
    repeat (go_quiet (fail); try go_wp2)
    go_ret
    exact ⟨qE, qD⟩
   rw [if_pos c8] at H
   have c8b0 : ((rd l0 x13_1) == (rd l1 x13_1)) = true := beq_iff_eq.mpr c8
   have c8b1 : ((rd l0 x13_1) != (rd l1 x13_1)) = false := bne_eq_false_iff_eq.mpr c8
   clear c8
   have H' := aM H
   clear H
   obtain ⟨ad339, e339, hx339_0⟩ := Kd.at_int HR0.out x13_1 oD oD
   cases e339
   have p339 := eq_true (oD : 0 ≤ (x13_1 : Int))
   have q339 := eq_true (oD : x13_1 < (l0.length : Int))
   obtain ⟨ad340, e340, hx340_0⟩ := Kd.at_int HR1.out x13_1 oD oD
   cases e340
   have p340 := eq_true (oD : 0 ≤ (x13_1 : Int))
   have q340 := eq_true (oD : x13_1 < (l1.length : Int))
   go_wp2
   repeat (go_quiet (fail); try go_wp2)
   go_roundg k1
   case measure => have := HK1.out; omega
   case rel => exact ⟨(wrap64 (x13_1 + 1)), qE, H', ⟨by have := HK1.out; omega⟩, qD⟩
def idxOfL (p : List Int → Bool) (l : List (List Int)) : Int := if l.any p = true then (l.findIdx p : Int) else -1
theorem idxOfL_hit (p : List Int → Bool) (l : List (List Int)) (k : Nat) (hk : k < l.length) (h : p (l.getD k []) = true) (hn : ∀ j, j < k → p (l.getD j []) = false) : idxOfL p l = k := by
 have hx : l.findIdx p = k := by
  rw [List.findIdx_eq hk]
  refine ⟨by simpa [List.getD_eq_getElem?_getD, List.getElem?_eq_getElem hk] using h, fun j hj => ?_⟩
  have := hn j hj
  simpa [List.getD_eq_getElem?_getD, List.getElem?_eq_getElem (show j < l.length by omega)] using this
 have ha : l.any p = true := List.any_eq_true.2 ⟨l[k], List.getElem_mem hk, by simpa [List.getD_eq_getElem?_getD, List.getElem?_eq_getElem hk] using h⟩
 unfold idxOfL
 rw [if_pos ha, hx]
theorem idxOfL_miss (p : List Int → Bool) (l : List (List Int)) (hn : ∀ j, j < l.length → p (l.getD j []) = false) : idxOfL p l = -1 := by
 have ha : ¬ (l.any p = true) := by
  intro h
  obtain ⟨x, hx, hp⟩ := List.any_eq_true.1 h
  obtain ⟨j, hj, rfl⟩ := List.getElem_of_mem hx
  have := hn j hj
  simp [List.getD_eq_getElem?_getD, List.getElem?_eq_getElem hj, hp] at this
 unfold idxOfL
 rw [if_neg ha]
theorem idxOfL_nonneg (p : List Int → Bool) (l : List (List Int)) : decide (0 ≤ idxOfL p l) = l.any p := by
 unfold idxOfL
 cases h : l.any p <;> simp
def PredL (g : Nat) (lb : Array Value) (p : List Int → Bool) (w : World) : Prop :=
 ∀ (W : World) (A : Option Addr) (c : Nat) (x : List Int), Below w.heap.size w W → Kd.C (Kd.int .i64) W A x.length x → x.length ≤ c → Calls Try.prog g (#[.slice A x.length c] ++ lb) W fun e w' => e = .returned (.bool (p x)) ∧ Drawn0 W w'
set_option maxHeartbeats 8000000 in
set_option maxRecDepth 100000 in
theorem indexFuncList.calls (g : Nat) (lb : Array Value) (eg : ∀ args w, (callFunc g args).run Try.prog w = .ok (.enter g args) w) (p : List Int → Bool) (A0 : Option Addr) (c0 : Nat) (l0 : List (List Int)) (w : World)
  (hp : PredL g lb p w) (hr0 : Kd.C (Kd.slice 3 (Kd.int .i64)) w A0 l0.length l0) (hc0 : l0.length ≤ c0) :
  Calls Try.prog 92 #[.slice A0 l0.length c0, .func (.func g) #[] lb] w fun e w' => e = .returned (.int .i64 (idxOfL p l0)) ∧ Drawn0 w w' := by
 have hm : l0.length ≤ 9223372036854775807 := Kd.C_max hr0
 have HR0 := aM hr0
 have HP := aM hp
 clear hr0 hp
 go_enter Try.func92, Try.ntmps92
 go_wp2
 go_loopg [5, 8] l0.length (fun gg _ s8 wr => ∃ kk q : Nat, kk ≤ l0.length ∧ l0.length - kk ≤ gg ∧ s8 = .int .i64 kk ∧ wr = w.drewN q ∧ Aside0 (∀ j, j < kk → p (l0.getD j []) = false))
 case atStart => exact ⟨0, 0, Nat.zero_le _, by omega, rfl, rfl, ⟨fun j hj => absurd hj (Nat.not_lt_zero _)⟩⟩
 case round =>
  obtain ⟨kk, q, hkk, hg, rfl, rfl, NO⟩ := hrel
  by_cases hlt : kk < l0.length
  rotate_left
  ·have hltz : ¬ (kk : Int) < (l0.length : Int) := by omega
   have : kk = l0.length := by omega
   subst this
   go_wp2
   go_ret
   refine ⟨?_, ⟨⟨q, rfl⟩⟩⟩
   rw [idxOfL_miss p l0 NO.out]
   rfl
  have hltz : (kk : Int) < (l0.length : Int) := by omega
  obtain ⟨ad, A1, c1, e1, hcell, hl1, hi1⟩ := at_L2 HR0.out (kk : Int) (by omega) hltz
  cases e1
  simp only [Int.toNat_natCast] at hcell
  have hb : Below w.heap.size w (w.drewN q) := pw_below_drewN (Below.refl _ _) q
  have hcall := HP.out (w.drewN q) A1 c1 (rd_L2 l0 kk) hb (Kd.C_drewN hi1 q) hl1
  have hrd : rd_L2 l0 (kk : Int) = l0.getD kk [] := by simp [rd_L2]
  have HRD := aM hrd
  clear hrd hb hi1 hl1
  cases hq : p (rd_L2 l0 kk) with
  | true =>
   rw [hq] at hcall
   have HQ := aM hq
   clear hq
   go_wp2_with (go_at_fn g; refine hcall.mono ?_; rintro e w' ⟨rfl, ⟨q', rfl⟩⟩)
   go_ret
   refine ⟨?_, ⟨⟨q + q', by first | rfl | rw [World.drewN_drewN]⟩⟩⟩
   rw [idxOfL_hit p l0 kk hlt (by rw [← HRD.out]; exact HQ.out) NO.out]
   rfl
  | false =>
   rw [hq] at hcall
   have HQ := aM hq
   clear hq
   go_wp2_with (go_at_fn g; refine hcall.mono ?_; rintro e w' ⟨rfl, ⟨q', rfl⟩⟩)
   go_roundg (l0.length - (kk + 1))
   case measure => omega
   case rel =>
    refine ⟨kk + 1, q + q', by omega, by omega, by go_num, by first | rfl | rw [World.drewN_drewN], ⟨fun j hj => ?_⟩⟩
    by_cases e : j = kk
    rotate_left
    ·exact NO.out j (by omega)
    subst e
    rw [← HRD.out]; exact HQ.out
set_option maxHeartbeats 8000000 in
set_option maxRecDepth 100000 in
theorem containsFuncList.calls (g : Nat) (lb : Array Value) (eg : ∀ args w, (callFunc g args).run Try.prog w = .ok (.enter g args) w) (p : List Int → Bool) (A0 : Option Addr) (c0 : Nat) (l0 : List (List Int)) (w : World)
  (hp : PredL g lb p w) (hr0 : Kd.C (Kd.slice 3 (Kd.int .i64)) w A0 l0.length l0) (hc0 : l0.length ≤ c0) :
  Calls Try.prog 80 #[.slice A0 l0.length c0, .func (.func g) #[] lb] w fun e w' => e = .returned (.bool (l0.any p)) ∧ Drawn0 w w' := by
 rw [← idxOfL_nonneg p l0]
 go_enter Try.func80, Try.ntmps80
 go_wp2_with (go_at_call 92; refine (indexFuncList.calls g lb eg p _ _ l0 _ hp hr0 hc0).mono ?_; rintro e w' ⟨rfl, ⟨q, rfl⟩⟩)
 go_ret
 exact ⟨rfl, ⟨⟨q, rfl⟩⟩⟩
theorem eqInts_l (a b : List Int) (h : a.length = b.length) (hl : a.length ≤ 1000) : ∀ (d i : Nat), i + d = a.length → (∀ j, j < i → a.getD j 0 = b.getD j 0) → slices_Equal_int_int.l0 (d + 1) a b (a.length : Int) i = some (decide (a = b)) := by
 intro d
 induction d with
 | zero =>
  intro i hi hj
  rw [slices_Equal_int_int.l0, if_neg (by omega)]
  congr 1
  refine (decide_eq_true (List.ext_getElem h fun j h1 h2 => ?_)).symm
  have := hj j (by omega)
  simpa [List.getD_eq_getElem?_getD, List.getElem?_eq_getElem h1, List.getElem?_eq_getElem h2] using this
 | succ d ih =>
  intro i hi hj
  rw [slices_Equal_int_int.l0, if_pos (by omega), if_pos (by omega), if_pos (by omega), if_pos (by omega)]
  have r : ∀ l : List Int, rd l (i : Int) = l.getD i 0 := fun l => by simp [rd]
  rw [r, r]
  by_cases e : a.getD i 0 = b.getD i 0
  rotate_left
  ·rw [if_neg e, decide_eq_false fun e2 => e (by rw [e2])]
  rw [if_pos e, wrap_small (by omega) (by omega), show (i : Int) + 1 = ((i + 1 : Nat) : Int) by omega]
  refine ih (i + 1) (by omega) fun j hj2 => ?_
  by_cases e2 : j = i
  ·rw [e2]; exact e
  exact hj j (by omega)
theorem eqInts_f (a b : List Int) (hl : a.length ≤ 1000) : slices_Equal_int_int.f (a.length + 1) a b = some (decide (a = b)) := by
 unfold slices_Equal_int_int.f
 by_cases h : a.length = b.length
 rotate_left
 ·rw [if_neg (by omega), decide_eq_false fun e => h (by rw [e])]
 rw [if_pos (by omega)]
 exact eqInts_l a b h hl a.length 0 (by omega) (fun j hj => by omega)
theorem eqInts_any (a b : List Int) (hl : b.length ≤ 1000) : ∃ k, slices_Equal_int_int.f k a b = some (decide (a = b)) := by
 by_cases h : a.length = b.length
 ·exact ⟨_, eqInts_f a b (by omega)⟩
 refine ⟨0, ?_⟩
 unfold slices_Equal_int_int.f
 rw [if_neg (by omega), decide_eq_false fun e => h (by rw [e])]
theorem palTest (w : World) (B : Nat) (A : Option Addr) (c : Nat) (px : List Int) (hB : w.heap[B]? = some (.cells #[.slice A px.length c] 28 (0, 0))) (hr : Kd.C (Kd.int .i64) w A px.length px) (hc : px.length ≤ c) (hl : px.length ≤ 1000) :
  PredL 81 #[.pointer (some ⟨B, 0, none⟩)] (fun x => decide (x = px)) w := fun W A1 c1 x hb hr1 hl1 => by
 obtain ⟨k, hk⟩ := eqInts_any x px hl
 have HK := aM hk
 have hz : W.cell? ⟨B, 0, none⟩ = some (.slice A px.length c) := (blk_cell (blk_below hB hb) 0).trans rfl
 have HR := aM hr1
 have HL := aM hl1
 have HP := aM (Kd.C_below hr hb)
 have HC := aM hc
 clear hb hB hr hc hr1 hl1 hl hk
 dsimp only
 have hC := slices_Equal_int_int.calls k A1 c1 x A c px _ W HR.out HL.out HP.out HC.out HK.out
 generalize decide (x = px) = b at hC ⊢
 have HCC := aM hC
 clear hC
 go_enter Try.func81, Try.ntmps81
 go_wp2_with (go_at_call 65; refine HCC.out.mono ?_; rintro e w' ⟨rfl, ⟨q, rfl⟩⟩)
 go_ret
 exact ⟨rfl, ⟨⟨q, rfl⟩⟩⟩
def palAdd (xs : List (List Int)) (px : List Int) : List (List Int) := if (xs.any fun x => decide (x = px)) = true then xs else xs ++ [px]
def palRow (l : List Int) (a0 a2 : Int) (y : Nat) (xs : List (List Int)) : Nat → List (List Int)
 | 0 => xs
 | x + 1 => palAdd (palRow l a0 a2 y xs x) (pixOf l a0 a2 (x : Int) (y : Int))
def palAll (l : List Int) (a0 a2 : Int) : Nat → List (List Int)
 | 0 => []
 | y + 1 => palRow l a0 a2 y (palAll l a0 a2 y) a0.toNat
theorem palRow_len (l : List Int) (a0 a2 : Int) (y : Nat) (xs : List (List Int)) : ∀ x, (palRow l a0 a2 y xs x).length ≤ xs.length + x
 | 0 => Nat.le_refl _
 | x + 1 => by
  have := palRow_len l a0 a2 y xs x
  rw [palRow, palAdd]
  split
  ·omega
  ·rw [List.length_append, List.length_singleton]; omega
theorem palAll_len (l : List Int) (a0 a2 : Int) : ∀ y, (palAll l a0 a2 y).length ≤ y * a0.toNat
 | 0 => Nat.zero_le _
 | y + 1 => by
  have h1 := palAll_len l a0 a2 y
  have h2 := palRow_len l a0 a2 y (palAll l a0 a2 y) a0.toNat
  rw [palAll, Nat.succ_mul]
  omega
def impl_PaletteOf.f (a0_0 : Int) (a0_1 : Int) (a0_2 : Int) (l0_3 : List Int) : Option (List (List Int) × Bool) := (impl_isImage.f a0_0 a0_1 a0_2 l0_3).bind fun t0 => (if t0 = true then (if 16 < (palAll l0_3 a0_0 a0_2 a0_1.toNat).length then some (([] : List (List Int)), false) else some (palAll l0_3 a0_0 a0_2 a0_1.toNat, true)) else some (([] : List (List Int)), false))
set_option maxHeartbeats 8000000 in
set_option maxRecDepth 100000 in
theorem impl_PaletteOf.calls (a0_0 : Int) (a0_1 : Int) (a0_2 : Int) (A0_3 : Option Addr) (c0_3 : Nat) (l0_3 : List Int) (r1 : List (List Int)) (r2 : Bool) (w : World) (hr0_3 : Kd.C (Kd.int .i64) w A0_3 l0_3.length l0_3) (hc0_3 : l0_3.length ≤ c0_3) (h : impl_PaletteOf.f a0_0 a0_1 a0_2 l0_3 = some (r1, r2)) :
  Calls Try.prog 42 #[.agg #[.int .i64 a0_0, .int .i64 a0_1, .int .i64 a0_2, .slice A0_3 l0_3.length c0_3]] w fun e w' => ∃ v0_ : Value, e = .returned (.tuple #[v0_, .bool r2]) ∧ Kd.S (Kd.slice 3 (Kd.int .i64)) 28 w' w.heap.size (fun _ => True) v0_ r1 ∧ Below w.heap.size w w' := by
 have HR0 := aM hr0_3
 have HC0 := aM hc0_3
 clear hr0_3 hc0_3
 have HB := aM (Below.refl w.heap.size w)
 unfold impl_PaletteOf.f at h
 obtain ⟨t0, q0, H⟩ := Option.bind_eq_some_iff.mp h
 clear h
 have A0 := aM q0
 clear q0
 cases t0 with
 | false =>
  rw [if_neg (show ¬ (false = true) by decide)] at H
  simp only [Option.some.injEq, Prod.mk.injEq] at H
  obtain ⟨rfl, rfl⟩ := H
  go_enter Try.func42, Try.ntmps42
  go_wp2_with (first | ((with_reducible refine gate_dst (N := 1) rfl ?_); (try (refine gate_guard (by rfl) ?_; dsimp only)); refine bxE (N := 1) (cs := #[.int .i64 a0_0, .int .i64 a0_1, .int .i64 a0_2, .slice A0_3 l0_3.length c0_3]) (t := 48) ?_; intro gm hg w161 hbox hb; have n162 := bS HB hb; have n163 := aM hbox; have n164 := aM ((by rw [hg]; exact (below_size (qW HB.out))) : w.heap.size ≤ gm); clear HB; have HB := n162; have BKgm := n163; have GEgm := n164; clear n162 n163 n164; clear hb hbox hg; have hz165 : w161.cell? ⟨gm, 0, none⟩ = some (.int .i64 a0_0) := (blk_cell BKgm.out 0).trans rfl; have hz166 : w161.cell? ⟨gm, 1, none⟩ = some (.int .i64 a0_1) := (blk_cell BKgm.out 1).trans rfl; have hz167 : w161.cell? ⟨gm, 2, none⟩ = some (.int .i64 a0_2) := (blk_cell BKgm.out 2).trans rfl; have hz168 : w161.cell? ⟨gm, 3, none⟩ = some (.slice A0_3 l0_3.length c0_3) := (blk_cell BKgm.out 3).trans rfl; have hf169 := blk_frozen BKgm.out 0; have hf170 := blk_frozen BKgm.out 1; have hf171 := blk_frozen BKgm.out 2; have hf172 := blk_frozen BKgm.out 3) | (go_at_call 78; (with_reducible refine (impl_isImage.calls a0_0 a0_1 a0_2 _ _ l0_3 false _ ?side1 ?side2 A0.out).mono ?_); (case side1 => exact (Kd.C_below HR0.out (qW HB.out))); (case side2 => exact HC0.out); rintro e w173 ⟨rfl, hb⟩; have n174 := bB BKgm hb; have n175 := bS HB hb; clear HB BKgm; have BKgm := n174; have HB := n175; clear n174 n175 hb; have hz176 : w173.cell? ⟨gm, 0, none⟩ = some (.int .i64 a0_0) := (blk_cell BKgm.out 0).trans rfl; have hz177 : w173.cell? ⟨gm, 1, none⟩ = some (.int .i64 a0_1) := (blk_cell BKgm.out 1).trans rfl; have hz178 : w173.cell? ⟨gm, 2, none⟩ = some (.int .i64 a0_2) := (blk_cell BKgm.out 2).trans rfl; have hz179 : w173.cell? ⟨gm, 3, none⟩ = some (.slice A0_3 l0_3.length c0_3) := (blk_cell BKgm.out 3).trans rfl; have hf180 := blk_frozen BKgm.out 0; have hf181 := blk_frozen BKgm.out 1; have hf182 := blk_frozen BKgm.out 2; have hf183 := blk_frozen BKgm.out 3))
  go_ret2
  exact ⟨_, rfl, Kd.S_nil _ _ _ _ _, by exact qW HB.out⟩
 | true =>
  rw [if_pos rfl] at H
  have V := aM (isImage_true A0.out)
  have b_ := V.out
  obtain ⟨⟨v0, v0'⟩, ⟨v1, v1'⟩, ⟨v2, v2'⟩, hlen, hby⟩ := b_
  have HLN := aM hlen
  clear hlen hby
  obtain ⟨a, rfl⟩ := Int.eq_ofNat_of_zero_le (show 0 ≤ a0_0 by omega)
  obtain ⟨b, rfl⟩ := Int.eq_ofNat_of_zero_le (show 0 ≤ a0_1 by omega)
  rw [Int.toNat_natCast] at H
  have HH := aM H
  clear H
  go_enter Try.func42, Try.ntmps42
  go_wp2_with (first | ((with_reducible refine gate_dst (N := 1) rfl ?_); (try (refine gate_guard (by rfl) ?_; dsimp only)); refine bxE (N := 1) (cs := #[.int .i64 (a : Int), .int .i64 (b : Int), .int .i64 a0_2, .slice A0_3 l0_3.length c0_3]) (t := 48) ?_; intro gm hg w184 hbox hb; have n185 := bS HB hb; have n186 := aM hbox; have n187 := aM ((by rw [hg]; exact (below_size (qW HB.out))) : w.heap.size ≤ gm); clear HB; have HB := n185; have BKgm := n186; have GEgm := n187; clear n185 n186 n187; clear hb hbox hg; have hz188 : w184.cell? ⟨gm, 0, none⟩ = some (.int .i64 (a : Int)) := (blk_cell BKgm.out 0).trans rfl; have hz189 : w184.cell? ⟨gm, 1, none⟩ = some (.int .i64 (b : Int)) := (blk_cell BKgm.out 1).trans rfl; have hz190 : w184.cell? ⟨gm, 2, none⟩ = some (.int .i64 a0_2) := (blk_cell BKgm.out 2).trans rfl; have hz191 : w184.cell? ⟨gm, 3, none⟩ = some (.slice A0_3 l0_3.length c0_3) := (blk_cell BKgm.out 3).trans rfl; have hf192 := blk_frozen BKgm.out 0; have hf193 := blk_frozen BKgm.out 1; have hf194 := blk_frozen BKgm.out 2; have hf195 := blk_frozen BKgm.out 3) | (go_at_call 78; (with_reducible refine (impl_isImage.calls (a : Int) (b : Int) a0_2 _ _ l0_3 true _ ?side1 ?side2 A0.out).mono ?_); (case side1 => exact (Kd.C_below HR0.out (qW HB.out))); (case side2 => exact HC0.out); rintro e w196 ⟨rfl, hb⟩; have n197 := bB BKgm hb; have n198 := bS HB hb; clear HB BKgm; have BKgm := n197; have HB := n198; clear n197 n198 hb; have hz199 : w196.cell? ⟨gm, 0, none⟩ = some (.int .i64 (a : Int)) := (blk_cell BKgm.out 0).trans rfl; have hz200 : w196.cell? ⟨gm, 1, none⟩ = some (.int .i64 (b : Int)) := (blk_cell BKgm.out 1).trans rfl; have hz201 : w196.cell? ⟨gm, 2, none⟩ = some (.int .i64 a0_2) := (blk_cell BKgm.out 2).trans rfl; have hz202 : w196.cell? ⟨gm, 3, none⟩ = some (.slice A0_3 l0_3.length c0_3) := (blk_cell BKgm.out 3).trans rfl; have hf203 := blk_frozen BKgm.out 0; have hf204 := blk_frozen BKgm.out 1; have hf205 := blk_frozen BKgm.out 2; have hf206 := blk_frozen BKgm.out 3) | ((with_reducible refine gate_dst (N := 11) rfl ?_); refine Kd.S_lit (Kd.slice 3 (Kd.int .i64)) _ 28 ?hg (N := 11) ?hd (xs := ([] : List (List Int))) (inner := []) (ok := fun _ => True) (okp := fun _ => True) ?hr ?hp (fun _ hk => hk) trivial (Below.refl _ _) (Nat.le_refl _) (by simp) ?_; (case hd => rfl); (case hg => rfl); (case hr => first | (go_simp; done) | (go_simp; rfl)); (case hp => exact (Reps.none _ _)); intro vl w207 ho4 hb hg_ hnew_; clear hg_ hnew_; have r_ := aM (Kd.S_lower ho4 (below_size (qW HB.out))); have n208 := bB BKgm hb; have n209 := bS HB hb; clear HB BKgm; have BKgm := n208; have HB := n209; clear n208 n209 hb; have hz210 : w207.cell? ⟨gm, 0, none⟩ = some (.int .i64 (a : Int)) := (blk_cell BKgm.out 0).trans rfl; have hz211 : w207.cell? ⟨gm, 1, none⟩ = some (.int .i64 (b : Int)) := (blk_cell BKgm.out 1).trans rfl; have hz212 : w207.cell? ⟨gm, 2, none⟩ = some (.int .i64 a0_2) := (blk_cell BKgm.out 2).trans rfl; have hz213 : w207.cell? ⟨gm, 3, none⟩ = some (.slice A0_3 l0_3.length c0_3) := (blk_cell BKgm.out 3).trans rfl; have hf214 := blk_frozen BKgm.out 0; have hf215 := blk_frozen BKgm.out 1; have hf216 := blk_frozen BKgm.out 2; have hf217 := blk_frozen BKgm.out 3; have HO := r_; clear r_ ho4))
  go_loopg [4, 14] b (fun gg s4 s14 w' => ∃ (y : Nat) (u : Value), y ≤ b ∧ b - y ≤ gg ∧ s14 = .int .i64 y ∧ s4 = u ∧ Aside0 (Kd.S (Kd.slice 3 (Kd.int .i64)) 28 w' w.heap.size (fun _ => True) u (palAll l0_3 a a0_2 y)) ∧ Aside0 (w'.heap[gm]? = some (.cells #[.int .i64 (a : Int), .int .i64 (b : Int), .int .i64 a0_2, .slice A0_3 l0_3.length c0_3] 48 (0, 0))) ∧ Aside0 (Below w.heap.size w w'))
  case atStart => exact ⟨0, _, Nat.zero_le _, by omega, rfl, rfl, ⟨by (with_reducible repeat (first | apply Kd.S_alloc | apply Kd.S_drewN | apply Kd.S_drew)); exact HO.out⟩, ⟨by refine qB ?_; exact BKgm.out⟩, ⟨by exact qW HB.out⟩⟩
  case round =>
   clear HO HB BKgm
   obtain ⟨y, u, hy, hg, rfl, rfl, HO, BKgm, HB⟩ := hrel
   obtain ⟨wo, ewo⟩ : ∃ wo : World, wo = wr := ⟨_, rfl⟩
   subst ewo
   have hz218 : wo.cell? ⟨gm, 0, none⟩ = some (.int .i64 (a : Int)) := (blk_cell BKgm.out 0).trans rfl
   have hz219 : wo.cell? ⟨gm, 1, none⟩ = some (.int .i64 (b : Int)) := (blk_cell BKgm.out 1).trans rfl
   have hz220 : wo.cell? ⟨gm, 2, none⟩ = some (.int .i64 a0_2) := (blk_cell BKgm.out 2).trans rfl
   have hz221 : wo.cell? ⟨gm, 3, none⟩ = some (.slice A0_3 l0_3.length c0_3) := (blk_cell BKgm.out 3).trans rfl
   have hf222 := blk_frozen BKgm.out 0
   have hf223 := blk_frozen BKgm.out 1
   have hf224 := blk_frozen BKgm.out 2
   have hf225 := blk_frozen BKgm.out 3
   by_cases hlt : y < b
   case neg =>
    have hltz : ¬ (y : Int) < (b : Int) := by omega
    have ek : y = b := by omega
    subst ek
    obtain ⟨Au, cu, eu⟩ := Kd.S_slice HO.out
    subst eu
    have H := HH.out
    obtain ⟨xs, hxs⟩ : ∃ xs, palAll l0_3 a a0_2 y = xs := ⟨_, rfl⟩
    rw [hxs] at H HO
    rw [hxs]
    clear hxs
    by_cases k1 : 16 < xs.length
    ·rw [if_pos k1] at H
     simp only [Option.some.injEq, Prod.mk.injEq] at H
     obtain ⟨rfl, rfl⟩ := H
     have k1z : (16 : Int) < (xs.length : Int) := by omega
     go_wp2
     go_ret2
     exact ⟨_, rfl, Kd.S_nil _ _ _ _ _, by exact qW HB.out⟩
    rw [if_neg k1] at H
    simp only [Option.some.injEq, Prod.mk.injEq] at H
    obtain ⟨rfl, rfl⟩ := H
    have k1z : ¬ (16 : Int) < (xs.length : Int) := by omega
    go_wp2
    go_ret2
    exact ⟨_, rfl, by (with_reducible repeat (first | apply Kd.S_alloc | apply Kd.S_drewN | apply Kd.S_drew)); exact HO.out, by exact qW HB.out⟩
   case pos =>
    have hltz : (y : Int) < (b : Int) := by omega
    go_wp2
    go_loopg [4, 19] a (fun gg2 s4 s19 w' => ∃ (x : Nat) (u : Value), x ≤ a ∧ a - x ≤ gg2 ∧ s19 = .int .i64 x ∧ s4 = u ∧ Aside0 (Kd.S (Kd.slice 3 (Kd.int .i64)) 28 w' w.heap.size (fun _ => True) u (palRow l0_3 a a0_2 y (palAll l0_3 a a0_2 y) x)) ∧ Aside0 (w'.heap[gm]? = some (.cells #[.int .i64 (a : Int), .int .i64 (b : Int), .int .i64 a0_2, .slice A0_3 l0_3.length c0_3] 48 (0, 0))) ∧ Aside0 (Below w.heap.size w w'))
    case atStart => exact ⟨0, _, Nat.zero_le _, by omega, rfl, rfl, ⟨by (with_reducible repeat (first | apply Kd.S_alloc | apply Kd.S_drewN | apply Kd.S_drew)); exact HO.out⟩, ⟨by refine qB ?_; exact BKgm.out⟩, ⟨by exact qW HB.out⟩⟩
    case round =>
     clear HO HB BKgm
     obtain ⟨x, u, hx, hg2, rfl, rfl, HO, BKgm, HB⟩ := hrel
     have hz226 : wr.cell? ⟨gm, 0, none⟩ = some (.int .i64 (a : Int)) := (blk_cell BKgm.out 0).trans rfl
     have hz227 : wr.cell? ⟨gm, 1, none⟩ = some (.int .i64 (b : Int)) := (blk_cell BKgm.out 1).trans rfl
     have hz228 : wr.cell? ⟨gm, 2, none⟩ = some (.int .i64 a0_2) := (blk_cell BKgm.out 2).trans rfl
     have hz229 : wr.cell? ⟨gm, 3, none⟩ = some (.slice A0_3 l0_3.length c0_3) := (blk_cell BKgm.out 3).trans rfl
     have hf230 := blk_frozen BKgm.out 0
     have hf231 := blk_frozen BKgm.out 1
     have hf232 := blk_frozen BKgm.out 2
     have hf233 := blk_frozen BKgm.out 3
     by_cases hlx : x < a
     case neg =>
      have hlxz : ¬ (x : Int) < (a : Int) := by omega
      have ek : x = a := by omega
      subst ek
      go_wp2
      go_roundg (b - (y + 1))
      case measure => omega
      case rel => exact ⟨y + 1, _, by omega, by omega, by go_num, rfl, ⟨by rw [palAll, Int.toNat_natCast]; (with_reducible repeat (first | apply Kd.S_alloc | apply Kd.S_drewN | apply Kd.S_drew)); exact HO.out⟩, ⟨by refine qB ?_; exact BKgm.out⟩, ⟨by exact qW HB.out⟩⟩
     case pos =>
      have hlxz : (x : Int) < (a : Int) := by omega
      have hfit := pix_fits (a0 := a) (a1 := b) (a2 := a0_2) (x := x) (y := y) (by omega) (by omega) (by omega) (by omega) (by omega)
      rw [← HLN.out] at hfit
      have HCA := aM (fun (W' : World) (hb' : Below w.heap.size w W') => impl_at.calls2 a b a0_2 A0_3 c0_3 l0_3 x y W' (Kd.C_below HR0.out hb') HC0.out (by omega) v0' (by omega) (by omega) (by omega) (by omega) (by omega) (by omega) hfit)
      have hpl := pixOf_len l0_3 a a0_2 x y (by omega) (by omega)
      clear hfit
      obtain ⟨px, hpx⟩ : ∃ px : List Int, pixOf l0_3 a a0_2 x y = px := ⟨_, rfl⟩
      rw [hpx] at HCA hpl
      have HPL := aM hpl
      have EPX := aM hpx
      clear hpl hpx
      have HLM := aM (show (palRow l0_3 a a0_2 y (palAll l0_3 a a0_2 y) x).length ≤ 1000 by
       have h1 := palRow_len l0_3 a a0_2 y (palAll l0_3 a a0_2 y) x
       have h2 := palAll_len l0_3 a a0_2 y
       rw [Int.toNat_natCast] at h2
       have h3 : y * a ≤ 16 * 16 := Nat.mul_le_mul (by omega) (by omega)
       omega)
      obtain ⟨xs, hxs⟩ : ∃ xs : List (List Int), xs = palRow l0_3 a a0_2 y (palAll l0_3 a a0_2 y) x := ⟨_, rfl⟩
      rw [← hxs] at HO HLM
      have EXS := aM hxs
      clear hxs
      obtain ⟨Au, cu, eu⟩ := Kd.S_slice HO.out
      subst eu
      obtain ⟨bb, hbb⟩ : ∃ z : Bool, (xs.any fun z => decide (z = px)) = z := ⟨_, rfl⟩
      have HBB := aM hbb
      clear hbb
      cases bb with
      | true =>
       have HBT := HBB.out
       have CF : Aside0 (∀ W : World, True) := ⟨fun _ => trivial⟩
       clear HBT CF
       go_wp2_with (first | (go_at_call 79; refine (HCA.out _ (qW HB.out)).mono ?_; rintro e w234 ⟨A', c', rfl, hr', hl', hb, hall⟩; have r_ := aM (Kd.S_below (by (with_reducible repeat (first | apply Kd.S_alloc | apply Kd.S_drewN | apply Kd.S_drew)); exact HO.out) hb); clear HO; have HO := r_; clear r_; have HALL := aM hall; have HLC := aM hl'; clear hr' hall hl'; have n235 := bB BKgm hb; have n236 := bS HB hb; clear HB BKgm; have BKgm := n235; have HB := n236; clear n235 n236 hb; have hz237 : w234.cell? ⟨gm, 0, none⟩ = some (.int .i64 (a : Int)) := (blk_cell BKgm.out 0).trans rfl; have hz238 : w234.cell? ⟨gm, 1, none⟩ = some (.int .i64 (b : Int)) := (blk_cell BKgm.out 1).trans rfl; have hz239 : w234.cell? ⟨gm, 2, none⟩ = some (.int .i64 a0_2) := (blk_cell BKgm.out 2).trans rfl; have hz240 : w234.cell? ⟨gm, 3, none⟩ = some (.slice A0_3 l0_3.length c0_3) := (blk_cell BKgm.out 3).trans rfl; have hf241 := blk_frozen BKgm.out 0; have hf242 := blk_frozen BKgm.out 1; have hf243 := blk_frozen BKgm.out 2; have hf244 := blk_frozen BKgm.out 3) | ((with_reducible refine gate_dst (N := 7) rfl ?_); (try (refine gate_guard (by rfl) ?_; dsimp only)); refine bxE (N := 7) (cs := #[.slice none 0 0]) (t := 28) ?_; intro gp hg w245 hbox hb; have n246 := bB BKgm hb; have n247 := bS HB hb; have n248 := aM hbox; have n249 := aM ((by rw [hg]; exact (below_size (qW HB.out))) : w.heap.size ≤ gp); have n250 := aM ((by rw [hg]; exact Nat.ne_of_lt (blk_lt (g := gm) (o := .cells #[.int .i64 (a : Int), .int .i64 (b : Int), .int .i64 a0_2, .slice A0_3 l0_3.length c0_3] 48 (0, 0)) (qB BKgm.out))) : gm ≠ gp); have n251 := aM ((by rw [hg]; exact Nat.ne_of_gt (blk_lt (g := gm) (o := .cells #[.int .i64 (a : Int), .int .i64 (b : Int), .int .i64 a0_2, .slice A0_3 l0_3.length c0_3] 48 (0, 0)) (qB BKgm.out))) : gp ≠ gm); have r_ := aM (Kd.S_below (Kd.S_elderB (by (with_reducible repeat (first | apply Kd.S_alloc | apply Kd.S_drewN | apply Kd.S_drew)); exact HO.out) gp (Nat.le_of_eq hg.symm)) hb); clear HO; have HO := r_; clear r_; clear HB BKgm; have BKgm := n246; have HB := n247; have BKgp := n248; have GEgp := n249; have NBgm_gp := n250; have NBgp_gm := n251; clear n246 n247 n248 n249 n250 n251; clear hb hbox hg; have hz252 : w245.cell? ⟨gm, 0, none⟩ = some (.int .i64 (a : Int)) := (blk_cell BKgm.out 0).trans rfl; have hz253 : w245.cell? ⟨gm, 1, none⟩ = some (.int .i64 (b : Int)) := (blk_cell BKgm.out 1).trans rfl; have hz254 : w245.cell? ⟨gm, 2, none⟩ = some (.int .i64 a0_2) := (blk_cell BKgm.out 2).trans rfl; have hz255 : w245.cell? ⟨gm, 3, none⟩ = some (.slice A0_3 l0_3.length c0_3) := (blk_cell BKgm.out 3).trans rfl; have hf256 := blk_frozen BKgm.out 0; have hf257 := blk_frozen BKgm.out 1; have hf258 := blk_frozen BKgm.out 2; have hf259 := blk_frozen BKgm.out 3) | ((with_reducible refine gate_store (t := 28) (p := 7) rfl ?_); have hzs0_ : w245.cell? ⟨gp, 0, none⟩ = some (.slice none 0 0) := (blk_cell BKgp.out 0).trans rfl; have hfs0_ := blk_frozen BKgp.out 0; refine store_event (t := 28) (p := 7) (v := ?vo_w262) (w1 := (w245.setCell ⟨gp, 0, none⟩ (.slice A' px.length c'))) ?hg ?ho ?hn ?hr ?_; (case ho => rfl); (case hg => rfl); (case hn => rfl); (case hr => first | (go_simp; done) | (go_simp; rfl)); intro w262 hw; have r_ := aM (show Kd.S (Kd.slice 3 (Kd.int .i64)) 28 w262 w.heap.size (fun k_ => True ∧ k_ ≠ gp) (.slice Au xs.length cu) xs by rw [hw]; exact Kd.S_far (p := ⟨gp, 0, none⟩) HO.out (fun _ hk => hk.2) _); clear HO; have HO := r_; clear r_; have n263 := aM (show w262.heap[gm]? = some (.cells #[.int .i64 (a : Int), .int .i64 (b : Int), .int .i64 a0_2, .slice A0_3 l0_3.length c0_3] 48 (0, 0)) by rw [hw]; exact blk_far (BKgm.out) NBgm_gp.out _); have n264 := aM (show w262.heap[gp]? = some (.cells #[.slice A' px.length c'] 28 (0, 0)) by rw [hw]; refine blk_put (cs := #[.slice none 0 0]) ?_ 0 _ rfl; exact BKgp.out); have n265 := aM (show Below w.heap.size w w262 by rw [hw]; exact below_set (HB.out) GEgp.out); clear hzs0_ hfs0_; clear HB BKgm BKgp hw; have BKgm := n263; have BKgp := n264; have HB := n265; clear n263 n264 n265; have hz266 : w262.cell? ⟨gm, 0, none⟩ = some (.int .i64 (a : Int)) := (blk_cell BKgm.out 0).trans rfl; have hz267 : w262.cell? ⟨gm, 1, none⟩ = some (.int .i64 (b : Int)) := (blk_cell BKgm.out 1).trans rfl; have hz268 : w262.cell? ⟨gm, 2, none⟩ = some (.int .i64 a0_2) := (blk_cell BKgm.out 2).trans rfl; have hz269 : w262.cell? ⟨gm, 3, none⟩ = some (.slice A0_3 l0_3.length c0_3) := (blk_cell BKgm.out 3).trans rfl; have hf270 := blk_frozen BKgm.out 0; have hf271 := blk_frozen BKgm.out 1; have hf272 := blk_frozen BKgm.out 2; have hf273 := blk_frozen BKgm.out 3; have hz274 : w262.cell? ⟨gp, 0, none⟩ = some (.slice A' px.length c') := (blk_cell BKgp.out 0).trans rfl; have hf275 := blk_frozen BKgp.out 0) | (go_at_call 80; refine (containsFuncList.calls 81 #[.pointer (some ⟨gp, 0, none⟩)] (enters_of Try.func81 (by kernel_rfl) rfl) (fun z => decide (z = px)) _ _ xs _ (palTest _ gp A' c' px (qB BKgp.out) (HALL.out _ (Kd.C_below HR0.out (qW HB.out))) HLC.out (by have := HPL.out; omega)) (Kd.S_reads' (by (with_reducible repeat (first | apply Kd.S_alloc | apply Kd.S_drewN | apply Kd.S_drew)); exact HO.out)).2.2 (Kd.S_reads' HO.out).2.1).mono ?_; rw [HBB.out]; rintro e w' ⟨rfl, ⟨q, rfl⟩⟩))
       go_roundg (a - (x + 1))
       case measure => omega
       case rel => exact ⟨x + 1, _, by omega, by omega, by go_num, rfl, ⟨by rw [palRow, ← EXS.out, EPX.out, palAdd, if_pos HBB.out]; (with_reducible repeat (first | apply Kd.S_alloc | apply Kd.S_drewN | apply Kd.S_drew)); exact Kd.S_mono HO.out (fun _ _ => trivial)⟩, ⟨by refine qB ?_; exact BKgm.out⟩, ⟨by exact qW HB.out⟩⟩
      | false =>
       go_wp2_with (first | (go_at_call 79; refine (HCA.out _ (qW HB.out)).mono ?_; rintro e w234 ⟨A', c', rfl, hr', hl', hb, hall⟩; have r_ := aM (Kd.S_below (by (with_reducible repeat (first | apply Kd.S_alloc | apply Kd.S_drewN | apply Kd.S_drew)); exact HO.out) hb); clear HO; have HO := r_; clear r_; have HALL := aM hall; have HLC := aM hl'; clear hr' hall hl'; have n235 := bB BKgm hb; have n236 := bS HB hb; clear HB BKgm; have BKgm := n235; have HB := n236; clear n235 n236 hb; have hz237 : w234.cell? ⟨gm, 0, none⟩ = some (.int .i64 (a : Int)) := (blk_cell BKgm.out 0).trans rfl; have hz238 : w234.cell? ⟨gm, 1, none⟩ = some (.int .i64 (b : Int)) := (blk_cell BKgm.out 1).trans rfl; have hz239 : w234.cell? ⟨gm, 2, none⟩ = some (.int .i64 a0_2) := (blk_cell BKgm.out 2).trans rfl; have hz240 : w234.cell? ⟨gm, 3, none⟩ = some (.slice A0_3 l0_3.length c0_3) := (blk_cell BKgm.out 3).trans rfl; have hf241 := blk_frozen BKgm.out 0; have hf242 := blk_frozen BKgm.out 1; have hf243 := blk_frozen BKgm.out 2; have hf244 := blk_frozen BKgm.out 3) | ((with_reducible refine gate_dst (N := 7) rfl ?_); (try (refine gate_guard (by rfl) ?_; dsimp only)); refine bxE (N := 7) (cs := #[.slice none 0 0]) (t := 28) ?_; intro gp hg w245 hbox hb; have n246 := bB BKgm hb; have n247 := bS HB hb; have n248 := aM hbox; have n249 := aM ((by rw [hg]; exact (below_size (qW HB.out))) : w.heap.size ≤ gp); have n250 := aM ((by rw [hg]; exact Nat.ne_of_lt (blk_lt (g := gm) (o := .cells #[.int .i64 (a : Int), .int .i64 (b : Int), .int .i64 a0_2, .slice A0_3 l0_3.length c0_3] 48 (0, 0)) (qB BKgm.out))) : gm ≠ gp); have n251 := aM ((by rw [hg]; exact Nat.ne_of_gt (blk_lt (g := gm) (o := .cells #[.int .i64 (a : Int), .int .i64 (b : Int), .int .i64 a0_2, .slice A0_3 l0_3.length c0_3] 48 (0, 0)) (qB BKgm.out))) : gp ≠ gm); have r_ := aM (Kd.S_below (Kd.S_elderB (by (with_reducible repeat (first | apply Kd.S_alloc | apply Kd.S_drewN | apply Kd.S_drew)); exact HO.out) gp (Nat.le_of_eq hg.symm)) hb); clear HO; have HO := r_; clear r_; clear HB BKgm; have BKgm := n246; have HB := n247; have BKgp := n248; have GEgp := n249; have NBgm_gp := n250; have NBgp_gm := n251; clear n246 n247 n248 n249 n250 n251; clear hb hbox hg; have hz252 : w245.cell? ⟨gm, 0, none⟩ = some (.int .i64 (a : Int)) := (blk_cell BKgm.out 0).trans rfl; have hz253 : w245.cell? ⟨gm, 1, none⟩ = some (.int .i64 (b : Int)) := (blk_cell BKgm.out 1).trans rfl; have hz254 : w245.cell? ⟨gm, 2, none⟩ = some (.int .i64 a0_2) := (blk_cell BKgm.out 2).trans rfl; have hz255 : w245.cell? ⟨gm, 3, none⟩ = some (.slice A0_3 l0_3.length c0_3) := (blk_cell BKgm.out 3).trans rfl; have hf256 := blk_frozen BKgm.out 0; have hf257 := blk_frozen BKgm.out 1; have hf258 := blk_frozen BKgm.out 2; have hf259 := blk_frozen BKgm.out 3) | ((with_reducible refine gate_store (t := 28) (p := 7) rfl ?_); have hzs0_ : w245.cell? ⟨gp, 0, none⟩ = some (.slice none 0 0) := (blk_cell BKgp.out 0).trans rfl; have hfs0_ := blk_frozen BKgp.out 0; refine store_event (t := 28) (p := 7) (v := ?vo_w262) (w1 := (w245.setCell ⟨gp, 0, none⟩ (.slice A' px.length c'))) ?hg ?ho ?hn ?hr ?_; (case ho => rfl); (case hg => rfl); (case hn => rfl); (case hr => first | (go_simp; done) | (go_simp; rfl)); intro w262 hw; have r_ := aM (show Kd.S (Kd.slice 3 (Kd.int .i64)) 28 w262 w.heap.size (fun k_ => True ∧ k_ ≠ gp) (.slice Au xs.length cu) xs by rw [hw]; exact Kd.S_far (p := ⟨gp, 0, none⟩) HO.out (fun _ hk => hk.2) _); clear HO; have HO := r_; clear r_; have n263 := aM (show w262.heap[gm]? = some (.cells #[.int .i64 (a : Int), .int .i64 (b : Int), .int .i64 a0_2, .slice A0_3 l0_3.length c0_3] 48 (0, 0)) by rw [hw]; exact blk_far (BKgm.out) NBgm_gp.out _); have n264 := aM (show w262.heap[gp]? = some (.cells #[.slice A' px.length c'] 28 (0, 0)) by rw [hw]; refine blk_put (cs := #[.slice none 0 0]) ?_ 0 _ rfl; exact BKgp.out); have n265 := aM (show Below w.heap.size w w262 by rw [hw]; exact below_set (HB.out) GEgp.out); clear hzs0_ hfs0_; clear HB BKgm BKgp hw; have BKgm := n263; have BKgp := n264; have HB := n265; clear n263 n264 n265; have hz266 : w262.cell? ⟨gm, 0, none⟩ = some (.int .i64 (a : Int)) := (blk_cell BKgm.out 0).trans rfl; have hz267 : w262.cell? ⟨gm, 1, none⟩ = some (.int .i64 (b : Int)) := (blk_cell BKgm.out 1).trans rfl; have hz268 : w262.cell? ⟨gm, 2, none⟩ = some (.int .i64 a0_2) := (blk_cell BKgm.out 2).trans rfl; have hz269 : w262.cell? ⟨gm, 3, none⟩ = some (.slice A0_3 l0_3.length c0_3) := (blk_cell BKgm.out 3).trans rfl; have hf270 := blk_frozen BKgm.out 0; have hf271 := blk_frozen BKgm.out 1; have hf272 := blk_frozen BKgm.out 2; have hf273 := blk_frozen BKgm.out 3; have hz274 : w262.cell? ⟨gp, 0, none⟩ = some (.slice A' px.length c') := (blk_cell BKgp.out 0).trans rfl; have hf275 := blk_frozen BKgp.out 0) | (go_at_call 80; refine (containsFuncList.calls 81 #[.pointer (some ⟨gp, 0, none⟩)] (enters_of Try.func81 (by kernel_rfl) rfl) (fun z => decide (z = px)) _ _ xs _ (palTest _ gp A' c' px (qB BKgp.out) (HALL.out _ (Kd.C_below HR0.out (qW HB.out))) HLC.out (by have := HPL.out; omega)) (Kd.S_reads' (by (with_reducible repeat (first | apply Kd.S_alloc | apply Kd.S_drewN | apply Kd.S_drew)); exact HO.out)).2.2 (Kd.S_reads' HO.out).2.1).mono ?_; rw [HBB.out]; rintro e w' ⟨rfl, ⟨q, rfl⟩⟩) | ((with_reducible refine gate_dst (N := 31) rfl ?_); refine iL ([] : List Int) [] ?_; intro v31 w276 ho4 hb hg_ hnew_; clear hg_ hnew_; have BKs := BKgm; have HBs := HB; have HZ := aM (below_step (pw_below_drewN (Below.refl w262.heap.size w262) q) hb); have HR31 := aM ho4; clear ho4; have n279 := bB BKgm hb; have n280 := bB BKgp hb; have n281 := bS HB hb; clear HB BKgm BKgp; have BKgm := n279; have BKgp := n280; have HB := n281; clear n279 n280 n281 hb; have hz282 : w276.cell? ⟨gm, 0, none⟩ = some (.int .i64 (a : Int)) := (blk_cell BKgm.out 0).trans rfl; have hz283 : w276.cell? ⟨gm, 1, none⟩ = some (.int .i64 (b : Int)) := (blk_cell BKgm.out 1).trans rfl; have hz284 : w276.cell? ⟨gm, 2, none⟩ = some (.int .i64 a0_2) := (blk_cell BKgm.out 2).trans rfl; have hz285 : w276.cell? ⟨gm, 3, none⟩ = some (.slice A0_3 l0_3.length c0_3) := (blk_cell BKgm.out 3).trans rfl; have hf286 := blk_frozen BKgm.out 0; have hf287 := blk_frozen BKgm.out 1; have hf288 := blk_frozen BKgm.out 2; have hf289 := blk_frozen BKgm.out 3; have hz290 : w276.cell? ⟨gp, 0, none⟩ = some (.slice A' px.length c') := (blk_cell BKgp.out 0).trans rfl; have hf291 := blk_frozen BKgp.out 0) | ((with_reducible refine gate_builtin (b := .append) (xs := #[.tmp 31, .tmp 32]) rfl ?_); at_builtin; refine Kd.R_append_rows (Kd.int .i64) (w0 := w262) w262.heap.size rfl (.tmp 31) (.tmp 32) 28 3 (.int .i64 0) 8 rfl Try.underlying28 info3 rfl (by decide) (by omega) v31 [] px _ _ _ (fun _ => True) (fun _ => False) rfl rfl ?aO ?aR (fun _ _ h => h) (fun _ h => h.elim) ?aF ?aB ?aS ?aL ?_; (case aR => exact (HALL.out _ (Kd.C_below HR0.out (qW HB.out)))); (case aB => exact HZ.out); (case aF => exact (fun _ _ => trivial)); (case aO => exact HR31.out); (case aS => exact HZ.out.size); (case aL => have := HPL.out; simp only [List.length_nil]; omega); intro v33 w277 ho hb hg hat; rw [List.nil_append] at ho; have m1_ := aM (Kd.S_elder' HO.out (Kd.R_base ho) hb); have m2_ := aM (blk_below BKs.out hb); have m3_ := aM (below_step HBs.out hb); have m4_ := aM (Kd.R_lower ho HBs.out.size); clear HO BKgm BKgp HB BKs HBs HZ HR31; have HO := m1_; have BKgm := m2_; have HB := m3_; have HV := m4_; clear m1_ m2_ m3_ m4_ ho hb hg hat; obtain ⟨A33, c33, rfl⟩ := sL HV) | ((with_reducible refine gate_builtin (b := .append) (xs := #[.tmp 30, .tmp 34]) rfl ?_); at_builtin; refine Kd.S_append (Kd.slice 3 (Kd.int .i64)) (w0 := w) w.heap.size rfl (.tmp 30) (.tmp 34) 37 28 (.slice none 0 0) 24 rfl Try.underlying37 (show (Try.prog.info? 28).map (fun i => (i.zero, i.size, i.bytes)) = some (some (.slice none 0 0), 1, 24) from by kernel_rfl) rfl (by decide) (by omega) (.slice Au xs.length cu) xs px [.slice A33 px.length c33] (fun _ => True) (fun k_ => some k_ = (.slice A33 px.length c33 : Value).ownBlock) rfl rfl ?aP (fun k_ hk_ => (Kd.R_mono (ok' := fun k_ => True ∧ some k_ ≠ (.slice Au xs.length cu : Value).ownBlock) (Kd.R_apart' (HV.out) (Kd.S_typed HO.out) (by decide)) (fun k_ hk => ⟨trivial, hk.2⟩)).1 k_ hk_.symm) ?aF ?aO ?aB ?aS ?aL ?_; (case aP => exact Kd.M_row (Kd.R_mono (Kd.R_tight rfl (Kd.R_mono (ok' := fun k_ => True ∧ some k_ ≠ (.slice Au xs.length cu : Value).ownBlock) (Kd.R_apart' (HV.out) (Kd.S_typed HO.out) (by decide)) (fun k_ hk => ⟨trivial, hk.2⟩))) (fun _ h_ => h_))); (case aB => exact HB.out); (case aF => exact (fun _ _ => trivial)); (case aO => exact Kd.S_mono HO.out (fun k_ hk => ⟨trivial, fun e_ => hk.2 e_⟩)); (case aS => exact HB.out.size); (case aL => have := HLM.out; omega); intro v35 w278 ho hb hg hat; have m1_ := aM (blk_grown BKgm.out hg (Kd.S_ne HO.out BKgm.out (by decide))); have m2_ := aM ho; have m3_ := aM hb; clear HO BKgm HB HV; have HO := m2_; have BKgm := m1_; have HB := m3_; clear m1_ m2_ m3_ ho hb hg hat))
       go_roundg (a - (x + 1))
       case measure => omega
       case rel => exact ⟨x + 1, _, by omega, by omega, by go_num, rfl, ⟨by rw [palRow, ← EXS.out, EPX.out, palAdd, if_neg (by rw [HBB.out]; decide)]; (with_reducible repeat (first | apply Kd.S_alloc | apply Kd.S_drewN | apply Kd.S_drew)); exact HO.out⟩, ⟨by refine qB ?_; exact BKgm.out⟩, ⟨by exact qW HB.out⟩⟩
def impl_PixelAt.f (a0_0 : Int) (a0_1 : Int) (a0_2 : Int) (l0_3 : List Int) (a1 : Int) (a2 : Int) : Option (List Int) := (impl_isImage.f a0_0 a0_1 a0_2 l0_3).bind fun t0 => (if t0 = true then (if (0 ≤ a1 ∧ a1 < a0_0) ∧ (0 ≤ a2 ∧ a2 < a0_1) then some (pixOf l0_3 a0_0 a0_2 a1 a2) else some ([] : List Int)) else some ([] : List Int))
set_option maxHeartbeats 8000000 in
set_option maxRecDepth 100000 in
theorem impl_PixelAt.calls (a0_0 : Int) (a0_1 : Int) (a0_2 : Int) (A0_3 : Option Addr) (c0_3 : Nat) (l0_3 : List Int) (a1 : Int) (a2 : Int) (r : List Int) (w : World) (hr0_3 : Kd.C (Kd.int .i64) w A0_3 l0_3.length l0_3) (hc0_3 : l0_3.length ≤ c0_3) (h : impl_PixelAt.f a0_0 a0_1 a0_2 l0_3 a1 a2 = some r) :
  Calls Try.prog 43 #[.agg #[.int .i64 a0_0, .int .i64 a0_1, .int .i64 a0_2, .slice A0_3 l0_3.length c0_3], .int .i64 a1, .int .i64 a2] w fun e w' => ∃ v0_ : Value, e = .returned (v0_) ∧ Kd.R (Kd.int .i64) 3 w' w.heap.size (fun _ => True) v0_ r ∧ Below w.heap.size w w' := by
 have HR0 := aM hr0_3
 have HC0 := aM hc0_3
 clear hr0_3 hc0_3
 have HB := aM (Below.refl w.heap.size w)
 unfold impl_PixelAt.f at h
 obtain ⟨t0, q0, H⟩ := Option.bind_eq_some_iff.mp h
 clear h
 have A0 := aM q0
 clear q0
 cases t0 with
 | false =>
  rw [if_neg (show ¬ (false = true) by decide)] at H
  obtain rfl := Option.some.inj H
  go_enter Try.func43, Try.ntmps43
  go_wp2_with (first | ((with_reducible refine gate_dst (N := 3) rfl ?_); (try (refine gate_guard (by rfl) ?_; dsimp only)); refine bxE (N := 3) (cs := #[.int .i64 a0_0, .int .i64 a0_1, .int .i64 a0_2, .slice A0_3 l0_3.length c0_3]) (t := 48) ?_; intro gm hg w1 hbox hb; have n2 := bS HB hb; have n3 := aM hbox; have n4 := aM ((by rw [hg]; exact (below_size (qW HB.out))) : w.heap.size ≤ gm); clear HB; have HB := n2; have BKgm := n3; have GEgm := n4; clear n2 n3 n4; clear hb hbox hg; have hz5 : w1.cell? ⟨gm, 0, none⟩ = some (.int .i64 a0_0) := (blk_cell BKgm.out 0).trans rfl; have hz6 : w1.cell? ⟨gm, 1, none⟩ = some (.int .i64 a0_1) := (blk_cell BKgm.out 1).trans rfl; have hz7 : w1.cell? ⟨gm, 2, none⟩ = some (.int .i64 a0_2) := (blk_cell BKgm.out 2).trans rfl; have hz8 : w1.cell? ⟨gm, 3, none⟩ = some (.slice A0_3 l0_3.length c0_3) := (blk_cell BKgm.out 3).trans rfl; have hf9 := blk_frozen BKgm.out 0; have hf10 := blk_frozen BKgm.out 1; have hf11 := blk_frozen BKgm.out 2; have hf12 := blk_frozen BKgm.out 3) | (go_at_call 78; (with_reducible refine (impl_isImage.calls a0_0 a0_1 a0_2 _ _ l0_3 false _ ?side1 ?side2 A0.out).mono ?_); (case side1 => exact (Kd.C_below HR0.out (qW HB.out))); (case side2 => exact HC0.out); rintro e w13 ⟨rfl, hb⟩; have n14 := bB BKgm hb; have n15 := bS HB hb; clear HB BKgm; have BKgm := n14; have HB := n15; clear n14 n15 hb; have hz16 : w13.cell? ⟨gm, 0, none⟩ = some (.int .i64 a0_0) := (blk_cell BKgm.out 0).trans rfl; have hz17 : w13.cell? ⟨gm, 1, none⟩ = some (.int .i64 a0_1) := (blk_cell BKgm.out 1).trans rfl; have hz18 : w13.cell? ⟨gm, 2, none⟩ = some (.int .i64 a0_2) := (blk_cell BKgm.out 2).trans rfl; have hz19 : w13.cell? ⟨gm, 3, none⟩ = some (.slice A0_3 l0_3.length c0_3) := (blk_cell BKgm.out 3).trans rfl; have hf20 := blk_frozen BKgm.out 0; have hf21 := blk_frozen BKgm.out 1; have hf22 := blk_frozen BKgm.out 2; have hf23 := blk_frozen BKgm.out 3))
  go_ret
  exact ⟨_, rfl, Kd.R_nil _ _ _ _ _, by exact qW HB.out⟩
 | true =>
  rw [if_pos rfl] at H
  have V := aM (isImage_true A0.out)
  by_cases k1 : 0 ≤ a1
  case neg =>
   rw [if_neg (by omega)] at H
   obtain rfl := Option.some.inj H
   go_enter Try.func43, Try.ntmps43
   go_wp2_with (first | ((with_reducible refine gate_dst (N := 3) rfl ?_); (try (refine gate_guard (by rfl) ?_; dsimp only)); refine bxE (N := 3) (cs := #[.int .i64 a0_0, .int .i64 a0_1, .int .i64 a0_2, .slice A0_3 l0_3.length c0_3]) (t := 48) ?_; intro gm hg w24 hbox hb; have n25 := bS HB hb; have n26 := aM hbox; have n27 := aM ((by rw [hg]; exact (below_size (qW HB.out))) : w.heap.size ≤ gm); clear HB; have HB := n25; have BKgm := n26; have GEgm := n27; clear n25 n26 n27; clear hb hbox hg; have hz28 : w24.cell? ⟨gm, 0, none⟩ = some (.int .i64 a0_0) := (blk_cell BKgm.out 0).trans rfl; have hz29 : w24.cell? ⟨gm, 1, none⟩ = some (.int .i64 a0_1) := (blk_cell BKgm.out 1).trans rfl; have hz30 : w24.cell? ⟨gm, 2, none⟩ = some (.int .i64 a0_2) := (blk_cell BKgm.out 2).trans rfl; have hz31 : w24.cell? ⟨gm, 3, none⟩ = some (.slice A0_3 l0_3.length c0_3) := (blk_cell BKgm.out 3).trans rfl; have hf32 := blk_frozen BKgm.out 0; have hf33 := blk_frozen BKgm.out 1; have hf34 := blk_frozen BKgm.out 2; have hf35 := blk_frozen BKgm.out 3) | (go_at_call 78; (with_reducible refine (impl_isImage.calls a0_0 a0_1 a0_2 _ _ l0_3 true _ ?side1 ?side2 A0.out).mono ?_); (case side1 => exact (Kd.C_below HR0.out (qW HB.out))); (case side2 => exact HC0.out); rintro e w36 ⟨rfl, hb⟩; have n37 := bB BKgm hb; have n38 := bS HB hb; clear HB BKgm; have BKgm := n37; have HB := n38; clear n37 n38 hb; have hz39 : w36.cell? ⟨gm, 0, none⟩ = some (.int .i64 a0_0) := (blk_cell BKgm.out 0).trans rfl; have hz40 : w36.cell? ⟨gm, 1, none⟩ = some (.int .i64 a0_1) := (blk_cell BKgm.out 1).trans rfl; have hz41 : w36.cell? ⟨gm, 2, none⟩ = some (.int .i64 a0_2) := (blk_cell BKgm.out 2).trans rfl; have hz42 : w36.cell? ⟨gm, 3, none⟩ = some (.slice A0_3 l0_3.length c0_3) := (blk_cell BKgm.out 3).trans rfl; have hf43 := blk_frozen BKgm.out 0; have hf44 := blk_frozen BKgm.out 1; have hf45 := blk_frozen BKgm.out 2; have hf46 := blk_frozen BKgm.out 3))
   go_ret
   exact ⟨_, rfl, Kd.R_nil _ _ _ _ _, by exact qW HB.out⟩
  by_cases k2 : a1 < a0_0
  case neg =>
   have k2b : a0_0 ≤ a1 := by omega
   rw [if_neg (by omega)] at H
   obtain rfl := Option.some.inj H
   go_enter Try.func43, Try.ntmps43
   go_wp2_with (first | ((with_reducible refine gate_dst (N := 3) rfl ?_); (try (refine gate_guard (by rfl) ?_; dsimp only)); refine bxE (N := 3) (cs := #[.int .i64 a0_0, .int .i64 a0_1, .int .i64 a0_2, .slice A0_3 l0_3.length c0_3]) (t := 48) ?_; intro gm hg w47 hbox hb; have n48 := bS HB hb; have n49 := aM hbox; have n50 := aM ((by rw [hg]; exact (below_size (qW HB.out))) : w.heap.size ≤ gm); clear HB; have HB := n48; have BKgm := n49; have GEgm := n50; clear n48 n49 n50; clear hb hbox hg; have hz51 : w47.cell? ⟨gm, 0, none⟩ = some (.int .i64 a0_0) := (blk_cell BKgm.out 0).trans rfl; have hz52 : w47.cell? ⟨gm, 1, none⟩ = some (.int .i64 a0_1) := (blk_cell BKgm.out 1).trans rfl; have hz53 : w47.cell? ⟨gm, 2, none⟩ = some (.int .i64 a0_2) := (blk_cell BKgm.out 2).trans rfl; have hz54 : w47.cell? ⟨gm, 3, none⟩ = some (.slice A0_3 l0_3.length c0_3) := (blk_cell BKgm.out 3).trans rfl; have hf55 := blk_frozen BKgm.out 0; have hf56 := blk_frozen BKgm.out 1; have hf57 := blk_frozen BKgm.out 2; have hf58 := blk_frozen BKgm.out 3) | (go_at_call 78; (with_reducible refine (impl_isImage.calls a0_0 a0_1 a0_2 _ _ l0_3 true _ ?side1 ?side2 A0.out).mono ?_); (case side1 => exact (Kd.C_below HR0.out (qW HB.out))); (case side2 => exact HC0.out); rintro e w59 ⟨rfl, hb⟩; have n60 := bB BKgm hb; have n61 := bS HB hb; clear HB BKgm; have BKgm := n60; have HB := n61; clear n60 n61 hb; have hz62 : w59.cell? ⟨gm, 0, none⟩ = some (.int .i64 a0_0) := (blk_cell BKgm.out 0).trans rfl; have hz63 : w59.cell? ⟨gm, 1, none⟩ = some (.int .i64 a0_1) := (blk_cell BKgm.out 1).trans rfl; have hz64 : w59.cell? ⟨gm, 2, none⟩ = some (.int .i64 a0_2) := (blk_cell BKgm.out 2).trans rfl; have hz65 : w59.cell? ⟨gm, 3, none⟩ = some (.slice A0_3 l0_3.length c0_3) := (blk_cell BKgm.out 3).trans rfl; have hf66 := blk_frozen BKgm.out 0; have hf67 := blk_frozen BKgm.out 1; have hf68 := blk_frozen BKgm.out 2; have hf69 := blk_frozen BKgm.out 3))
   go_ret
   exact ⟨_, rfl, Kd.R_nil _ _ _ _ _, by exact qW HB.out⟩
  by_cases k3 : 0 ≤ a2
  case neg =>
   rw [if_neg (by omega)] at H
   obtain rfl := Option.some.inj H
   go_enter Try.func43, Try.ntmps43
   go_wp2_with (first | ((with_reducible refine gate_dst (N := 3) rfl ?_); (try (refine gate_guard (by rfl) ?_; dsimp only)); refine bxE (N := 3) (cs := #[.int .i64 a0_0, .int .i64 a0_1, .int .i64 a0_2, .slice A0_3 l0_3.length c0_3]) (t := 48) ?_; intro gm hg w70 hbox hb; have n71 := bS HB hb; have n72 := aM hbox; have n73 := aM ((by rw [hg]; exact (below_size (qW HB.out))) : w.heap.size ≤ gm); clear HB; have HB := n71; have BKgm := n72; have GEgm := n73; clear n71 n72 n73; clear hb hbox hg; have hz74 : w70.cell? ⟨gm, 0, none⟩ = some (.int .i64 a0_0) := (blk_cell BKgm.out 0).trans rfl; have hz75 : w70.cell? ⟨gm, 1, none⟩ = some (.int .i64 a0_1) := (blk_cell BKgm.out 1).trans rfl; have hz76 : w70.cell? ⟨gm, 2, none⟩ = some (.int .i64 a0_2) := (blk_cell BKgm.out 2).trans rfl; have hz77 : w70.cell? ⟨gm, 3, none⟩ = some (.slice A0_3 l0_3.length c0_3) := (blk_cell BKgm.out 3).trans rfl; have hf78 := blk_frozen BKgm.out 0; have hf79 := blk_frozen BKgm.out 1; have hf80 := blk_frozen BKgm.out 2; have hf81 := blk_frozen BKgm.out 3) | (go_at_call 78; (with_reducible refine (impl_isImage.calls a0_0 a0_1 a0_2 _ _ l0_3 true _ ?side1 ?side2 A0.out).mono ?_); (case side1 => exact (Kd.C_below HR0.out (qW HB.out))); (case side2 => exact HC0.out); rintro e w82 ⟨rfl, hb⟩; have n83 := bB BKgm hb; have n84 := bS HB hb; clear HB BKgm; have BKgm := n83; have HB := n84; clear n83 n84 hb; have hz85 : w82.cell? ⟨gm, 0, none⟩ = some (.int .i64 a0_0) := (blk_cell BKgm.out 0).trans rfl; have hz86 : w82.cell? ⟨gm, 1, none⟩ = some (.int .i64 a0_1) := (blk_cell BKgm.out 1).trans rfl; have hz87 : w82.cell? ⟨gm, 2, none⟩ = some (.int .i64 a0_2) := (blk_cell BKgm.out 2).trans rfl; have hz88 : w82.cell? ⟨gm, 3, none⟩ = some (.slice A0_3 l0_3.length c0_3) := (blk_cell BKgm.out 3).trans rfl; have hf89 := blk_frozen BKgm.out 0; have hf90 := blk_frozen BKgm.out 1; have hf91 := blk_frozen BKgm.out 2; have hf92 := blk_frozen BKgm.out 3))
   go_ret
   exact ⟨_, rfl, Kd.R_nil _ _ _ _ _, by exact qW HB.out⟩
  by_cases k4 : a2 < a0_1
  case neg =>
   have k4b : a0_1 ≤ a2 := by omega
   rw [if_neg (by omega)] at H
   obtain rfl := Option.some.inj H
   go_enter Try.func43, Try.ntmps43
   go_wp2_with (first | ((with_reducible refine gate_dst (N := 3) rfl ?_); (try (refine gate_guard (by rfl) ?_; dsimp only)); refine bxE (N := 3) (cs := #[.int .i64 a0_0, .int .i64 a0_1, .int .i64 a0_2, .slice A0_3 l0_3.length c0_3]) (t := 48) ?_; intro gm hg w93 hbox hb; have n94 := bS HB hb; have n95 := aM hbox; have n96 := aM ((by rw [hg]; exact (below_size (qW HB.out))) : w.heap.size ≤ gm); clear HB; have HB := n94; have BKgm := n95; have GEgm := n96; clear n94 n95 n96; clear hb hbox hg; have hz97 : w93.cell? ⟨gm, 0, none⟩ = some (.int .i64 a0_0) := (blk_cell BKgm.out 0).trans rfl; have hz98 : w93.cell? ⟨gm, 1, none⟩ = some (.int .i64 a0_1) := (blk_cell BKgm.out 1).trans rfl; have hz99 : w93.cell? ⟨gm, 2, none⟩ = some (.int .i64 a0_2) := (blk_cell BKgm.out 2).trans rfl; have hz100 : w93.cell? ⟨gm, 3, none⟩ = some (.slice A0_3 l0_3.length c0_3) := (blk_cell BKgm.out 3).trans rfl; have hf101 := blk_frozen BKgm.out 0; have hf102 := blk_frozen BKgm.out 1; have hf103 := blk_frozen BKgm.out 2; have hf104 := blk_frozen BKgm.out 3) | (go_at_call 78; (with_reducible refine (impl_isImage.calls a0_0 a0_1 a0_2 _ _ l0_3 true _ ?side1 ?side2 A0.out).mono ?_); (case side1 => exact (Kd.C_below HR0.out (qW HB.out))); (case side2 => exact HC0.out); rintro e w105 ⟨rfl, hb⟩; have n106 := bB BKgm hb; have n107 := bS HB hb; clear HB BKgm; have BKgm := n106; have HB := n107; clear n106 n107 hb; have hz108 : w105.cell? ⟨gm, 0, none⟩ = some (.int .i64 a0_0) := (blk_cell BKgm.out 0).trans rfl; have hz109 : w105.cell? ⟨gm, 1, none⟩ = some (.int .i64 a0_1) := (blk_cell BKgm.out 1).trans rfl; have hz110 : w105.cell? ⟨gm, 2, none⟩ = some (.int .i64 a0_2) := (blk_cell BKgm.out 2).trans rfl; have hz111 : w105.cell? ⟨gm, 3, none⟩ = some (.slice A0_3 l0_3.length c0_3) := (blk_cell BKgm.out 3).trans rfl; have hf112 := blk_frozen BKgm.out 0; have hf113 := blk_frozen BKgm.out 1; have hf114 := blk_frozen BKgm.out 2; have hf115 := blk_frozen BKgm.out 3))
   go_ret
   exact ⟨_, rfl, Kd.R_nil _ _ _ _ _, by exact qW HB.out⟩
  rw [if_pos ⟨⟨k1, k2⟩, ⟨k3, k4⟩⟩] at H
  obtain rfl := Option.some.inj H
  have b_ := V.out
  obtain ⟨⟨v0, v0'⟩, ⟨v1, v1'⟩, ⟨v2, v2'⟩, hlen, hby⟩ := b_
  have hfit := pix_fits (a0 := a0_0) (a1 := a0_1) (a2 := a0_2) (x := a1) (y := a2) (by omega) (by omega) (by omega) (by omega) (by omega)
  rw [← hlen] at hfit
  have HCA := aM (fun (W' : World) (hb' : Below w.heap.size w W') => impl_at.calls a0_0 a0_1 a0_2 A0_3 c0_3 l0_3 a1 a2 W' (Kd.C_below HR0.out hb') HC0.out (by omega) v0' (by omega) (by omega) (by omega) (by omega) (by omega) (by omega) hfit)
  have hpl := pixOf_len l0_3 a0_0 a0_2 a1 a2 (by omega) (by omega)
  clear hfit hlen hby
  generalize pixOf l0_3 a0_0 a0_2 a1 a2 = px at HCA hpl ⊢
  have HPL := aM hpl
  clear hpl
  go_enter Try.func43, Try.ntmps43
  go_wp2_with (first | ((with_reducible refine gate_dst (N := 3) rfl ?_); (try (refine gate_guard (by rfl) ?_; dsimp only)); refine bxE (N := 3) (cs := #[.int .i64 a0_0, .int .i64 a0_1, .int .i64 a0_2, .slice A0_3 l0_3.length c0_3]) (t := 48) ?_; intro gm hg w116 hbox hb; have n117 := bS HB hb; have n118 := aM hbox; have n119 := aM ((by rw [hg]; exact (below_size (qW HB.out))) : w.heap.size ≤ gm); clear HB; have HB := n117; have BKgm := n118; have GEgm := n119; clear n117 n118 n119; clear hb hbox hg; have hz120 : w116.cell? ⟨gm, 0, none⟩ = some (.int .i64 a0_0) := (blk_cell BKgm.out 0).trans rfl; have hz121 : w116.cell? ⟨gm, 1, none⟩ = some (.int .i64 a0_1) := (blk_cell BKgm.out 1).trans rfl; have hz122 : w116.cell? ⟨gm, 2, none⟩ = some (.int .i64 a0_2) := (blk_cell BKgm.out 2).trans rfl; have hz123 : w116.cell? ⟨gm, 3, none⟩ = some (.slice A0_3 l0_3.length c0_3) := (blk_cell BKgm.out 3).trans rfl; have hf124 := blk_frozen BKgm.out 0; have hf125 := blk_frozen BKgm.out 1; have hf126 := blk_frozen BKgm.out 2; have hf127 := blk_frozen BKgm.out 3) | (go_at_call 78; (with_reducible refine (impl_isImage.calls a0_0 a0_1 a0_2 _ _ l0_3 true _ ?side1 ?side2 A0.out).mono ?_); (case side1 => exact (Kd.C_below HR0.out (qW HB.out))); (case side2 => exact HC0.out); rintro e w128 ⟨rfl, hb⟩; have n129 := bB BKgm hb; have n130 := bS HB hb; clear HB BKgm; have BKgm := n129; have HB := n130; clear n129 n130 hb; have hz131 : w128.cell? ⟨gm, 0, none⟩ = some (.int .i64 a0_0) := (blk_cell BKgm.out 0).trans rfl; have hz132 : w128.cell? ⟨gm, 1, none⟩ = some (.int .i64 a0_1) := (blk_cell BKgm.out 1).trans rfl; have hz133 : w128.cell? ⟨gm, 2, none⟩ = some (.int .i64 a0_2) := (blk_cell BKgm.out 2).trans rfl; have hz134 : w128.cell? ⟨gm, 3, none⟩ = some (.slice A0_3 l0_3.length c0_3) := (blk_cell BKgm.out 3).trans rfl; have hf135 := blk_frozen BKgm.out 0; have hf136 := blk_frozen BKgm.out 1; have hf137 := blk_frozen BKgm.out 2; have hf138 := blk_frozen BKgm.out 3) | ((with_reducible refine gate_dst (N := 30) rfl ?_); refine Kd.R_lit (Kd.int .i64) _ 3 ?hg (N := 30) ?hd (xs := ([] : List (Int))) (inner := []) (ok := fun _ => True) (okp := fun _ => True) ?hr ?hp (fun _ hk => hk) trivial (Below.refl _ _) (Nat.le_refl _) (by simp) ?_; (case hd => rfl); (case hg => rfl); (case hr => first | (go_simp; done) | (go_simp; rfl)); (case hp => exact (Reps.none _ _)); intro vl w139 ho4 hb hg_ hnew_; clear hg_ hnew_; have r_ := oR ho4 HB; have n140 := bB BKgm hb; have n141 := bS HB hb; clear HB BKgm; have BKgm := n140; have HB := n141; clear n140 n141 hb; have hz142 : w139.cell? ⟨gm, 0, none⟩ = some (.int .i64 a0_0) := (blk_cell BKgm.out 0).trans rfl; have hz143 : w139.cell? ⟨gm, 1, none⟩ = some (.int .i64 a0_1) := (blk_cell BKgm.out 1).trans rfl; have hz144 : w139.cell? ⟨gm, 2, none⟩ = some (.int .i64 a0_2) := (blk_cell BKgm.out 2).trans rfl; have hz145 : w139.cell? ⟨gm, 3, none⟩ = some (.slice A0_3 l0_3.length c0_3) := (blk_cell BKgm.out 3).trans rfl; have hf146 := blk_frozen BKgm.out 0; have hf147 := blk_frozen BKgm.out 1; have hf148 := blk_frozen BKgm.out 2; have hf149 := blk_frozen BKgm.out 3; have HO := r_; clear r_ ho4) | (go_at_call 79; refine (HCA.out _ (qW HB.out)).mono ?_; rintro e w150 ⟨A', c', rfl, hr', hl', hb⟩; have r_ := aM (Kd.R_below (qR HO.out) hb); clear HO; have HO := r_; clear r_; have HPR := aM hr'; clear hr'; have n151 := bB BKgm hb; have n152 := bS HB hb; clear HB BKgm; have BKgm := n151; have HB := n152; clear n151 n152 hb; have hz153 : w150.cell? ⟨gm, 0, none⟩ = some (.int .i64 a0_0) := (blk_cell BKgm.out 0).trans rfl; have hz154 : w150.cell? ⟨gm, 1, none⟩ = some (.int .i64 a0_1) := (blk_cell BKgm.out 1).trans rfl; have hz155 : w150.cell? ⟨gm, 2, none⟩ = some (.int .i64 a0_2) := (blk_cell BKgm.out 2).trans rfl; have hz156 : w150.cell? ⟨gm, 3, none⟩ = some (.slice A0_3 l0_3.length c0_3) := (blk_cell BKgm.out 3).trans rfl; have hf157 := blk_frozen BKgm.out 0; have hf158 := blk_frozen BKgm.out 1; have hf159 := blk_frozen BKgm.out 2; have hf160 := blk_frozen BKgm.out 3) | ((with_reducible refine gate_builtin (b := .append) (xs := #[.tmp 30, .tmp 34]) rfl ?_); at_builtin; refine Kd.R_append_rows (Kd.int .i64) (w0 := w) w.heap.size rfl (.tmp 30) (.tmp 34) 28 3 (.int .i64 0) 8 rfl Try.underlying28 info3 rfl (by decide) (by omega) vl [] px _ _ _ (fun _ => True) (fun _ => False) rfl rfl ?aO ?aR (fun _ _ h => h) (fun _ h => h.elim) ?aF ?aB ?aS ?aL ?_; (case aR => exact HPR.out); (case aB => exact (qW HB.out)); (case aF => exact (fun _ _ => trivial)); (case aO => exact HO.out); (case aS => exact (below_size (qW HB.out))); (case aL => have := HPL.out; simp only [List.length_nil]; omega); intro v311 w5 ho hb hg hat; rw [List.nil_append] at ho; replace HB := aM (hb); replace HO := aM (ho); clear ho hb hg hat))
  go_ret
  exact ⟨_, rfl, by refine qR ?_; exact HO.out, by exact qW HB.out⟩
def IsS71 (w0 W : World) (g : Nat) (f0 : List Int) (f1 : Int) : Prop := ∃ A0 c0, W.heap[g]? = some (.cells #[.slice A0 f0.length c0, .int .i64 f1] 71 (0, 0)) ∧ w0.heap.size ≤ g ∧ Kd.C (Kd.int .u8) w0 A0 f0.length f0
theorem IsS71.grown {w0 W : World} {g : Nat} {f0 : List Int} {f1 : Int} {W1 : World} {row : Option Nat} (h : IsS71 w0 W g f0 f1) (hw : W.grownBy W1 row) (hne : some g ≠ row) : IsS71 w0 W1 g f0 f1 := by
 obtain ⟨A0, c0, hb, hg, hr0⟩ := h
 exact ⟨A0, c0, blk_grown hb hw hne, hg, hr0⟩
theorem IsS71.own_neN {w0 W : World} {g : Nat} {f0 : List Int} {f1 : Int} {α : Type} {d : Kd α} {e : Nat} {base : Nat} {ok : Nat → Prop} {v : Value} {xs : List α} (h : IsS71 w0 W g f0 f1) (ho : Kd.N d e W base ok v xs) (ht : e ≠ 71) : some g ≠ v.ownBlock := by
 obtain ⟨A0, c0, hb, hg, hr0⟩ := h
 exact Kd.N_ne ho hb ht
theorem IsS71.fresh {w0 W : World} {g : Nat} {f0 : List Int} {f1 : Int} (h : IsS71 w0 W g f0 f1) : ∀ k, W.heap.size ≤ k → k ≠ g := by
 obtain ⟨A0, c0, hb, hg, hr0⟩ := h
 exact Kd.freshB hb
theorem IsS71.kept {w0 W : World} {g : Nat} {f0 : List Int} {f1 : Int} {W1 : World} {S : Nat → Prop} (h : IsS71 w0 W g f0 f1) (hk : Kept W W1 S) (hne : ¬ S g) : IsS71 w0 W1 g f0 f1 := by
 obtain ⟨A0, c0, hb, hg, hr0⟩ := h
 exact ⟨A0, c0, blk_kept hb hk hne, hg, hr0⟩
theorem IsS71.below {w0 W : World} {g : Nat} {f0 : List Int} {f1 : Int} {W1 : World} (h : IsS71 w0 W g f0 f1) (hw : Below W.heap.size W W1) : IsS71 w0 W1 g f0 f1 := h.grown (grown_of_below hw none) (by simp)
theorem IsS71.alloc {w0 W : World} {g : Nat} {f0 : List Int} {f1 : Int} (h : IsS71 w0 W g f0 f1) (o : Obj) : IsS71 w0 (W.alloc o) g f0 f1 := h.below (below_alloc (Below.refl _ _) o)
theorem IsS71.drewN {w0 W : World} {g : Nat} {f0 : List Int} {f1 : Int} (h : IsS71 w0 W g f0 f1) (m : Nat) : IsS71 w0 (W.drewN m) g f0 f1 := h
theorem IsS71.drew {w0 W : World} {g : Nat} {f0 : List Int} {f1 : Int} (h : IsS71 w0 W g f0 f1) : IsS71 w0 W.drew g f0 f1 := h
theorem IsS71.at_ {w0 W : World} {g : Nat} {f0 : List Int} {f1 : Int} {w' : World} {m : Nat} (hq : W.drewN m = w') (h : IsS71 w0 W g f0 f1) : IsS71 w0 w' g f0 f1 := by subst hq; exact IsS71.drewN h m
theorem IsS71.apart {w0 W : World} {g : Nat} {f0 : List Int} {f1 : Int} {α : Type} {d : Kd α} {e : Nat} {base : Nat} {ok : Nat → Prop} {v : Value} {xs : List α} (h : IsS71 w0 W g f0 f1) (ho : d.R e W base ok v xs) (ht : ∀ q, q ∈ e :: d.E → q ≠ 71) : d.R e W base (fun k => ok k ∧ k ≠ g) v xs := by
 obtain ⟨A0, c0, hb, hg, hr0⟩ := h
 exact Kd.R_types ho hb ht
theorem IsS71.own_ne {w0 W : World} {g : Nat} {f0 : List Int} {f1 : Int} {α : Type} {d : Kd α} {e : Nat} {base : Nat} {ok : Nat → Prop} {v : Value} {xs : List α} (h : IsS71 w0 W g f0 f1) (ho : d.R e W base ok v xs) (ht : e ≠ 71) : some g ≠ v.ownBlock := by
 obtain ⟨A0, c0, hb, hg, hr0⟩ := h
 exact Kd.R_ne ho hb ht
theorem IsS71.apartQ {w0 W : World} {g : Nat} {f0 : List Int} {f1 : Int} {α : Type} {d : Kd α} {e : Nat} {base : Nat} {ok : Nat → Prop} {v : Value} {xs : List α} (h : IsS71 w0 W g f0 f1) (ho : d.Q e W base ok v xs) (ht : ∀ q, q ∈ e :: d.E → q ≠ 71) : d.Q e W base (fun k => ok k ∧ k ≠ g) v xs := by
 obtain ⟨A0, c0, hb, hg, hr0⟩ := h
 exact Kd.Q_types ho hb ht
theorem IsS71.own_neQ {w0 W : World} {g : Nat} {f0 : List Int} {f1 : Int} {α : Type} {d : Kd α} {e : Nat} {base : Nat} {ok : Nat → Prop} {v : Value} {xs : List α} (h : IsS71 w0 W g f0 f1) (ho : d.Q e W base ok v xs) (ht : e ≠ 71) : some g ≠ v.ownBlock := by
 obtain ⟨A0, c0, hb, hg, hr0⟩ := h
 exact Kd.Q_ne ho hb ht
theorem IsS71.apartS {w0 W : World} {g : Nat} {f0 : List Int} {f1 : Int} {α : Type} {d : Kd α} {e : Nat} {base : Nat} {ok : Nat → Prop} {v : Value} {xs : List α} (h : IsS71 w0 W g f0 f1) (ho : d.S e W base ok v xs) (ht : ∀ q, q ∈ e :: d.E → q ≠ 71) : d.S e W base (fun k => ok k ∧ k ≠ g) v xs := by
 obtain ⟨A0, c0, hb, hg, hr0⟩ := h
 exact Kd.S_types ho hb ht
theorem IsS71.own_neS {w0 W : World} {g : Nat} {f0 : List Int} {f1 : Int} {α : Type} {d : Kd α} {e : Nat} {base : Nat} {ok : Nat → Prop} {v : Value} {xs : List α} (h : IsS71 w0 W g f0 f1) (ho : d.S e W base ok v xs) (ht : e ≠ 71) : some g ≠ v.ownBlock := by
 obtain ⟨A0, c0, hb, hg, hr0⟩ := h
 exact Kd.S_ne ho hb ht
theorem IsS71.lt {w0 W : World} {g : Nat} {f0 : List Int} {f1 : Int} (h : IsS71 w0 W g f0 f1) : g < W.heap.size := by
 obtain ⟨A0, c0, hb, hg, hr0⟩ := h
 exact blk_lt hb
theorem IsS71.ge {w0 W : World} {g : Nat} {f0 : List Int} {f1 : Int} (h : IsS71 w0 W g f0 f1) : w0.heap.size ≤ g := by
 obtain ⟨A0, c0, hb, hg, hr0⟩ := h
 exact hg
theorem IsS71.ne_blk {w0 W : World} {g : Nat} {f0 : List Int} {f1 : Int} {a : Nat} {cs : Array Value} {t : TypeId} {fr : Nat × Nat} (h : IsS71 w0 W g f0 f1) (hb2 : W.heap[a]? = some (.cells cs t fr)) (ht : t ≠ 71) : g ≠ a := by
 obtain ⟨A0, c0, hb, hg, hr0⟩ := h
 rintro rfl
 rw [hb] at hb2
 injection hb2 with hb2
 injection hb2 with _ ht2
 exact ht ht2.symm
theorem IsS71.far {w0 W : World} {g : Nat} {f0 : List Int} {f1 : Int} {p : Addr} (h : IsS71 w0 W g f0 f1) (hne : g ≠ p.block) (u : Value) : IsS71 w0 (W.setCell p u) g f0 f1 := by
 obtain ⟨A0, c0, hb, hg, hr0⟩ := h
 exact ⟨A0, c0, blk_far hb hne u, hg, hr0⟩
theorem cellS71_0 {W : World} {g : Nat} {A0 : Option Addr} {c0 : Nat} {f0 : List Int} {f1 : Int} (h : W.heap[g]? = some (.cells #[.slice A0 f0.length c0, .int .i64 f1] 71 (0, 0))) : W.cell? ⟨g, 0, none⟩ = some (.slice A0 f0.length c0) := (blk_cell h 0).trans rfl
theorem cellS71_1 {W : World} {g : Nat} {A0 : Option Addr} {c0 : Nat} {f0 : List Int} {f1 : Int} (h : W.heap[g]? = some (.cells #[.slice A0 f0.length c0, .int .i64 f1] 71 (0, 0))) : W.cell? ⟨g, 1, none⟩ = some (.int .i64 f1) := (blk_cell h 1).trans rfl
theorem IsS71.set_1 {w0 W : World} {g : Nat} {f0 : List Int} {f1 : Int} (h : IsS71 w0 W g f0 f1) (x : Int) : IsS71 w0 (W.setCell ⟨g, 1, none⟩ (.int .i64 x)) g f0 x := by
 obtain ⟨A0, c0, hb, hg, hr0⟩ := h
 exact ⟨A0, c0, by simpa using blk_set hb 1 (.int .i64 x), hg, hr0⟩
theorem IsS71.new (w0 W : World) (A0 : Option Addr) (c0 : Nat) (f0 : List Int) (f1 : Int) (hB : Below w0.heap.size w0 W) (hr0 : Kd.C (Kd.int .u8) w0 A0 f0.length f0) : IsS71 w0 (W.alloc (.cells #[.slice A0 f0.length c0, .int .i64 f1] 71)) W.heap.size f0 f1 := ⟨A0, c0, by simpa using heap_alloc_new W _, hB.size, hr0⟩
theorem farA71 {w0 W : World} {g : Nat} {f0 : List Int} {f1 : Int} {g2 j : Nat} {u : Value} (h : IsS71 w0 W g f0 f1) (hn : Aside0 (g ≠ g2)) : IsS71 w0 (W.setCell ⟨g2, j, none⟩ u) g f0 f1 := IsS71.far h hn.out u
theorem iS71 {w0 W W2 : World} {g : Nat} {f0 : List Int} {f1 : Int} {f0' : List Int} {f1' : Int} (a : IsS71 w0 W g f0 f1) (f : IsS71 w0 W g f0 f1 → IsS71 w0 W2 g f0' f1' := by intro h_; repeat (first | (with_reducible first | exact h_ | apply IsS71.alloc | apply IsS71.drewN | apply IsS71.drew | apply IsS71.set_1 | (refine farA71 ?_ ?_; rotate_left; assumption)) | exact h_)) : IsS71 w0 W2 g f0' f1' := f a
theorem wS71 {n : Nat} {w w' W : World} (a : Below n w w') (f : Below n w w' → Below n w W := by intro h_; repeat (first | (with_reducible first | exact h_ | apply below_alloc | apply pw_below_drewN | apply below_drew1 | (refine below_set ?_ ?_; rotate_left; exact IsS71.ge (Aside0.out (by assumption))) | (refine below_setA ?_ ?_; rotate_left; assumption)) | exact h_)) : Below n w W := f a
def spec_newReader.f (l0 : List Int) : Option (List Int × Int) := if (l0.length : Int) > 2000 then (if 2000 ≤ (l0.length : Int) then (some (l0.take 2000, 0)) else (none)) else (some (l0, 0))
set_option maxHeartbeats 8000000 in
set_option maxRecDepth 100000 in
theorem spec_newReader.calls (A0 : Option Addr) (c0 : Nat) (l0 : List Int) (r1 : List Int) (r2 : Int) (w0 w : World) (hB : Below w0.heap.size w0 w) (hr0 : Kd.C (Kd.int .u8) w0 A0 l0.length l0) (hc0 : l0.length ≤ c0) (h : spec_newReader.f l0 = some (r1, r2)) :
  Calls Try.prog 50 #[.slice A0 l0.length c0] w fun e w' => ∃ g_ : Nat, e = .returned (.pointer (some ⟨g_, 0, none⟩)) ∧ IsS71 w0 w' g_ r1 r2 ∧ Below w0.heap.size w0 w' ∧ Below w.heap.size w w' := by
 have hu71 := Try.underlying71
 have HR0 := aM hr0
 have HC0 := aM hc0
 clear hr0 hc0
 have HBW := aM (Below.refl w.heap.size w)
 have HW0 := aM hB.size
 have HB := aM hB
 clear hB
 unfold spec_newReader.f at h
 have H := h
 clear h
 by_cases c2 : (l0.length : Int) > 2000
 rotate_left
 ·rw [if_neg c2] at H
  have c2b0 : decide (2000 < (l0.length : Int)) = false := decide_eq_false c2
  have c2b1 : decide (2000 < l0.length) = false := decide_eq_false (by omega)
  clear c2
  simp only [Option.some.injEq, Prod.mk.injEq] at H
  obtain ⟨rfl, rfl⟩ := H
  go_enter Try.func50, Try.ntmps50
  go_wp2_with (first | ((with_reducible refine gate_dst (N := 10) rfl ?_); refine bxE (N := 10) (cs := #[.slice A0 l0.length c0, .int .i64 0]) (t := 71) ?_; intro gb119 hg w6 hbox hb; replace HB := bS HB hb; have BK119 := aM (hbox); have GW119 := aM ((by rw [hg]; exact (below_size (qW HBW.out)) : w.heap.size ≤ gb119)); have GE119 := aM ((Nat.le_trans HW0.out (by rw [hg]; exact (below_size (qW HBW.out)) : w.heap.size ≤ gb119) : w0.heap.size ≤ gb119)); replace HBW := aM (below_step HBW.out hb); clear hb hbox hg))
  go_ret
  exact ⟨_, rfl, (show IsS71 w0 _ gb119 l0 0 from ⟨_, _, by refine qB ?_; exact BK119.out, GE119.out, HR0.out⟩), by exact qW HB.out, by exact qW HBW.out⟩
 rw [if_pos c2] at H
 have c2b0 : decide (2000 < (l0.length : Int)) = true := decide_eq_true c2
 have c2b1 : decide (2000 < l0.length) = true := decide_eq_true (by omega)
 clear c2
 replace H := iS H
 obtain ⟨c3, H⟩ := H
 have c3b0 := eq_true c3
 have c3b1 : decide (2000 ≤ (l0.length : Int)) = true := decide_eq_true c3
 clear c3
 simp only [Option.some.injEq, Prod.mk.injEq] at H
 obtain ⟨rfl, rfl⟩ := H
 obtain ⟨i04, hi04, _, hsz4, _⟩ := info_parts info5
 obtain ⟨hcut4, hA4, hC4⟩ := print_take_of (P := Try.prog) (Value.int .u8) 0 24 5 .i64 Try.underlying24 hi04 hsz4 A0 c0 l0 2000 (by omega) oD HC0.out
 have HR117 := aM (Kd.C_of_reads (h1 := fun _ => rfl) (hA4 _ (Kd.reads_of_C HR0.out)))
 have HC117 := aM hC4
 clear hA4 hC4 hi04 hsz4
 go_enter Try.func50, Try.ntmps50
 go_wp2_with (first | ((with_reducible refine gate_dst (N := 10) rfl ?_); refine bxE (N := 10) (cs := #[.slice A0 (l0.take 2000).length c0, .int .i64 0]) (t := 71) ?_; intro gb118 hg w5 hbox hb; replace HB := bS HB hb; have BK118 := aM (hbox); have GW118 := aM ((by rw [hg]; exact (below_size (qW HBW.out)) : w.heap.size ≤ gb118)); have GE118 := aM ((Nat.le_trans HW0.out (by rw [hg]; exact (below_size (qW HBW.out)) : w.heap.size ≤ gb118) : w0.heap.size ≤ gb118)); replace HBW := aM (below_step HBW.out hb); clear hb hbox hg))
 go_ret
 exact ⟨_, rfl, (show IsS71 w0 _ gb118 (l0.take 2000) 0 from ⟨_, _, by refine qB ?_; exact BK118.out, GE118.out, HR117.out⟩), by exact qW HB.out, by exact qW HBW.out⟩
def spec_reader_pick.j0 : Nat → Int → Bool → List Int → Int → Option (Int × Int)
 | 0, _, _, _, _ => none
 | k + 1, x1, x24, x1000, x1001 => if x24 = true then (some (0, x1001)) else (if (wrap64 (x1001 - 1)) < (x1000.length : Int) then (if 0 ≤ (wrap64 (x1001 - 1)) then (if x1 = 0 then (none) else (some (Int.tmod (wrap64 (rd x1000 (wrap64 (x1001 - 1)))) x1, x1001))) else (none)) else (if (x1000.length : Int) = 0 then (none) else (if 0 ≤ (Int.tmod (wrap64 (x1001 - 1)) (x1000.length : Int)) then (if (Int.tmod (wrap64 (x1001 - 1)) (x1000.length : Int)) < (x1000.length : Int) then (if 0 ≤ (Int.tmod (wrap64 ((wrap64 ((wrap64 (x1001 - 1)) * 7)) + 3)) (x1000.length : Int)) then (if (Int.tmod (wrap64 ((wrap64 ((wrap64 (x1001 - 1)) * 7)) + 3)) (x1000.length : Int)) < (x1000.length : Int) then (if x1 = 0 then (none) else (some (Int.tmod (Go.bits .xor .i64 (wrap64 ((wrap64 ((wrap64 ((wrap64 ((wrap64 (rd x1000 (Int.tmod (wrap64 (x1001 - 1)) (x1000.length : Int)))) * 131)) + (wrap64 ((wrap64 (rd x1000 (Int.tmod (wrap64 ((wrap64 ((wrap64 (x1001 - 1)) * 7)) + 3)) (x1000.length : Int)))) * 1117)))) + (wrap64 ((wrap64 (x1001 - 1)) * 29)))) + (wrap64 ((wrap64 (Int.tdiv (wrap64 (x1001 - 1)) (x1000.length : Int))) * 53)))) (wrap64 (Int.tdiv (wrap64 ((wrap64 ((wrap64 ((wrap64 ((wrap64 (rd x1000 (Int.tmod (wrap64 (x1001 - 1)) (x1000.length : Int)))) * 131)) + (wrap64 ((wrap64 (rd x1000 (Int.tmod (wrap64 ((wrap64 ((wrap64 (x1001 - 1)) * 7)) + 3)) (x1000.length : Int)))) * 1117)))) + (wrap64 ((wrap64 (x1001 - 1)) * 29)))) + (wrap64 ((wrap64 (Int.tdiv (wrap64 (x1001 - 1)) (x1000.length : Int))) * 53)))) 64))) x1, x1001))) else (none)) else (none)) else (none)) else (none))))
def spec_reader_pick.f (k : Nat) (s0_0 : List Int) (s0_1 : Int) (a1 : Int) : Option (Int × Int) := if a1 < 1 then (spec_reader_pick.j0 k a1 true s0_0 (wrap64 (s0_1 + 1))) else (spec_reader_pick.j0 k a1 ((s0_0.length : Int) == 0) s0_0 (wrap64 (s0_1 + 1)))
theorem spec_reader_pick.mono_l : ∀ k, (∀ y0 y1 y2 y3, LeO (spec_reader_pick.j0 k y0 y1 y2 y3) (spec_reader_pick.j0 (k + 1) y0 y1 y2 y3))
 | 0 => fun _ _ _ _ r h => by simp [spec_reader_pick.j0] at h
 | k + 1 => by
  have ih0 := spec_reader_pick.mono_l k
  ·intro y0 y1 y2 y3
   unfold spec_reader_pick.j0
   repeat' first | (with_reducible first | exact ih0 _ _ _ _ | exact lR | exact lN | refine lI ?_ ?_ | refine lB ?_ fun _ => ?_) | exact ih0 _ _ _ _ | exact lN | refine lI ?_ ?_ | refine lB ?_ fun _ => ?_
theorem spec_reader_pick.mono : ∀ a0 a1 a2 k, LeO (spec_reader_pick.f k a0 a1 a2) (spec_reader_pick.f (k + 1) a0 a1 a2) := by
 intro a0 a1 a2 k
 have ih0 := spec_reader_pick.mono_l k
 unfold spec_reader_pick.f
 repeat' first | (with_reducible first | exact ih0 _ _ _ _ | exact lR | exact lN | refine lI ?_ ?_ | refine lB ?_ fun _ => ?_) | exact ih0 _ _ _ _ | exact lN | refine lI ?_ ?_ | refine lB ?_ fun _ => ?_
set_option maxHeartbeats 8000000 in
set_option maxRecDepth 100000 in
theorem spec_reader_pick.calls (k : Nat) (g : Nat) (s0_0 : List Int) (s0_1 : Int) (a1 : Int) (r1 : Int) (r2 : Int) (w0 w : World) (hI : IsS71 w0 w g s0_0 s0_1) (hB : Below w0.heap.size w0 w) (h : spec_reader_pick.f k s0_0 s0_1 a1 = some (r1, r2)) :
  Calls Try.prog 51 #[.pointer (some ⟨g, 0, none⟩), .int .i64 a1] w fun e w' => e = .returned (.int .i64 r1) ∧ IsS71 w0 w' g s0_0 r2 ∧ Below w0.heap.size w0 w' ∧ KeepBut w w' g none := by
 have HI0 := aM hI
 have HK := aM (KeepBut.refl w g none)
 have HL := aM hB.size
 clear hI
 have HW0 := aM hB.size
 have HB := aM hB
 clear hB
 unfold spec_reader_pick.f at h
 have H := h
 clear h
 have HC3 := aM H
 clear H
 obtain ⟨ASz4_0, cSz4_0, HGz4, hgz4, HSz4_0⟩ := HI0.out
 have hcz4_0 := cellS71_0 HGz4
 have hcz4_1 := cellS71_1 HGz4
 have hfz4_1 := blk_frozen HGz4 1
 clear HGz4 hgz4
 go_enter Try.func51, Try.ntmps51
 go_upto_region 2 with (fail)
 repeat (go_quiet (fail); go_upto_region 2 with (fail))
 go_cut [24] (fun v24 wc => ∃ (kq : Nat) (x24_2 : Bool), v24 = .bool x24_2 ∧ Aside0 (spec_reader_pick.j0 kq a1 x24_2 s0_0 (wrap64 (s0_1 + 1)) = some (r1, r2)) ∧ Aside0 (kq ≤ k) ∧ Aside0 (IsS71 w0 wc g s0_0 (wrap64 (s0_1 + 1))) ∧ Aside0 (KeepBut w wc g none) ∧ Aside0 (Below w0.heap.size w0 wc))
 case first =>
  have H := HC3.out
  clear HC3
  by_cases c5 : a1 < 1
  ·rw [if_pos c5] at H
   have c5b0 : decide (a1 < 1) = true := decide_eq_true c5
   clear c5
   (first | rw [c5b0] | (simp only [i64_w, i32_w]; rw [c5b0]) | skip)
   have H' := aM H
   clear H
   go_wp2
   repeat (go_quiet (fail); try go_wp2)
   go_meet
   case rel => exact ⟨_, (true), qE, H', ⟨by first | omega | exact Nat.le_refl _⟩, ⟨iS71 HI0.out⟩, ⟨kB HK.out⟩, ⟨wS71 HB.out⟩⟩
  rw [if_neg c5] at H
  have c5b0 : decide (a1 < 1) = false := decide_eq_false c5
  clear c5
  (first | rw [c5b0] | (simp only [i64_w, i32_w]; rw [c5b0]) | skip)
  have H' := aM H
  clear H
  obtain ⟨ASz6_0, cSz6_0, HGz6, hgz6, HSz6_0⟩ := HI0.out
  have hcz6_0 := cellS71_0 HGz6
  have hcz6_1 := cellS71_1 HGz6
  have hfz6_1 := blk_frozen HGz6 1
  clear HGz6 hgz6
  go_wp2
  repeat (go_quiet (fail); try go_wp2)
  go_meet
  case rel => exact ⟨_, (((s0_0.length : Int) == 0)), qE, H', ⟨by first | omega | exact Nat.le_refl _⟩, ⟨iS71 HI0.out⟩, ⟨kB HK.out⟩, ⟨wS71 HB.out⟩⟩
 case rest =>
  clear HC3
  try clear c5
  try clear c5b0
  try clear hcz4_0 hcz4_1 hfz4_1
  try clear hcz6_0 hcz6_1 hfz6_1
  obtain ⟨kq, x24_2, rfl, HA, HJ2, HI0, HK, HB⟩ := hcut
  cases kq with
  | zero => exact absurd HA.out (by simp [spec_reader_pick.j0])
  | succ kj2 =>
   have H := HA.out
   clear HA
   simp only [spec_reader_pick.j0] at H
   by_cases c7 : x24_2 = true
   ·subst c7
    have H1 : (some (0, (wrap64 (s0_1 + 1)))) = some (r1, r2) := by rw [if_pos rfl] at H; exact H
    clear H
    have H := H1
    clear H1
    simp only [Option.some.injEq, Prod.mk.injEq] at H
    obtain ⟨rfl, rfl⟩ := H
    go_wp2
    repeat (go_quiet (fail); try go_wp2)
    go_ret
    exact ⟨qX, iS71 HI0.out, wS71 HB.out, kB HK.out⟩
   replace c7 := Bool.eq_false_iff.mpr c7
   subst c7
   have H1 : (if (wrap64 ((wrap64 (s0_1 + 1)) - 1)) < (s0_0.length : Int) then (if 0 ≤ (wrap64 ((wrap64 (s0_1 + 1)) - 1)) then (if a1 = 0 then (none) else (some (Int.tmod (wrap64 (rd s0_0 (wrap64 ((wrap64 (s0_1 + 1)) - 1)))) a1, (wrap64 (s0_1 + 1))))) else (none)) else (if (s0_0.length : Int) = 0 then (none) else (if 0 ≤ (Int.tmod (wrap64 ((wrap64 (s0_1 + 1)) - 1)) (s0_0.length : Int)) then (if (Int.tmod (wrap64 ((wrap64 (s0_1 + 1)) - 1)) (s0_0.length : Int)) < (s0_0.length : Int) then (if 0 ≤ (Int.tmod (wrap64 ((wrap64 ((wrap64 ((wrap64 (s0_1 + 1)) - 1)) * 7)) + 3)) (s0_0.length : Int)) then (if (Int.tmod (wrap64 ((wrap64 ((wrap64 ((wrap64 (s0_1 + 1)) - 1)) * 7)) + 3)) (s0_0.length : Int)) < (s0_0.length : Int) then (if a1 = 0 then (none) else (some (Int.tmod (Go.bits .xor .i64 (wrap64 ((wrap64 ((wrap64 ((wrap64 ((wrap64 (rd s0_0 (Int.tmod (wrap64 ((wrap64 (s0_1 + 1)) - 1)) (s0_0.length : Int)))) * 131)) + (wrap64 ((wrap64 (rd s0_0 (Int.tmod (wrap64 ((wrap64 ((wrap64 ((wrap64 (s0_1 + 1)) - 1)) * 7)) + 3)) (s0_0.length : Int)))) * 1117)))) + (wrap64 ((wrap64 ((wrap64 (s0_1 + 1)) - 1)) * 29)))) + (wrap64 ((wrap64 (Int.tdiv (wrap64 ((wrap64 (s0_1 + 1)) - 1)) (s0_0.length : Int))) * 53)))) (wrap64 (Int.tdiv (wrap64 ((wrap64 ((wrap64 ((wrap64 ((wrap64 (rd s0_0 (Int.tmod (wrap64 ((wrap64 (s0_1 + 1)) - 1)) (s0_0.length : Int)))) * 131)) + (wrap64 ((wrap64 (rd s0_0 (Int.tmod (wrap64 ((wrap64 ((wrap64 ((wrap64 (s0_1 + 1)) - 1)) * 7)) + 3)) (s0_0.length : Int)))) * 1117)))) + (wrap64 ((wrap64 ((wrap64 (s0_1 + 1)) - 1)) * 29)))) + (wrap64 ((wrap64 (Int.tdiv (wrap64 ((wrap64 (s0_1 + 1)) - 1)) (s0_0.length : Int))) * 53)))) 64))) a1, (wrap64 (s0_1 + 1))))) else (none)) else (none)) else (none)) else (none)))) = some (r1, r2) := by rw [if_neg (show ¬ (false = true) by decide)] at H; exact H
   clear H
   have H := H1
   clear H1
   by_cases c8 : (wrap64 ((wrap64 (s0_1 + 1)) - 1)) < (s0_0.length : Int)
   ·rw [if_pos c8] at H
    have c8b0 : decide ((wrap64 ((wrap64 (s0_1 + 1)) - 1)) < (s0_0.length : Int)) = true := decide_eq_true c8
    clear c8
    obtain ⟨ji9, hji9⟩ : ∃ j_ : Int, (wrap64 ((wrap64 (s0_1 + 1)) - 1)) = j_ := ⟨_, rfl⟩
    replace H : (if 0 ≤ (ji9) then (if a1 = 0 then (none) else (some (Int.tmod (wrap64 (rd s0_0 (ji9))) a1, (wrap64 (s0_1 + 1))))) else (none)) = some (r1, r2) := by first | (rw [hji9] at H; exact H) | (simp only [hji9] at H ⊢; exact H)
    (try rw [hji9] at c8b0)
    have hji9w : (IntKind.i64.wrap ((wrap64 (s0_1 + 1)) - 1)) = ji9 := (i64_w _).trans hji9
    replace H := iD H
    obtain ⟨c10b0, H⟩ := H
    by_cases c11 : a1 = 0
    ·rw [if_pos c11] at H
     exact absurd H (by simp)
    rw [if_neg c11] at H
    have c11b0 : (a1 == 0) = false := beq_eq_false_iff_ne.mpr c11
    have c11b1 : (a1 != 0) = true := bne_iff_ne.mpr c11
    simp only [Option.some.injEq, Prod.mk.injEq] at H
    obtain ⟨rfl, rfl⟩ := H
    obtain ⟨ASz12_0, cSz12_0, HGz12, hgz12, HSz12_0⟩ := HI0.out
    have hcz12_0 := cellS71_0 HGz12
    have hcz12_1 := cellS71_1 HGz12
    have hfz12_1 := blk_frozen HGz12 1
    clear HGz12 hgz12
    obtain ⟨ad120, e120, hx120_0⟩ := Kd.at_int HSz12_0 (ji9) oD oD
    cases e120
    replace hx120_0 := pw_cell_below HB.out hx120_0
    have p120 := eq_true (oD : 0 ≤ ((ji9) : Int))
    have q120 := eq_true (oD : (ji9) < (s0_0.length : Int))
    go_wp2
    repeat (go_quiet (fail); try go_wp2)
    go_ret
    exact ⟨by first | rfl | (simp [errW_none, errW_some] <;> rfl) | (simp only [← hji9]; first | rfl | (simp [errW_none, errW_some] <;> rfl)) | (simp [*, errW_none, errW_some] <;> rfl), iS71 HI0.out, wS71 HB.out, kB HK.out⟩
   rw [if_neg c8] at H
   have c8b0 : decide ((wrap64 ((wrap64 (s0_1 + 1)) - 1)) < (s0_0.length : Int)) = false := decide_eq_false c8
   clear c8
   by_cases c13 : (s0_0.length : Int) = 0
   ·rw [if_pos c13] at H
    exact absurd H (by simp)
   rw [if_neg c13] at H
   have c13b0 : ((s0_0.length : Int) == 0) = false := beq_eq_false_iff_ne.mpr c13
   have c13b1 : ((s0_0.length : Int) != 0) = true := bne_iff_ne.mpr c13
   have c13b2 : ¬ (s0_0 = []) := fun h_ => c13 (by rw [h_]; rfl)
   obtain ⟨ji14, hji14⟩ : ∃ j_ : Int, (Int.tmod (wrap64 ((wrap64 (s0_1 + 1)) - 1)) (s0_0.length : Int)) = j_ := ⟨_, rfl⟩
   replace H : (if 0 ≤ (ji14) then (if (ji14) < (s0_0.length : Int) then (if 0 ≤ (Int.tmod (wrap64 ((wrap64 ((wrap64 ((wrap64 (s0_1 + 1)) - 1)) * 7)) + 3)) (s0_0.length : Int)) then (if (Int.tmod (wrap64 ((wrap64 ((wrap64 ((wrap64 (s0_1 + 1)) - 1)) * 7)) + 3)) (s0_0.length : Int)) < (s0_0.length : Int) then (if a1 = 0 then (none) else (some (Int.tmod (Go.bits .xor .i64 (wrap64 ((wrap64 ((wrap64 ((wrap64 ((wrap64 (rd s0_0 (ji14))) * 131)) + (wrap64 ((wrap64 (rd s0_0 (Int.tmod (wrap64 ((wrap64 ((wrap64 ((wrap64 (s0_1 + 1)) - 1)) * 7)) + 3)) (s0_0.length : Int)))) * 1117)))) + (wrap64 ((wrap64 ((wrap64 (s0_1 + 1)) - 1)) * 29)))) + (wrap64 ((wrap64 (Int.tdiv (wrap64 ((wrap64 (s0_1 + 1)) - 1)) (s0_0.length : Int))) * 53)))) (wrap64 (Int.tdiv (wrap64 ((wrap64 ((wrap64 ((wrap64 ((wrap64 (rd s0_0 (ji14))) * 131)) + (wrap64 ((wrap64 (rd s0_0 (Int.tmod (wrap64 ((wrap64 ((wrap64 ((wrap64 (s0_1 + 1)) - 1)) * 7)) + 3)) (s0_0.length : Int)))) * 1117)))) + (wrap64 ((wrap64 ((wrap64 (s0_1 + 1)) - 1)) * 29)))) + (wrap64 ((wrap64 (Int.tdiv (wrap64 ((wrap64 (s0_1 + 1)) - 1)) (s0_0.length : Int))) * 53)))) 64))) a1, (wrap64 (s0_1 + 1))))) else (none)) else (none)) else (none)) else (none)) = some (r1, r2) := by first | (rw [hji14] at H; exact H) | (simp only [hji14] at H ⊢; exact H)
   replace H := iD H
   obtain ⟨c15b0, H⟩ := H
   replace H := iD H
   obtain ⟨c16b0, H⟩ := H
   obtain ⟨ji17, hji17⟩ : ∃ j_ : Int, (Int.tmod (wrap64 ((wrap64 ((wrap64 ((wrap64 (s0_1 + 1)) - 1)) * 7)) + 3)) (s0_0.length : Int)) = j_ := ⟨_, rfl⟩
   replace H : (if 0 ≤ (ji17) then (if (ji17) < (s0_0.length : Int) then (if a1 = 0 then (none) else (some (Int.tmod (Go.bits .xor .i64 (wrap64 ((wrap64 ((wrap64 ((wrap64 ((wrap64 (rd s0_0 (ji14))) * 131)) + (wrap64 ((wrap64 (rd s0_0 (ji17))) * 1117)))) + (wrap64 ((wrap64 ((wrap64 (s0_1 + 1)) - 1)) * 29)))) + (wrap64 ((wrap64 (Int.tdiv (wrap64 ((wrap64 (s0_1 + 1)) - 1)) (s0_0.length : Int))) * 53)))) (wrap64 (Int.tdiv (wrap64 ((wrap64 ((wrap64 ((wrap64 ((wrap64 (rd s0_0 (ji14))) * 131)) + (wrap64 ((wrap64 (rd s0_0 (ji17))) * 1117)))) + (wrap64 ((wrap64 ((wrap64 (s0_1 + 1)) - 1)) * 29)))) + (wrap64 ((wrap64 (Int.tdiv (wrap64 ((wrap64 (s0_1 + 1)) - 1)) (s0_0.length : Int))) * 53)))) 64))) a1, (wrap64 (s0_1 + 1))))) else (none)) else (none)) = some (r1, r2) := by first | (rw [hji17] at H; exact H) | (simp only [hji17] at H ⊢; exact H)
   replace H := iD H
   obtain ⟨c18b0, H⟩ := H
   replace H := iD H
   obtain ⟨c19b0, H⟩ := H
   by_cases c20 : a1 = 0
   ·rw [if_pos c20] at H
    exact absurd H (by simp)
   rw [if_neg c20] at H
   have c20b0 : (a1 == 0) = false := beq_eq_false_iff_ne.mpr c20
   have c20b1 : (a1 != 0) = true := bne_iff_ne.mpr c20
   simp only [Option.some.injEq, Prod.mk.injEq] at H
   obtain ⟨rfl, rfl⟩ := H
   obtain ⟨ASz21_0, cSz21_0, HGz21, hgz21, HSz21_0⟩ := HI0.out
   have hcz21_0 := cellS71_0 HGz21
   have hcz21_1 := cellS71_1 HGz21
   have hfz21_1 := blk_frozen HGz21 1
   clear HGz21 hgz21
   obtain ⟨ad121, e121, hx121_0⟩ := Kd.at_int HSz21_0 (ji14) oD oD
   cases e121
   replace hx121_0 := pw_cell_below HB.out hx121_0
   have p121 := eq_true (oD : 0 ≤ ((ji14) : Int))
   have q121 := eq_true (oD : (ji14) < (s0_0.length : Int))
   obtain ⟨ad122, e122, hx122_0⟩ := Kd.at_int HSz21_0 (ji17) oD oD
   obtain rfl : ad121 = ad122 := (by injection e122)
   replace hx122_0 := pw_cell_below HB.out hx122_0
   have p122 := eq_true (oD : 0 ≤ ((ji17) : Int))
   have q122 := eq_true (oD : (ji17) < (s0_0.length : Int))
   go_wp2
   repeat (go_quiet (fail); try go_wp2)
   go_ret
   exact ⟨by first | rfl | (simp [errW_none, errW_some] <;> rfl) | (simp only [← hji14, ← hji17]; first | rfl | (simp [errW_none, errW_some] <;> rfl)) | (simp [*, errW_none, errW_some] <;> rfl), iS71 HI0.out, wS71 HB.out, kB HK.out⟩
def spec_reader_one.f (k : Nat) (s0_0 : List Int) (s0_1 : Int) (l1 : List Int) : Option (Int × Int) := (spec_reader_pick.f k s0_0 s0_1 (l1.length : Int)).bind fun bt123 => (if 0 ≤ bt123.1 then (if bt123.1 < (l1.length : Int) then (some (rd l1 bt123.1, bt123.2)) else (none)) else (none))
theorem spec_reader_one.mono : ∀ a0 a1 a2 k, LeO (spec_reader_one.f k a0 a1 a2) (spec_reader_one.f (k + 1) a0 a1 a2) := by
 intro a0 a1 a2 k
 unfold spec_reader_one.f
 repeat' first | (with_reducible first | exact spec_reader_pick.mono _ _ _ _ | exact lR | exact lN | refine lI ?_ ?_ | refine lB ?_ fun _ => ?_) | exact spec_reader_pick.mono _ _ _ _ | exact lN | refine lI ?_ ?_ | refine lB ?_ fun _ => ?_
set_option maxHeartbeats 8000000 in
set_option maxRecDepth 100000 in
theorem spec_reader_one.calls (k : Nat) (g : Nat) (s0_0 : List Int) (s0_1 : Int) (A1 : Option Addr) (c1 : Nat) (l1 : List Int) (r1 : Int) (r2 : Int) (w0 w : World) (hI : IsS71 w0 w g s0_0 s0_1) (hB : Below w0.heap.size w0 w) (hr1 : Kd.C (Kd.int .i64) w A1 l1.length l1) (hc1 : l1.length ≤ c1) (hf1 : ∀ ad, A1 = some ad → 0 < l1.length → ad.block ≠ g) (h : spec_reader_one.f k s0_0 s0_1 l1 = some (r1, r2)) :
  Calls Try.prog 52 #[.pointer (some ⟨g, 0, none⟩), .slice A1 l1.length c1] w fun e w' => e = .returned (.int .i64 r1) ∧ IsS71 w0 w' g s0_0 r2 ∧ Below w0.heap.size w0 w' ∧ KeepBut w w' g none := by
 have HR1 := aM hr1
 have HC1 := aM hc1
 clear hr1 hc1
 have HI0 := aM hI
 have HK := aM (KeepBut.refl w g none)
 have HL := aM hB.size
 clear hI
 have HW0 := aM hB.size
 have HB := aM hB
 clear hB
 unfold spec_reader_one.f at h
 have H := h
 clear h
 replace H := Option.bind_eq_some_iff.mp H
 obtain ⟨⟨t123, t124⟩, A30, H⟩ := H
 replace H : (if 0 ≤ t123 then (if t123 < (l1.length : Int) then (some (rd l1 t123, t124)) else (none)) else (none)) = some (r1, r2) := H
 have A3 := aM A30
 clear A30
 replace H := iD H
 obtain ⟨c4b0, H⟩ := H
 replace H := iD H
 obtain ⟨c5b0, H⟩ := H
 simp only [Option.some.injEq, Prod.mk.injEq] at H
 obtain ⟨rfl, rfl⟩ := H
 go_enter Try.func52, Try.ntmps52
 go_wp2_with (first | ((with_reducible refine gate_callee (f := 51) rfl ?_); refine gL (some 9) Try.func51 #[.pointer (some ⟨g, 0, none⟩), .int .i64 (l1.length : Int)] ?_; (with_reducible refine (spec_reader_pick.calls k g s0_0 s0_1 (l1.length : Int) t123 t124 w0 _ ?side1 ?side2 A3.out).mono ?_); (case side1 => exact iS71 HI0.out); (case side2 => exact wS71 HB.out); rintro e w6 ⟨rfl, hi, hb, hk⟩; refine ⟨_, rfl, ?_⟩; replace HK := aM (KeepBut.trans (kB HK.out) hk (.inl rfl)); replace HB := aM (hb); replace HI0 := aM (hi); clear hb hk hi; have p125 : 0 ≤ (t123 : Int) := oD; have q125 : t123 < (l1.length : Int) := oD; obtain ⟨ad125, e125, hx125_0⟩ := Kd.at_int HR1.out t123 p125 q125; cases e125; replace hx125_0 := keep_cell HK.out hx125_0 (by first | (rw [add_block]; exact hf1 _ rfl (by omega)) | exact hf1 _ rfl (by omega) | exact hf1 ad125 rfl (by omega)); replace p125 := eq_true p125; replace q125 := eq_true q125))
 go_ret
 exact ⟨qX, iS71 HI0.out, wS71 HB.out, kB HK.out⟩
def spec_copyInts.f (l0 : List Int) : Option (List Int) := (some (([] : List Int) : List Int)).bind fun y184 => (if y184.length + l0.length < 17592186044416 then (some (y184 ++ l0)) else (none))
set_option maxHeartbeats 8000000 in
set_option maxRecDepth 100000 in
theorem spec_copyInts.calls (A0 : Option Addr) (c0 : Nat) (l0 : List Int) (r : List Int) (w : World) (hr0 : Kd.C (Kd.int .i64) w A0 l0.length l0) (hc0 : l0.length ≤ c0) (h : spec_copyInts.f l0 = some r) :
  Calls Try.prog 88 #[.slice A0 l0.length c0] w fun e w' => ∃ v0_ : Value, e = .returned (v0_) ∧ Kd.R (Kd.int .i64) 3 w' w.heap.size (fun _ => True) v0_ r ∧ Below w.heap.size w w' := by
 have HR0 := aM hr0
 have HC0 := aM hc0
 clear hr0 hc0
 have HB := aM (Below.refl w.heap.size w)
 unfold spec_copyInts.f at h
 have H := h
 clear h
 obtain ⟨y184, hy184⟩ : ∃ y_ : List Int, y_ = (([] : List Int)) := ⟨_, rfl⟩
 replace H : (if y184.length + l0.length < 17592186044416 then (some (y184 ++ l0)) else (none)) = some r := rY hy184 H
 have Ny184 := aM hy184
 clear hy184
 replace H := iS H
 obtain ⟨c2, H⟩ := H
 have LMc2 := aM c2
 clear c2
 obtain ⟨y187, hy187⟩ : ∃ y_ : List Int, y_ = (y184 ++ l0) := ⟨_, rfl⟩
 replace H : (some y187) = some r := rY hy187 H
 have Ny187 := aM hy187
 clear hy187
 obtain rfl := Option.some.inj H
 go_enter Try.func88, Try.ntmps88
 go_wp2_with (first | ((with_reducible refine gate_dst (N := 3) rfl ?_); refine iL ([] : List Int) [] ?_; intro v185 w3 ho4 hb hg_ hnew_; clear hg_ hnew_; (first | rw [← Ny184.out] at ho4 | (simp only [Int.reduceToNat] at ho4; rw [← Ny184.out] at ho4)); have HO186 := oR ho4 HB; replace HB := bS HB hb; clear hb ho4) | ((with_reducible refine gate_builtin (b := .append) (xs := #[.tmp 3, .tmp 4]) rfl ?_); at_builtin; refine Kd.R_append_rows (Kd.int .i64) (w0 := w) w.heap.size rfl (.tmp 3) (.tmp 4) 28 3 (.int .i64 0) 8 rfl Try.underlying28 info3 rfl (by decide) (by omega) v185 y184 l0 _ _ _ (fun _ => True) (fun _ => False) rfl rfl ?aO ?aR (fun _ _ h => h) (fun _ h => h.elim) ?aF ?aB ?aS ?aL ?_; (case aR => exact qC (Kd.C_below HR0.out HB.out)); (case aB => exact (qW HB.out)); (case aF => exact (fun _ _ => trivial)); (case aO => exact (qR HO186.out)); (case aS => exact (below_size (qW HB.out))); (case aL => have := LMc2.out; omega); intro v188 w5 ho hb hg hat; rw [← Ny187.out] at ho; replace HB := aM (hb); have HO189 := aM (ho); clear HO186; clear ho hb hg hat))
 go_ret
 exact ⟨_, qX, by refine qR ?_; exact HO189.out, by exact qW HB.out⟩
end Go.Proofs.Ytbldmekplkjfiaa.P
