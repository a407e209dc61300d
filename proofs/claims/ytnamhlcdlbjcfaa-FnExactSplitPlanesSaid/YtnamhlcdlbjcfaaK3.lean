/- Contracts and row, written by a program of this place out of the translation: the call answers true and its argument reads as before, for every input; no condition. -/
import Derived.Test.YtnamhlcdlbjcfaaK0
import Derived.Test.YtnamhlcdlbjcfaaK1
import Derived.Test.YtnamhlcdlbjcfaaK2
namespace Go.Proofs.Ytnamhlcdlbjcfaa.P
open Go.RowKit Go.Proofs.YtnamhlcdlbjcfaaW.PrintWords Go.Proofs.YtnamhlcdlbjcfaaW.PrintLast Go.Proofs.YtnamhlcdlbjcfaaW.PrintMore
attribute [local go_sem] max2_int min2_int max_two min_two max_three min_three max_four min_four   -- for this text's walks alone
set_option linter.unusedVariables false
set_option linter.unusedSimpArgs false
def laws_eqImageS.l0 : Nat → List (S26) → List (S26) → Int → Option (Bool)
 | 0, _, _, _ => none
 | k + 1, x0, x1, x5 => if x5 < (x0.length : Int) then (if 0 ≤ x5 then (if x5 < (x1.length : Int) then ((laws_eqImage.f k ((rd_T26 x0 x5).f0) ((rd_T26 x0 x5).f1) ((rd_T26 x0 x5).f2) ((rd_T26 x0 x5).f3) ((rd_T26 x1 x5).f0) ((rd_T26 x1 x5).f1) ((rd_T26 x1 x5).f2) ((rd_T26 x1 x5).f3)).bind fun t875 => (if t875 = true then (laws_eqImageS.l0 k x0 x1 (wrap64 (x5 + 1))) else (some false))) else (none)) else (none)) else (some true)
def laws_eqImageS.f (k : Nat) (l0 : List (S26)) (l1 : List (S26)) : Option (Bool) := if (l0.length : Int) = (l1.length : Int) then (laws_eqImageS.l0 k l0 l1 0) else (some false)
theorem laws_eqImageS.mono_l : ∀ k, (∀ y0 y1 y2, LeO (laws_eqImageS.l0 k y0 y1 y2) (laws_eqImageS.l0 (k + 1) y0 y1 y2))
 | 0 => fun _ _ _ r h => by simp [laws_eqImageS.l0] at h
 | k + 1 => by
  have ih0 := laws_eqImageS.mono_l k
  ·intro y0 y1 y2
   unfold laws_eqImageS.l0
   repeat' first | (with_reducible first | exact ih0 _ _ _ | exact laws_eqImage.mono _ _ _ _ _ _ _ _ _ | exact lR | exact lN | refine lI ?_ ?_ | refine lB ?_ fun _ => ?_) | exact ih0 _ _ _ | exact laws_eqImage.mono _ _ _ _ _ _ _ _ _ | exact lN | refine lI ?_ ?_ | refine lB ?_ fun _ => ?_
theorem laws_eqImageS.mono : ∀ a0 a1 k, LeO (laws_eqImageS.f k a0 a1) (laws_eqImageS.f (k + 1) a0 a1) := by
 intro a0 a1 k
 have ih0 := laws_eqImageS.mono_l k
 unfold laws_eqImageS.f
 repeat' first | (with_reducible first | exact ih0 _ _ _ | exact laws_eqImage.mono _ _ _ _ _ _ _ _ _ | exact lR | exact lN | refine lI ?_ ?_ | refine lB ?_ fun _ => ?_) | exact ih0 _ _ _ | exact laws_eqImage.mono _ _ _ _ _ _ _ _ _ | exact lN | refine lI ?_ ?_ | refine lB ?_ fun _ => ?_
def laws_eqImageS.T6 : Bool × List (List Nat × List Nat) := (true, [([], []), ([], []), ([0, 1], [0, 1]), ([2], [2]), ([], []), ([], []), ([4, 5], [4, 5]), ([6], [6]), ([3, 7], [3, 7]), ([8], [8])])
def laws_eqImageS.B6 : List Nat := [0, 0, 3, 7, 0, 0, 48, 112, 255, 511]
theorem laws_eqImageS.tab6 : rtab .any (opsOf Try.f36 6) = laws_eqImageS.T6 := by kernel_rfl
theorem laws_eqImageS.bits6 : waitsOk laws_eqImageS.T6.2 laws_eqImageS.B6 = true := by kernel_rfl
set_option maxHeartbeats 8000000 in
set_option maxRecDepth 100000 in
theorem laws_eqImageS.calls (k : Nat) (A0 : Option Addr) (c0 : Nat) (l0 : List (S26)) (A1 : Option Addr) (c1 : Nat) (l1 : List (S26)) (r : Bool) (w : World) (hr0 : Kd.C k26 w A0 l0.length l0) (hc0 : l0.length ≤ c0) (hr1 : Kd.C k26 w A1 l1.length l1) (hc1 : l1.length ≤ c1) (h : laws_eqImageS.f k l0 l1 = some r) :
  Calls Try.prog 36 #[.slice A0 l0.length c0, .slice A1 l1.length c1] w fun e w' => e = .returned (.bool r) ∧ Below w.heap.size w w' := by
 have hu26 := Try.underlying26
 have HR0 := aM hr0
 have HC0 := aM hc0
 clear hr0 hc0
 have HR1 := aM hr1
 have HC1 := aM hc1
 clear hr1 hc1
 have HB := aM (Below.refl w.heap.size w)
 unfold laws_eqImageS.f at h
 have H := h
 clear h
 by_cases c3 : (l0.length : Int) = (l1.length : Int)
 rotate_left
 ·rw [if_neg c3] at H
  have c3b0 : ((l0.length : Int) == (l1.length : Int)) = false := beq_eq_false_iff_ne.mpr c3
  have c3b1 : ((l0.length : Int) != (l1.length : Int)) = true := bne_iff_ne.mpr c3
  have c3b2 : (l0.length == l1.length) = false := by first | simpa using c3 | (simp at c3 ⊢; omega)
  obtain rfl := Option.some.inj H
  go_enter Try.func36, Try.ntmps36
  go_wp2
  go_ret
  exact ⟨qX, by exact qW HB.out⟩
 rw [if_pos c3] at H
 have c3b0 : ((l0.length : Int) == (l1.length : Int)) = true := beq_iff_eq.mpr c3
 have c3b1 : ((l0.length : Int) != (l1.length : Int)) = false := bne_eq_false_iff_eq.mpr c3
 have c3b2 : (l0.length == l1.length) = true := by first | simpa using c3 | (simp at c3 ⊢; omega)
 clear c3
 have H' := aM H
 clear H
 go_enter Try.func36, Try.ntmps36
 go_wp2
 go_loopg [5] k (fun kq v5 w' => ∃ (x5_1 : Int), v5 = .int .i64 x5_1 ∧ Aside0 (laws_eqImageS.l0 kq l0 l1 x5_1 = some r) ∧ Aside0 (kq ≤ k) ∧ Aside0 (Below w.heap.size w w'))
 case atStart => exact ⟨(0), qE, H', ⟨Nat.le_refl _⟩, ⟨by exact qW HB.out⟩⟩
 case round =>
  clear H'
  try clear c1
  try clear c3
  try clear c3b0
  try clear c3b1
  try clear c3b2
  obtain ⟨x5_1, rfl, HA, HK1, HB⟩ := hrel
  cases gk with
  | zero => exact absurd HA.out (by simp [laws_eqImageS.l0])
  | succ k1 =>
   have H := HA.out
   clear HA
   simp only [laws_eqImageS.l0] at H
   by_cases c4 : x5_1 < (l0.length : Int)
   rotate_left
   ·rw [if_neg c4] at H
    have c4b0 : decide (x5_1 < (l0.length : Int)) = false := decide_eq_false c4
    clear c4
    obtain rfl := Option.some.inj H
    go_wp2
    go_ret
    exact ⟨qX, by exact qW HB.out⟩
   rw [if_pos c4] at H
   have c4b0 : decide (x5_1 < (l0.length : Int)) = true := decide_eq_true c4
   clear c4
   replace H := iD H
   obtain ⟨c5b0, H⟩ := H
   replace H := iD H
   obtain ⟨c6b0, H⟩ := H
   replace H := Option.bind_eq_some_iff.mp H
   obtain ⟨t875, A70, H⟩ := H
   replace H : (if t875 = true then (laws_eqImageS.l0 k1 l0 l1 (wrap64 (x5_1 + 1))) else (some false)) = some r := H
   have A7 := aM A70
   clear A70
   by_cases c8 : t875 = true
   rotate_left
   ·replace c8 := Bool.eq_false_iff.mpr c8
    subst c8
    have H1 : (some false) = some r := by rw [if_neg (show ¬ (false = true) by decide)] at H; exact H
    clear H
    have H := H1
    clear H1
    obtain rfl := Option.some.inj H
    try go_wp2
    replace HB := aM (below_drew1 HB.out)
    have p873 : 0 ≤ (x5_1 : Int) := oD
    have q873 : x5_1 < (l0.length : Int) := oD
    obtain ⟨ad873, A873_3, c873_3, e873, hx873_0, hx873_1, hx873_2, hx873_3, hl873_3, hi873_3⟩ := at_T26 HR0.out x5_1 p873 q873
    have hw873_3 := hx873_3
    have hw873_2 := hx873_2
    have hw873_1 := hx873_1
    have hw873_0 := hx873_0
    cases e873
    replace hx873_0 := bD HB hx873_0
    replace hx873_1 := bD HB hx873_1
    replace hx873_2 := bD HB hx873_2
    replace hx873_3 := bD HB hx873_3
    have HR873_3 := aM hi873_3
    have HC873_3 := aM hl873_3
    clear hi873_3 hl873_3
    replace p873 := eq_true p873
    replace q873 := eq_true q873
    have p874 : 0 ≤ (x5_1 : Int) := oD
    have q874 : x5_1 < (l1.length : Int) := oD
    obtain ⟨ad874, A874_3, c874_3, e874, hx874_0, hx874_1, hx874_2, hx874_3, hl874_3, hi874_3⟩ := at_T26 HR1.out x5_1 p874 q874
    have hw874_3 := hx874_3
    have hw874_2 := hx874_2
    have hw874_1 := hx874_1
    have hw874_0 := hx874_0
    cases e874
    replace hx874_0 := bD HB hx874_0
    replace hx874_1 := bD HB hx874_1
    replace hx874_2 := bD HB hx874_2
    replace hx874_3 := bD HB hx874_3
    have HR874_3 := aM hi874_3
    have HC874_3 := aM hl874_3
    clear hi874_3 hl874_3
    replace p874 := eq_true p874
    replace q874 := eq_true q874
    refine start_ (n := 10) (S := fun w' => w'.cell? (ad873.add ((x5_1).toNat * 4)) = some (.int .i64 ((rd_T26 l0 x5_1).f0)) ∧ w'.cell? ⟨(ad873.add ((x5_1).toNat * 4)).block, (ad873.add ((x5_1).toNat * 4)).off + 1, none⟩ = some (.int .i64 ((rd_T26 l0 x5_1).f1)) ∧ w'.cell? ⟨(ad873.add ((x5_1).toNat * 4)).block, (ad873.add ((x5_1).toNat * 4)).off + 2, none⟩ = some (.int .i64 ((rd_T26 l0 x5_1).f2)) ∧ w'.cell? ⟨(ad873.add ((x5_1).toNat * 4)).block, (ad873.add ((x5_1).toNat * 4)).off + 3, none⟩ = some (.slice A873_3 ((rd_T26 l0 x5_1).f3).length c873_3) ∧ w'.cell? (ad874.add ((x5_1).toNat * 4)) = some (.int .i64 ((rd_T26 l1 x5_1).f0)) ∧ w'.cell? ⟨(ad874.add ((x5_1).toNat * 4)).block, (ad874.add ((x5_1).toNat * 4)).off + 1, none⟩ = some (.int .i64 ((rd_T26 l1 x5_1).f1)) ∧ w'.cell? ⟨(ad874.add ((x5_1).toNat * 4)).block, (ad874.add ((x5_1).toNat * 4)).off + 2, none⟩ = some (.int .i64 ((rd_T26 l1 x5_1).f2)) ∧ w'.cell? ⟨(ad874.add ((x5_1).toNat * 4)).block, (ad874.add ((x5_1).toNat * 4)).off + 3, none⟩ = some (.slice A874_3 ((rd_T26 l1 x5_1).f3).length c874_3)) (ds := []) (bA 10 0) (by kernel_rfl) rfl rfl ⟨(bC HB hw873_0), (bC HB hw873_1), (bC HB hw873_2), (bC HB hw873_3), (bC HB hw874_0), (bC HB hw874_1), (bC HB hw874_2), (bC HB hw874_3)⟩ (fun hHeld => ?_); refine with_tabW laws_eqImageS.tab6 laws_eqImageS.bits6 (fun HT_ HW_ => ?_)
    generalize wr.drew = w11 at HB HR873_3 HR874_3 hx873_0 hx873_1 hx873_2 hx873_3 hx874_0 hx874_1 hx874_2 hx874_3 hHeld ⊢
    refine pQ 0 17 HT_ (bA 10 1) ?_
    refine pQ 1 18 HT_ (bA 10 3) ?_
    refine pQ 2 19 HT_ (bA 10 7) ?_
    refine pQ 4 21 HT_ (bA 10 23) ?_
    refine pQ 5 22 HT_ (bA 10 55) ?_
    refine pQ 6 23 HT_ (bA 10 119) ?_
    refine take_ (i := 3) (N := some 20) (v := ?_) (a' := ?_) (bA 10 127) rfl rfl (take_ofW HT_.out HW_.out (by kernel_rfl)) (fun _ _ _ h => h) (Or.inl ⟨by rfl, ?_⟩) hHeld ?_ ?_
    rotate_left
    ·rintro w' ⟨s0, s1, s2, s3, s4, s5, s6, s7⟩
     go_simp
     with_reducible rfl
    rotate_left
    ·refine pZ ?_
     rfl
    refine take_ (i := 7) (N := some 24) (v := ?_) (a' := ?_) (bA 10 255) rfl rfl (take_ofW HT_.out HW_.out (by kernel_rfl)) (fun _ _ _ h => h) (Or.inl ⟨by rfl, ?_⟩) hHeld ?_ ?_
    rotate_left
    ·rintro w' ⟨s0, s1, s2, s3, s4, s5, s6, s7⟩
     go_simp
     with_reducible rfl
    rotate_left
    ·refine pZ ?_
     rfl
    refine one_ (i := 8) (N := some 25) (bA 10 511) rfl rfl (one_of HT_.out (by kernel_rfl)) (by decide) (fun K hK => ?_)
    refine goes_ Try.func19 (by kernel_rfl) rfl #[.agg #[.int .i64 ((rd_T26 l0 x5_1).f0), .int .i64 ((rd_T26 l0 x5_1).f1), .int .i64 ((rd_T26 l0 x5_1).f2), .slice A873_3 ((rd_T26 l0 x5_1).f3).length c873_3], .agg #[.int .i64 ((rd_T26 l1 x5_1).f0), .int .i64 ((rd_T26 l1 x5_1).f1), .int .i64 ((rd_T26 l1 x5_1).f2), .slice A874_3 ((rd_T26 l1 x5_1).f3).length c874_3]] (by rfl) rfl rfl qM ?_
    with_reducible refine (laws_eqImage.calls k1 ((rd_T26 l0 x5_1).f0) ((rd_T26 l0 x5_1).f1) ((rd_T26 l0 x5_1).f2) _ _ ((rd_T26 l0 x5_1).f3) ((rd_T26 l1 x5_1).f0) ((rd_T26 l1 x5_1).f1) ((rd_T26 l1 x5_1).f2) _ _ ((rd_T26 l1 x5_1).f3) false _ ?side1 ?side2 ?side3 ?side4 A7.out).mono ?_
    (case side1 => exact qC (Kd.C_below HR873_3.out HB.out))
    (case side2 => exact HC873_3.out)
    (case side3 => exact qC (Kd.C_below HR874_3.out HB.out))
    (case side4 => exact HC874_3.out)
    rintro e w12 ⟨rfl, hb⟩
    refine ⟨_, rfl, ?_⟩
    replace HB := bS HB hb
    (try clear hb)
    (try clear hb2)
    (try clear hk)
    (try clear hi)
    refine hK.out _ _ ⟨(bC HB hw873_0), (bC HB hw873_1), (bC HB hw873_2), (bC HB hw873_3), (bC HB hw874_0), (bC HB hw874_1), (bC HB hw874_2), (bC HB hw874_3)⟩ (fun hHeld => ?_)
    clear hK K
    refine norm_ (a' := ?_) ?_ ?_
    rotate_left
    ·show Act.put _ (some 25) _ = _
     refine pZ ?_
     rfl
    refine pQ 9 26 HT_ (bA 10 1023) ?_
    refine done_ (done_of HT_.out (by kernel_rfl)) ?_
    try go_wp2
    go_ret
    exact ⟨qX, by exact qW HB.out⟩
   subst c8
   have H1 : (laws_eqImageS.l0 k1 l0 l1 (wrap64 (x5_1 + 1))) = some r := by rw [if_pos rfl] at H; exact H
   clear H
   have H := H1
   clear H1
   have H' := aM H
   clear H
   try go_wp2
   replace HB := aM (below_drew1 HB.out)
   have p873 : 0 ≤ (x5_1 : Int) := oD
   have q873 : x5_1 < (l0.length : Int) := oD
   obtain ⟨ad873, A873_3, c873_3, e873, hx873_0, hx873_1, hx873_2, hx873_3, hl873_3, hi873_3⟩ := at_T26 HR0.out x5_1 p873 q873
   have hw873_3 := hx873_3
   have hw873_2 := hx873_2
   have hw873_1 := hx873_1
   have hw873_0 := hx873_0
   cases e873
   replace hx873_0 := bD HB hx873_0
   replace hx873_1 := bD HB hx873_1
   replace hx873_2 := bD HB hx873_2
   replace hx873_3 := bD HB hx873_3
   have HR873_3 := aM hi873_3
   have HC873_3 := aM hl873_3
   clear hi873_3 hl873_3
   replace p873 := eq_true p873
   replace q873 := eq_true q873
   have p874 : 0 ≤ (x5_1 : Int) := oD
   have q874 : x5_1 < (l1.length : Int) := oD
   obtain ⟨ad874, A874_3, c874_3, e874, hx874_0, hx874_1, hx874_2, hx874_3, hl874_3, hi874_3⟩ := at_T26 HR1.out x5_1 p874 q874
   have hw874_3 := hx874_3
   have hw874_2 := hx874_2
   have hw874_1 := hx874_1
   have hw874_0 := hx874_0
   cases e874
   replace hx874_0 := bD HB hx874_0
   replace hx874_1 := bD HB hx874_1
   replace hx874_2 := bD HB hx874_2
   replace hx874_3 := bD HB hx874_3
   have HR874_3 := aM hi874_3
   have HC874_3 := aM hl874_3
   clear hi874_3 hl874_3
   replace p874 := eq_true p874
   replace q874 := eq_true q874
   refine start_ (n := 10) (S := fun w' => w'.cell? (ad873.add ((x5_1).toNat * 4)) = some (.int .i64 ((rd_T26 l0 x5_1).f0)) ∧ w'.cell? ⟨(ad873.add ((x5_1).toNat * 4)).block, (ad873.add ((x5_1).toNat * 4)).off + 1, none⟩ = some (.int .i64 ((rd_T26 l0 x5_1).f1)) ∧ w'.cell? ⟨(ad873.add ((x5_1).toNat * 4)).block, (ad873.add ((x5_1).toNat * 4)).off + 2, none⟩ = some (.int .i64 ((rd_T26 l0 x5_1).f2)) ∧ w'.cell? ⟨(ad873.add ((x5_1).toNat * 4)).block, (ad873.add ((x5_1).toNat * 4)).off + 3, none⟩ = some (.slice A873_3 ((rd_T26 l0 x5_1).f3).length c873_3) ∧ w'.cell? (ad874.add ((x5_1).toNat * 4)) = some (.int .i64 ((rd_T26 l1 x5_1).f0)) ∧ w'.cell? ⟨(ad874.add ((x5_1).toNat * 4)).block, (ad874.add ((x5_1).toNat * 4)).off + 1, none⟩ = some (.int .i64 ((rd_T26 l1 x5_1).f1)) ∧ w'.cell? ⟨(ad874.add ((x5_1).toNat * 4)).block, (ad874.add ((x5_1).toNat * 4)).off + 2, none⟩ = some (.int .i64 ((rd_T26 l1 x5_1).f2)) ∧ w'.cell? ⟨(ad874.add ((x5_1).toNat * 4)).block, (ad874.add ((x5_1).toNat * 4)).off + 3, none⟩ = some (.slice A874_3 ((rd_T26 l1 x5_1).f3).length c874_3)) (ds := []) (bA 10 0) (by kernel_rfl) rfl rfl ⟨(bC HB hw873_0), (bC HB hw873_1), (bC HB hw873_2), (bC HB hw873_3), (bC HB hw874_0), (bC HB hw874_1), (bC HB hw874_2), (bC HB hw874_3)⟩ (fun hHeld => ?_); refine with_tabW laws_eqImageS.tab6 laws_eqImageS.bits6 (fun HT_ HW_ => ?_)
   generalize wr.drew = w9 at HB HR873_3 HR874_3 hx873_0 hx873_1 hx873_2 hx873_3 hx874_0 hx874_1 hx874_2 hx874_3 hHeld ⊢
   refine pQ 0 17 HT_ (bA 10 1) ?_
   refine pQ 1 18 HT_ (bA 10 3) ?_
   refine pQ 2 19 HT_ (bA 10 7) ?_
   refine pQ 4 21 HT_ (bA 10 23) ?_
   refine pQ 5 22 HT_ (bA 10 55) ?_
   refine pQ 6 23 HT_ (bA 10 119) ?_
   refine take_ (i := 3) (N := some 20) (v := ?_) (a' := ?_) (bA 10 127) rfl rfl (take_ofW HT_.out HW_.out (by kernel_rfl)) (fun _ _ _ h => h) (Or.inl ⟨by rfl, ?_⟩) hHeld ?_ ?_
   rotate_left
   ·rintro w' ⟨s0, s1, s2, s3, s4, s5, s6, s7⟩
    go_simp
    with_reducible rfl
   rotate_left
   ·refine pZ ?_
    rfl
   refine take_ (i := 7) (N := some 24) (v := ?_) (a' := ?_) (bA 10 255) rfl rfl (take_ofW HT_.out HW_.out (by kernel_rfl)) (fun _ _ _ h => h) (Or.inl ⟨by rfl, ?_⟩) hHeld ?_ ?_
   rotate_left
   ·rintro w' ⟨s0, s1, s2, s3, s4, s5, s6, s7⟩
    go_simp
    with_reducible rfl
   rotate_left
   ·refine pZ ?_
    rfl
   refine one_ (i := 8) (N := some 25) (bA 10 511) rfl rfl (one_of HT_.out (by kernel_rfl)) (by decide) (fun K hK => ?_)
   refine goes_ Try.func19 (by kernel_rfl) rfl #[.agg #[.int .i64 ((rd_T26 l0 x5_1).f0), .int .i64 ((rd_T26 l0 x5_1).f1), .int .i64 ((rd_T26 l0 x5_1).f2), .slice A873_3 ((rd_T26 l0 x5_1).f3).length c873_3], .agg #[.int .i64 ((rd_T26 l1 x5_1).f0), .int .i64 ((rd_T26 l1 x5_1).f1), .int .i64 ((rd_T26 l1 x5_1).f2), .slice A874_3 ((rd_T26 l1 x5_1).f3).length c874_3]] (by rfl) rfl rfl qM ?_
   with_reducible refine (laws_eqImage.calls k1 ((rd_T26 l0 x5_1).f0) ((rd_T26 l0 x5_1).f1) ((rd_T26 l0 x5_1).f2) _ _ ((rd_T26 l0 x5_1).f3) ((rd_T26 l1 x5_1).f0) ((rd_T26 l1 x5_1).f1) ((rd_T26 l1 x5_1).f2) _ _ ((rd_T26 l1 x5_1).f3) true _ ?side1 ?side2 ?side3 ?side4 A7.out).mono ?_
   (case side1 => exact qC (Kd.C_below HR873_3.out HB.out))
   (case side2 => exact HC873_3.out)
   (case side3 => exact qC (Kd.C_below HR874_3.out HB.out))
   (case side4 => exact HC874_3.out)
   rintro e w10 ⟨rfl, hb⟩
   refine ⟨_, rfl, ?_⟩
   replace HB := bS HB hb
   (try clear hb)
   (try clear hb2)
   (try clear hk)
   (try clear hi)
   refine hK.out _ _ ⟨(bC HB hw873_0), (bC HB hw873_1), (bC HB hw873_2), (bC HB hw873_3), (bC HB hw874_0), (bC HB hw874_1), (bC HB hw874_2), (bC HB hw874_3)⟩ (fun hHeld => ?_)
   clear hK K
   refine norm_ (a' := ?_) ?_ ?_
   rotate_left
   ·show Act.put _ (some 25) _ = _
    refine pZ ?_
    rfl
   refine pQ 9 26 HT_ (bA 10 1023) ?_
   refine done_ (done_of HT_.out (by kernel_rfl)) ?_
   try go_wp2
   go_roundg k1
   case measure => have := HK1.out; omega
   case rel => exact ⟨(wrap64 (x5_1 + 1)), qE, H', ⟨by have := HK1.out; omega⟩, ⟨by exact qW HB.out⟩⟩
def laws_markImageS.l0 : Nat → List S26 → Int → Int → Option (Int × List S26)
 | 0, _, _, _ => none
 | k + 1, x0, x1, x5 => if x5 < (x0.length : Int) then (if 0 ≤ x5 then ((laws_markIntS.f k (rd_T26 x0 x5).f3 (wrap64 (wrap64 (wrap64 (x1 + 1) + 1) + 1))).bind fun bt => laws_markImageS.l0 k (x0.set (x5 : Int).toNat (⟨x1, wrap64 (x1 + 1), wrap64 (wrap64 (x1 + 1) + 1), bt.2⟩ : S26)) bt.1 (wrap64 (x5 + 1))) else (none)) else (some (x1, x0))
def laws_markImageS.f (k : Nat) (l0 : List S26) (a1 : Int) : Option (Int × List S26) := laws_markImageS.l0 k l0 a1 0
theorem laws_markImageS.mono_l : ∀ k, (∀ y0 y1 y2, LeO (laws_markImageS.l0 k y0 y1 y2) (laws_markImageS.l0 (k + 1) y0 y1 y2))
 | 0 => fun _ _ _ r h => by simp [laws_markImageS.l0] at h
 | k + 1 => by
  have ih0 := laws_markImageS.mono_l k
  intro y0 y1 y2
  unfold laws_markImageS.l0
  repeat' first | (with_reducible first | exact ih0 _ _ _ | exact laws_markIntS.mono _ _ _ | exact lR | exact lN | refine lI ?_ ?_ | refine lB ?_ fun _ => ?_) | exact ih0 _ _ _ | exact laws_markIntS.mono _ _ _ | exact lN | refine lI ?_ ?_ | refine lB ?_ fun _ => ?_
theorem laws_markImageS.mono : ∀ a0 a1 k, LeO (laws_markImageS.f k a0 a1) (laws_markImageS.f (k + 1) a0 a1) := by
 intro a0 a1 k
 exact laws_markImageS.mono_l k _ _ _
theorem S_imgAt {W : World} {base : Nat} {ok : Nat → Prop} {g n cap : Nat} {xs : List S26} (h : Kd.S k26 26 W base ok (.slice (some ⟨g, 0, none⟩) n cap) xs) (i : Int) (h0 : 0 ≤ i) (h1 : i < n) :
  (W.cell? ⟨g, i.toNat * 4, none⟩ = some (.int .i64 (rd_T26 xs i).f0) ∧ W.cell? ⟨g, i.toNat * 4 + 1, none⟩ = some (.int .i64 (rd_T26 xs i).f1) ∧ W.cell? ⟨g, i.toNat * 4 + 2, none⟩ = some (.int .i64 (rd_T26 xs i).f2)) ∧
   (∀ j, W.frozen? ⟨g, i.toNat * 4 + j, none⟩ = false) ∧ W.frozen? ⟨g, i.toNat * 4, none⟩ = false := by
 obtain ⟨oki, c, hcl, hM, hcc, hfr, hoki, hH⟩ := Kd.S_elem h z26 i h0 h1
 obtain ⟨v3, rfl, _⟩ := k26_openM hM
 have f0 := hfr 0
 rw [show k26.sz = 4 from rfl] at hfr f0
 refine ⟨⟨?_, ?_, ?_⟩, hfr, f0⟩
 rotate_left
 ·exact hcc 1 _ rfl
 ·exact hcc 2 _ rfl
 exact hcc 0 _ rfl
theorem S_imgKept {W : World} {base : Nat} {ok : Nat → Prop} {g n cap : Nat} {xs : List S26} (h : Kd.S k26 26 W base ok (.slice (some ⟨g, 0, none⟩) n cap) xs) (i : Nat) (u : Value) : Kept W (W.setCell ⟨g, i, none⟩ u) ok :=
 (Kept.refl W ok).setCell (.inl ((Kd.S_R h).1 g (by simp [Value.ownBlock]))) u
theorem S_img0 {W : World} {base : Nat} {ok : Nat → Prop} {g n cap : Nat} {xs : List S26} (h : Kd.S k26 26 W base ok (.slice (some ⟨g, 0, none⟩) n cap) xs) (i : Int) (h0 : 0 ≤ i) (h1 : i < n) (v : Int) :
  Kd.S k26 26 (W.setCell ⟨g, i.toNat * 4, none⟩ (.int .i64 v)) base ok (.slice (some ⟨g, 0, none⟩) n cap) (xs.set i.toNat (⟨v, (rd_T26 xs i).f1, (rd_T26 xs i).f2, (rd_T26 xs i).f3⟩ : S26)) := by
 obtain ⟨oki, c, hcl, hM, hcc, hfr, hoki, hH⟩ := Kd.S_elem h z26 i h0 h1
 obtain ⟨v3, rfl, hR⟩ := k26_openM hM
 exact (Kd.S_seg (okg := fun _ => False) (Kd.H_mono hH (fun _ hk => ⟨hk, fun h => h⟩)) h0 h1 (seg := [.int .i64 v]) (j := 0) (show 1 ≤ 4 by decide) (k26_mkM _ _ _ (⟨v, (rd_T26 xs i).f1, (rd_T26 xs i).f2, (rd_T26 xs i).f3⟩ : S26) hR) (fun _ hk => .inl hk) (fun _ hk => hk.elim)).1
theorem S_img1 {W : World} {base : Nat} {ok : Nat → Prop} {g n cap : Nat} {xs : List S26} (h : Kd.S k26 26 W base ok (.slice (some ⟨g, 0, none⟩) n cap) xs) (i : Int) (h0 : 0 ≤ i) (h1 : i < n) (v : Int) :
  Kd.S k26 26 (W.setCell ⟨g, i.toNat * 4 + 1, none⟩ (.int .i64 v)) base ok (.slice (some ⟨g, 0, none⟩) n cap) (xs.set i.toNat (⟨(rd_T26 xs i).f0, v, (rd_T26 xs i).f2, (rd_T26 xs i).f3⟩ : S26)) := by
 obtain ⟨oki, c, hcl, hM, hcc, hfr, hoki, hH⟩ := Kd.S_elem h z26 i h0 h1
 obtain ⟨v3, rfl, hR⟩ := k26_openM hM
 exact (Kd.S_seg (okg := fun _ => False) (Kd.H_mono hH (fun _ hk => ⟨hk, fun h => h⟩)) h0 h1 (seg := [.int .i64 v]) (j := 1) (show 2 ≤ 4 by decide) (k26_mkM _ _ _ (⟨(rd_T26 xs i).f0, v, (rd_T26 xs i).f2, (rd_T26 xs i).f3⟩ : S26) hR) (fun _ hk => .inl hk) (fun _ hk => hk.elim)).1
theorem S_img2 {W : World} {base : Nat} {ok : Nat → Prop} {g n cap : Nat} {xs : List S26} (h : Kd.S k26 26 W base ok (.slice (some ⟨g, 0, none⟩) n cap) xs) (i : Int) (h0 : 0 ≤ i) (h1 : i < n) (v : Int) :
  Kd.S k26 26 (W.setCell ⟨g, i.toNat * 4 + 2, none⟩ (.int .i64 v)) base ok (.slice (some ⟨g, 0, none⟩) n cap) (xs.set i.toNat (⟨(rd_T26 xs i).f0, (rd_T26 xs i).f1, v, (rd_T26 xs i).f3⟩ : S26)) := by
 obtain ⟨oki, c, hcl, hM, hcc, hfr, hoki, hH⟩ := Kd.S_elem h z26 i h0 h1
 obtain ⟨v3, rfl, hR⟩ := k26_openM hM
 exact (Kd.S_seg (okg := fun _ => False) (Kd.H_mono hH (fun _ hk => ⟨hk, fun h => h⟩)) h0 h1 (seg := [.int .i64 v]) (j := 2) (show 3 ≤ 4 by decide) (k26_mkM _ _ _ (⟨(rd_T26 xs i).f0, (rd_T26 xs i).f1, v, (rd_T26 xs i).f3⟩ : S26) hR) (fun _ hk => .inl hk) (fun _ hk => hk.elim)).1
theorem S_imgHanded {W : World} {base : Nat} {ok : Nat → Prop} {g n cap : Nat} {xs : List S26} (h : Kd.S k26 26 W base ok (.slice (some ⟨g, 0, none⟩) n cap) xs) (i : Int) (h0 : 0 ≤ i) (h1 : i < n) :
  ∃ (oki : Nat → Prop) (vr : Value), W.cell? ⟨g, i.toNat * 4 + 3, none⟩ = some vr ∧ Kd.R (Kd.int .i64) 3 W base oki vr (rd_T26 xs i).f3 ∧ (∀ k, oki k → ok k) ∧
   ∀ (W2 : World) (y : List Int) (P : Nat → Prop), Kept W W2 oki → Kd.R (Kd.int .i64) 3 W2 base P vr y → Kd.S k26 26 W2 base ok (.slice (some ⟨g, 0, none⟩) n cap) (xs.set i.toNat (⟨(rd_T26 xs i).f0, (rd_T26 xs i).f1, (rd_T26 xs i).f2, y⟩ : S26)) := by
 obtain ⟨oki, c, hcl, hM, hcc, hoki, hH⟩ := Kd.S_lend h z26 i h0 h1
 obtain ⟨vr, rfl, hR⟩ := k26_openM hM
 refine ⟨oki, vr, hcc 3 vr rfl, hR, fun k hk => (hoki k hk).1, fun W2 y P hk hR2 => ?_⟩
 exact Kd.H_back (Kd.H_kept hH hk (fun k _ hn => hn)) (k26_mkM _ _ _ (⟨(rd_T26 xs i).f0, (rd_T26 xs i).f1, (rd_T26 xs i).f2, y⟩ : S26) (Kd.R_mono (Kd.R_tight rfl hR2) (fun k hk => hR.1 k hk.symm))) (fun _ h => h)
theorem rd_imgSet (xs : List S26) (i : Int) (h0 : 0 ≤ i) (h1 : i < (xs.length : Int)) (x : S26) : rd_T26 (xs.set i.toNat x) i = x := by
 unfold rd_T26
 rw [List.getD_eq_getElem?_getD, List.getElem?_set_self (by omega)]
 rfl
set_option maxHeartbeats 8000000 in
set_option maxRecDepth 100000 in
theorem laws_markImageS.calls (k : Nat) (P0_ : Nat → Prop) (u9000_ : Value) (l0 : List S26) (a1 : Int) (r1 : Int) (r2 : List S26) (w0 w : World) (hB : Below w0.heap.size w0 w) (ho0 : Kd.S k26 26 w w0.heap.size P0_ u9000_ l0) (h : laws_markImageS.f k l0 a1 = some (r1, r2)) :
  Calls Try.prog 37 #[u9000_, .int .i64 a1] w fun e w' => e = .returned (.int .i64 r1) ∧ Kd.S k26 26 w' w0.heap.size P0_ u9000_ r2 ∧ Below w0.heap.size w0 w' ∧ Kept w w' (fun k_ => P0_ k_) := by
 have HO0 := aM ho0
 have HK := aM (Kept.refl w (fun k_ => P0_ k_))
 have HB := aM hB
 clear hB ho0
 unfold laws_markImageS.f at h
 have H := h
 clear h
 have H' := aM H
 clear H
 obtain ⟨Au, cu, eu⟩ := Kd.S_slice HO0.out
 subst eu
 obtain ⟨nu, hnu⟩ : ∃ z, l0.length = z := ⟨_, rfl⟩
 rw [hnu] at HO0 ⊢
 have HNU := aM hnu
 clear hnu
 go_enter Try.func37, Try.ntmps37
 go_wp2
 go_loopg [1, 5] k (fun kq v1 v5 w' => ∃ (x0_1 : List S26) (x1_1 : Int) (x5_1 : Int), v1 = .int .i64 x1_1 ∧ v5 = .int .i64 x5_1 ∧ Aside0 (laws_markImageS.l0 kq x0_1 x1_1 x5_1 = some (r1, r2)) ∧ Aside0 (kq ≤ k) ∧ Aside0 (Kd.S k26 26 w' w0.heap.size P0_ (.slice Au nu cu) x0_1) ∧ Aside0 (Kept w w' (fun k_ => P0_ k_)) ∧ Aside0 (Below w0.heap.size w0 w'))
 case atStart => exact ⟨l0, a1, 0, rfl, rfl, H', ⟨Nat.le_refl _⟩, HO0, HK, HB⟩
 case round =>
  clear H' HO0 HK HB
  obtain ⟨x0_1, x1_1, x5_1, rfl, rfl, HA, HK1, HO, HK, HB⟩ := hrel
  cases gk with
  | zero => exact absurd HA.out (by simp [laws_markImageS.l0])
  | succ k1 =>
   have H := HA.out
   clear HA
   simp only [laws_markImageS.l0] at H
   have hn := (Kd.S_reads' HO.out).1
   by_cases c3 : x5_1 < (x0_1.length : Int)
   rotate_left
   ·rw [if_neg c3] at H
    simp only [Option.some.injEq, Prod.mk.injEq] at H
    obtain ⟨rfl, rfl⟩ := H
    have c5 : ¬ x5_1 < (nu : Int) := by omega
    have c5b := decide_eq_false c5
    clear hn
    go_wp2
    go_ret
    exact ⟨rfl, HO.out, HB.out, HK.out⟩
   rw [if_pos c3] at H
   replace H := iS H
   obtain ⟨c4, H⟩ := H
   replace H := Option.bind_eq_some_iff.mp H
   obtain ⟨⟨q1, q2⟩, A50, H⟩ := H
   have A5 := aM A50
   clear A50
   have H' := aM H
   clear H
   obtain ⟨g, cg, eg, _⟩ := Kd.S_form HO.out (by omega)
   have c5 : x5_1 < (nu : Int) := by omega
   have HN := aM hn
   clear hn
   injection eg with ea en ec
   subst ea ec
   clear en
   have hgP : P0_ g := (Kd.S_R HO.out).1 g (by simp [Value.ownBlock])
   have hgB : w0.heap.size ≤ g := Kd.R_base (Kd.S_R HO.out) g (by simp [Value.ownBlock])
   have HG1 := aM hgP
   have HG2 := aM hgB
   clear hgP hgB
   have e0 := S_imgAt HO.out x5_1 c4 c5
   obtain ⟨W0, eW0⟩ : ∃ z, wr.setCell ⟨g, x5_1.toNat * 4, none⟩ (.int .i64 x1_1) = z := ⟨_, rfl⟩
   have HO1 := aM (show Kd.S k26 26 W0 w0.heap.size P0_ (.slice (some ⟨g, 0, none⟩) nu cu) _ by rw [← eW0]; exact S_img0 HO.out x5_1 c4 c5 x1_1)
   have e1 := S_imgAt HO1.out x5_1 c4 c5
   obtain ⟨W1, eW1⟩ : ∃ z, W0.setCell ⟨g, x5_1.toNat * 4 + 1, none⟩ (.int .i64 (wrap64 (x1_1 + 1))) = z := ⟨_, rfl⟩
   have HO2 := aM (show Kd.S k26 26 W1 w0.heap.size P0_ (.slice (some ⟨g, 0, none⟩) nu cu) _ by rw [← eW1]; exact S_img1 HO1.out x5_1 c4 c5 (wrap64 (x1_1 + 1)))
   have e2 := S_imgAt HO2.out x5_1 c4 c5
   obtain ⟨W2, eW2⟩ : ∃ z, W1.setCell ⟨g, x5_1.toNat * 4 + 2, none⟩ (.int .i64 (wrap64 (wrap64 (x1_1 + 1) + 1))) = z := ⟨_, rfl⟩
   have HO3 := aM (show Kd.S k26 26 W2 w0.heap.size P0_ (.slice (some ⟨g, 0, none⟩) nu cu) _ by rw [← eW2]; exact S_img2 HO2.out x5_1 c4 c5 (wrap64 (wrap64 (x1_1 + 1) + 1)))
   have HB3 := aM (show Below w0.heap.size w0 W2 by rw [← eW2, ← eW1, ← eW0]; exact below_set (below_set (below_set HB.out HG2.out) HG2.out) HG2.out)
   have HK3 := aM (show Kept w W2 (fun k_ => P0_ k_) by rw [← eW2, ← eW1, ← eW0]; exact ((HK.out.setCell (.inl HG1.out) _).setCell (.inl HG1.out) _).setCell (.inl HG1.out) _)
   obtain ⟨⟨z00, _, _⟩, _, f00⟩ := e0
   obtain ⟨⟨_, z11, _⟩, f1, _⟩ := e1
   obtain ⟨⟨_, _, z22⟩, f2, _⟩ := e2
   have f11 := f1 1
   have f22 := f2 2
   clear f1 f2
   have rl : ∀ z : S26, rd_T26 (x0_1.set x5_1.toNat z) x5_1 = z := fun z => rd_imgSet x0_1 x5_1 c4 c3 z
   have ll : ∀ z : S26, (x0_1.set x5_1.toNat z).length = x0_1.length := fun z => List.length_set
   simp only [rl, List.set_set] at HO1 HO2 HO3 z11 z22
   obtain ⟨oki, vr, hx, hR, hoki, hback⟩ := S_imgHanded HO3.out x5_1 c4 c5
   simp only [rl, List.set_set] at hR hback
   have HR := aM hR
   have HX := aM hback
   have HI := aM hoki
   clear hback hR hoki rl ll HO HO1 HO2 HO3 HB HK
   have c4b := decide_eq_true c4
   have c5b := decide_eq_true c5
   have c4t := eq_true c4
   have c5t := eq_true c5
   have EW0 := aM eW0
   have EW1 := aM eW1
   have EW2 := aM eW2
   clear eW0 eW1 eW2
   go_wp2_with (first | ((with_reducible refine gate_store (t := 3) (p := 16) rfl ?_); refine store_event (t := 3) (p := 16) (v := ?vo_mia) (w1 := (wr.setCell ⟨g, x5_1.toNat * 4, none⟩ (.int .i64 x1_1))) ?hg ?ho ?hn ?hr ?_; (case ho => rfl); (case hg => rfl); (case hn => rfl); (case hr => first | (go_simp; done) | (go_simp; rfl)); intro w9 hw; rw [EW0.out] at hw; have hv := hw.symm; clear hw; subst hv) | ((with_reducible refine gate_store (t := 3) (p := 23) rfl ?_); refine store_event (t := 3) (p := 23) (v := ?vo_mib) (w1 := (W0.setCell ⟨g, x5_1.toNat * 4 + 1, none⟩ (.int .i64 (wrap64 (x1_1 + 1))))) ?hg ?ho ?hn ?hr ?_; (case ho => rfl); (case hg => rfl); (case hn => rfl); (case hr => first | (go_simp; done) | (go_simp; rfl)); intro w9 hw; rw [EW1.out] at hw; have hv := hw.symm; clear hw; subst hv) | ((with_reducible refine gate_store (t := 3) (p := 30) rfl ?_); refine store_event (t := 3) (p := 30) (v := ?vo_mic) (w1 := (W1.setCell ⟨g, x5_1.toNat * 4 + 2, none⟩ (.int .i64 (wrap64 (wrap64 (x1_1 + 1) + 1))))) ?hg ?ho ?hn ?hr ?_; (case ho => rfl); (case hg => rfl); (case hn => rfl); (case hr => first | (go_simp; done) | (go_simp; rfl)); intro w9 hw; rw [EW2.out] at hw; have hv := hw.symm; clear hw; subst hv) | ((with_reducible refine gate_callee (f := 54) rfl ?_); refine goesL_ (some 39) rfl rfl Try.func54 (by kernel_rfl) rfl #[vr, .int .i64 (wrap64 (wrap64 (wrap64 (x1_1 + 1) + 1) + 1))] rfl (by (try simp only [List.map_toArray, List.map_cons, List.map_nil]); first | done | rfl) ?_; (with_reducible refine (laws_markIntS.calls k1 oki vr (rd_T26 x0_1 x5_1).f3 (wrap64 (wrap64 (wrap64 (x1_1 + 1) + 1) + 1)) q1 q2 w0 _ ?side1 ?side2 A5.out).mono ?_); (case side1 => exact HB3.out); (case side2 => exact HR.out); rintro e w2 ⟨rfl, hr2, hb2, hk2⟩; refine ⟨_, rfl, ?_⟩; have HO2 := aM (HX.out w2 q2 _ hk2 hr2); have HB2 := aM hb2; have HK2 := aM (HK3.out.then_ hk2 (fun k hk => .inl (HI.out k hk))); clear hr2 hb2 hk2 HX HR HB3 HK3))
   go_roundg k1
   case measure => have := HK1.out; omega
   case rel => exact ⟨_, q1, wrap64 (x5_1 + 1), rfl, qE, H', ⟨by have := HK1.out; omega⟩, HO2, HK2, HB2⟩
def laws_heldImageS.l0 : Nat → List (S26) → Int → Int → Option (Int)
 | 0, _, _, _ => none
 | k + 1, x0, x1, x5 => if x5 < (x0.length : Int) then (if 0 ≤ x5 then (if ((rd_T26 x0 x5).f0) = x1 then (if ((rd_T26 x0 x5).f1) = (wrap64 (x1 + 1)) then (if ((rd_T26 x0 x5).f2) = (wrap64 ((wrap64 (x1 + 1)) + 1)) then ((laws_heldIntS.f k ((rd_T26 x0 x5).f3) (wrap64 ((wrap64 ((wrap64 (x1 + 1)) + 1)) + 1))).bind fun t880 => (if t880 < 0 then (some (-1)) else (laws_heldImageS.l0 k x0 t880 (wrap64 (x5 + 1))))) else (some (-1))) else (some (-1))) else (some (-1))) else (none)) else (some x1)
def laws_heldImageS.f (k : Nat) (l0 : List (S26)) (a1 : Int) : Option (Int) := laws_heldImageS.l0 k l0 a1 0
theorem laws_heldImageS.mono_l : ∀ k, (∀ y0 y1 y2, LeO (laws_heldImageS.l0 k y0 y1 y2) (laws_heldImageS.l0 (k + 1) y0 y1 y2))
 | 0 => fun _ _ _ r h => by simp [laws_heldImageS.l0] at h
 | k + 1 => by
  have ih0 := laws_heldImageS.mono_l k
  ·intro y0 y1 y2
   unfold laws_heldImageS.l0
   repeat' first | (with_reducible first | exact ih0 _ _ _ | exact laws_heldIntS.mono _ _ _ | exact lR | exact lN | refine lI ?_ ?_ | refine lB ?_ fun _ => ?_) | exact ih0 _ _ _ | exact laws_heldIntS.mono _ _ _ | exact lN | refine lI ?_ ?_ | refine lB ?_ fun _ => ?_
theorem laws_heldImageS.mono : ∀ a0 a1 k, LeO (laws_heldImageS.f k a0 a1) (laws_heldImageS.f (k + 1) a0 a1) := by
 intro a0 a1 k
 have ih0 := laws_heldImageS.mono_l k
 unfold laws_heldImageS.f
 repeat' first | (with_reducible first | exact ih0 _ _ _ | exact laws_heldIntS.mono _ _ _ | exact lR | exact lN | refine lI ?_ ?_ | refine lB ?_ fun _ => ?_) | exact ih0 _ _ _ | exact laws_heldIntS.mono _ _ _ | exact lN | refine lI ?_ ?_ | refine lB ?_ fun _ => ?_
set_option maxHeartbeats 8000000 in
set_option maxRecDepth 100000 in
theorem laws_heldImageS.calls (k : Nat) (A0 : Option Addr) (c0 : Nat) (l0 : List (S26)) (a1 : Int) (r : Int) (w : World) (hr0 : Kd.C k26 w A0 l0.length l0) (hc0 : l0.length ≤ c0) (h : laws_heldImageS.f k l0 a1 = some r) :
  Calls Try.prog 38 #[.slice A0 l0.length c0, .int .i64 a1] w fun e w' => e = .returned (.int .i64 r) ∧ Drawn0 w w' := by
 have HR0 := aM hr0
 have HC0 := aM hc0
 clear hr0 hc0
 unfold laws_heldImageS.f at h
 have H := h
 clear h
 have H' := aM H
 clear H
 go_enter Try.func38, Try.ntmps38
 go_wp2
 go_loopg [1, 5] k (fun kq v1 v5 w' => ∃ (x1_1 : Int) (x5_1 : Int), v1 = .int .i64 x1_1 ∧ v5 = .int .i64 x5_1 ∧ Aside0 (laws_heldImageS.l0 kq l0 x1_1 x5_1 = some r) ∧ Aside0 (kq ≤ k) ∧ Drawn0 w w')
 case atStart => exact ⟨(a1), (0), qE, qE, H', ⟨Nat.le_refl _⟩, qD⟩
 case round =>
  clear H'
  obtain ⟨x1_1, x5_1, rfl, rfl, HA, HK1, ⟨m1, rfl⟩⟩ := hrel
  cases gk with
  | zero => exact absurd HA.out (by simp [laws_heldImageS.l0])
  | succ k1 =>
   have H := HA.out
   clear HA
   simp only [laws_heldImageS.l0] at H
   by_cases c3 : x5_1 < (l0.length : Int)
   rotate_left
   ·rw [if_neg c3] at H
    have c3b0 : decide (x5_1 < (l0.length : Int)) = false := decide_eq_false c3
    clear c3
    obtain rfl := Option.some.inj H
    go_wp2
    go_ret
    exact ⟨qE, qD⟩
   rw [if_pos c3] at H
   have c3b0 : decide (x5_1 < (l0.length : Int)) = true := decide_eq_true c3
   clear c3
   replace H := iD H
   obtain ⟨c4b0, H⟩ := H
   by_cases c5 : ((rd_T26 l0 x5_1).f0) = x1_1
   rotate_left
   ·rw [if_neg c5] at H
    have c5b0 : (((rd_T26 l0 x5_1).f0) == x1_1) = false := beq_eq_false_iff_ne.mpr c5
    have c5b1 : (((rd_T26 l0 x5_1).f0) != x1_1) = true := bne_iff_ne.mpr c5
    obtain rfl := Option.some.inj H
    have p876 : 0 ≤ (x5_1 : Int) := oD
    have q876 : x5_1 < (l0.length : Int) := oD
    obtain ⟨ad876, A876_3, c876_3, e876, hx876_0, hx876_1, hx876_2, hx876_3, hl876_3, hi876_3⟩ := at_T26 HR0.out x5_1 p876 q876
    cases e876
    have HR876_3 := aM hi876_3
    have HC876_3 := aM hl876_3
    clear hi876_3 hl876_3
    replace p876 := eq_true p876
    replace q876 := eq_true q876
    go_wp2
    go_ret
    exact ⟨qE, qD⟩
   rw [if_pos c5] at H
   have c5b0 : (((rd_T26 l0 x5_1).f0) == x1_1) = true := beq_iff_eq.mpr c5
   have c5b1 : (((rd_T26 l0 x5_1).f0) != x1_1) = false := bne_eq_false_iff_eq.mpr c5
   clear c5
   by_cases c6 : ((rd_T26 l0 x5_1).f1) = (wrap64 (x1_1 + 1))
   rotate_left
   ·rw [if_neg c6] at H
    have c6b0 : (((rd_T26 l0 x5_1).f1) == (wrap64 (x1_1 + 1))) = false := beq_eq_false_iff_ne.mpr c6
    have c6b1 : (((rd_T26 l0 x5_1).f1) != (wrap64 (x1_1 + 1))) = true := bne_iff_ne.mpr c6
    obtain rfl := Option.some.inj H
    have p876 : 0 ≤ (x5_1 : Int) := oD
    have q876 : x5_1 < (l0.length : Int) := oD
    obtain ⟨ad876, A876_3, c876_3, e876, hx876_0, hx876_1, hx876_2, hx876_3, hl876_3, hi876_3⟩ := at_T26 HR0.out x5_1 p876 q876
    cases e876
    have HR876_3 := aM hi876_3
    have HC876_3 := aM hl876_3
    clear hi876_3 hl876_3
    replace p876 := eq_true p876
    replace q876 := eq_true q876
    have p877 : 0 ≤ (x5_1 : Int) := oD
    have q877 : x5_1 < (l0.length : Int) := oD
    obtain ⟨ad877, A877_3, c877_3, e877, hx877_0, hx877_1, hx877_2, hx877_3, hl877_3, hi877_3⟩ := at_T26 HR0.out x5_1 p877 q877
    obtain rfl : ad876 = ad877 := (by injection e877)
    have HR877_3 := aM hi877_3
    have HC877_3 := aM hl877_3
    clear hi877_3 hl877_3
    replace p877 := eq_true p877
    replace q877 := eq_true q877
    have ea_ := Option.some.inj (hx876_3.symm.trans hx877_3)
    injection ea_ with ea_ en_ ec_
    subst ea_
    subst ec_
    clear en_
    go_wp2
    go_ret
    exact ⟨qE, qD⟩
   rw [if_pos c6] at H
   have c6b0 : (((rd_T26 l0 x5_1).f1) == (wrap64 (x1_1 + 1))) = true := beq_iff_eq.mpr c6
   have c6b1 : (((rd_T26 l0 x5_1).f1) != (wrap64 (x1_1 + 1))) = false := bne_eq_false_iff_eq.mpr c6
   clear c6
   by_cases c7 : ((rd_T26 l0 x5_1).f2) = (wrap64 ((wrap64 (x1_1 + 1)) + 1))
   rotate_left
   ·rw [if_neg c7] at H
    have c7b0 : (((rd_T26 l0 x5_1).f2) == (wrap64 ((wrap64 (x1_1 + 1)) + 1))) = false := beq_eq_false_iff_ne.mpr c7
    have c7b1 : (((rd_T26 l0 x5_1).f2) != (wrap64 ((wrap64 (x1_1 + 1)) + 1))) = true := bne_iff_ne.mpr c7
    obtain rfl := Option.some.inj H
    have p876 : 0 ≤ (x5_1 : Int) := oD
    have q876 : x5_1 < (l0.length : Int) := oD
    obtain ⟨ad876, A876_3, c876_3, e876, hx876_0, hx876_1, hx876_2, hx876_3, hl876_3, hi876_3⟩ := at_T26 HR0.out x5_1 p876 q876
    cases e876
    have HR876_3 := aM hi876_3
    have HC876_3 := aM hl876_3
    clear hi876_3 hl876_3
    replace p876 := eq_true p876
    replace q876 := eq_true q876
    have p877 : 0 ≤ (x5_1 : Int) := oD
    have q877 : x5_1 < (l0.length : Int) := oD
    obtain ⟨ad877, A877_3, c877_3, e877, hx877_0, hx877_1, hx877_2, hx877_3, hl877_3, hi877_3⟩ := at_T26 HR0.out x5_1 p877 q877
    obtain rfl : ad876 = ad877 := (by injection e877)
    have HR877_3 := aM hi877_3
    have HC877_3 := aM hl877_3
    clear hi877_3 hl877_3
    replace p877 := eq_true p877
    replace q877 := eq_true q877
    have ea_ := Option.some.inj (hx876_3.symm.trans hx877_3)
    injection ea_ with ea_ en_ ec_
    subst ea_
    subst ec_
    clear en_
    have p878 : 0 ≤ (x5_1 : Int) := oD
    have q878 : x5_1 < (l0.length : Int) := oD
    obtain ⟨ad878, A878_3, c878_3, e878, hx878_0, hx878_1, hx878_2, hx878_3, hl878_3, hi878_3⟩ := at_T26 HR0.out x5_1 p878 q878
    obtain rfl : ad876 = ad878 := (by injection e878)
    have HR878_3 := aM hi878_3
    have HC878_3 := aM hl878_3
    clear hi878_3 hl878_3
    replace p878 := eq_true p878
    replace q878 := eq_true q878
    have ea_ := Option.some.inj (hx876_3.symm.trans hx878_3)
    injection ea_ with ea_ en_ ec_
    subst ea_
    subst ec_
    clear en_
    go_wp2
    go_ret
    exact ⟨qE, qD⟩
   rw [if_pos c7] at H
   have c7b0 : (((rd_T26 l0 x5_1).f2) == (wrap64 ((wrap64 (x1_1 + 1)) + 1))) = true := beq_iff_eq.mpr c7
   have c7b1 : (((rd_T26 l0 x5_1).f2) != (wrap64 ((wrap64 (x1_1 + 1)) + 1))) = false := bne_eq_false_iff_eq.mpr c7
   clear c7
   replace H := Option.bind_eq_some_iff.mp H
   obtain ⟨t880, A80, H⟩ := H
   replace H : (if t880 < 0 then (some (-1)) else (laws_heldImageS.l0 k1 l0 t880 (wrap64 (x5_1 + 1)))) = some r := H
   have A8 := aM A80
   clear A80
   by_cases c9 : t880 < 0
   ·rw [if_pos c9] at H
    have c9b0 : decide (t880 < 0) = true := decide_eq_true c9
    clear c9
    obtain rfl := Option.some.inj H
    have p876 : 0 ≤ (x5_1 : Int) := oD
    have q876 : x5_1 < (l0.length : Int) := oD
    obtain ⟨ad876, A876_3, c876_3, e876, hx876_0, hx876_1, hx876_2, hx876_3, hl876_3, hi876_3⟩ := at_T26 HR0.out x5_1 p876 q876
    cases e876
    have HR876_3 := aM hi876_3
    have HC876_3 := aM hl876_3
    clear hi876_3 hl876_3
    replace p876 := eq_true p876
    replace q876 := eq_true q876
    have p877 : 0 ≤ (x5_1 : Int) := oD
    have q877 : x5_1 < (l0.length : Int) := oD
    obtain ⟨ad877, A877_3, c877_3, e877, hx877_0, hx877_1, hx877_2, hx877_3, hl877_3, hi877_3⟩ := at_T26 HR0.out x5_1 p877 q877
    obtain rfl : ad876 = ad877 := (by injection e877)
    have HR877_3 := aM hi877_3
    have HC877_3 := aM hl877_3
    clear hi877_3 hl877_3
    replace p877 := eq_true p877
    replace q877 := eq_true q877
    have ea_ := Option.some.inj (hx876_3.symm.trans hx877_3)
    injection ea_ with ea_ en_ ec_
    subst ea_
    subst ec_
    clear en_
    have p878 : 0 ≤ (x5_1 : Int) := oD
    have q878 : x5_1 < (l0.length : Int) := oD
    obtain ⟨ad878, A878_3, c878_3, e878, hx878_0, hx878_1, hx878_2, hx878_3, hl878_3, hi878_3⟩ := at_T26 HR0.out x5_1 p878 q878
    obtain rfl : ad876 = ad878 := (by injection e878)
    have HR878_3 := aM hi878_3
    have HC878_3 := aM hl878_3
    clear hi878_3 hl878_3
    replace p878 := eq_true p878
    replace q878 := eq_true q878
    have ea_ := Option.some.inj (hx876_3.symm.trans hx878_3)
    injection ea_ with ea_ en_ ec_
    subst ea_
    subst ec_
    clear en_
    have p879 : 0 ≤ (x5_1 : Int) := oD
    have q879 : x5_1 < (l0.length : Int) := oD
    obtain ⟨ad879, A879_3, c879_3, e879, hx879_0, hx879_1, hx879_2, hx879_3, hl879_3, hi879_3⟩ := at_T26 HR0.out x5_1 p879 q879
    obtain rfl : ad876 = ad879 := (by injection e879)
    have HR879_3 := aM hi879_3
    have HC879_3 := aM hl879_3
    clear hi879_3 hl879_3
    replace p879 := eq_true p879
    replace q879 := eq_true q879
    have ea_ := Option.some.inj (hx876_3.symm.trans hx879_3)
    injection ea_ with ea_ en_ ec_
    subst ea_
    subst ec_
    clear en_
    go_wp2_with (first | ((with_reducible refine gate_callee (f := 55) rfl ?_); refine gL (some 45) Try.func55 #[.slice A876_3 ((rd_T26 l0 x5_1).f3).length c876_3, .int .i64 (wrap64 ((wrap64 ((wrap64 (x1_1 + 1)) + 1)) + 1))] ?_; (with_reducible refine (laws_heldIntS.calls k1 _ _ ((rd_T26 l0 x5_1).f3) (wrap64 ((wrap64 ((wrap64 (x1_1 + 1)) + 1)) + 1)) t880 _ ?side1 ?side2 A8.out).mono ?_); (case side1 => exact qC HR879_3.out); (case side2 => exact HC879_3.out); rintro e w' ⟨rfl, ⟨nd, rfl⟩⟩; refine ⟨_, rfl, ?_⟩))
    go_ret
    exact ⟨qE, qD⟩
   rw [if_neg c9] at H
   have c9b0 : decide (t880 < 0) = false := decide_eq_false c9
   clear c9
   have H' := aM H
   clear H
   have p876 : 0 ≤ (x5_1 : Int) := oD
   have q876 : x5_1 < (l0.length : Int) := oD
   obtain ⟨ad876, A876_3, c876_3, e876, hx876_0, hx876_1, hx876_2, hx876_3, hl876_3, hi876_3⟩ := at_T26 HR0.out x5_1 p876 q876
   cases e876
   have HR876_3 := aM hi876_3
   have HC876_3 := aM hl876_3
   clear hi876_3 hl876_3
   replace p876 := eq_true p876
   replace q876 := eq_true q876
   have p877 : 0 ≤ (x5_1 : Int) := oD
   have q877 : x5_1 < (l0.length : Int) := oD
   obtain ⟨ad877, A877_3, c877_3, e877, hx877_0, hx877_1, hx877_2, hx877_3, hl877_3, hi877_3⟩ := at_T26 HR0.out x5_1 p877 q877
   obtain rfl : ad876 = ad877 := (by injection e877)
   have HR877_3 := aM hi877_3
   have HC877_3 := aM hl877_3
   clear hi877_3 hl877_3
   replace p877 := eq_true p877
   replace q877 := eq_true q877
   have ea_ := Option.some.inj (hx876_3.symm.trans hx877_3)
   injection ea_ with ea_ en_ ec_
   subst ea_
   subst ec_
   clear en_
   have p878 : 0 ≤ (x5_1 : Int) := oD
   have q878 : x5_1 < (l0.length : Int) := oD
   obtain ⟨ad878, A878_3, c878_3, e878, hx878_0, hx878_1, hx878_2, hx878_3, hl878_3, hi878_3⟩ := at_T26 HR0.out x5_1 p878 q878
   obtain rfl : ad876 = ad878 := (by injection e878)
   have HR878_3 := aM hi878_3
   have HC878_3 := aM hl878_3
   clear hi878_3 hl878_3
   replace p878 := eq_true p878
   replace q878 := eq_true q878
   have ea_ := Option.some.inj (hx876_3.symm.trans hx878_3)
   injection ea_ with ea_ en_ ec_
   subst ea_
   subst ec_
   clear en_
   have p879 : 0 ≤ (x5_1 : Int) := oD
   have q879 : x5_1 < (l0.length : Int) := oD
   obtain ⟨ad879, A879_3, c879_3, e879, hx879_0, hx879_1, hx879_2, hx879_3, hl879_3, hi879_3⟩ := at_T26 HR0.out x5_1 p879 q879
   obtain rfl : ad876 = ad879 := (by injection e879)
   have HR879_3 := aM hi879_3
   have HC879_3 := aM hl879_3
   clear hi879_3 hl879_3
   replace p879 := eq_true p879
   replace q879 := eq_true q879
   have ea_ := Option.some.inj (hx876_3.symm.trans hx879_3)
   injection ea_ with ea_ en_ ec_
   subst ea_
   subst ec_
   clear en_
   go_wp2_with (first | ((with_reducible refine gate_callee (f := 55) rfl ?_); refine gL (some 45) Try.func55 #[.slice A876_3 ((rd_T26 l0 x5_1).f3).length c876_3, .int .i64 (wrap64 ((wrap64 ((wrap64 (x1_1 + 1)) + 1)) + 1))] ?_; (with_reducible refine (laws_heldIntS.calls k1 _ _ ((rd_T26 l0 x5_1).f3) (wrap64 ((wrap64 ((wrap64 (x1_1 + 1)) + 1)) + 1)) t880 _ ?side1 ?side2 A8.out).mono ?_); (case side1 => exact qC HR879_3.out); (case side2 => exact HC879_3.out); rintro e w' ⟨rfl, ⟨nd, rfl⟩⟩; refine ⟨_, rfl, ?_⟩))
   go_roundg k1
   case measure => have := HK1.out; omega
   case rel => exact ⟨(t880), (wrap64 (x5_1 + 1)), qE, qE, H', ⟨by have := HK1.out; omega⟩, qD⟩
theorem S_elderL {α : Type} {d : Kd α} {e base : Nat} {W : World} {ok : Nat → Prop} {v : Value} {xs : List α} (h : Kd.S d e W base ok v xs) (a : Nat) (ha : W.heap.size ≤ a) : Kd.S d e W base (fun k => ok k ∧ k < a) v xs := Kd.S_mono (Kd.S_bound h) (fun k hk => ⟨hk.1, by have := hk.2.2.1; omega⟩)
theorem S_newG {α : Type} {d : Kd α} {e g : Nat} {W w1 : World} {ok : Nat → Prop} {v : Value} {xs : List α} {o : Obj} (h : Kd.S d e w1 W.heap.size ok v xs) (hb : W.heap[g]? = some o) : Kd.S d e w1 W.heap.size (fun k => ok k ∧ g < k) v xs := Kd.S_mono (Kd.S_bound h) (fun k hk => ⟨hk.1, by have := blk_lt hb; have := hk.2.1; omega⟩)
def laws_FnExactSplitPlanes.j0 : Nat → List (S26) → List (S26) → Bool → Int → Int → Int → List Int → Option (Bool)
 | 0, _, _, _, _, _, _, _ => none
 | k + 1, x4, x6, x42, x882000, x882001, x882002, x882003 => if x42 = true then (some false) else ((laws_markImageS.f k x6 1).bind fun bt913 => ((laws_heldImageS.f k bt913.2 1).bind fun t915 => (if t915 < 0 then (some false) else (if t915 = bt913.1 then ((laws_toImage.f k x882000 x882001 x882002 x882003).bind fun bt916 => ((impl_SplitPlanes.f bt916.1 bt916.2.1 bt916.2.2.1 bt916.2.2.2).bind fun t922 => ((laws_eqImageS.f k t922 x4).bind fun t925 => (if t925 = true then ((laws_heldImageS.f k bt913.2 1).bind fun t926 => (if t926 < 0 then (some false) else (if t926 = bt913.1 then (some true) else (some false)))) else (some false))))) else (some false)))))
def laws_FnExactSplitPlanes.f (k : Nat) (a0_0 : Int) (a0_1 : Int) (a0_2 : Int) (l0_3 : List Int) : Option (Bool) := (laws_szImage.f a0_0 a0_1 a0_2 l0_3 1048576).bind fun t882 => (if t882 < 0 then (some true) else ((laws_toImage.f k a0_0 a0_1 a0_2 l0_3).bind fun bt883 => ((spec_SplitPlanes.f k bt883.1 bt883.2.1 bt883.2.2.1 bt883.2.2.2).bind fun t889 => ((laws_toImage.f k a0_0 a0_1 a0_2 l0_3).bind fun bt892 => ((impl_SplitPlanes.f bt892.1 bt892.2.1 bt892.2.2.1 bt892.2.2.2).bind fun t899 => ((laws_eqImageS.f k t899 t889).bind fun t902 => (if t902 = true then ((laws_toImage.f k a0_0 a0_1 a0_2 l0_3).bind fun bt903 => ((laws_eqImage.f k bt892.1 bt892.2.1 bt892.2.2.1 bt892.2.2.2 bt903.1 bt903.2.1 bt903.2.2.1 bt903.2.2.2).bind fun t909 => (if t909 = true then ((laws_markImage.f k bt892.1 bt892.2.1 bt892.2.2.1 bt892.2.2.2 1).bind fun bt910 => (if bt910.1 < 0 then (laws_FnExactSplitPlanes.j0 k t889 t899 true a0_0 a0_1 a0_2 l0_3) else ((laws_eqImageS.f k t899 t889).bind fun t912 => (laws_FnExactSplitPlanes.j0 k t889 t899 (!t912) a0_0 a0_1 a0_2 l0_3)))) else (some false)))) else (some false))))))))
theorem laws_FnExactSplitPlanes.mono_l : ∀ k, (∀ y0 y1 y2 y3 y4 y5 y6, LeO (laws_FnExactSplitPlanes.j0 k y0 y1 y2 y3 y4 y5 y6) (laws_FnExactSplitPlanes.j0 (k + 1) y0 y1 y2 y3 y4 y5 y6))
 | 0 => fun _ _ _ _ _ _ _ r h => by simp [laws_FnExactSplitPlanes.j0] at h
 | k + 1 => by
  have ih0 := laws_FnExactSplitPlanes.mono_l k
  ·intro y0 y1 y2 y3 y4 y5 y6
   unfold laws_FnExactSplitPlanes.j0
   repeat' first | (with_reducible first | exact ih0 _ _ _ _ _ _ _ | exact laws_eqImage.mono _ _ _ _ _ _ _ _ _ | exact laws_eqImageS.mono _ _ _ | exact laws_heldImageS.mono _ _ _ | exact laws_markImage.mono _ _ _ _ _ _ | exact laws_markImageS.mono _ _ _ | exact laws_toImage.mono _ _ _ _ _ | exact spec_SplitPlanes.mono _ _ _ _ _ | exact lR | exact lN | refine lI ?_ ?_ | refine lB ?_ fun _ => ?_) | exact ih0 _ _ _ _ _ _ _ | exact laws_eqImage.mono _ _ _ _ _ _ _ _ _ | exact laws_eqImageS.mono _ _ _ | exact laws_heldImageS.mono _ _ _ | exact laws_markImage.mono _ _ _ _ _ _ | exact laws_markImageS.mono _ _ _ | exact laws_toImage.mono _ _ _ _ _ | exact spec_SplitPlanes.mono _ _ _ _ _ | exact lN | refine lI ?_ ?_ | refine lB ?_ fun _ => ?_
theorem laws_FnExactSplitPlanes.mono : ∀ a0 a1 a2 a3 k, LeO (laws_FnExactSplitPlanes.f k a0 a1 a2 a3) (laws_FnExactSplitPlanes.f (k + 1) a0 a1 a2 a3) := by
 intro a0 a1 a2 a3 k
 have ih0 := laws_FnExactSplitPlanes.mono_l k
 unfold laws_FnExactSplitPlanes.f
 repeat' first | (with_reducible first | exact ih0 _ _ _ _ _ _ _ | exact laws_eqImage.mono _ _ _ _ _ _ _ _ _ | exact laws_eqImageS.mono _ _ _ | exact laws_heldImageS.mono _ _ _ | exact laws_markImage.mono _ _ _ _ _ _ | exact laws_markImageS.mono _ _ _ | exact laws_toImage.mono _ _ _ _ _ | exact spec_SplitPlanes.mono _ _ _ _ _ | exact lR | exact lN | refine lI ?_ ?_ | refine lB ?_ fun _ => ?_) | exact ih0 _ _ _ _ _ _ _ | exact laws_eqImage.mono _ _ _ _ _ _ _ _ _ | exact laws_eqImageS.mono _ _ _ | exact laws_heldImageS.mono _ _ _ | exact laws_markImage.mono _ _ _ _ _ _ | exact laws_markImageS.mono _ _ _ | exact laws_toImage.mono _ _ _ _ _ | exact spec_SplitPlanes.mono _ _ _ _ _ | exact lN | refine lI ?_ ?_ | refine lB ?_ fun _ => ?_
set_option maxHeartbeats 8000000 in
set_option maxRecDepth 100000 in
theorem laws_FnExactSplitPlanes.calls (k : Nat) (a0_0 : Int) (a0_1 : Int) (a0_2 : Int) (A0_3 : Option Addr) (c0_3 : Nat) (l0_3 : List Int) (r : Bool) (w : World) (hr0_3 : Kd.C (Kd.int .i64) w A0_3 l0_3.length l0_3) (hc0_3 : l0_3.length ≤ c0_3) (h : laws_FnExactSplitPlanes.f k a0_0 a0_1 a0_2 l0_3 = some r) (hrt : r = true) :
  Calls Try.prog 12 #[.agg #[.int .i64 a0_0, .int .i64 a0_1, .int .i64 a0_2, .slice A0_3 l0_3.length c0_3]] w fun e w' => e = .returned (.bool r) ∧ Below w.heap.size w w' := by
 have hu24 := Try.underlying24
 have hu26 := Try.underlying26
 have HR0_3 := aM hr0_3
 have HC0_3 := aM hc0_3
 clear hr0_3 hc0_3
 have HB := aM (Below.refl w.heap.size w)
 unfold laws_FnExactSplitPlanes.f at h
 have H := h
 clear h
 replace H := Option.bind_eq_some_iff.mp H
 obtain ⟨t882, A20, H⟩ := H
 replace H : (if t882 < 0 then (some true) else ((laws_toImage.f k a0_0 a0_1 a0_2 l0_3).bind fun bt883 => ((spec_SplitPlanes.f k bt883.1 bt883.2.1 bt883.2.2.1 bt883.2.2.2).bind fun t889 => ((laws_toImage.f k a0_0 a0_1 a0_2 l0_3).bind fun bt892 => ((impl_SplitPlanes.f bt892.1 bt892.2.1 bt892.2.2.1 bt892.2.2.2).bind fun t899 => ((laws_eqImageS.f k t899 t889).bind fun t902 => (if t902 = true then ((laws_toImage.f k a0_0 a0_1 a0_2 l0_3).bind fun bt903 => ((laws_eqImage.f k bt892.1 bt892.2.1 bt892.2.2.1 bt892.2.2.2 bt903.1 bt903.2.1 bt903.2.2.1 bt903.2.2.2).bind fun t909 => (if t909 = true then ((laws_markImage.f k bt892.1 bt892.2.1 bt892.2.2.1 bt892.2.2.2 1).bind fun bt910 => (if bt910.1 < 0 then (laws_FnExactSplitPlanes.j0 k t889 t899 true a0_0 a0_1 a0_2 l0_3) else ((laws_eqImageS.f k t899 t889).bind fun t912 => (laws_FnExactSplitPlanes.j0 k t889 t899 (!t912) a0_0 a0_1 a0_2 l0_3)))) else (some false)))) else (some false)))))))) = some r := H
 have A2 := aM A20
 clear A20
 by_cases c3 : t882 < 0
 ·rw [if_pos c3] at H
  have c3b0 : decide (t882 < 0) = true := decide_eq_true c3
  clear c3
  obtain rfl := Option.some.inj H
  go_enter Try.func12, Try.ntmps12
  go_wp2_with (first | ((with_reducible refine gate_dst (N := 1) rfl ?_); refine bxE (N := 1) (cs := #[.int .i64 a0_0, .int .i64 a0_1, .int .i64 a0_2, .slice A0_3 l0_3.length c0_3]) (t := 24) ?_; intro gb881 hg w4 hbox hb; have BK881 := aM (hbox); have GW881 := gW hg HB; have GE881 := gW hg HB; replace HB := bS HB hb; clear hb hbox hg; obtain ⟨⟨hcz5_0, hcz5_1, hcz5_2, hcz5_3⟩, hfz5_0, hfz5_1, hfz5_2, hfz5_3⟩ := cf4 BK881) | ((with_reducible refine gate_callee (f := 15) rfl ?_); refine gL (some 13) Try.func15 #[.agg #[.int .i64 a0_0, .int .i64 a0_1, .int .i64 a0_2, .slice A0_3 l0_3.length c0_3], .int .i64 1048576] ?_; (with_reducible refine (laws_szImage.calls a0_0 a0_1 a0_2 _ _ l0_3 1048576 t882 _ ?side1 ?side2 A2.out).mono ?_); (case side1 => exact qC (Kd.C_below HR0_3.out HB.out)); (case side2 => exact HC0_3.out); rintro e w6 ⟨rfl, hb⟩; refine ⟨_, rfl, ?_⟩; replace BK881 := bB BK881 hb; replace HB := bS HB hb; clear hb))
  go_ret
  exact ⟨qX, by exact qW HB.out⟩
 rw [if_neg c3] at H
 have c3b0 : decide (t882 < 0) = false := decide_eq_false c3
 clear c3
 replace H := Option.bind_eq_some_iff.mp H
 obtain ⟨⟨t883, t884, t885, t886⟩, A70, H⟩ := H
 replace H : ((spec_SplitPlanes.f k t883 t884 t885 t886).bind fun t889 => ((laws_toImage.f k a0_0 a0_1 a0_2 l0_3).bind fun bt892 => ((impl_SplitPlanes.f bt892.1 bt892.2.1 bt892.2.2.1 bt892.2.2.2).bind fun t899 => ((laws_eqImageS.f k t899 t889).bind fun t902 => (if t902 = true then ((laws_toImage.f k a0_0 a0_1 a0_2 l0_3).bind fun bt903 => ((laws_eqImage.f k bt892.1 bt892.2.1 bt892.2.2.1 bt892.2.2.2 bt903.1 bt903.2.1 bt903.2.2.1 bt903.2.2.2).bind fun t909 => (if t909 = true then ((laws_markImage.f k bt892.1 bt892.2.1 bt892.2.2.1 bt892.2.2.2 1).bind fun bt910 => (if bt910.1 < 0 then (laws_FnExactSplitPlanes.j0 k t889 t899 true a0_0 a0_1 a0_2 l0_3) else ((laws_eqImageS.f k t899 t889).bind fun t912 => (laws_FnExactSplitPlanes.j0 k t889 t899 (!t912) a0_0 a0_1 a0_2 l0_3)))) else (some false)))) else (some false)))))) = some r := H
 have A7 := aM A70
 clear A70
 replace H := Option.bind_eq_some_iff.mp H
 obtain ⟨t889, A80, H⟩ := H
 replace H : ((laws_toImage.f k a0_0 a0_1 a0_2 l0_3).bind fun bt892 => ((impl_SplitPlanes.f bt892.1 bt892.2.1 bt892.2.2.1 bt892.2.2.2).bind fun t899 => ((laws_eqImageS.f k t899 t889).bind fun t902 => (if t902 = true then ((laws_toImage.f k a0_0 a0_1 a0_2 l0_3).bind fun bt903 => ((laws_eqImage.f k bt892.1 bt892.2.1 bt892.2.2.1 bt892.2.2.2 bt903.1 bt903.2.1 bt903.2.2.1 bt903.2.2.2).bind fun t909 => (if t909 = true then ((laws_markImage.f k bt892.1 bt892.2.1 bt892.2.2.1 bt892.2.2.2 1).bind fun bt910 => (if bt910.1 < 0 then (laws_FnExactSplitPlanes.j0 k t889 t899 true a0_0 a0_1 a0_2 l0_3) else ((laws_eqImageS.f k t899 t889).bind fun t912 => (laws_FnExactSplitPlanes.j0 k t889 t899 (!t912) a0_0 a0_1 a0_2 l0_3)))) else (some false)))) else (some false))))) = some r := H
 have A8 := aM A80
 clear A80
 replace H := Option.bind_eq_some_iff.mp H
 obtain ⟨⟨t892, t893, t894, t895⟩, A90, H⟩ := H
 replace H : ((impl_SplitPlanes.f t892 t893 t894 t895).bind fun t899 => ((laws_eqImageS.f k t899 t889).bind fun t902 => (if t902 = true then ((laws_toImage.f k a0_0 a0_1 a0_2 l0_3).bind fun bt903 => ((laws_eqImage.f k t892 t893 t894 t895 bt903.1 bt903.2.1 bt903.2.2.1 bt903.2.2.2).bind fun t909 => (if t909 = true then ((laws_markImage.f k t892 t893 t894 t895 1).bind fun bt910 => (if bt910.1 < 0 then (laws_FnExactSplitPlanes.j0 k t889 t899 true a0_0 a0_1 a0_2 l0_3) else ((laws_eqImageS.f k t899 t889).bind fun t912 => (laws_FnExactSplitPlanes.j0 k t889 t899 (!t912) a0_0 a0_1 a0_2 l0_3)))) else (some false)))) else (some false)))) = some r := H
 have A9 := aM A90
 clear A90
 replace H := Option.bind_eq_some_iff.mp H
 obtain ⟨t899, A100, H⟩ := H
 replace H : ((laws_eqImageS.f k t899 t889).bind fun t902 => (if t902 = true then ((laws_toImage.f k a0_0 a0_1 a0_2 l0_3).bind fun bt903 => ((laws_eqImage.f k t892 t893 t894 t895 bt903.1 bt903.2.1 bt903.2.2.1 bt903.2.2.2).bind fun t909 => (if t909 = true then ((laws_markImage.f k t892 t893 t894 t895 1).bind fun bt910 => (if bt910.1 < 0 then (laws_FnExactSplitPlanes.j0 k t889 t899 true a0_0 a0_1 a0_2 l0_3) else ((laws_eqImageS.f k t899 t889).bind fun t912 => (laws_FnExactSplitPlanes.j0 k t889 t899 (!t912) a0_0 a0_1 a0_2 l0_3)))) else (some false)))) else (some false))) = some r := H
 have A10 := aM A100
 clear A100
 replace H := Option.bind_eq_some_iff.mp H
 obtain ⟨t902, A110, H⟩ := H
 replace H : (if t902 = true then ((laws_toImage.f k a0_0 a0_1 a0_2 l0_3).bind fun bt903 => ((laws_eqImage.f k t892 t893 t894 t895 bt903.1 bt903.2.1 bt903.2.2.1 bt903.2.2.2).bind fun t909 => (if t909 = true then ((laws_markImage.f k t892 t893 t894 t895 1).bind fun bt910 => (if bt910.1 < 0 then (laws_FnExactSplitPlanes.j0 k t889 t899 true a0_0 a0_1 a0_2 l0_3) else ((laws_eqImageS.f k t899 t889).bind fun t912 => (laws_FnExactSplitPlanes.j0 k t889 t899 (!t912) a0_0 a0_1 a0_2 l0_3)))) else (some false)))) else (some false)) = some r := H
 have A11 := aM A110
 clear A110
 by_cases c12 : t902 = true
 rotate_left
 ·replace c12 := Bool.eq_false_iff.mpr c12
  subst c12
  have H1 : (some false) = some r := by rw [if_neg (show ¬ (false = true) by decide)] at H; exact H
  clear H
  have H := H1
  clear H1
  obtain rfl := Option.some.inj H
  exact absurd hrt (by decide)
 subst c12
 have H1 : ((laws_toImage.f k a0_0 a0_1 a0_2 l0_3).bind fun bt903 => ((laws_eqImage.f k t892 t893 t894 t895 bt903.1 bt903.2.1 bt903.2.2.1 bt903.2.2.2).bind fun t909 => (if t909 = true then ((laws_markImage.f k t892 t893 t894 t895 1).bind fun bt910 => (if bt910.1 < 0 then (laws_FnExactSplitPlanes.j0 k t889 t899 true a0_0 a0_1 a0_2 l0_3) else ((laws_eqImageS.f k t899 t889).bind fun t912 => (laws_FnExactSplitPlanes.j0 k t889 t899 (!t912) a0_0 a0_1 a0_2 l0_3)))) else (some false)))) = some r := by rw [if_pos rfl] at H; exact H
 clear H
 have H := H1
 clear H1
 replace H := Option.bind_eq_some_iff.mp H
 obtain ⟨⟨t903, t904, t905, t906⟩, A130, H⟩ := H
 replace H : ((laws_eqImage.f k t892 t893 t894 t895 t903 t904 t905 t906).bind fun t909 => (if t909 = true then ((laws_markImage.f k t892 t893 t894 t895 1).bind fun bt910 => (if bt910.1 < 0 then (laws_FnExactSplitPlanes.j0 k t889 t899 true a0_0 a0_1 a0_2 l0_3) else ((laws_eqImageS.f k t899 t889).bind fun t912 => (laws_FnExactSplitPlanes.j0 k t889 t899 (!t912) a0_0 a0_1 a0_2 l0_3)))) else (some false))) = some r := H
 have A13 := aM A130
 clear A130
 replace H := Option.bind_eq_some_iff.mp H
 obtain ⟨t909, A140, H⟩ := H
 replace H : (if t909 = true then ((laws_markImage.f k t892 t893 t894 t895 1).bind fun bt910 => (if bt910.1 < 0 then (laws_FnExactSplitPlanes.j0 k t889 t899 true a0_0 a0_1 a0_2 l0_3) else ((laws_eqImageS.f k t899 t889).bind fun t912 => (laws_FnExactSplitPlanes.j0 k t889 t899 (!t912) a0_0 a0_1 a0_2 l0_3)))) else (some false)) = some r := H
 have A14 := aM A140
 clear A140
 by_cases c15 : t909 = true
 rotate_left
 ·replace c15 := Bool.eq_false_iff.mpr c15
  subst c15
  have H1 : (some false) = some r := by rw [if_neg (show ¬ (false = true) by decide)] at H; exact H
  clear H
  have H := H1
  clear H1
  obtain rfl := Option.some.inj H
  exact absurd hrt (by decide)
 subst c15
 have H1 : ((laws_markImage.f k t892 t893 t894 t895 1).bind fun bt910 => (if bt910.1 < 0 then (laws_FnExactSplitPlanes.j0 k t889 t899 true a0_0 a0_1 a0_2 l0_3) else ((laws_eqImageS.f k t899 t889).bind fun t912 => (laws_FnExactSplitPlanes.j0 k t889 t899 (!t912) a0_0 a0_1 a0_2 l0_3)))) = some r := by rw [if_pos rfl] at H; exact H
 clear H
 have H := H1
 clear H1
 replace H := Option.bind_eq_some_iff.mp H
 obtain ⟨⟨t910, t911⟩, A160, H⟩ := H
 replace H : (if t910 < 0 then (laws_FnExactSplitPlanes.j0 k t889 t899 true a0_0 a0_1 a0_2 l0_3) else ((laws_eqImageS.f k t899 t889).bind fun t912 => (laws_FnExactSplitPlanes.j0 k t889 t899 (!t912) a0_0 a0_1 a0_2 l0_3))) = some r := H
 have A16 := aM A160
 clear A160
 have HC17 := aM H
 clear H
 go_enter Try.func12, Try.ntmps12
 try go_wp2_with (first | ((with_reducible refine gate_dst (N := 1) rfl ?_); refine bxE (N := 1) (cs := #[.int .i64 a0_0, .int .i64 a0_1, .int .i64 a0_2, .slice A0_3 l0_3.length c0_3]) (t := 24) ?_; intro gb881 hg w18 hbox hb; have BK881 := aM (hbox); have GW881 := gW hg HB; have GE881 := gW hg HB; replace HB := bS HB hb; clear hb hbox hg; obtain ⟨⟨hcz19_0, hcz19_1, hcz19_2, hcz19_3⟩, hfz19_0, hfz19_1, hfz19_2, hfz19_3⟩ := cf4 BK881) | ((with_reducible refine gate_callee (f := 15) rfl ?_); refine gL (some 13) Try.func15 #[.agg #[.int .i64 a0_0, .int .i64 a0_1, .int .i64 a0_2, .slice A0_3 l0_3.length c0_3], .int .i64 1048576] ?_; (with_reducible refine (laws_szImage.calls a0_0 a0_1 a0_2 _ _ l0_3 1048576 t882 _ ?side1 ?side2 A2.out).mono ?_); (case side1 => exact qC (Kd.C_below HR0_3.out HB.out)); (case side2 => exact HC0_3.out); rintro e w20 ⟨rfl, hb⟩; refine ⟨_, rfl, ?_⟩; replace BK881 := bB BK881 hb; replace HB := bS HB hb; clear hb; obtain ⟨⟨hcz21_0, hcz21_1, hcz21_2, hcz21_3⟩, hfz21_0, hfz21_1, hfz21_2, hfz21_3⟩ := cf4 BK881) | ((with_reducible refine gate_callee (f := 17) rfl ?_); refine gL (some 17) Try.func17 #[.agg #[.int .i64 a0_0, .int .i64 a0_1, .int .i64 a0_2, .slice A0_3 l0_3.length c0_3]] ?_; (with_reducible refine (laws_toImage.calls k a0_0 a0_1 a0_2 _ _ l0_3 t883 t884 t885 t886 _ ?side1 ?side2 A7.out).mono ?_); (case side1 => exact qC (Kd.C_below HR0_3.out HB.out)); (case side2 => exact HC0_3.out); rintro e w22 ⟨v887, rfl, ho0, hb⟩; refine ⟨_, rfl, ?_⟩; have HO888 := oR ho0 HB; replace BK881 := bB BK881 hb; replace HB := bS HB hb; clear hb ho0; obtain ⟨Ao23, co23, rfl⟩ := sL HO888) | ((with_reducible refine gate_callee (f := 34) rfl ?_); refine gL (some 18) Try.func34 #[.agg #[.int .i64 t883, .int .i64 t884, .int .i64 t885, .slice Ao23 t886.length co23]] ?_; (with_reducible refine (spec_SplitPlanes.calls k t883 t884 t885 _ _ t886 t889 _ ?side1 ?side2 A8.out).mono ?_); (case side1 => exact qC (Kd.R_reads' HO888.out).2.2); (case side2 => exact (Kd.R_reads' HO888.out).2.1); rintro e w24 ⟨v890, rfl, ho0, hb⟩; refine ⟨_, rfl, ?_⟩; have HO891 := aM (Kd.S_lower (Kd.S_new' ho0 (Kd.R_lt (qR HO888.out))) (below_size (qW HB.out))); replace HO888 := aM (Kd.R_below (qR HO888.out) hb); replace BK881 := bB BK881 hb; replace HB := bS HB hb; clear hb ho0; obtain ⟨⟨hcz25_0, hcz25_1, hcz25_2, hcz25_3⟩, hfz25_0, hfz25_1, hfz25_2, hfz25_3⟩ := cf4 BK881) | ((with_reducible refine gate_callee (f := 17) rfl ?_); refine gL (some 20) Try.func17 #[.agg #[.int .i64 a0_0, .int .i64 a0_1, .int .i64 a0_2, .slice A0_3 l0_3.length c0_3]] ?_; (with_reducible refine (laws_toImage.calls k a0_0 a0_1 a0_2 _ _ l0_3 t892 t893 t894 t895 _ ?side1 ?side2 A9.out).mono ?_); (case side1 => exact qC (Kd.C_below HR0_3.out HB.out)); (case side2 => exact HC0_3.out); rintro e w26 ⟨v896, rfl, ho0, hb⟩; refine ⟨_, rfl, ?_⟩; replace HO891 := aM (Kd.S_elder' (by (with_reducible repeat (first | apply Kd.S_alloc | apply Kd.S_drewN | apply Kd.S_drew)); exact HO891.out) (Kd.R_base ho0) hb); have HO897 := nR ho0 HO888 HB; replace HO888 := aM (Kd.R_elder' (qR HO888.out) (Kd.R_base ho0) hb); replace BK881 := bB BK881 hb; replace HB := bS HB hb; clear hb ho0) | ((with_reducible refine gate_dst (N := 5) rfl ?_); refine bxE (N := 5) (cs := #[.int .i64 0, .int .i64 0, .int .i64 0, .slice none 0 0]) (t := 26) ?_; intro gb898 hg w27 hbox hb; replace HO888 := aM (Kd.R_below (qR HO888.out) hb); replace HO891 := aM (Kd.S_below (S_elderL (by (with_reducible repeat (first | apply Kd.S_alloc | apply Kd.S_drewN | apply Kd.S_drew)); exact HO891.out) gb898 (Nat.le_of_eq hg.symm)) hb); replace HO897 := aM (Kd.R_below (qR HO897.out) hb); have BK898 := aM (hbox); have GW898 := gW hg HB; have GE898 := gW hg HB; replace HB := bS HB hb; have NB881_898 := nL hg BK881; have NB898_881 := nG hg BK881; replace BK881 := bB BK881 hb; clear hb hbox hg; have hnb28 := NB898_881.out; have hnc28 := NB881_898.out; obtain ⟨⟨hcz29_0, hcz29_1, hcz29_2, hcz29_3⟩, hfz29_0, hfz29_1, hfz29_2, hfz29_3⟩ := cf4 BK898; obtain ⟨Ao30, co30, rfl⟩ := sL HO897) | ((with_reducible refine gate_callee (f := 35) rfl ?_); refine gL (some 22) Try.func35 #[.agg #[.int .i64 t892, .int .i64 t893, .int .i64 t894, .slice Ao30 t895.length co30]] ?_; (with_reducible refine (impl_SplitPlanes.calls t892 t893 t894 _ _ t895 t899 _ ?side1 ?side2 A10.out).mono ?_); (case side1 => refine (Kd.R_reads' (e := 3) (base := w.heap.size) (ok := fun k_ => (True ∧ some k_ ≠ (.slice Ao23 t886.length co23 : Value).ownBlock)) (n := t895.length) (c := co30) ?_).2.2; exact (by refine qR ?_; exact (fr4 HO897 BK898))); (case side2 => exact (Kd.R_reads' HO897.out).2.1); rintro e w31 ⟨v900, rfl, ho0, hb⟩; refine ⟨_, rfl, ?_⟩; have HO901 := aM (Kd.S_lower (S_newG (Kd.S_new' (Kd.S_new' (Kd.S_new' ho0 (Kd.R_lt (by refine qR ?_; exact (fr4 HO888 BK898)))) (Kd.S_lt (by (with_reducible repeat (first | apply Kd.S_alloc | apply Kd.S_drewN | apply Kd.S_drew)); exact (Kd.S_mono (Kd.S_far (p := ⟨gb898, 3, none⟩) (Kd.S_far (p := ⟨gb898, 2, none⟩) (Kd.S_far (p := ⟨gb898, 1, none⟩) (Kd.S_far (p := ⟨gb898, 0, none⟩) (Kd.S_mono HO891.out (fun k_ hk => (⟨hk, Nat.ne_of_lt hk.2⟩ : _ ∧ k_ ≠ gb898))) (fun _ hk => hk.2) (.int .i64 t892)) (fun _ hk => hk.2) (.int .i64 t893)) (fun _ hk => hk.2) (.int .i64 t894)) (fun _ hk => hk.2) (.slice Ao30 t895.length co30)) (fun _ h_ => h_.1))))) (Kd.R_lt (by refine qR ?_; exact (fr4 HO897 BK898)))) (g := gb898) (o := .cells #[.int .i64 t892, .int .i64 t893, .int .i64 t894, .slice Ao30 t895.length co30] 26 (0, 0)) (by exact bP BK898.out)) (below_size (qW HB.out))); replace HO888 := aM (Kd.R_below (by refine qR ?_; exact (fr4 HO888 BK898)) hb); replace HO891 := aM (Kd.S_elder' (by (with_reducible repeat (first | apply Kd.S_alloc | apply Kd.S_drewN | apply Kd.S_drew)); exact (Kd.S_mono (Kd.S_far (p := ⟨gb898, 3, none⟩) (Kd.S_far (p := ⟨gb898, 2, none⟩) (Kd.S_far (p := ⟨gb898, 1, none⟩) (Kd.S_far (p := ⟨gb898, 0, none⟩) (Kd.S_mono HO891.out (fun k_ hk => (⟨hk, Nat.ne_of_lt hk.2⟩ : _ ∧ k_ ≠ gb898))) (fun _ hk => hk.2) (.int .i64 t892)) (fun _ hk => hk.2) (.int .i64 t893)) (fun _ hk => hk.2) (.int .i64 t894)) (fun _ hk => hk.2) (.slice Ao30 t895.length co30)) (fun _ h_ => h_.1))) (Kd.S_base ho0) hb); replace HO897 := aM (Kd.R_below (by refine qR ?_; exact (fr4 HO897 BK898)) hb); replace BK881 := aM (blk_below (g := gb881) (o := .cells #[.int .i64 a0_0, .int .i64 a0_1, .int .i64 a0_2, .slice A0_3 l0_3.length c0_3] 24 (0, 0)) (by refine qB ?_; refine blk_far ?_ NB881_898.out _; refine qB ?_; refine blk_far ?_ NB881_898.out _; refine qB ?_; refine blk_far ?_ NB881_898.out _; refine qB ?_; refine blk_far ?_ NB881_898.out _; refine qB ?_; exact BK881.out) hb); replace BK898 := aM (blk_below (g := gb898) (o := .cells #[.int .i64 t892, .int .i64 t893, .int .i64 t894, .slice Ao30 t895.length co30] 26 (0, 0)) (by exact bP BK898.out) hb); replace HB := bS HB hb; clear hb ho0; obtain ⟨Ao32, co32, eo32⟩ := Kd.S_slice HO901.out; subst eo32; obtain ⟨Ao33, co33, eo33⟩ := Kd.S_slice HO891.out; subst eo33) | ((with_reducible refine gate_callee (f := 36) rfl ?_); refine gL (some 25) Try.func36 #[.slice Ao32 t899.length co32, .slice Ao33 t889.length co33] ?_; (with_reducible refine (laws_eqImageS.calls k _ _ t899 _ _ t889 true _ ?side1 ?side2 ?side3 ?side4 A11.out).mono ?_); (case side1 => exact qC (Kd.S_reads' HO901.out).2.2); (case side2 => exact (Kd.S_reads' HO901.out).2.1); (case side3 => exact qC (Kd.S_reads' HO891.out).2.2); (case side4 => exact (Kd.S_reads' HO891.out).2.1); rintro e w34 ⟨rfl, hb⟩; refine ⟨_, rfl, ?_⟩; replace HO888 := aM (Kd.R_below (qR HO888.out) hb); replace HO891 := aM (Kd.S_below (by (with_reducible repeat (first | apply Kd.S_alloc | apply Kd.S_drewN | apply Kd.S_drew)); exact HO891.out) hb); replace HO897 := aM (Kd.R_below (qR HO897.out) hb); replace HO901 := aM (Kd.S_below (by (with_reducible repeat (first | apply Kd.S_alloc | apply Kd.S_drewN | apply Kd.S_drew)); exact HO901.out) hb); replace BK881 := bB BK881 hb; replace BK898 := bB BK898 hb; replace HB := bS HB hb; clear hb))
 replace HO888 := aM (Kd.R_drew HO888.out)
 replace HO891 := aM (Kd.S_drew HO891.out)
 replace HO897 := aM (Kd.R_drew HO897.out)
 replace HO901 := aM (Kd.S_drew HO901.out)
 replace BK881 := aM (blk_drew BK881.out)
 replace BK898 := aM (blk_drew BK898.out)
 replace HB := aM (below_drew1 HB.out)
 refine start_ (n := 5) (S := fun w' => w'.cell? ⟨gb898, 0, none⟩ = some (.int .i64 t892) ∧ w'.cell? ⟨gb898, 1, none⟩ = some (.int .i64 t893) ∧ w'.cell? ⟨gb898, 2, none⟩ = some (.int .i64 t894) ∧ w'.cell? ⟨gb898, 3, none⟩ = some (.slice Ao30 t895.length co30) ∧ w'.cell? ⟨gb881, 0, none⟩ = some (.int .i64 a0_0) ∧ w'.cell? ⟨gb881, 1, none⟩ = some (.int .i64 a0_1) ∧ w'.cell? ⟨gb881, 2, none⟩ = some (.int .i64 a0_2) ∧ w'.cell? ⟨gb881, 3, none⟩ = some (.slice A0_3 l0_3.length c0_3)) (ds := []) (bA 5 0) (by kernel_rfl) rfl rfl ⟨(blk_cell BK898.out 0).trans rfl, (blk_cell BK898.out 1).trans rfl, (blk_cell BK898.out 2).trans rfl, (blk_cell BK898.out 3).trans rfl, (blk_cell BK881.out 0).trans rfl, (blk_cell BK881.out 1).trans rfl, (blk_cell BK881.out 2).trans rfl, (blk_cell BK881.out 3).trans rfl⟩ (fun hHeld => ?_)
 generalize w34.drew = w35 at HO888 HO891 HO897 HO901 BK881 BK898 HB hHeld ⊢
 refine take_ (i := 0) (N := some 27) (v := ?_) (a' := ?_) (bA 5 1) rfl rfl (by kernel_rfl) (fun _ _ _ h => h) (Or.inl ⟨by rfl, ?_⟩) hHeld ?_ ?_
 rotate_left
 ·rintro w' ⟨s0, s1, s2, s3, s4, s5, s6, s7⟩
  go_simp
  with_reducible rfl
 rotate_left
 ·refine pZ ?_
  rfl
 refine take_ (i := 1) (N := some 28) (v := ?_) (a' := ?_) (bA 5 3) rfl rfl (by kernel_rfl) (fun _ _ _ h => h) (Or.inl ⟨by rfl, ?_⟩) hHeld ?_ ?_
 rotate_left
 ·rintro w' ⟨s0, s1, s2, s3, s4, s5, s6, s7⟩
  go_simp
  with_reducible rfl
 rotate_left
 ·refine pZ ?_
  rfl
 refine one_ (i := 2) (N := some 29) (bA 5 7) rfl rfl (by kernel_rfl) (by decide) (fun K hK => ?_)
 refine goes_ Try.func17 (by kernel_rfl) rfl #[.agg #[.int .i64 a0_0, .int .i64 a0_1, .int .i64 a0_2, .slice A0_3 l0_3.length c0_3]] (by rfl) rfl rfl qM ?_
 with_reducible refine (laws_toImage.calls k a0_0 a0_1 a0_2 _ _ l0_3 t903 t904 t905 t906 _ ?side1 ?side2 A13.out).mono ?_
 (case side1 => exact qC (Kd.C_below HR0_3.out HB.out))
 (case side2 => exact HC0_3.out)
 rintro e w36 ⟨v907, rfl, ho0, hb⟩
 refine ⟨_, rfl, ?_⟩
 replace HO891 := aM (Kd.S_elder' (by (with_reducible repeat (first | apply Kd.S_alloc | apply Kd.S_drewN | apply Kd.S_drew)); exact HO891.out) (Kd.R_base ho0) hb)
 replace HO901 := aM (Kd.S_elder' (by (with_reducible repeat (first | apply Kd.S_alloc | apply Kd.S_drewN | apply Kd.S_drew)); exact HO901.out) (Kd.R_base ho0) hb)
 have HO908 := aM (Kd.R_lower (Kd.R_new' (Kd.R_new' ho0 (Kd.R_lt (qR HO888.out))) (Kd.R_lt (qR HO897.out))) (below_size (qW HB.out)))
 replace HO888 := aM (Kd.R_elder' (qR HO888.out) (Kd.R_base ho0) hb)
 replace HO897 := aM (Kd.R_elder' (qR HO897.out) (Kd.R_base ho0) hb)
 replace BK881 := bB BK881 hb
 replace BK898 := bB BK898 hb
 replace HB := bS HB hb
 (try clear hb)
 (try clear hb2)
 (try clear hk)
 (try clear hi)
 (try clear ho0)
 obtain ⟨Ao37, co37, eo37⟩ := Kd.R_slice HO908.out
 (first | subst eo37 | (injection eo37 with f1_ f2_ f3_; have f4_ := f1_.symm; have f5_ := f3_.symm; clear f1_ f2_ f3_; subst f4_; subst f5_))
 refine hK.out _ _ ⟨(blk_cell BK898.out 0).trans rfl, (blk_cell BK898.out 1).trans rfl, (blk_cell BK898.out 2).trans rfl, (blk_cell BK898.out 3).trans rfl, (blk_cell BK881.out 0).trans rfl, (blk_cell BK881.out 1).trans rfl, (blk_cell BK881.out 2).trans rfl, (blk_cell BK881.out 3).trans rfl⟩ (fun hHeld => ?_)
 clear hK K
 refine norm_ (a' := ?_) ?_ ?_
 rotate_left
 ·show Act.put _ (some 29) _ = _
  refine pZ ?_
  rfl
 refine one_ (i := 3) (N := some 30) (bA 5 15) rfl rfl (by kernel_rfl) (by decide) (fun K hK => ?_)
 refine goes_ Try.func19 (by kernel_rfl) rfl #[.agg #[.int .i64 t892, .int .i64 t893, .int .i64 t894, .slice Ao30 t895.length co30], .agg #[.int .i64 t903, .int .i64 t904, .int .i64 t905, .slice Ao37 t906.length co37]] (by rfl) rfl rfl qM ?_
 with_reducible refine (laws_eqImage.calls k t892 t893 t894 _ _ t895 t903 t904 t905 _ _ t906 true _ ?side1 ?side2 ?side3 ?side4 A14.out).mono ?_
 (case side1 => exact qC (Kd.R_reads' HO897.out).2.2)
 (case side2 => exact (Kd.R_reads' HO897.out).2.1)
 (case side3 => exact qC (Kd.R_reads' HO908.out).2.2)
 (case side4 => exact (Kd.R_reads' HO908.out).2.1)
 rintro e w38 ⟨rfl, hb⟩
 refine ⟨_, rfl, ?_⟩
 replace HO888 := aM (Kd.R_below (qR HO888.out) hb)
 replace HO891 := aM (Kd.S_below (by (with_reducible repeat (first | apply Kd.S_alloc | apply Kd.S_drewN | apply Kd.S_drew)); exact HO891.out) hb)
 replace HO897 := aM (Kd.R_below (qR HO897.out) hb)
 replace HO901 := aM (Kd.S_below (by (with_reducible repeat (first | apply Kd.S_alloc | apply Kd.S_drewN | apply Kd.S_drew)); exact HO901.out) hb)
 replace HO908 := aM (Kd.R_below (qR HO908.out) hb)
 replace BK881 := bB BK881 hb
 replace BK898 := bB BK898 hb
 replace HB := bS HB hb
 (try clear hb)
 (try clear hb2)
 (try clear hk)
 (try clear hi)
 refine hK.out _ _ ⟨(blk_cell BK898.out 0).trans rfl, (blk_cell BK898.out 1).trans rfl, (blk_cell BK898.out 2).trans rfl, (blk_cell BK898.out 3).trans rfl, (blk_cell BK881.out 0).trans rfl, (blk_cell BK881.out 1).trans rfl, (blk_cell BK881.out 2).trans rfl, (blk_cell BK881.out 3).trans rfl⟩ (fun hHeld => ?_)
 clear hK K
 refine norm_ (a' := ?_) ?_ ?_
 rotate_left
 ·show Act.put _ (some 30) _ = _
  refine pZ ?_
  rfl
 refine pure_ (i := 4) (N := some 31) (v := ?_) (a' := ?_) (bA 5 31) rfl rfl (by kernel_rfl) (fun _ _ _ h => h) (Or.inl ⟨by rfl, ?_⟩) ?_ ?_
 rotate_left
 ·intro w'
  go_simp
  with_reducible rfl
 rotate_left
 ·refine pZ ?_
  rfl
 refine done_ (by kernel_rfl) ?_
 obtain ⟨⟨hcz39_0, hcz39_1, hcz39_2, hcz39_3⟩, hfz39_0, hfz39_1, hfz39_2, hfz39_3⟩ := cf4 BK898
 go_upto_region 14 with (first | ((with_reducible refine gate_callee (f := 20) rfl ?_); refine gL (some 34) Try.func20 #[.agg #[.int .i64 t892, .int .i64 t893, .int .i64 t894, .slice Ao30 t895.length co30], .int .i64 1] ?_; (with_reducible refine (laws_markImage.calls k t892 t893 t894 (fun k_ => some k_ = (.slice Ao30 t895.length co30 : Value).ownBlock) (.slice Ao30 t895.length co30) t895 1 t910 t911 w _ ?side1 ?side2 A16.out).mono ?_); (case side1 => exact qW HB.out); (case side2 => exact Kd.R_tight rfl HO897.out); rintro e w40 ⟨rfl, hy0, hb, hkp⟩; refine ⟨_, rfl, ?_⟩; replace BK881 := aM (blk_kept (qB BK881.out) hkp (fun hs_ => (fun e_ => (Kd.R_ne HO897.out BK881.out (by decide)) e_) hs_)); replace HO888 := aM (Kd.R_mono (ok' := fun k_ => some k_ ≠ (.slice Ao30 t895.length co30 : Value).ownBlock ∧ some k_ ≠ (.slice Ao37 t906.length co37 : Value).ownBlock) (Kd.R_keptB (HO888.out) hkp (fun k_ hk_ hs_ => by first | exact hk_.1.2 hs_ | (revert hk_; simp only [and_imp]; intros; contradiction))) (fun k_ hk_ => ⟨hk_.1.1.2, hk_.1.2⟩)); replace HO891 := aM (Kd.S_mono (ok' := fun k_ => some k_ ≠ (.slice Ao23 t886.length co23 : Value).ownBlock ∧ some k_ ≠ (.slice Ao30 t895.length co30 : Value).ownBlock ∧ some k_ ≠ (.slice Ao32 t899.length co32 : Value).ownBlock ∧ some k_ ≠ (.slice Ao37 t906.length co37 : Value).ownBlock ∧ k_ < gb898) (Kd.S_keptB (HO891.out) hkp (fun k_ hk_ hs_ => by first | exact hk_.1.1.1.2 hs_ | (revert hk_; simp only [and_imp]; intros; contradiction))) (fun k_ hk_ => by first | exact ⟨hk_.1.1.1.1.1.2, hk_.1.1.1.1.2, hk_.1.1.2, hk_.1.2, hk_.1.1.1.2⟩ | (revert hk_; simp only [and_imp]; intros; and_intros <;> assumption))); replace BK898 := aM (blk_kept (qB BK898.out) hkp (fun hs_ => (fun e_ => (Kd.R_ne HO897.out BK898.out (by decide)) e_) hs_)); replace HO897 := aM (Kd.R_reok rfl hy0 (fun k_ e_ => HO897.out.1 k_ e_)); replace HO901 := aM (Kd.S_mono (ok' := fun k_ => some k_ ≠ (.slice Ao23 t886.length co23 : Value).ownBlock ∧ some k_ ≠ (.slice Ao33 t889.length co33 : Value).ownBlock ∧ some k_ ≠ (.slice Ao30 t895.length co30 : Value).ownBlock ∧ some k_ ≠ (.slice Ao37 t906.length co37 : Value).ownBlock ∧ gb898 < k_) (Kd.S_keptB (HO901.out) hkp (fun k_ hk_ hs_ => by first | exact hk_.1.1.2 hs_ | (revert hk_; simp only [and_imp]; intros; contradiction))) (fun k_ hk_ => by first | exact ⟨hk_.1.1.1.1.1.2, hk_.1.1.1.1.2, hk_.1.1.1.2, hk_.1.2, hk_.1.1.2⟩ | (revert hk_; simp only [and_imp]; intros; and_intros <;> assumption))); replace HO908 := aM (Kd.R_mono (ok' := fun k_ => some k_ ≠ (.slice Ao23 t886.length co23 : Value).ownBlock ∧ some k_ ≠ (.slice Ao30 t895.length co30 : Value).ownBlock) (Kd.R_keptB (HO908.out) hkp (fun k_ hk_ hs_ => (hk_.2) hs_)) (fun k_ hk_ => ⟨hk_.1.1.2, hk_.1.2⟩)); replace HB := aM (hb); clear hb hkp hy0))
 (try simp only [Act.put, List.setIfInBounds_toArray, List.set_cons_zero, List.set_cons_succ])
 go_cut [42] (fun v42 wc => ∃ (kq : Nat) (x42_16 : Bool), v42 = .bool x42_16 ∧ Aside0 (laws_FnExactSplitPlanes.j0 kq t889 t899 x42_16 a0_0 a0_1 a0_2 l0_3 = some r) ∧ Aside0 (kq ≤ k) ∧ Aside0 (Kd.S k26 26 wc w.heap.size (fun k_ => some k_ ≠ ((.slice Ao32 t899.length co32) : Value).ownBlock ∧ some k_ ≠ ((.slice Ao30 t895.length co30) : Value).ownBlock ∧ k_ < gb898) (.slice Ao33 t889.length co33) t889) ∧ Aside0 (Kd.S k26 26 wc w.heap.size (fun k_ => some k_ ≠ ((.slice Ao33 t889.length co33) : Value).ownBlock ∧ some k_ ≠ ((.slice Ao30 t895.length co30) : Value).ownBlock ∧ gb898 < k_) (.slice Ao32 t899.length co32) t899) ∧ Aside0 (Kd.R (Kd.int .i64) 3 wc w.heap.size (fun _ => True) (.slice Ao30 t895.length co30) t911) ∧ Aside0 (wc.heap[gb881]? = some (.cells #[.int .i64 a0_0, .int .i64 a0_1, .int .i64 a0_2, (.slice A0_3 l0_3.length c0_3)] 24 (0, 0))) ∧ Aside0 (wc.heap[gb898]? = some (.cells #[.int .i64 t892, .int .i64 t893, .int .i64 t894, (.slice Ao30 t895.length co30)] 26 (0, 0))) ∧ Aside0 (Below w.heap.size w wc))
 case first =>
  have H := HC17.out
  clear HC17
  by_cases c41 : t910 < 0
  ·rw [if_pos c41] at H
   have c41b0 : decide (t910 < 0) = true := decide_eq_true c41
   clear c41
   (first | rw [c41b0] | (simp only [i64_w, i32_w]; rw [c41b0]) | skip)
   have H' := aM H
   clear H
   go_wp2
   go_meet
   case rel => exact ⟨_, (true), qE, H', ⟨by first | omega | exact Nat.le_refl _⟩, ⟨by (with_reducible repeat (first | apply Kd.S_alloc | apply Kd.S_drewN | apply Kd.S_drew)); exact Kd.S_mono HO891.out (fun _ hk => ⟨hk.2.2.1, ⟨hk.2.1, hk.2.2.2.2⟩⟩)⟩, ⟨by (with_reducible repeat (first | apply Kd.S_alloc | apply Kd.S_drewN | apply Kd.S_drew)); exact Kd.S_mono HO901.out (fun _ hk => ⟨hk.2.1, ⟨hk.2.2.1, hk.2.2.2.2⟩⟩)⟩, ⟨by refine qR ?_; exact Kd.R_mono HO897.out (fun _ hk => trivial)⟩, ⟨by refine qB ?_; exact BK881.out⟩, ⟨by refine qB ?_; exact BK898.out⟩, ⟨by exact qW HB.out⟩⟩
  rw [if_neg c41] at H
  have c41b0 : decide (t910 < 0) = false := decide_eq_false c41
  clear c41
  (first | rw [c41b0] | (simp only [i64_w, i32_w]; rw [c41b0]) | skip)
  replace H := Option.bind_eq_some_iff.mp H
  obtain ⟨t912, A420, H⟩ := H
  replace H : (laws_FnExactSplitPlanes.j0 k t889 t899 (!t912) a0_0 a0_1 a0_2 l0_3) = some r := H
  have A42 := aM A420
  clear A420
  have H' := aM H
  clear H
  go_wp2_with (first | (go_at_call 36; (with_reducible refine (laws_eqImageS.calls k _ _ t899 _ _ t889 t912 _ ?side1 ?side2 ?side3 ?side4 A42.out).mono ?_); (case side1 => exact qC (Kd.S_reads' HO901.out).2.2); (case side2 => exact (Kd.S_reads' HO901.out).2.1); (case side3 => exact qC (Kd.S_reads' HO891.out).2.2); (case side4 => exact (Kd.S_reads' HO891.out).2.1); rintro e w43 ⟨rfl, hb⟩; replace HO888 := aM (Kd.R_below (qR HO888.out) hb); replace HO891 := aM (Kd.S_below (by (with_reducible repeat (first | apply Kd.S_alloc | apply Kd.S_drewN | apply Kd.S_drew)); exact HO891.out) hb); replace HO897 := aM (Kd.R_below (qR HO897.out) hb); replace HO901 := aM (Kd.S_below (by (with_reducible repeat (first | apply Kd.S_alloc | apply Kd.S_drewN | apply Kd.S_drew)); exact HO901.out) hb); replace HO908 := aM (Kd.R_below (qR HO908.out) hb); replace BK881 := bB BK881 hb; replace BK898 := bB BK898 hb; replace HB := bS HB hb; clear hb))
  go_meet
  case rel => exact ⟨_, (!t912), qE, H', ⟨by first | omega | exact Nat.le_refl _⟩, ⟨by (with_reducible repeat (first | apply Kd.S_alloc | apply Kd.S_drewN | apply Kd.S_drew)); exact Kd.S_mono HO891.out (fun _ hk => ⟨hk.2.2.1, ⟨hk.2.1, hk.2.2.2.2⟩⟩)⟩, ⟨by (with_reducible repeat (first | apply Kd.S_alloc | apply Kd.S_drewN | apply Kd.S_drew)); exact Kd.S_mono HO901.out (fun _ hk => ⟨hk.2.1, ⟨hk.2.2.1, hk.2.2.2.2⟩⟩)⟩, ⟨by refine qR ?_; exact Kd.R_mono HO897.out (fun _ hk => trivial)⟩, ⟨by refine qB ?_; exact BK881.out⟩, ⟨by refine qB ?_; exact BK898.out⟩, ⟨by exact qW HB.out⟩⟩
 case rest =>
  clear HC17
  try clear c3
  try clear c3b0
  try clear c12
  try clear c15
  try clear c41
  try clear c41b0
  try clear hcz19_0 hcz19_1 hcz19_2 hcz19_3 hfz19_0 hfz19_1 hfz19_2 hfz19_3
  try clear hcz21_0 hcz21_1 hcz21_2 hcz21_3 hfz21_0 hfz21_1 hfz21_2 hfz21_3
  try clear hcz25_0 hcz25_1 hcz25_2 hcz25_3 hfz25_0 hfz25_1 hfz25_2 hfz25_3
  try clear hcz29_0 hcz29_1 hcz29_2 hcz29_3 hfz29_0 hfz29_1 hfz29_2 hfz29_3
  try clear hcz39_0 hcz39_1 hcz39_2 hcz39_3 hfz39_0 hfz39_1 hfz39_2 hfz39_3
  try clear hcz5_0 hcz5_1 hcz5_2 hcz5_3 hfz5_0 hfz5_1 hfz5_2 hfz5_3
  obtain ⟨kq, x42_16, rfl, HA, HJ16, HO_4, HO_6, HO_899003, BK881, BK898, HB⟩ := hcut
  have hl899003_16 := (Kd.R_reads' HO_899003.out).1
  rw [hl899003_16] at HO_899003
  (try simp only [hl899003_16])
  (try simp only [hl899003_16] at BK881)
  (try simp only [hl899003_16] at BK898)
  (try simp only [hl899003_16] at HO_4)
  (try simp only [hl899003_16] at HO_6)
  cases kq with
  | zero => exact absurd HA.out (by simp [laws_FnExactSplitPlanes.j0])
  | succ kj16 =>
   have H := HA.out
   clear HA
   simp only [laws_FnExactSplitPlanes.j0] at H
   by_cases c44 : x42_16 = true
   ·subst c44
    have H1 : (some false) = some r := by rw [if_pos rfl] at H; exact H
    clear H
    have H := H1
    clear H1
    obtain rfl := Option.some.inj H
    exact absurd hrt (by decide)
   replace c44 := Bool.eq_false_iff.mpr c44
   subst c44
   have H1 : ((laws_markImageS.f kj16 t899 1).bind fun bt913 => ((laws_heldImageS.f kj16 bt913.2 1).bind fun t915 => (if t915 < 0 then (some false) else (if t915 = bt913.1 then ((laws_toImage.f kj16 a0_0 a0_1 a0_2 l0_3).bind fun bt916 => ((impl_SplitPlanes.f bt916.1 bt916.2.1 bt916.2.2.1 bt916.2.2.2).bind fun t922 => ((laws_eqImageS.f kj16 t922 t889).bind fun t925 => (if t925 = true then ((laws_heldImageS.f kj16 bt913.2 1).bind fun t926 => (if t926 < 0 then (some false) else (if t926 = bt913.1 then (some true) else (some false)))) else (some false))))) else (some false))))) = some r := by rw [if_neg (show ¬ (false = true) by decide)] at H; exact H
   clear H
   have H := H1
   clear H1
   replace H := Option.bind_eq_some_iff.mp H
   obtain ⟨⟨t913, t914⟩, A450, H⟩ := H
   replace H : ((laws_heldImageS.f kj16 t914 1).bind fun t915 => (if t915 < 0 then (some false) else (if t915 = t913 then ((laws_toImage.f kj16 a0_0 a0_1 a0_2 l0_3).bind fun bt916 => ((impl_SplitPlanes.f bt916.1 bt916.2.1 bt916.2.2.1 bt916.2.2.2).bind fun t922 => ((laws_eqImageS.f kj16 t922 t889).bind fun t925 => (if t925 = true then ((laws_heldImageS.f kj16 t914 1).bind fun t926 => (if t926 < 0 then (some false) else (if t926 = t913 then (some true) else (some false)))) else (some false))))) else (some false)))) = some r := H
   have A45 := aM A450
   clear A450
   replace H := Option.bind_eq_some_iff.mp H
   obtain ⟨t915, A460, H⟩ := H
   replace H : (if t915 < 0 then (some false) else (if t915 = t913 then ((laws_toImage.f kj16 a0_0 a0_1 a0_2 l0_3).bind fun bt916 => ((impl_SplitPlanes.f bt916.1 bt916.2.1 bt916.2.2.1 bt916.2.2.2).bind fun t922 => ((laws_eqImageS.f kj16 t922 t889).bind fun t925 => (if t925 = true then ((laws_heldImageS.f kj16 t914 1).bind fun t926 => (if t926 < 0 then (some false) else (if t926 = t913 then (some true) else (some false)))) else (some false))))) else (some false))) = some r := H
   have A46 := aM A460
   clear A460
   by_cases c47 : t915 < 0
   ·rw [if_pos c47] at H
    have c47b0 : decide (t915 < 0) = true := decide_eq_true c47
    clear c47
    obtain rfl := Option.some.inj H
    exact absurd hrt (by decide)
   rw [if_neg c47] at H
   have c47b0 : decide (t915 < 0) = false := decide_eq_false c47
   clear c47
   by_cases c49 : t915 = t913
   rotate_left
   ·rw [if_neg c49] at H
    have c49b0 : (t915 == t913) = false := beq_eq_false_iff_ne.mpr c49
    have c49b1 : (t915 != t913) = true := bne_iff_ne.mpr c49
    obtain rfl := Option.some.inj H
    exact absurd hrt (by decide)
   rw [if_pos c49] at H
   have c49b0 : (t915 == t913) = true := beq_iff_eq.mpr c49
   have c49b1 : (t915 != t913) = false := bne_eq_false_iff_eq.mpr c49
   clear c49
   replace H := Option.bind_eq_some_iff.mp H
   obtain ⟨⟨t916, t917, t918, t919⟩, A500, H⟩ := H
   replace H : ((impl_SplitPlanes.f t916 t917 t918 t919).bind fun t922 => ((laws_eqImageS.f kj16 t922 t889).bind fun t925 => (if t925 = true then ((laws_heldImageS.f kj16 t914 1).bind fun t926 => (if t926 < 0 then (some false) else (if t926 = t913 then (some true) else (some false)))) else (some false)))) = some r := H
   have A50 := aM A500
   clear A500
   replace H := Option.bind_eq_some_iff.mp H
   obtain ⟨t922, A510, H⟩ := H
   replace H : ((laws_eqImageS.f kj16 t922 t889).bind fun t925 => (if t925 = true then ((laws_heldImageS.f kj16 t914 1).bind fun t926 => (if t926 < 0 then (some false) else (if t926 = t913 then (some true) else (some false)))) else (some false))) = some r := H
   have A51 := aM A510
   clear A510
   replace H := Option.bind_eq_some_iff.mp H
   obtain ⟨t925, A520, H⟩ := H
   replace H : (if t925 = true then ((laws_heldImageS.f kj16 t914 1).bind fun t926 => (if t926 < 0 then (some false) else (if t926 = t913 then (some true) else (some false)))) else (some false)) = some r := H
   have A52 := aM A520
   clear A520
   by_cases c53 : t925 = true
   rotate_left
   ·replace c53 := Bool.eq_false_iff.mpr c53
    subst c53
    have H1 : (some false) = some r := by rw [if_neg (show ¬ (false = true) by decide)] at H; exact H
    clear H
    have H := H1
    clear H1
    obtain rfl := Option.some.inj H
    exact absurd hrt (by decide)
   subst c53
   have H1 : ((laws_heldImageS.f kj16 t914 1).bind fun t926 => (if t926 < 0 then (some false) else (if t926 = t913 then (some true) else (some false)))) = some r := by rw [if_pos rfl] at H; exact H
   clear H
   have H := H1
   clear H1
   replace H := Option.bind_eq_some_iff.mp H
   obtain ⟨t926, A540, H⟩ := H
   replace H : (if t926 < 0 then (some false) else (if t926 = t913 then (some true) else (some false))) = some r := H
   have A54 := aM A540
   clear A540
   by_cases c55 : t926 < 0
   ·rw [if_pos c55] at H
    have c55b0 : decide (t926 < 0) = true := decide_eq_true c55
    clear c55
    obtain rfl := Option.some.inj H
    exact absurd hrt (by decide)
   rw [if_neg c55] at H
   have c55b0 : decide (t926 < 0) = false := decide_eq_false c55
   clear c55
   by_cases c64 : t926 = t913
   rotate_left
   ·rw [if_neg c64] at H
    have c64b0 : (t926 == t913) = false := beq_eq_false_iff_ne.mpr c64
    have c64b1 : (t926 != t913) = true := bne_iff_ne.mpr c64
    obtain rfl := Option.some.inj H
    exact absurd hrt (by decide)
   rw [if_pos c64] at H
   have c64b0 : (t926 == t913) = true := beq_iff_eq.mpr c64
   have c64b1 : (t926 != t913) = false := bne_eq_false_iff_eq.mpr c64
   clear c64
   obtain rfl := Option.some.inj H
   go_wp2_with (first | ((with_reducible refine gate_callee (f := 37) rfl ?_); refine gL (some 45) Try.func37 #[.slice Ao32 t899.length co32, .int .i64 1] ?_; (with_reducible refine (laws_markImageS.calls kj16 (fun k_ => ((some k_ ≠ (.slice Ao33 t889.length co33 : Value).ownBlock ∧ (some k_ ≠ (.slice Ao30 t911.length co30 : Value).ownBlock ∧ gb898 < k_)) ∧ k_ ≠ gb881)) (.slice Ao32 t899.length co32) t899 1 t913 t914 w _ ?side1 ?side2 A45.out).mono ?_); (case side1 => exact qW HB.out); (case side2 => exact (Kd.S_types HO_6.out BK881.out (by decide))); rintro e w65 ⟨rfl, hy0, hb, hkp⟩; refine ⟨_, rfl, ?_⟩; have hkp0 := hkp; have n0_ := aM (hy0); have n1_ := aM (Kd.R_mono (Kd.R_kept (Kd.R_tight2 rfl HO_899003.out) hkp (fun k_ hk_ hs_ => (hs_.1.2.1) hk_.1)) (fun _ h_ => h_.2)); have n2_ := aM (blk_kept (qB BK881.out) hkp (fun hs_ => (hs_.2) rfl)); have n3_ := aM (blk_kept (qB BK898.out) hkp (fun hs_ => Nat.lt_irrefl _ hs_.1.2.2)); have n4_ := aM (hb); clear HO_6; clear HO_899003; clear BK881; clear BK898; clear HB; have nx_ := aM (Kd.S_kept (by (with_reducible repeat (first | apply Kd.S_alloc | apply Kd.S_drewN | apply Kd.S_drew)); exact HO_4.out) hkp0 (by intro k_ hk_ hs_; exact Nat.lt_asymm hk_.2.2 hs_.1.2.2)); clear HO_4; have HO_4 := nx_; clear nx_ hkp0; have HO_6 := n0_; have HO_899003 := n1_; have BK881 := n2_; have BK898 := n3_; have HB := n4_; clear n0_ n1_ n2_ n3_ n4_; clear hb hkp hy0) | ((with_reducible refine gate_callee (f := 38) rfl ?_); refine goesL_ (some 48) rfl rfl Try.func38 (by kernel_rfl) rfl #[.slice Ao32 t914.length co32, .int .i64 1] rfl (by (try simp only [List.map_toArray, List.map_cons, List.map_nil]); first | done | (rw [show t914.length = t899.length from (Kd.S_reads' HO_6.out).1.symm] <;> rfl) | rfl | (simp only [List.length_drop, List.length_take]; rfl)) ?_; (with_reducible refine (laws_heldImageS.calls kj16 _ _ t914 1 t915 _ ?side1 ?side2 A46.out).mono ?_); (case side1 => exact qC (Kd.S_reads' HO_6.out).2.2); (case side2 => rw [show t914.length = t899.length from (Kd.S_reads' HO_6.out).1.symm]; exact (Kd.S_reads' HO_6.out).2.1); rintro e w' ⟨rfl, ⟨nd, rfl⟩⟩; refine ⟨_, rfl, ?_⟩; have hnb66 := NB881_898.out; have hnc66 := NB898_881.out; obtain ⟨⟨hcz67_0, hcz67_1, hcz67_2, hcz67_3⟩, hfz67_0, hfz67_1, hfz67_2, hfz67_3⟩ := cf4 BK881) | ((with_reducible refine gate_callee (f := 17) rfl ?_); refine gL (some 55) Try.func17 #[.agg #[.int .i64 a0_0, .int .i64 a0_1, .int .i64 a0_2, .slice A0_3 l0_3.length c0_3]] ?_; (with_reducible refine (laws_toImage.calls kj16 a0_0 a0_1 a0_2 _ _ l0_3 t916 t917 t918 t919 _ ?side1 ?side2 A50.out).mono ?_); (case side1 => exact qC (Kd.C_below HR0_3.out (qW HB.out))); (case side2 => exact HC0_3.out); rintro e w68 ⟨v920, rfl, ho0, hb⟩; refine ⟨_, rfl, ?_⟩; have n0_ := aM (Kd.S_elder' (by (with_reducible repeat (first | apply Kd.S_alloc | apply Kd.S_drewN | apply Kd.S_drew)); exact HO_6.out) (Kd.R_base ho0) hb); have n1_ := aM (Kd.R_elder' (qR HO_899003.out) (Kd.R_base ho0) hb); have n2_ := nR ho0 HO_899003 HB; have n3_ := bB BK881 hb; have n4_ := bB BK898 hb; have n5_ := bS HB hb; have nx_ := aM (Kd.S_below (by (with_reducible repeat (first | apply Kd.S_alloc | apply Kd.S_drewN | apply Kd.S_drew)); exact HO_4.out) hb); clear HO_4; have HO_4 := nx_; clear nx_; clear HO_6; clear HO_899003; clear BK881; clear BK898; clear HB; have HO_6 := n0_; have HO_899003 := n1_; have HO921 := n2_; have BK881 := n3_; have BK898 := n4_; have HB := n5_; clear n0_ n1_ n2_ n3_ n4_ n5_; clear hb ho0; obtain ⟨Ao69, co69, rfl⟩ := sL HO921) | ((with_reducible refine gate_callee (f := 35) rfl ?_); refine gL (some 56) Try.func35 #[.agg #[.int .i64 t916, .int .i64 t917, .int .i64 t918, .slice Ao69 t919.length co69]] ?_; (with_reducible refine (impl_SplitPlanes.calls t916 t917 t918 _ _ t919 t922 _ ?side1 ?side2 A51.out).mono ?_); (case side1 => exact qC (Kd.R_reads' HO921.out).2.2); (case side2 => exact (Kd.R_reads' HO921.out).2.1); rintro e w70 ⟨v923, rfl, ho0, hb⟩; refine ⟨_, rfl, ?_⟩; have n0_ := aM (Kd.S_elder' (by (with_reducible repeat (first | apply Kd.S_alloc | apply Kd.S_drewN | apply Kd.S_drew)); exact HO_6.out) (Kd.S_base ho0) hb); have n1_ := aM (Kd.R_below (qR HO_899003.out) hb); have n2_ := aM (Kd.R_below (qR HO921.out) hb); have n3_ := aM (Kd.S_lower (Kd.S_newB (Kd.S_new' (Kd.S_new' (Kd.S_new' ho0 (Kd.S_lt (by (with_reducible repeat (first | apply Kd.S_alloc | apply Kd.S_drewN | apply Kd.S_drew)); exact HO_6.out))) (Kd.R_lt (qR HO_899003.out))) (Kd.R_lt (qR HO921.out))) (g := gb898) (o := .cells #[.int .i64 t892, .int .i64 t893, .int .i64 t894, .slice Ao30 t911.length co30] 26 (0, 0)) (qB BK898.out)) (below_size (qW HB.out))); have n4_ := bB BK881 hb; have n5_ := bB BK898 hb; have n6_ := bS HB hb; have nx_ := aM (Kd.S_below (by (with_reducible repeat (first | apply Kd.S_alloc | apply Kd.S_drewN | apply Kd.S_drew)); exact HO_4.out) hb); clear HO_4; have HO_4 := nx_; clear nx_; clear HO_6; clear HO_899003; clear HO921; clear BK881; clear BK898; clear HB; have HO_6 := n0_; have HO_899003 := n1_; have HO921 := n2_; have HO924 := n3_; have BK881 := n4_; have BK898 := n5_; have HB := n6_; clear n0_ n1_ n2_ n3_ n4_ n5_ n6_; clear hb ho0; obtain ⟨Ao71, co71, eo71⟩ := Kd.S_slice HO924.out; subst eo71) | ((with_reducible refine gate_callee (f := 36) rfl ?_); refine gL (some 59) Try.func36 #[.slice Ao71 t922.length co71, .slice Ao33 t889.length co33] ?_; (with_reducible refine (laws_eqImageS.calls kj16 _ _ t922 _ _ t889 true _ ?side1 ?side2 ?side3 ?side4 A52.out).mono ?_); (case side1 => exact qC (Kd.S_reads' HO924.out).2.2); (case side2 => exact (Kd.S_reads' HO924.out).2.1); (case side3 => exact qC (Kd.S_reads' HO_4.out).2.2); (case side4 => exact (Kd.S_reads' HO_4.out).2.1); rintro e w72 ⟨rfl, hb⟩; refine ⟨_, rfl, ?_⟩; have n0_ := aM (Kd.S_below (by (with_reducible repeat (first | apply Kd.S_alloc | apply Kd.S_drewN | apply Kd.S_drew)); exact HO_6.out) hb); have n1_ := aM (Kd.R_below (qR HO_899003.out) hb); have n2_ := aM (Kd.R_below (qR HO921.out) hb); have n3_ := aM (Kd.S_below (by (with_reducible repeat (first | apply Kd.S_alloc | apply Kd.S_drewN | apply Kd.S_drew)); exact HO924.out) hb); have n4_ := bB BK881 hb; have n5_ := bB BK898 hb; have n6_ := bS HB hb; have nx_ := aM (Kd.S_below (by (with_reducible repeat (first | apply Kd.S_alloc | apply Kd.S_drewN | apply Kd.S_drew)); exact HO_4.out) hb); clear HO_4; have HO_4 := nx_; clear nx_; clear HO_6; clear HO_899003; clear HO921; clear HO924; clear BK881; clear BK898; clear HB; have HO_6 := n0_; have HO_899003 := n1_; have HO921 := n2_; have HO924 := n3_; have BK881 := n4_; have BK898 := n5_; have HB := n6_; clear n0_ n1_ n2_ n3_ n4_ n5_ n6_; clear hb) | ((with_reducible refine gate_callee (f := 38) rfl ?_); refine goesL_ (some 63) rfl rfl Try.func38 (by kernel_rfl) rfl #[.slice Ao32 t914.length co32, .int .i64 1] rfl (by (try simp only [List.map_toArray, List.map_cons, List.map_nil]); first | done | (rw [show t914.length = t899.length from (Kd.S_reads' HO_6.out).1.symm] <;> rfl) | rfl | (simp only [List.length_drop, List.length_take]; rfl)) ?_; (with_reducible refine (laws_heldImageS.calls kj16 _ _ t914 1 t926 _ ?side1 ?side2 A54.out).mono ?_); (case side1 => exact qC (Kd.S_reads' HO_6.out).2.2); (case side2 => rw [show t914.length = t899.length from (Kd.S_reads' HO_6.out).1.symm]; exact (Kd.S_reads' HO_6.out).2.1); rintro e w' ⟨rfl, ⟨nd, rfl⟩⟩; refine ⟨_, rfl, ?_⟩))
   go_ret
   exact ⟨qX, by exact qW HB.out⟩
def laws_FnExactSplitPlanes.Pure : Prop := ∀ (a0_0 : Int) (a0_1 : Int) (a0_2 : Int) (l0_3 : List Int), (Lit.int .i64 a0_0).wf = true → (Lit.int .i64 a0_1).wf = true → (Lit.int .i64 a0_2).wf = true → l0_3.length ≤ maxLen → (∀ x ∈ l0_3, (Lit.int .i64 x).wf = true) → ∃ k, laws_FnExactSplitPlanes.f k a0_0 a0_1 a0_2 l0_3 = some true
theorem laws_FnExactSplitPlanes.walk (P : laws_FnExactSplitPlanes.Pure) (a0_0 : Int) (a0_1 : Int) (a0_2 : Int) (A0_3 : Option Addr) (len0_3 cap0_3 : Nat) (z0_3 : List Int) (w : World) (w0_0 : (Lit.int .i64 a0_0).wf = true) (w0_1 : (Lit.int .i64 a0_1).wf = true) (w0_2 : (Lit.int .i64 a0_2).wf = true) (w0_3 : (A0_3 = none ∧ len0_3 = 0 ∧ cap0_3 = 0 ∧ z0_3 = []) ∨ ∃ x, A0_3 = some x ∧ len0_3 ≤ cap0_3 ∧ cap0_3 ≤ maxLen ∧ z0_3.length = cap0_3 ∧ (∀ i, i < z0_3.length → w.cell? (x.add i) = some (.int .i64 (z0_3.getD i 0))) ∧ ∀ n ∈ z0_3, (Lit.int .i64 n).wf = true) :
  Calls Try.prog 12 #[.agg #[.int .i64 a0_0, .int .i64 a0_1, .int .i64 a0_2, .slice A0_3 len0_3 cap0_3]] w fun e w' => e = .returned (.bool true) ∧ Below w.heap.size w w' := by
 obtain ⟨l0_3, rfl, hr0_3, hm0_3, hw0_3, hc0_3⟩ := ReadsInt.ofRowC w0_3
 obtain ⟨k, h⟩ := P a0_0 a0_1 a0_2 l0_3 w0_0 w0_1 w0_2 hm0_3 hw0_3
 refine (laws_FnExactSplitPlanes.calls k a0_0 a0_1 a0_2 _ _ l0_3 true w (Kd.C_of_reads (d := (0 : Int)) (h1 := fun _ => rfl) hr0_3) hc0_3 h rfl).mono ?_
 rintro e w' ⟨rfl, hd⟩
 exact ⟨rfl, hd⟩
end Go.Proofs.Ytnamhlcdlbjcfaa.P
