/- Contracts and row, written by a program of this place out of the translation: the call answers true and its argument reads as before, for every input; no condition. -/
import Derived.Test.YteeeedmmcdlhjaaK0
import Derived.Test.YteeeedmmcdlhjaaK1
import Derived.Test.YteeeedmmcdlhjaaK4
namespace Go.Proofs.Yteeeedmmcdlhjaa.P
open Go.RowKit Go.Proofs.YteeeedmmcdlhjaaW.PrintWords Go.Proofs.YteeeedmmcdlhjaaW.PrintLast Go.Proofs.YteeeedmmcdlhjaaW.PrintMore
attribute [local go_sem] max2_int min2_int max_two min_two max_three min_three max_four min_four   -- for this text's walks alone
set_option linter.unusedVariables false
set_option linter.unusedSimpArgs false
def spec_reader_pick.j0 : Nat → Int → Bool → List Int → Int → Option (Int × Int)
 | 0, _, _, _, _ => none
 | k + 1, x1, x24, x1000, x1001 => if x24 = true then (some (0, x1001)) else (if (wrap64 (x1001 - 1)) < (x1000.length : Int) then (if 0 ≤ (wrap64 (x1001 - 1)) then (if x1 = 0 then (none) else (some (Int.tmod (wrap64 (rd x1000 (wrap64 (x1001 - 1)))) x1, x1001))) else (none)) else (if (x1000.length : Int) = 0 then (none) else (if 0 ≤ (Int.tmod (wrap64 (x1001 - 1)) (x1000.length : Int)) then (if (Int.tmod (wrap64 (x1001 - 1)) (x1000.length : Int)) < (x1000.length : Int) then (if 0 ≤ (Int.tmod (wrap64 ((wrap64 ((wrap64 (x1001 - 1)) * 7)) + 3)) (x1000.length : Int)) then (if (Int.tmod (wrap64 ((wrap64 ((wrap64 (x1001 - 1)) * 7)) + 3)) (x1000.length : Int)) < (x1000.length : Int) then (if x1 = 0 then (none) else (some (Int.tmod (Go.bits .xor .i64 (wrap64 ((wrap64 ((wrap64 ((wrap64 ((wrap64 (rd x1000 (Int.tmod (wrap64 (x1001 - 1)) (x1000.length : Int)))) * 131)) + (wrap64 ((wrap64 (rd x1000 (Int.tmod (wrap64 ((wrap64 ((wrap64 (x1001 - 1)) * 7)) + 3)) (x1000.length : Int)))) * 1117)))) + (wrap64 ((wrap64 (x1001 - 1)) * 29)))) + (wrap64 ((wrap64 (Int.tdiv (wrap64 (x1001 - 1)) (x1000.length : Int))) * 53)))) (wrap64 (Int.tdiv (wrap64 ((wrap64 ((wrap64 ((wrap64 ((wrap64 (rd x1000 (Int.tmod (wrap64 (x1001 - 1)) (x1000.length : Int)))) * 131)) + (wrap64 ((wrap64 (rd x1000 (Int.tmod (wrap64 ((wrap64 ((wrap64 (x1001 - 1)) * 7)) + 3)) (x1000.length : Int)))) * 1117)))) + (wrap64 ((wrap64 (x1001 - 1)) * 29)))) + (wrap64 ((wrap64 (Int.tdiv (wrap64 (x1001 - 1)) (x1000.length : Int))) * 53)))) 64))) x1, x1001))) else (none)) else (none)) else (none)) else (none))))
def spec_reader_pick.f (k : Nat) (s0_0 : List Int) (s0_1 : Int) (a1 : Int) : Option (Int × Int) := if a1 < 1 then (spec_reader_pick.j0 k a1 true s0_0 (wrap64 (s0_1 + 1))) else (spec_reader_pick.j0 k a1 ((s0_0.length : Int) == 0) s0_0 (wrap64 (s0_1 + 1)))
theorem spec_reader_pick.mono_l : ∀ k, (∀ y0 y1 y2 y3, LeO (spec_reader_pick.j0 k y0 y1 y2 y3) (spec_reader_pick.j0 (k + 1) y0 y1 y2 y3))
 | 0 => fun _ _ _ _ r h => by simp [spec_reader_pick.j0] at h
 | k + 1 => by
  have ih0 := spec_reader_pick.mono_l k
  ·intro y0 y1 y2 y3
   unfold spec_reader_pick.j0
   repeat' first | (with_reducible first | exact ih0 _ _ _ _ | exact lR | exact lN | refine lI ?_ ?_ | refine lB ?_ fun _ => ?_) | exact ih0 _ _ _ _ | exact lN | refine lI ?_ ?_ | refine lB ?_ fun _ => ?_
theorem spec_reader_pick.mono : ∀ a0 a1 a2 k, LeO (spec_reader_pick.f k a0 a1 a2) (spec_reader_pick.f (k + 1) a0 a1 a2) := by
 intro a0 a1 a2 k
 have ih0 := spec_reader_pick.mono_l k
 unfold spec_reader_pick.f
 repeat' first | (with_reducible first | exact ih0 _ _ _ _ | exact lR | exact lN | refine lI ?_ ?_ | refine lB ?_ fun _ => ?_) | exact ih0 _ _ _ _ | exact lN | refine lI ?_ ?_ | refine lB ?_ fun _ => ?_
set_option maxHeartbeats 8000000 in
set_option maxRecDepth 100000 in
theorem spec_reader_pick.calls (k : Nat) (g : Nat) (s0_0 : List Int) (s0_1 : Int) (a1 : Int) (r1 : Int) (r2 : Int) (w0 w : World) (hI : IsS85 w0 w g s0_0 s0_1) (hB : Below w0.heap.size w0 w) (h : spec_reader_pick.f k s0_0 s0_1 a1 = some (r1, r2)) :
  Calls Try.prog 45 #[.pointer (some ⟨g, 0, none⟩), .int .i64 a1] w fun e w' => e = .returned (.int .i64 r1) ∧ IsS85 w0 w' g s0_0 r2 ∧ Below w0.heap.size w0 w' ∧ KeepBut w w' g none := by
 have HI0 := aM hI
 have HK := aM (KeepBut.refl w g none)
 have HL := aM hB.size
 clear hI
 have HW0 := aM hB.size
 have HB := aM hB
 clear hB
 unfold spec_reader_pick.f at h
 have H := h
 clear h
 have HC3 := aM H
 clear H
 obtain ⟨ASz4_0, cSz4_0, HGz4, hgz4, HSz4_0⟩ := HI0.out
 have hcz4_0 := cellS85_0 HGz4
 have hcz4_1 := cellS85_1 HGz4
 have hfz4_1 := blk_frozen HGz4 1
 clear HGz4 hgz4
 go_enter Try.func45, Try.ntmps45
 go_upto_region 2 with (fail)
 repeat (go_quiet (fail); go_upto_region 2 with (fail))
 go_cut [24] (fun v24 wc => ∃ (kq : Nat) (x24_2 : Bool), v24 = .bool x24_2 ∧ Aside0 (spec_reader_pick.j0 kq a1 x24_2 s0_0 (wrap64 (s0_1 + 1)) = some (r1, r2)) ∧ Aside0 (kq ≤ k) ∧ Aside0 (IsS85 w0 wc g s0_0 (wrap64 (s0_1 + 1))) ∧ Aside0 (KeepBut w wc g none) ∧ Aside0 (Below w0.heap.size w0 wc))
 case first =>
  have H := HC3.out
  clear HC3
  by_cases c5 : a1 < 1
  ·rw [if_pos c5] at H
   have c5b0 : decide (a1 < 1) = true := decide_eq_true c5
   clear c5
   (first | rw [c5b0] | (simp only [i64_w, i32_w]; rw [c5b0]) | skip)
   have H' := aM H
   clear H
   go_wp2
   repeat (go_quiet (fail); try go_wp2)
   go_meet
   case rel => exact ⟨_, (true), qE, H', ⟨by first | omega | exact Nat.le_refl _⟩, ⟨iS85 HI0.out⟩, ⟨kB HK.out⟩, ⟨wS85 HB.out⟩⟩
  rw [if_neg c5] at H
  have c5b0 : decide (a1 < 1) = false := decide_eq_false c5
  clear c5
  (first | rw [c5b0] | (simp only [i64_w, i32_w]; rw [c5b0]) | skip)
  have H' := aM H
  clear H
  obtain ⟨ASz6_0, cSz6_0, HGz6, hgz6, HSz6_0⟩ := HI0.out
  have hcz6_0 := cellS85_0 HGz6
  have hcz6_1 := cellS85_1 HGz6
  have hfz6_1 := blk_frozen HGz6 1
  clear HGz6 hgz6
  go_wp2
  repeat (go_quiet (fail); try go_wp2)
  go_meet
  case rel => exact ⟨_, (((s0_0.length : Int) == 0)), qE, H', ⟨by first | omega | exact Nat.le_refl _⟩, ⟨iS85 HI0.out⟩, ⟨kB HK.out⟩, ⟨wS85 HB.out⟩⟩
 case rest =>
  clear HC3
  try clear c5
  try clear c5b0
  try clear hcz4_0 hcz4_1 hfz4_1
  try clear hcz6_0 hcz6_1 hfz6_1
  obtain ⟨kq, x24_2, rfl, HA, HJ2, HI0, HK, HB⟩ := hcut
  cases kq with
  | zero => exact absurd HA.out (by simp [spec_reader_pick.j0])
  | succ kj2 =>
   have H := HA.out
   clear HA
   simp only [spec_reader_pick.j0] at H
   by_cases c7 : x24_2 = true
   ·subst c7
    have H1 : (some (0, (wrap64 (s0_1 + 1)))) = some (r1, r2) := by rw [if_pos rfl] at H; exact H
    clear H
    have H := H1
    clear H1
    simp only [Option.some.injEq, Prod.mk.injEq] at H
    obtain ⟨rfl, rfl⟩ := H
    go_wp2
    repeat (go_quiet (fail); try go_wp2)
    go_ret
    exact ⟨qX, iS85 HI0.out, wS85 HB.out, kB HK.out⟩
   replace c7 := Bool.eq_false_iff.mpr c7
   subst c7
   have H1 : (if (wrap64 ((wrap64 (s0_1 + 1)) - 1)) < (s0_0.length : Int) then (if 0 ≤ (wrap64 ((wrap64 (s0_1 + 1)) - 1)) then (if a1 = 0 then (none) else (some (Int.tmod (wrap64 (rd s0_0 (wrap64 ((wrap64 (s0_1 + 1)) - 1)))) a1, (wrap64 (s0_1 + 1))))) else (none)) else (if (s0_0.length : Int) = 0 then (none) else (if 0 ≤ (Int.tmod (wrap64 ((wrap64 (s0_1 + 1)) - 1)) (s0_0.length : Int)) then (if (Int.tmod (wrap64 ((wrap64 (s0_1 + 1)) - 1)) (s0_0.length : Int)) < (s0_0.length : Int) then (if 0 ≤ (Int.tmod (wrap64 ((wrap64 ((wrap64 ((wrap64 (s0_1 + 1)) - 1)) * 7)) + 3)) (s0_0.length : Int)) then (if (Int.tmod (wrap64 ((wrap64 ((wrap64 ((wrap64 (s0_1 + 1)) - 1)) * 7)) + 3)) (s0_0.length : Int)) < (s0_0.length : Int) then (if a1 = 0 then (none) else (some (Int.tmod (Go.bits .xor .i64 (wrap64 ((wrap64 ((wrap64 ((wrap64 ((wrap64 (rd s0_0 (Int.tmod (wrap64 ((wrap64 (s0_1 + 1)) - 1)) (s0_0.length : Int)))) * 131)) + (wrap64 ((wrap64 (rd s0_0 (Int.tmod (wrap64 ((wrap64 ((wrap64 ((wrap64 (s0_1 + 1)) - 1)) * 7)) + 3)) (s0_0.length : Int)))) * 1117)))) + (wrap64 ((wrap64 ((wrap64 (s0_1 + 1)) - 1)) * 29)))) + (wrap64 ((wrap64 (Int.tdiv (wrap64 ((wrap64 (s0_1 + 1)) - 1)) (s0_0.length : Int))) * 53)))) (wrap64 (Int.tdiv (wrap64 ((wrap64 ((wrap64 ((wrap64 ((wrap64 (rd s0_0 (Int.tmod (wrap64 ((wrap64 (s0_1 + 1)) - 1)) (s0_0.length : Int)))) * 131)) + (wrap64 ((wrap64 (rd s0_0 (Int.tmod (wrap64 ((wrap64 ((wrap64 ((wrap64 (s0_1 + 1)) - 1)) * 7)) + 3)) (s0_0.length : Int)))) * 1117)))) + (wrap64 ((wrap64 ((wrap64 (s0_1 + 1)) - 1)) * 29)))) + (wrap64 ((wrap64 (Int.tdiv (wrap64 ((wrap64 (s0_1 + 1)) - 1)) (s0_0.length : Int))) * 53)))) 64))) a1, (wrap64 (s0_1 + 1))))) else (none)) else (none)) else (none)) else (none)))) = some (r1, r2) := by rw [if_neg (show ¬ (false = true) by decide)] at H; exact H
   clear H
   have H := H1
   clear H1
   by_cases c8 : (wrap64 ((wrap64 (s0_1 + 1)) - 1)) < (s0_0.length : Int)
   ·rw [if_pos c8] at H
    have c8b0 : decide ((wrap64 ((wrap64 (s0_1 + 1)) - 1)) < (s0_0.length : Int)) = true := decide_eq_true c8
    clear c8
    obtain ⟨ji9, hji9⟩ : ∃ j_ : Int, (wrap64 ((wrap64 (s0_1 + 1)) - 1)) = j_ := ⟨_, rfl⟩
    replace H : (if 0 ≤ (ji9) then (if a1 = 0 then (none) else (some (Int.tmod (wrap64 (rd s0_0 (ji9))) a1, (wrap64 (s0_1 + 1))))) else (none)) = some (r1, r2) := by first | (rw [hji9] at H; exact H) | (simp only [hji9] at H ⊢; exact H)
    (try rw [hji9] at c8b0)
    have hji9w : (IntKind.i64.wrap ((wrap64 (s0_1 + 1)) - 1)) = ji9 := (i64_w _).trans hji9
    replace H := iD H
    obtain ⟨c10b0, H⟩ := H
    by_cases c11 : a1 = 0
    ·rw [if_pos c11] at H
     exact absurd H (by simp)
    rw [if_neg c11] at H
    have c11b0 : (a1 == 0) = false := beq_eq_false_iff_ne.mpr c11
    have c11b1 : (a1 != 0) = true := bne_iff_ne.mpr c11
    simp only [Option.some.injEq, Prod.mk.injEq] at H
    obtain ⟨rfl, rfl⟩ := H
    obtain ⟨ASz12_0, cSz12_0, HGz12, hgz12, HSz12_0⟩ := HI0.out
    have hcz12_0 := cellS85_0 HGz12
    have hcz12_1 := cellS85_1 HGz12
    have hfz12_1 := blk_frozen HGz12 1
    clear HGz12 hgz12
    obtain ⟨ad133, e133, hx133_0⟩ := Kd.at_int HSz12_0 (ji9) oD oD
    cases e133
    replace hx133_0 := pw_cell_below HB.out hx133_0
    have p133 := eq_true (oD : 0 ≤ ((ji9) : Int))
    have q133 := eq_true (oD : (ji9) < (s0_0.length : Int))
    go_wp2
    repeat (go_quiet (fail); try go_wp2)
    go_ret
    exact ⟨by first | rfl | (simp [errW_none, errW_some] <;> rfl) | (simp only [← hji9]; first | rfl | (simp [errW_none, errW_some] <;> rfl)) | (simp [*, errW_none, errW_some] <;> rfl), iS85 HI0.out, wS85 HB.out, kB HK.out⟩
   rw [if_neg c8] at H
   have c8b0 : decide ((wrap64 ((wrap64 (s0_1 + 1)) - 1)) < (s0_0.length : Int)) = false := decide_eq_false c8
   clear c8
   by_cases c13 : (s0_0.length : Int) = 0
   ·rw [if_pos c13] at H
    exact absurd H (by simp)
   rw [if_neg c13] at H
   have c13b0 : ((s0_0.length : Int) == 0) = false := beq_eq_false_iff_ne.mpr c13
   have c13b1 : ((s0_0.length : Int) != 0) = true := bne_iff_ne.mpr c13
   have c13b2 : ¬ (s0_0 = []) := fun h_ => c13 (by rw [h_]; rfl)
   obtain ⟨ji14, hji14⟩ : ∃ j_ : Int, (Int.tmod (wrap64 ((wrap64 (s0_1 + 1)) - 1)) (s0_0.length : Int)) = j_ := ⟨_, rfl⟩
   replace H : (if 0 ≤ (ji14) then (if (ji14) < (s0_0.length : Int) then (if 0 ≤ (Int.tmod (wrap64 ((wrap64 ((wrap64 ((wrap64 (s0_1 + 1)) - 1)) * 7)) + 3)) (s0_0.length : Int)) then (if (Int.tmod (wrap64 ((wrap64 ((wrap64 ((wrap64 (s0_1 + 1)) - 1)) * 7)) + 3)) (s0_0.length : Int)) < (s0_0.length : Int) then (if a1 = 0 then (none) else (some (Int.tmod (Go.bits .xor .i64 (wrap64 ((wrap64 ((wrap64 ((wrap64 ((wrap64 (rd s0_0 (ji14))) * 131)) + (wrap64 ((wrap64 (rd s0_0 (Int.tmod (wrap64 ((wrap64 ((wrap64 ((wrap64 (s0_1 + 1)) - 1)) * 7)) + 3)) (s0_0.length : Int)))) * 1117)))) + (wrap64 ((wrap64 ((wrap64 (s0_1 + 1)) - 1)) * 29)))) + (wrap64 ((wrap64 (Int.tdiv (wrap64 ((wrap64 (s0_1 + 1)) - 1)) (s0_0.length : Int))) * 53)))) (wrap64 (Int.tdiv (wrap64 ((wrap64 ((wrap64 ((wrap64 ((wrap64 (rd s0_0 (ji14))) * 131)) + (wrap64 ((wrap64 (rd s0_0 (Int.tmod (wrap64 ((wrap64 ((wrap64 ((wrap64 (s0_1 + 1)) - 1)) * 7)) + 3)) (s0_0.length : Int)))) * 1117)))) + (wrap64 ((wrap64 ((wrap64 (s0_1 + 1)) - 1)) * 29)))) + (wrap64 ((wrap64 (Int.tdiv (wrap64 ((wrap64 (s0_1 + 1)) - 1)) (s0_0.length : Int))) * 53)))) 64))) a1, (wrap64 (s0_1 + 1))))) else (none)) else (none)) else (none)) else (none)) = some (r1, r2) := by first | (rw [hji14] at H; exact H) | (simp only [hji14] at H ⊢; exact H)
   replace H := iD H
   obtain ⟨c15b0, H⟩ := H
   replace H := iD H
   obtain ⟨c16b0, H⟩ := H
   obtain ⟨ji17, hji17⟩ : ∃ j_ : Int, (Int.tmod (wrap64 ((wrap64 ((wrap64 ((wrap64 (s0_1 + 1)) - 1)) * 7)) + 3)) (s0_0.length : Int)) = j_ := ⟨_, rfl⟩
   replace H : (if 0 ≤ (ji17) then (if (ji17) < (s0_0.length : Int) then (if a1 = 0 then (none) else (some (Int.tmod (Go.bits .xor .i64 (wrap64 ((wrap64 ((wrap64 ((wrap64 ((wrap64 (rd s0_0 (ji14))) * 131)) + (wrap64 ((wrap64 (rd s0_0 (ji17))) * 1117)))) + (wrap64 ((wrap64 ((wrap64 (s0_1 + 1)) - 1)) * 29)))) + (wrap64 ((wrap64 (Int.tdiv (wrap64 ((wrap64 (s0_1 + 1)) - 1)) (s0_0.length : Int))) * 53)))) (wrap64 (Int.tdiv (wrap64 ((wrap64 ((wrap64 ((wrap64 ((wrap64 (rd s0_0 (ji14))) * 131)) + (wrap64 ((wrap64 (rd s0_0 (ji17))) * 1117)))) + (wrap64 ((wrap64 ((wrap64 (s0_1 + 1)) - 1)) * 29)))) + (wrap64 ((wrap64 (Int.tdiv (wrap64 ((wrap64 (s0_1 + 1)) - 1)) (s0_0.length : Int))) * 53)))) 64))) a1, (wrap64 (s0_1 + 1))))) else (none)) else (none)) = some (r1, r2) := by first | (rw [hji17] at H; exact H) | (simp only [hji17] at H ⊢; exact H)
   replace H := iD H
   obtain ⟨c18b0, H⟩ := H
   replace H := iD H
   obtain ⟨c19b0, H⟩ := H
   by_cases c20 : a1 = 0
   ·rw [if_pos c20] at H
    exact absurd H (by simp)
   rw [if_neg c20] at H
   have c20b0 : (a1 == 0) = false := beq_eq_false_iff_ne.mpr c20
   have c20b1 : (a1 != 0) = true := bne_iff_ne.mpr c20
   simp only [Option.some.injEq, Prod.mk.injEq] at H
   obtain ⟨rfl, rfl⟩ := H
   obtain ⟨ASz21_0, cSz21_0, HGz21, hgz21, HSz21_0⟩ := HI0.out
   have hcz21_0 := cellS85_0 HGz21
   have hcz21_1 := cellS85_1 HGz21
   have hfz21_1 := blk_frozen HGz21 1
   clear HGz21 hgz21
   obtain ⟨ad134, e134, hx134_0⟩ := Kd.at_int HSz21_0 (ji14) oD oD
   cases e134
   replace hx134_0 := pw_cell_below HB.out hx134_0
   have p134 := eq_true (oD : 0 ≤ ((ji14) : Int))
   have q134 := eq_true (oD : (ji14) < (s0_0.length : Int))
   obtain ⟨ad135, e135, hx135_0⟩ := Kd.at_int HSz21_0 (ji17) oD oD
   obtain rfl : ad134 = ad135 := (by injection e135)
   replace hx135_0 := pw_cell_below HB.out hx135_0
   have p135 := eq_true (oD : 0 ≤ ((ji17) : Int))
   have q135 := eq_true (oD : (ji17) < (s0_0.length : Int))
   go_wp2
   repeat (go_quiet (fail); try go_wp2)
   go_ret
   exact ⟨by first | rfl | (simp [errW_none, errW_some] <;> rfl) | (simp only [← hji14, ← hji17]; first | rfl | (simp [errW_none, errW_some] <;> rfl)) | (simp [*, errW_none, errW_some] <;> rfl), iS85 HI0.out, wS85 HB.out, kB HK.out⟩
def spec_reader_one.f (k : Nat) (s0_0 : List Int) (s0_1 : Int) (l1 : List Int) : Option (Int × Int) := (spec_reader_pick.f k s0_0 s0_1 (l1.length : Int)).bind fun bt136 => (if 0 ≤ bt136.1 then (if bt136.1 < (l1.length : Int) then (some (rd l1 bt136.1, bt136.2)) else (none)) else (none))
theorem spec_reader_one.mono : ∀ a0 a1 a2 k, LeO (spec_reader_one.f k a0 a1 a2) (spec_reader_one.f (k + 1) a0 a1 a2) := by
 intro a0 a1 a2 k
 unfold spec_reader_one.f
 repeat' first | (with_reducible first | exact spec_reader_pick.mono _ _ _ _ | exact lR | exact lN | refine lI ?_ ?_ | refine lB ?_ fun _ => ?_) | exact spec_reader_pick.mono _ _ _ _ | exact lN | refine lI ?_ ?_ | refine lB ?_ fun _ => ?_
set_option maxHeartbeats 8000000 in
set_option maxRecDepth 100000 in
theorem spec_reader_one.calls (k : Nat) (g : Nat) (s0_0 : List Int) (s0_1 : Int) (A1 : Option Addr) (c1 : Nat) (l1 : List Int) (r1 : Int) (r2 : Int) (w0 w : World) (hI : IsS85 w0 w g s0_0 s0_1) (hB : Below w0.heap.size w0 w) (hr1 : Kd.C (Kd.int .i64) w A1 l1.length l1) (hc1 : l1.length ≤ c1) (hf1 : ∀ ad, A1 = some ad → 0 < l1.length → ad.block ≠ g) (h : spec_reader_one.f k s0_0 s0_1 l1 = some (r1, r2)) :
  Calls Try.prog 98 #[.pointer (some ⟨g, 0, none⟩), .slice A1 l1.length c1] w fun e w' => e = .returned (.int .i64 r1) ∧ IsS85 w0 w' g s0_0 r2 ∧ Below w0.heap.size w0 w' ∧ KeepBut w w' g none := by
 have HR1 := aM hr1
 have HC1 := aM hc1
 clear hr1 hc1
 have HI0 := aM hI
 have HK := aM (KeepBut.refl w g none)
 have HL := aM hB.size
 clear hI
 have HW0 := aM hB.size
 have HB := aM hB
 clear hB
 unfold spec_reader_one.f at h
 have H := h
 clear h
 replace H := Option.bind_eq_some_iff.mp H
 obtain ⟨⟨t136, t137⟩, A30, H⟩ := H
 replace H : (if 0 ≤ t136 then (if t136 < (l1.length : Int) then (some (rd l1 t136, t137)) else (none)) else (none)) = some (r1, r2) := H
 have A3 := aM A30
 clear A30
 replace H := iD H
 obtain ⟨c4b0, H⟩ := H
 replace H := iD H
 obtain ⟨c5b0, H⟩ := H
 simp only [Option.some.injEq, Prod.mk.injEq] at H
 obtain ⟨rfl, rfl⟩ := H
 go_enter Try.func98, Try.ntmps98
 go_wp2_with (first | ((with_reducible refine gate_callee (f := 45) rfl ?_); refine gL (some 9) Try.func45 #[.pointer (some ⟨g, 0, none⟩), .int .i64 (l1.length : Int)] ?_; (with_reducible refine (spec_reader_pick.calls k g s0_0 s0_1 (l1.length : Int) t136 t137 w0 _ ?side1 ?side2 A3.out).mono ?_); (case side1 => exact iS85 HI0.out); (case side2 => exact wS85 HB.out); rintro e w6 ⟨rfl, hi, hb, hk⟩; refine ⟨_, rfl, ?_⟩; replace HK := aM (KeepBut.trans (kB HK.out) hk (.inl rfl)); replace HB := aM (hb); replace HI0 := aM (hi); clear hb hk hi; have p138 : 0 ≤ (t136 : Int) := oD; have q138 : t136 < (l1.length : Int) := oD; obtain ⟨ad138, e138, hx138_0⟩ := Kd.at_int HR1.out t136 p138 q138; cases e138; replace hx138_0 := keep_cell HK.out hx138_0 (by first | (rw [add_block]; exact hf1 _ rfl (by omega)) | exact hf1 _ rfl (by omega) | exact hf1 ad138 rfl (by omega)); replace p138 := eq_true p138; replace q138 := eq_true q138))
 go_ret
 exact ⟨qX, iS85 HI0.out, wS85 HB.out, kB HK.out⟩
def spec_spoilImage.f (k : Nat) (s0_0 : List Int) (s0_1 : Int) (a1_0 : Int) (a1_1 : Int) (a1_2 : Int) (l1_3 : List Int) : Option (Int × Int × Int × List Int × Int) := (spec_reader_pick.f k s0_0 s0_1 40).bind fun bt141 => (if bt141.1 = 0 then ((spec_reader_one.f k s0_0 bt141.2 (([0, 17, wrap64 (a1_0 + 1)] : List Int))).bind fun bt146 => (some (bt146.1, a1_1, a1_2, l1_3, bt146.2))) else (if bt141.1 = 1 then (if 1 ≤ (l1_3.length : Int) then (some (a1_0, a1_1, a1_2, (l1_3.drop (1 : Int).toNat), bt141.2)) else (none)) else (if bt141.1 = 2 then ((spec_reader_one.f k s0_0 bt141.2 (([(-1), 256] : List Int))).bind fun bt154 => (if 0 < (l1_3.length : Int) then (some (a1_0, a1_1, a1_2, (l1_3.set (0 : Int).toNat bt154.1), bt154.2)) else (none))) else (if bt141.1 = 3 then ((spec_reader_one.f k s0_0 bt141.2 (([0, 5] : List Int))).bind fun bt160 => (some (a1_0, a1_1, bt160.1, l1_3, bt160.2))) else (some (a1_0, a1_1, a1_2, l1_3, bt141.2))))))
theorem spec_spoilImage.mono : ∀ a0 a1 a2 a3 a4 a5 k, LeO (spec_spoilImage.f k a0 a1 a2 a3 a4 a5) (spec_spoilImage.f (k + 1) a0 a1 a2 a3 a4 a5) := by
 intro a0 a1 a2 a3 a4 a5 k
 unfold spec_spoilImage.f
 repeat' first | (with_reducible first | exact spec_reader_one.mono _ _ _ _ | exact spec_reader_pick.mono _ _ _ _ | exact lR | exact lN | refine lI ?_ ?_ | refine lB ?_ fun _ => ?_) | exact spec_reader_one.mono _ _ _ _ | exact spec_reader_pick.mono _ _ _ _ | exact lN | refine lI ?_ ?_ | refine lB ?_ fun _ => ?_
set_option maxHeartbeats 8000000 in
set_option maxRecDepth 100000 in
theorem spec_spoilImage.calls (k : Nat) (g : Nat) (s0_0 : List Int) (s0_1 : Int) (a1_0 : Int) (a1_1 : Int) (a1_2 : Int) (P1_3_ : Nat → Prop) (u9000_ : Value) (l1_3 : List Int) (r1 : Int) (r2 : Int) (r3 : Int) (r4 : List Int) (r5 : Int) (w0 w : World) (hI : IsS85 w0 w g s0_0 s0_1) (hB : Below w0.heap.size w0 w) (ho1_3 : Kd.R (Kd.int .i64) 3 w w0.heap.size P1_3_ u9000_ l1_3) (h : spec_spoilImage.f k s0_0 s0_1 a1_0 a1_1 a1_2 l1_3 = some (r1, r2, r3, r4, r5)) :
  Calls Try.prog 88 #[.pointer (some ⟨g, 0, none⟩), .agg #[.int .i64 a1_0, .int .i64 a1_1, .int .i64 a1_2, u9000_]] w fun e w' => ∃ v3_ : Value, e = .returned (.agg #[.int .i64 r1, .int .i64 r2, .int .i64 r3, v3_]) ∧ Kd.Q (Kd.int .i64) 3 w' w0.heap.size (fun k_ => (P1_3_ k_ ∨ w.heap.size ≤ k_)) v3_ r4 ∧ IsS85 w0 w' g s0_0 r5 ∧ Below w0.heap.size w0 w' ∧ Kept w w' (fun k_ => (P1_3_ k_) ∨ k_ = g) := by
 have hu27 := Try.underlying27
 have HO1_3 := aM (show Kd.R (Kd.int .i64) 3 w w0.heap.size (fun k_ => (P1_3_ k_ ∨ w.heap.size ≤ k_)) u9000_ l1_3 from Kd.R_mono ho1_3 (fun k_ hk => (.inl hk)))
 have HI0 := aM hI
 have HL := aM hB.size
 clear hI
 have HK := aM (Kept.refl w (fun k_ => (P1_3_ k_) ∨ k_ = g))
 have HW0 := aM hB.size
 have HB := aM hB
 clear hB
 unfold spec_spoilImage.f at h
 have H := h
 clear h
 replace H := Option.bind_eq_some_iff.mp H
 obtain ⟨⟨t141, t142⟩, A30, H⟩ := H
 replace H : (if t141 = 0 then ((spec_reader_one.f k s0_0 t142 (([0, 17, wrap64 (a1_0 + 1)] : List Int))).bind fun bt146 => (some (bt146.1, a1_1, a1_2, l1_3, bt146.2))) else (if t141 = 1 then (if 1 ≤ (l1_3.length : Int) then (some (a1_0, a1_1, a1_2, (l1_3.drop (1 : Int).toNat), t142)) else (none)) else (if t141 = 2 then ((spec_reader_one.f k s0_0 t142 (([(-1), 256] : List Int))).bind fun bt154 => (if 0 < (l1_3.length : Int) then (some (a1_0, a1_1, a1_2, (l1_3.set (0 : Int).toNat bt154.1), bt154.2)) else (none))) else (if t141 = 3 then ((spec_reader_one.f k s0_0 t142 (([0, 5] : List Int))).bind fun bt160 => (some (a1_0, a1_1, bt160.1, l1_3, bt160.2))) else (some (a1_0, a1_1, a1_2, l1_3, t142)))))) = some (r1, r2, r3, r4, r5) := H
 have A3 := aM A30
 clear A30
 by_cases c4 : t141 = 0
 ·rw [if_pos c4] at H
  have c4b0 : (t141 == 0) = true := beq_iff_eq.mpr c4
  have c4b1 : (t141 != 0) = false := bne_eq_false_iff_eq.mpr c4
  clear c4
  obtain ⟨y143, hy143⟩ : ∃ y_ : List Int, y_ = (([0, 17, wrap64 (a1_0 + 1)] : List Int)) := ⟨_, rfl⟩
  replace H : ((spec_reader_one.f k s0_0 t142 y143).bind fun bt146 => (some (bt146.1, a1_1, a1_2, l1_3, bt146.2))) = some (r1, r2, r3, r4, r5) := rY hy143 H
  have Ny143 := aM hy143
  clear hy143
  replace H := Option.bind_eq_some_iff.mp H
  obtain ⟨⟨t146, t147⟩, A50, H⟩ := H
  replace H : (some (t146, a1_1, a1_2, l1_3, t147)) = some (r1, r2, r3, r4, r5) := H
  have A5 := aM A50
  clear A50
  simp only [Option.some.injEq, Prod.mk.injEq] at H
  obtain ⟨rfl, rfl, rfl, rfl, rfl⟩ := H
  obtain ⟨Ao6, co6, rfl⟩ := sL HO1_3
  go_enter Try.func88, Try.ntmps88
  go_wp2_with (first | ((with_reducible refine gate_dst (N := 3) rfl ?_); refine bxE (N := 3) (cs := #[.int .i64 a1_0, .int .i64 a1_1, .int .i64 a1_2, .slice Ao6 l1_3.length co6]) (t := 27) ?_; intro gb139 hg w7 hbox hb; replace HO1_3 := aM (Kd.R_below (qR HO1_3.out) hb); have BK139 := aM (hbox); have GW139 := aM ((by rw [hg]; exact (by first | exact HK.out.1 | exact (show Kept w _ (fun k_ => (P1_3_ k_) ∨ k_ = g) from kP HK.out).1) : w.heap.size ≤ gb139)); replace HK := aM (Kept.below (S := (fun k_ => (P1_3_ k_) ∨ k_ = g)) (kP HK.out) hb); have GE139 := aM ((by rw [hg]; exact (below_size (wS85 HB.out)) : w0.heap.size ≤ gb139)); replace HB := aM (below_step (wS85 HB.out) hb); have NB0_139 := aM ((by rw [hg]; exact Nat.ne_of_lt (IsS85.lt (show IsS85 w0 _ g s0_0 s0_1 from iS85 HI0.out)) : g ≠ gb139)); have NB139_0 := aM ((by rw [hg]; exact Nat.ne_of_gt (IsS85.lt (show IsS85 w0 _ g s0_0 s0_1 from iS85 HI0.out)) : gb139 ≠ g)); replace HI0 := aM (IsS85.below (iS85 HI0.out) hb); clear hb hbox hg) | ((with_reducible refine gate_dst (N := 4) rfl ?_); refine bxE (N := 4) (cs := #[.int .i64 0, .int .i64 0, .int .i64 0, .slice none 0 0]) (t := 27) ?_; intro gb140 hg w8 hbox hb; replace HO1_3 := aM (Kd.R_below (qR HO1_3.out) hb); have BK140 := aM (hbox); have GW140 := aM ((by rw [hg]; exact (by first | exact HK.out.1 | exact (show Kept w _ (fun k_ => (P1_3_ k_) ∨ k_ = g) from kP HK.out).1) : w.heap.size ≤ gb140)); replace HK := aM (Kept.below (S := (fun k_ => (P1_3_ k_) ∨ k_ = g)) (kP HK.out) hb); have GE140 := aM ((by rw [hg]; exact (below_size (wS85 HB.out)) : w0.heap.size ≤ gb140)); replace HB := aM (below_step (wS85 HB.out) hb); have NB139_140 := nL hg BK139; have NB140_139 := nG hg BK139; replace BK139 := bB BK139 hb; have NB0_140 := aM ((by rw [hg]; exact Nat.ne_of_lt (IsS85.lt (show IsS85 w0 _ g s0_0 s0_1 from iS85 HI0.out)) : g ≠ gb140)); have NB140_0 := aM ((by rw [hg]; exact Nat.ne_of_gt (IsS85.lt (show IsS85 w0 _ g s0_0 s0_1 from iS85 HI0.out)) : gb140 ≠ g)); replace HI0 := aM (IsS85.below (iS85 HI0.out) hb); clear hb hbox hg) | ((with_reducible refine gate_callee (f := 45) rfl ?_); refine gL (some 6) Try.func45 #[.pointer (some ⟨g, 0, none⟩), .int .i64 40] ?_; (with_reducible refine (spec_reader_pick.calls k g s0_0 s0_1 40 t141 t142 w0 _ ?side1 ?side2 A3.out).mono ?_); (case side1 => exact iS85 HI0.out); (case side2 => exact wS85 HB.out); rintro e w9 ⟨rfl, hi, hb, hk⟩; refine ⟨_, rfl, ?_⟩; replace HO1_3 := aM (Kd.R_mono (Kd.R_keep (IsS85.apart (show IsS85 w0 _ g s0_0 s0_1 from iS85 HI0.out) (qR HO1_3.out) (by decide)) hk (fun _ h => h.2)) (fun _ h => h.1)); replace BK139 := bK hk BK139 NB139_0; replace BK140 := bK hk BK140 NB140_0; replace HK := aM (Kept.of_keep (S := (fun k_ => (P1_3_ k_) ∨ k_ = g)) (kP HK.out) hk (.inl (.inr rfl))); replace HB := aM (hb); replace HI0 := aM (hi); clear hb hk hi; have hnb10 := NB139_140.out; have hnc10 := NB140_139.out; have hnb11 := NB139_0.out; have hnc11 := NB0_139.out; obtain ⟨⟨hcz12_0, hcz12_1, hcz12_2, hcz12_3⟩, hfz12_0, hfz12_1, hfz12_2, hfz12_3⟩ := cf4 BK139) | ((with_reducible refine gate_dst (N := 13) rfl ?_); refine iL ([0, 17, wrap64 (a1_0 + 1)] : List Int) [.int .i64 0, .int .i64 17, .int .i64 (wrap64 (a1_0 + 1))] ?_; intro v144 w13 ho14 hb hg_ hnew_; clear hg_ hnew_; (first | rw [← Ny143.out] at ho14 | (simp only [Int.reduceToNat] at ho14; rw [← Ny143.out] at ho14)); have HO145 := aM (Kd.R_lower (Kd.R_new' (Kd.R_newM (M := fun k_ => (P1_3_ k_ ∨ w.heap.size ≤ k_)) ho14 (by first | exact HK.out.1 | exact (show Kept w _ (fun k_ => (P1_3_ k_) ∨ k_ = g) from kP HK.out).1) (fun k_ h_ => .inr h_)) (Kd.R_lt (qR HO1_3.out))) (below_size (wS85 HB.out))); replace HO1_3 := aM (Kd.R_elder' (qR HO1_3.out) (Kd.R_base ho14) hb); replace BK139 := bB BK139 hb; replace BK140 := bB BK140 hb; replace HK := aM (Kept.below (S := (fun k_ => (P1_3_ k_) ∨ k_ = g)) (kP HK.out) hb); replace HB := aM (below_step (wS85 HB.out) hb); replace HI0 := aM (IsS85.below (iS85 HI0.out) hb); clear hb ho14; obtain ⟨Ao15, co15, rfl⟩ := sL HO145) | ((with_reducible refine gate_callee (f := 98) rfl ?_); refine gL (some 14) Try.func98 #[.pointer (some ⟨g, 0, none⟩), .slice Ao15 y143.length co15] ?_; (with_reducible refine (spec_reader_one.calls k g s0_0 t142 _ _ y143 t146 t147 w0 _ ?side1 ?side2 ?side3 ?side4 ?side5 A5.out).mono ?_); (case side1 => exact iS85 HI0.out); (case side2 => exact wS85 HB.out); (case side3 => exact qC (Kd.R_reads' HO145.out).2.2); (case side4 => exact (Kd.R_reads' HO145.out).2.1); (case side5 => exact far_slice (IsS85.own_ne HI0.out HO145.out (by decide))); rintro e w16 ⟨rfl, hi, hb, hk⟩; refine ⟨_, rfl, ?_⟩; replace HO1_3 := aM (Kd.R_mono (Kd.R_keep (IsS85.apart (show IsS85 w0 _ g s0_0 t142 from iS85 HI0.out) (qR HO1_3.out) (by decide)) hk (fun _ h => h.2)) (fun _ h => h.1)); replace BK139 := bK hk BK139 NB139_0; replace BK140 := bK hk BK140 NB140_0; replace HO145 := aM (Kd.R_mono (Kd.R_keep (IsS85.apart (show IsS85 w0 _ g s0_0 t142 from iS85 HI0.out) (qR HO145.out) (by decide)) hk (fun _ h => h.2)) (fun _ h => h.1)); replace HK := aM (Kept.of_keep (S := (fun k_ => (P1_3_ k_) ∨ k_ = g)) (kP HK.out) hk (.inl (.inr rfl))); replace HB := aM (hb); replace HI0 := aM (hi); clear hb hk hi; obtain ⟨⟨hcz17_0, hcz17_1, hcz17_2, hcz17_3⟩, hfz17_0, hfz17_1, hfz17_2, hfz17_3⟩ := cf4 BK139; have hnb18 := NB140_0.out; have hnc18 := NB0_140.out; obtain ⟨⟨hcz19_0, hcz19_1, hcz19_2, hcz19_3⟩, hfz19_0, hfz19_1, hfz19_2, hfz19_3⟩ := cf4 BK140))
  refine bodyPost_ret (results_cell_row rfl _ _ gb140 27 #[.int .i64 t146, .int .i64 a1_1, .int .i64 a1_2, .slice Ao6 l1_3.length co6] (0, 0) _ rfl (by refine qB ?_; refine blk_put (cs := #[.int .i64 t146, .int .i64 a1_1, .int .i64 a1_2, .slice none 0 0]) ?_ 3 _ rfl; refine qB ?_; refine blk_put (cs := #[.int .i64 t146, .int .i64 a1_1, .int .i64 0, .slice none 0 0]) ?_ 2 _ rfl; refine qB ?_; refine blk_put (cs := #[.int .i64 t146, .int .i64 0, .int .i64 0, .slice none 0 0]) ?_ 1 _ rfl; refine qB ?_; refine blk_put (cs := #[.int .i64 0, .int .i64 0, .int .i64 0, .slice none 0 0]) ?_ 0 _ rfl; refine qB ?_; refine blk_far ?_ NB140_139.out _; refine qB ?_; exact BK140.out) Try.underlying27 rfl (by kernel_rfl)) rfl ?_
  exact ⟨_, qX, Kd.Q_of_R (by refine qR ?_; exact Kd.R_mono (Kd.R_far (p := ⟨gb140, 3, none⟩) (Kd.R_far (p := ⟨gb140, 2, none⟩) (Kd.R_far (p := ⟨gb140, 1, none⟩) (Kd.R_far (p := ⟨gb140, 0, none⟩) (Kd.R_far (p := ⟨gb139, 0, none⟩) (Kd.R_types (Kd.R_types HO1_3.out BK139.out (by decide)) BK140.out (by decide)) (fun _ hk => hk.1.2) (.int .i64 t146)) (fun _ hk => hk.2) (.int .i64 t146)) (fun _ hk => hk.2) (.int .i64 a1_1)) (fun _ hk => hk.2) (.int .i64 a1_2)) (fun _ hk => hk.2) (.slice Ao6 l1_3.length co6)) (fun _ hk => hk.1.1.1)), iS85 HI0.out, wS85 HB.out, kP HK.out⟩
 rw [if_neg c4] at H
 have c4b0 : (t141 == 0) = false := beq_eq_false_iff_ne.mpr c4
 have c4b1 : (t141 != 0) = true := bne_iff_ne.mpr c4
 by_cases c20 : t141 = 1
 ·rw [if_pos c20] at H
  have c20b0 : (t141 == 1) = true := beq_iff_eq.mpr c20
  have c20b1 : (t141 != 1) = false := bne_eq_false_iff_eq.mpr c20
  clear c20
  replace H := iS H
  obtain ⟨c21, H⟩ := H
  have c21b0 := eq_true c21
  have c21b1 : decide (1 ≤ (l1_3.length : Int)) = true := decide_eq_true c21
  clear c21
  obtain ⟨y148, hy148⟩ : ∃ y_ : List Int, y_ = (l1_3.drop (1 : Int).toNat) := ⟨_, rfl⟩
  replace H : (some (a1_0, a1_1, a1_2, y148, t142)) = some (r1, r2, r3, r4, r5) := rY hy148 H
  have Ny148 := aM hy148
  clear hy148
  simp only [Option.some.injEq, Prod.mk.injEq] at H
  obtain ⟨rfl, rfl, rfl, rfl, rfl⟩ := H
  obtain ⟨Ao22, co22, rfl⟩ := sL HO1_3
  go_enter Try.func88, Try.ntmps88
  go_wp2_with (first | ((with_reducible refine gate_dst (N := 3) rfl ?_); refine bxE (N := 3) (cs := #[.int .i64 a1_0, .int .i64 a1_1, .int .i64 a1_2, .slice Ao22 l1_3.length co22]) (t := 27) ?_; intro gb139 hg w23 hbox hb; replace HO1_3 := aM (Kd.R_below (qR HO1_3.out) hb); have BK139 := aM (hbox); have GW139 := aM ((by rw [hg]; exact (by first | exact HK.out.1 | exact (show Kept w _ (fun k_ => (P1_3_ k_) ∨ k_ = g) from kP HK.out).1) : w.heap.size ≤ gb139)); replace HK := aM (Kept.below (S := (fun k_ => (P1_3_ k_) ∨ k_ = g)) (kP HK.out) hb); have GE139 := aM ((by rw [hg]; exact (below_size (wS85 HB.out)) : w0.heap.size ≤ gb139)); replace HB := aM (below_step (wS85 HB.out) hb); have NB0_139 := aM ((by rw [hg]; exact Nat.ne_of_lt (IsS85.lt (show IsS85 w0 _ g s0_0 s0_1 from iS85 HI0.out)) : g ≠ gb139)); have NB139_0 := aM ((by rw [hg]; exact Nat.ne_of_gt (IsS85.lt (show IsS85 w0 _ g s0_0 s0_1 from iS85 HI0.out)) : gb139 ≠ g)); replace HI0 := aM (IsS85.below (iS85 HI0.out) hb); clear hb hbox hg) | ((with_reducible refine gate_dst (N := 4) rfl ?_); refine bxE (N := 4) (cs := #[.int .i64 0, .int .i64 0, .int .i64 0, .slice none 0 0]) (t := 27) ?_; intro gb140 hg w24 hbox hb; replace HO1_3 := aM (Kd.R_below (qR HO1_3.out) hb); have BK140 := aM (hbox); have GW140 := aM ((by rw [hg]; exact (by first | exact HK.out.1 | exact (show Kept w _ (fun k_ => (P1_3_ k_) ∨ k_ = g) from kP HK.out).1) : w.heap.size ≤ gb140)); replace HK := aM (Kept.below (S := (fun k_ => (P1_3_ k_) ∨ k_ = g)) (kP HK.out) hb); have GE140 := aM ((by rw [hg]; exact (below_size (wS85 HB.out)) : w0.heap.size ≤ gb140)); replace HB := aM (below_step (wS85 HB.out) hb); have NB139_140 := nL hg BK139; have NB140_139 := nG hg BK139; replace BK139 := bB BK139 hb; have NB0_140 := aM ((by rw [hg]; exact Nat.ne_of_lt (IsS85.lt (show IsS85 w0 _ g s0_0 s0_1 from iS85 HI0.out)) : g ≠ gb140)); have NB140_0 := aM ((by rw [hg]; exact Nat.ne_of_gt (IsS85.lt (show IsS85 w0 _ g s0_0 s0_1 from iS85 HI0.out)) : gb140 ≠ g)); replace HI0 := aM (IsS85.below (iS85 HI0.out) hb); clear hb hbox hg) | ((with_reducible refine gate_callee (f := 45) rfl ?_); refine gL (some 6) Try.func45 #[.pointer (some ⟨g, 0, none⟩), .int .i64 40] ?_; (with_reducible refine (spec_reader_pick.calls k g s0_0 s0_1 40 t141 t142 w0 _ ?side1 ?side2 A3.out).mono ?_); (case side1 => exact iS85 HI0.out); (case side2 => exact wS85 HB.out); rintro e w25 ⟨rfl, hi, hb, hk⟩; refine ⟨_, rfl, ?_⟩; replace HO1_3 := aM (Kd.R_mono (Kd.R_keep (IsS85.apart (show IsS85 w0 _ g s0_0 s0_1 from iS85 HI0.out) (qR HO1_3.out) (by decide)) hk (fun _ h => h.2)) (fun _ h => h.1)); replace BK139 := bK hk BK139 NB139_0; replace BK140 := bK hk BK140 NB140_0; replace HK := aM (Kept.of_keep (S := (fun k_ => (P1_3_ k_) ∨ k_ = g)) (kP HK.out) hk (.inl (.inr rfl))); replace HB := aM (hb); replace HI0 := aM (hi); clear hb hk hi; have hnb26 := NB139_140.out; have hnc26 := NB140_139.out; have hnb27 := NB139_0.out; have hnc27 := NB0_139.out; obtain ⟨⟨hcz28_0, hcz28_1, hcz28_2, hcz28_3⟩, hfz28_0, hfz28_1, hfz28_2, hfz28_3⟩ := cf4 BK139; have q29 : (1 : Int) ≤ ((l1_3.length : Int) : Int) := oD; obtain ⟨i029, hi029, _, hsz29, _⟩ := info_parts info3; have hcut29 := cut_from (P := Try.prog) 25 3 .i64 Try.underlying25 hi029 1 hsz29 Ao22 l1_3.length co22 1 (by omega) q29; have hr29 := Kd.Q_drop (k := (1 : Int).toNat) (Kd.Q_of_R HO1_3.out) (by omega); obtain ⟨A29, hA29⟩ : ∃ A1, A1 = (if co22 = (1 : Int).toNat then Ao22 else (Ao22 : Option Addr).map (·.add ((1 : Int).toNat * 1))) := ⟨_, rfl⟩; obtain ⟨c29, hc29⟩ : ∃ c1, c1 = co22 - (1 : Int).toNat := ⟨_, rfl⟩; have hy29 : y148.length = l1_3.length - (1 : Int).toNat := (by rw [Ny148.out, List.length_drop]); rw [← Ny148.out] at hr29; rw [← hy29, ← hA29, ← hc29] at hcut29; replace hr29 : Kd.Q (Kd.int .i64) 3 w25 w0.heap.size (fun k_ => (P1_3_ k_ ∨ w.heap.size ≤ k_)) (.slice A29 y148.length c29) y148 := (by rw [hA29, hc29, hy29]; exact hr29); have HE29 : Aside0 ((Value.slice A29 y148.length c29).ownBlock = (.slice Ao22 l1_3.length co22 : Value).ownBlock) := ⟨by rw [hA29]; split <;> (cases (Ao22 : Option Addr) <;> rfl)⟩; clear hy29 hi029 hsz29 HO1_3 hA29 hc29; have HO150 := aM hr29; clear hr29; replace q29 := eq_true q29; have hnb30 := NB140_0.out; have hnc30 := NB0_140.out; obtain ⟨⟨hcz31_0, hcz31_1, hcz31_2, hcz31_3⟩, hfz31_0, hfz31_1, hfz31_2, hfz31_3⟩ := cf4 BK140))
  refine bodyPost_ret (results_cell_row rfl _ _ gb140 27 #[.int .i64 a1_0, .int .i64 a1_1, .int .i64 a1_2, .slice A29 y148.length c29] (0, 0) _ rfl (by refine qB ?_; refine blk_put (cs := #[.int .i64 a1_0, .int .i64 a1_1, .int .i64 a1_2, .slice none 0 0]) ?_ 3 _ rfl; refine qB ?_; refine blk_put (cs := #[.int .i64 a1_0, .int .i64 a1_1, .int .i64 0, .slice none 0 0]) ?_ 2 _ rfl; refine qB ?_; refine blk_put (cs := #[.int .i64 a1_0, .int .i64 0, .int .i64 0, .slice none 0 0]) ?_ 1 _ rfl; refine qB ?_; refine blk_put (cs := #[.int .i64 0, .int .i64 0, .int .i64 0, .slice none 0 0]) ?_ 0 _ rfl; refine qB ?_; refine blk_far ?_ NB140_139.out _; refine qB ?_; exact BK140.out) Try.underlying27 rfl (by kernel_rfl)) rfl ?_
  exact ⟨_, qX, by (with_reducible repeat (first | apply Kd.Q_alloc | apply Kd.Q_drewN | apply Kd.Q_drew)); exact Kd.Q_mono (Kd.Q_far (p := ⟨gb140, 3, none⟩) (Kd.Q_far (p := ⟨gb140, 2, none⟩) (Kd.Q_far (p := ⟨gb140, 1, none⟩) (Kd.Q_far (p := ⟨gb140, 0, none⟩) (Kd.Q_far (p := ⟨gb139, 3, none⟩) (Kd.Q_types (Kd.Q_types HO150.out BK139.out (by decide)) BK140.out (by decide)) (fun _ hk => hk.1.2) (.slice A29 y148.length c29)) (fun _ hk => hk.2) (.int .i64 a1_0)) (fun _ hk => hk.2) (.int .i64 a1_1)) (fun _ hk => hk.2) (.int .i64 a1_2)) (fun _ hk => hk.2) (.slice A29 y148.length c29)) (fun _ hk => hk.1.1), iS85 HI0.out, wS85 HB.out, kP HK.out⟩
 rw [if_neg c20] at H
 have c20b0 : (t141 == 1) = false := beq_eq_false_iff_ne.mpr c20
 have c20b1 : (t141 != 1) = true := bne_iff_ne.mpr c20
 by_cases c32 : t141 = 2
 rotate_left
 ·rw [if_neg c32] at H
  have c32b0 : (t141 == 2) = false := beq_eq_false_iff_ne.mpr c32
  have c32b1 : (t141 != 2) = true := bne_iff_ne.mpr c32
  by_cases c52 : t141 = 3
  rotate_left
  ·rw [if_neg c52] at H
   have c52b0 : (t141 == 3) = false := beq_eq_false_iff_ne.mpr c52
   have c52b1 : (t141 != 3) = true := bne_iff_ne.mpr c52
   simp only [Option.some.injEq, Prod.mk.injEq] at H
   obtain ⟨rfl, rfl, rfl, rfl, rfl⟩ := H
   obtain ⟨Ao67, co67, rfl⟩ := sL HO1_3
   go_enter Try.func88, Try.ntmps88
   go_wp2_with (first | ((with_reducible refine gate_dst (N := 3) rfl ?_); refine bxE (N := 3) (cs := #[.int .i64 a1_0, .int .i64 a1_1, .int .i64 a1_2, .slice Ao67 l1_3.length co67]) (t := 27) ?_; intro gb139 hg w68 hbox hb; replace HO1_3 := aM (Kd.R_below (qR HO1_3.out) hb); have BK139 := aM (hbox); have GW139 := aM ((by rw [hg]; exact (by first | exact HK.out.1 | exact (show Kept w _ (fun k_ => (P1_3_ k_) ∨ k_ = g) from kP HK.out).1) : w.heap.size ≤ gb139)); replace HK := aM (Kept.below (S := (fun k_ => (P1_3_ k_) ∨ k_ = g)) (kP HK.out) hb); have GE139 := aM ((by rw [hg]; exact (below_size (wS85 HB.out)) : w0.heap.size ≤ gb139)); replace HB := aM (below_step (wS85 HB.out) hb); have NB0_139 := aM ((by rw [hg]; exact Nat.ne_of_lt (IsS85.lt (show IsS85 w0 _ g s0_0 s0_1 from iS85 HI0.out)) : g ≠ gb139)); have NB139_0 := aM ((by rw [hg]; exact Nat.ne_of_gt (IsS85.lt (show IsS85 w0 _ g s0_0 s0_1 from iS85 HI0.out)) : gb139 ≠ g)); replace HI0 := aM (IsS85.below (iS85 HI0.out) hb); clear hb hbox hg) | ((with_reducible refine gate_dst (N := 4) rfl ?_); refine bxE (N := 4) (cs := #[.int .i64 0, .int .i64 0, .int .i64 0, .slice none 0 0]) (t := 27) ?_; intro gb140 hg w69 hbox hb; replace HO1_3 := aM (Kd.R_below (qR HO1_3.out) hb); have BK140 := aM (hbox); have GW140 := aM ((by rw [hg]; exact (by first | exact HK.out.1 | exact (show Kept w _ (fun k_ => (P1_3_ k_) ∨ k_ = g) from kP HK.out).1) : w.heap.size ≤ gb140)); replace HK := aM (Kept.below (S := (fun k_ => (P1_3_ k_) ∨ k_ = g)) (kP HK.out) hb); have GE140 := aM ((by rw [hg]; exact (below_size (wS85 HB.out)) : w0.heap.size ≤ gb140)); replace HB := aM (below_step (wS85 HB.out) hb); have NB139_140 := nL hg BK139; have NB140_139 := nG hg BK139; replace BK139 := bB BK139 hb; have NB0_140 := aM ((by rw [hg]; exact Nat.ne_of_lt (IsS85.lt (show IsS85 w0 _ g s0_0 s0_1 from iS85 HI0.out)) : g ≠ gb140)); have NB140_0 := aM ((by rw [hg]; exact Nat.ne_of_gt (IsS85.lt (show IsS85 w0 _ g s0_0 s0_1 from iS85 HI0.out)) : gb140 ≠ g)); replace HI0 := aM (IsS85.below (iS85 HI0.out) hb); clear hb hbox hg) | ((with_reducible refine gate_callee (f := 45) rfl ?_); refine gL (some 6) Try.func45 #[.pointer (some ⟨g, 0, none⟩), .int .i64 40] ?_; (with_reducible refine (spec_reader_pick.calls k g s0_0 s0_1 40 t141 t142 w0 _ ?side1 ?side2 A3.out).mono ?_); (case side1 => exact iS85 HI0.out); (case side2 => exact wS85 HB.out); rintro e w70 ⟨rfl, hi, hb, hk⟩; refine ⟨_, rfl, ?_⟩; replace HO1_3 := aM (Kd.R_mono (Kd.R_keep (IsS85.apart (show IsS85 w0 _ g s0_0 s0_1 from iS85 HI0.out) (qR HO1_3.out) (by decide)) hk (fun _ h => h.2)) (fun _ h => h.1)); replace BK139 := bK hk BK139 NB139_0; replace BK140 := bK hk BK140 NB140_0; replace HK := aM (Kept.of_keep (S := (fun k_ => (P1_3_ k_) ∨ k_ = g)) (kP HK.out) hk (.inl (.inr rfl))); replace HB := aM (hb); replace HI0 := aM (hi); clear hb hk hi; have hnb71 := NB139_140.out; have hnc71 := NB140_139.out; have hnb72 := NB139_0.out; have hnc72 := NB0_139.out; obtain ⟨⟨hcz73_0, hcz73_1, hcz73_2, hcz73_3⟩, hfz73_0, hfz73_1, hfz73_2, hfz73_3⟩ := cf4 BK139; have hnb74 := NB140_0.out; have hnc74 := NB0_140.out; obtain ⟨⟨hcz75_0, hcz75_1, hcz75_2, hcz75_3⟩, hfz75_0, hfz75_1, hfz75_2, hfz75_3⟩ := cf4 BK140))
   refine bodyPost_ret (results_cell_row rfl _ _ gb140 27 #[.int .i64 a1_0, .int .i64 a1_1, .int .i64 a1_2, .slice Ao67 l1_3.length co67] (0, 0) _ rfl (by exact bP BK140.out) Try.underlying27 rfl (by kernel_rfl)) rfl ?_
   exact ⟨_, qX, Kd.Q_of_R (by refine qR ?_; exact Kd.R_mono (rT HO1_3 BK140) (fun _ hk => hk.1)), iS85 HI0.out, wS85 HB.out, kP HK.out⟩
  rw [if_pos c52] at H
  have c52b0 : (t141 == 3) = true := beq_iff_eq.mpr c52
  have c52b1 : (t141 != 3) = false := bne_eq_false_iff_eq.mpr c52
  clear c52
  obtain ⟨y157, hy157⟩ : ∃ y_ : List Int, y_ = (([0, 5] : List Int)) := ⟨_, rfl⟩
  replace H : ((spec_reader_one.f k s0_0 t142 y157).bind fun bt160 => (some (a1_0, a1_1, bt160.1, l1_3, bt160.2))) = some (r1, r2, r3, r4, r5) := rY hy157 H
  have Ny157 := aM hy157
  clear hy157
  replace H := Option.bind_eq_some_iff.mp H
  obtain ⟨⟨t160, t161⟩, A530, H⟩ := H
  replace H : (some (a1_0, a1_1, t160, l1_3, t161)) = some (r1, r2, r3, r4, r5) := H
  have A53 := aM A530
  clear A530
  simp only [Option.some.injEq, Prod.mk.injEq] at H
  obtain ⟨rfl, rfl, rfl, rfl, rfl⟩ := H
  obtain ⟨Ao54, co54, rfl⟩ := sL HO1_3
  go_enter Try.func88, Try.ntmps88
  go_wp2_with (first | ((with_reducible refine gate_dst (N := 3) rfl ?_); refine bxE (N := 3) (cs := #[.int .i64 a1_0, .int .i64 a1_1, .int .i64 a1_2, .slice Ao54 l1_3.length co54]) (t := 27) ?_; intro gb139 hg w55 hbox hb; replace HO1_3 := aM (Kd.R_below (qR HO1_3.out) hb); have BK139 := aM (hbox); have GW139 := aM ((by rw [hg]; exact (by first | exact HK.out.1 | exact (show Kept w _ (fun k_ => (P1_3_ k_) ∨ k_ = g) from kP HK.out).1) : w.heap.size ≤ gb139)); replace HK := aM (Kept.below (S := (fun k_ => (P1_3_ k_) ∨ k_ = g)) (kP HK.out) hb); have GE139 := aM ((by rw [hg]; exact (below_size (wS85 HB.out)) : w0.heap.size ≤ gb139)); replace HB := aM (below_step (wS85 HB.out) hb); have NB0_139 := aM ((by rw [hg]; exact Nat.ne_of_lt (IsS85.lt (show IsS85 w0 _ g s0_0 s0_1 from iS85 HI0.out)) : g ≠ gb139)); have NB139_0 := aM ((by rw [hg]; exact Nat.ne_of_gt (IsS85.lt (show IsS85 w0 _ g s0_0 s0_1 from iS85 HI0.out)) : gb139 ≠ g)); replace HI0 := aM (IsS85.below (iS85 HI0.out) hb); clear hb hbox hg) | ((with_reducible refine gate_dst (N := 4) rfl ?_); refine bxE (N := 4) (cs := #[.int .i64 0, .int .i64 0, .int .i64 0, .slice none 0 0]) (t := 27) ?_; intro gb140 hg w56 hbox hb; replace HO1_3 := aM (Kd.R_below (qR HO1_3.out) hb); have BK140 := aM (hbox); have GW140 := aM ((by rw [hg]; exact (by first | exact HK.out.1 | exact (show Kept w _ (fun k_ => (P1_3_ k_) ∨ k_ = g) from kP HK.out).1) : w.heap.size ≤ gb140)); replace HK := aM (Kept.below (S := (fun k_ => (P1_3_ k_) ∨ k_ = g)) (kP HK.out) hb); have GE140 := aM ((by rw [hg]; exact (below_size (wS85 HB.out)) : w0.heap.size ≤ gb140)); replace HB := aM (below_step (wS85 HB.out) hb); have NB139_140 := nL hg BK139; have NB140_139 := nG hg BK139; replace BK139 := bB BK139 hb; have NB0_140 := aM ((by rw [hg]; exact Nat.ne_of_lt (IsS85.lt (show IsS85 w0 _ g s0_0 s0_1 from iS85 HI0.out)) : g ≠ gb140)); have NB140_0 := aM ((by rw [hg]; exact Nat.ne_of_gt (IsS85.lt (show IsS85 w0 _ g s0_0 s0_1 from iS85 HI0.out)) : gb140 ≠ g)); replace HI0 := aM (IsS85.below (iS85 HI0.out) hb); clear hb hbox hg) | ((with_reducible refine gate_callee (f := 45) rfl ?_); refine gL (some 6) Try.func45 #[.pointer (some ⟨g, 0, none⟩), .int .i64 40] ?_; (with_reducible refine (spec_reader_pick.calls k g s0_0 s0_1 40 t141 t142 w0 _ ?side1 ?side2 A3.out).mono ?_); (case side1 => exact iS85 HI0.out); (case side2 => exact wS85 HB.out); rintro e w57 ⟨rfl, hi, hb, hk⟩; refine ⟨_, rfl, ?_⟩; replace HO1_3 := aM (Kd.R_mono (Kd.R_keep (IsS85.apart (show IsS85 w0 _ g s0_0 s0_1 from iS85 HI0.out) (qR HO1_3.out) (by decide)) hk (fun _ h => h.2)) (fun _ h => h.1)); replace BK139 := bK hk BK139 NB139_0; replace BK140 := bK hk BK140 NB140_0; replace HK := aM (Kept.of_keep (S := (fun k_ => (P1_3_ k_) ∨ k_ = g)) (kP HK.out) hk (.inl (.inr rfl))); replace HB := aM (hb); replace HI0 := aM (hi); clear hb hk hi) | ((with_reducible refine gate_dst (N := 33) rfl ?_); refine iL ([0, 5] : List Int) [.int .i64 0, .int .i64 5] ?_; intro v158 w58 ho59 hb hg_ hnew_; clear hg_ hnew_; (first | rw [← Ny157.out] at ho59 | (simp only [Int.reduceToNat] at ho59; rw [← Ny157.out] at ho59)); have HO159 := aM (Kd.R_lower (Kd.R_new' (Kd.R_newM (M := fun k_ => (P1_3_ k_ ∨ w.heap.size ≤ k_)) ho59 (by first | exact HK.out.1 | exact (show Kept w _ (fun k_ => (P1_3_ k_) ∨ k_ = g) from kP HK.out).1) (fun k_ h_ => .inr h_)) (Kd.R_lt (qR HO1_3.out))) (below_size (wS85 HB.out))); replace HO1_3 := aM (Kd.R_elder' (qR HO1_3.out) (Kd.R_base ho59) hb); replace BK139 := bB BK139 hb; replace BK140 := bB BK140 hb; replace HK := aM (Kept.below (S := (fun k_ => (P1_3_ k_) ∨ k_ = g)) (kP HK.out) hb); replace HB := aM (below_step (wS85 HB.out) hb); replace HI0 := aM (IsS85.below (iS85 HI0.out) hb); clear hb ho59; obtain ⟨Ao60, co60, rfl⟩ := sL HO159) | ((with_reducible refine gate_callee (f := 98) rfl ?_); refine gL (some 34) Try.func98 #[.pointer (some ⟨g, 0, none⟩), .slice Ao60 y157.length co60] ?_; (with_reducible refine (spec_reader_one.calls k g s0_0 t142 _ _ y157 t160 t161 w0 _ ?side1 ?side2 ?side3 ?side4 ?side5 A53.out).mono ?_); (case side1 => exact iS85 HI0.out); (case side2 => exact wS85 HB.out); (case side3 => exact qC (Kd.R_reads' HO159.out).2.2); (case side4 => exact (Kd.R_reads' HO159.out).2.1); (case side5 => exact far_slice (IsS85.own_ne HI0.out HO159.out (by decide))); rintro e w61 ⟨rfl, hi, hb, hk⟩; refine ⟨_, rfl, ?_⟩; replace HO1_3 := aM (Kd.R_mono (Kd.R_keep (IsS85.apart (show IsS85 w0 _ g s0_0 t142 from iS85 HI0.out) (qR HO1_3.out) (by decide)) hk (fun _ h => h.2)) (fun _ h => h.1)); replace BK139 := bK hk BK139 NB139_0; replace BK140 := bK hk BK140 NB140_0; replace HO159 := aM (Kd.R_mono (Kd.R_keep (IsS85.apart (show IsS85 w0 _ g s0_0 t142 from iS85 HI0.out) (qR HO159.out) (by decide)) hk (fun _ h => h.2)) (fun _ h => h.1)); replace HK := aM (Kept.of_keep (S := (fun k_ => (P1_3_ k_) ∨ k_ = g)) (kP HK.out) hk (.inl (.inr rfl))); replace HB := aM (hb); replace HI0 := aM (hi); clear hb hk hi; have hnb62 := NB139_140.out; have hnc62 := NB140_139.out; have hnb63 := NB139_0.out; have hnc63 := NB0_139.out; obtain ⟨⟨hcz64_0, hcz64_1, hcz64_2, hcz64_3⟩, hfz64_0, hfz64_1, hfz64_2, hfz64_3⟩ := cf4 BK139; have hnb65 := NB140_0.out; have hnc65 := NB0_140.out; obtain ⟨⟨hcz66_0, hcz66_1, hcz66_2, hcz66_3⟩, hfz66_0, hfz66_1, hfz66_2, hfz66_3⟩ := cf4 BK140))
  refine bodyPost_ret (results_cell_row rfl _ _ gb140 27 #[.int .i64 a1_0, .int .i64 a1_1, .int .i64 t160, .slice Ao54 l1_3.length co54] (0, 0) _ rfl (by refine qB ?_; refine blk_put (cs := #[.int .i64 a1_0, .int .i64 a1_1, .int .i64 t160, .slice none 0 0]) ?_ 3 _ rfl; refine qB ?_; refine blk_put (cs := #[.int .i64 a1_0, .int .i64 a1_1, .int .i64 0, .slice none 0 0]) ?_ 2 _ rfl; refine qB ?_; refine blk_put (cs := #[.int .i64 a1_0, .int .i64 0, .int .i64 0, .slice none 0 0]) ?_ 1 _ rfl; refine qB ?_; refine blk_put (cs := #[.int .i64 0, .int .i64 0, .int .i64 0, .slice none 0 0]) ?_ 0 _ rfl; refine qB ?_; refine blk_far ?_ NB140_139.out _; refine qB ?_; exact BK140.out) Try.underlying27 rfl (by kernel_rfl)) rfl ?_
  exact ⟨_, qX, Kd.Q_of_R (by refine qR ?_; exact Kd.R_mono (Kd.R_far (p := ⟨gb140, 3, none⟩) (Kd.R_far (p := ⟨gb140, 2, none⟩) (Kd.R_far (p := ⟨gb140, 1, none⟩) (Kd.R_far (p := ⟨gb140, 0, none⟩) (Kd.R_far (p := ⟨gb139, 2, none⟩) (Kd.R_types (Kd.R_types HO1_3.out BK139.out (by decide)) BK140.out (by decide)) (fun _ hk => hk.1.2) (.int .i64 t160)) (fun _ hk => hk.2) (.int .i64 a1_0)) (fun _ hk => hk.2) (.int .i64 a1_1)) (fun _ hk => hk.2) (.int .i64 t160)) (fun _ hk => hk.2) (.slice Ao54 l1_3.length co54)) (fun _ hk => hk.1.1.1)), iS85 HI0.out, wS85 HB.out, kP HK.out⟩
 rw [if_pos c32] at H
 have c32b0 : (t141 == 2) = true := beq_iff_eq.mpr c32
 have c32b1 : (t141 != 2) = false := bne_eq_false_iff_eq.mpr c32
 clear c32
 obtain ⟨y151, hy151⟩ : ∃ y_ : List Int, y_ = (([(-1), 256] : List Int)) := ⟨_, rfl⟩
 replace H : ((spec_reader_one.f k s0_0 t142 y151).bind fun bt154 => (if 0 < (l1_3.length : Int) then (some (a1_0, a1_1, a1_2, (l1_3.set (0 : Int).toNat bt154.1), bt154.2)) else (none))) = some (r1, r2, r3, r4, r5) := rY hy151 H
 have Ny151 := aM hy151
 clear hy151
 replace H := Option.bind_eq_some_iff.mp H
 obtain ⟨⟨t154, t155⟩, A330, H⟩ := H
 replace H : (if 0 < (l1_3.length : Int) then (some (a1_0, a1_1, a1_2, (l1_3.set (0 : Int).toNat t154), t155)) else (none)) = some (r1, r2, r3, r4, r5) := H
 have A33 := aM A330
 clear A330
 replace H := iS H
 obtain ⟨c34, H⟩ := H
 have c34b0 : decide (0 < (l1_3.length : Int)) = true := decide_eq_true c34
 have c34b1 : decide (0 < l1_3.length) = true := decide_eq_true (by omega)
 clear c34
 obtain ⟨y156, hy156⟩ : ∃ y_ : List Int, y_ = (l1_3.set (0 : Int).toNat t154) := ⟨_, rfl⟩
 replace H : (some (a1_0, a1_1, a1_2, y156, t155)) = some (r1, r2, r3, r4, r5) := rY hy156 H
 have Ny156 := aM hy156
 clear hy156
 simp only [Option.some.injEq, Prod.mk.injEq] at H
 obtain ⟨rfl, rfl, rfl, rfl, rfl⟩ := H
 obtain ⟨Ao36, co36, rfl⟩ := sL HO1_3
 go_enter Try.func88, Try.ntmps88
 try go_wp2_with (first | ((with_reducible refine gate_dst (N := 3) rfl ?_); refine bxE (N := 3) (cs := #[.int .i64 a1_0, .int .i64 a1_1, .int .i64 a1_2, .slice Ao36 l1_3.length co36]) (t := 27) ?_; intro gb139 hg w37 hbox hb; replace HO1_3 := aM (Kd.R_below (qR HO1_3.out) hb); have BK139 := aM (hbox); have GW139 := aM ((by rw [hg]; exact (by first | exact HK.out.1 | exact (show Kept w _ (fun k_ => (P1_3_ k_) ∨ k_ = g) from kP HK.out).1) : w.heap.size ≤ gb139)); replace HK := aM (Kept.below (S := (fun k_ => (P1_3_ k_) ∨ k_ = g)) (kP HK.out) hb); have GE139 := aM ((by rw [hg]; exact (below_size (wS85 HB.out)) : w0.heap.size ≤ gb139)); replace HB := aM (below_step (wS85 HB.out) hb); have NB0_139 := aM ((by rw [hg]; exact Nat.ne_of_lt (IsS85.lt (show IsS85 w0 _ g s0_0 s0_1 from iS85 HI0.out)) : g ≠ gb139)); have NB139_0 := aM ((by rw [hg]; exact Nat.ne_of_gt (IsS85.lt (show IsS85 w0 _ g s0_0 s0_1 from iS85 HI0.out)) : gb139 ≠ g)); replace HI0 := aM (IsS85.below (iS85 HI0.out) hb); clear hb hbox hg) | ((with_reducible refine gate_dst (N := 4) rfl ?_); refine bxE (N := 4) (cs := #[.int .i64 0, .int .i64 0, .int .i64 0, .slice none 0 0]) (t := 27) ?_; intro gb140 hg w38 hbox hb; replace HO1_3 := aM (Kd.R_below (qR HO1_3.out) hb); have BK140 := aM (hbox); have GW140 := aM ((by rw [hg]; exact (by first | exact HK.out.1 | exact (show Kept w _ (fun k_ => (P1_3_ k_) ∨ k_ = g) from kP HK.out).1) : w.heap.size ≤ gb140)); replace HK := aM (Kept.below (S := (fun k_ => (P1_3_ k_) ∨ k_ = g)) (kP HK.out) hb); have GE140 := aM ((by rw [hg]; exact (below_size (wS85 HB.out)) : w0.heap.size ≤ gb140)); replace HB := aM (below_step (wS85 HB.out) hb); have NB139_140 := nL hg BK139; have NB140_139 := nG hg BK139; replace BK139 := bB BK139 hb; have NB0_140 := aM ((by rw [hg]; exact Nat.ne_of_lt (IsS85.lt (show IsS85 w0 _ g s0_0 s0_1 from iS85 HI0.out)) : g ≠ gb140)); have NB140_0 := aM ((by rw [hg]; exact Nat.ne_of_gt (IsS85.lt (show IsS85 w0 _ g s0_0 s0_1 from iS85 HI0.out)) : gb140 ≠ g)); replace HI0 := aM (IsS85.below (iS85 HI0.out) hb); clear hb hbox hg) | ((with_reducible refine gate_callee (f := 45) rfl ?_); refine gL (some 6) Try.func45 #[.pointer (some ⟨g, 0, none⟩), .int .i64 40] ?_; (with_reducible refine (spec_reader_pick.calls k g s0_0 s0_1 40 t141 t142 w0 _ ?side1 ?side2 A3.out).mono ?_); (case side1 => exact iS85 HI0.out); (case side2 => exact wS85 HB.out); rintro e w39 ⟨rfl, hi, hb, hk⟩; refine ⟨_, rfl, ?_⟩; replace HO1_3 := aM (Kd.R_mono (Kd.R_keep (IsS85.apart (show IsS85 w0 _ g s0_0 s0_1 from iS85 HI0.out) (qR HO1_3.out) (by decide)) hk (fun _ h => h.2)) (fun _ h => h.1)); replace BK139 := bK hk BK139 NB139_0; replace BK140 := bK hk BK140 NB140_0; replace HK := aM (Kept.of_keep (S := (fun k_ => (P1_3_ k_) ∨ k_ = g)) (kP HK.out) hk (.inl (.inr rfl))); replace HB := aM (hb); replace HI0 := aM (hi); clear hb hk hi))
 replace HO1_3 := aM (Kd.R_drew HO1_3.out)
 replace BK139 := aM (blk_drew BK139.out)
 replace BK140 := aM (blk_drew BK140.out)
 replace HI0 := aM (IsS85.drew HI0.out)
 replace HK := aM (Kept.drew HK.out)
 replace HB := aM (below_drew1 HB.out)
 refine start_ (n := 7) (S := fun w' => w'.cell? ⟨gb139, 0, none⟩ = some (.int .i64 a1_0) ∧ w'.cell? ⟨gb139, 1, none⟩ = some (.int .i64 a1_1) ∧ w'.cell? ⟨gb139, 2, none⟩ = some (.int .i64 a1_2) ∧ w'.cell? ⟨gb139, 3, none⟩ = some (.slice Ao36 l1_3.length co36)) (ds := [6]) (bA 7 0) (by kernel_rfl) rfl rfl ⟨(blk_cell BK139.out 0).trans rfl, (blk_cell BK139.out 1).trans rfl, (blk_cell BK139.out 2).trans rfl, (blk_cell BK139.out 3).trans rfl⟩ (fun hHeld => ?_)
 generalize w39.drew = w40 at HO1_3 BK139 BK140 HI0 HK HB hHeld ⊢
 refine pure_ (i := 0) (N := some 24) (v := ?_) (a' := ?_) (bA 7 1) rfl rfl (by kernel_rfl) (fun _ _ _ h => h) (Or.inl ⟨by rfl, ?_⟩) ?_ ?_
 rotate_left
 ·intro w'
  go_simp
  with_reducible rfl
 rotate_left
 ·refine pZ ?_
  rfl
 refine pure_ (i := 2) (N := some 26) (v := ?_) (a' := ?_) (bA 7 5) rfl rfl (by kernel_rfl) (fun _ _ _ h => h) (Or.inl ⟨by rfl, ?_⟩) ?_ ?_
 rotate_left
 ·intro w'
  go_simp
  with_reducible rfl
 rotate_left
 ·refine pZ ?_
  rfl
 refine take_ (i := 1) (N := some 25) (v := ?_) (a' := ?_) (bA 7 7) rfl rfl (by kernel_rfl) (fun _ _ _ h => h) (Or.inl ⟨by rfl, ?_⟩) hHeld ?_ ?_
 rotate_left
 ·rintro w' ⟨s0, s1, s2, s3⟩
  go_simp
  with_reducible rfl
 rotate_left
 ·refine pZ ?_
  rfl
 refine one_ (i := 3) (N := some 27) (bA 7 15) rfl rfl (by kernel_rfl) (by decide) (fun K hK => ?_)
 refine Kd.R_lit_step (Kd.int .i64) _ 3 ?hg (N := 27) ?hd (xs := ([(-1), 256] : List Int)) (inner := [.int .i64 (-1), .int .i64 256]) (ok := fun _ => True) (okp := fun _ => True) ?hr ?hp (fun _ hk => hk) trivial (Below.refl _ _) (Nat.le_refl _) (by simp) ?_; (case hd => rfl); (case hg => rfl); (case hr => first | (go_simp; done) | (go_simp; rfl)); (case hp => exact (Reps.one (show Kd.M (Kd.int .i64) _ _ _ (-1) [.int .i64 (-1)] from rfl) (Reps.one (show Kd.M (Kd.int .i64) _ _ _ 256 [.int .i64 256] from rfl) (Reps.none _ _))))
 intro v152 w41 ho42 hb hg_ hnew_
 clear hg_ hnew_
 (first | rw [← Ny151.out] at ho42 | (simp only [Int.reduceToNat] at ho42; rw [← Ny151.out] at ho42))
 have HO153 := aM (Kd.R_lower (Kd.R_new' (Kd.R_newM (M := fun k_ => (P1_3_ k_ ∨ w.heap.size ≤ k_)) ho42 (by first | exact HK.out.1 | exact (show Kept w _ (fun k_ => (P1_3_ k_) ∨ k_ = g) from kP HK.out).1) (fun k_ h_ => .inr h_)) (Kd.R_lt (qR HO1_3.out))) (below_size (wS85 HB.out)))
 replace HO1_3 := aM (Kd.R_elder' (qR HO1_3.out) (Kd.R_base ho42) hb)
 replace BK139 := bB BK139 hb
 replace BK140 := bB BK140 hb
 replace HK := aM (Kept.below (S := (fun k_ => (P1_3_ k_) ∨ k_ = g)) (kP HK.out) hb)
 replace HB := aM (below_step (wS85 HB.out) hb)
 replace HI0 := aM (IsS85.below (iS85 HI0.out) hb)
 clear hb ho42
 obtain ⟨Ao43, co43, eo43⟩ := Kd.R_slice HO153.out
 (first | subst eo43 | (injection eo43 with f1_ f2_ f3_; have f4_ := f1_.symm; have f5_ := f3_.symm; clear f1_ f2_ f3_; subst f4_; subst f5_))
 refine hK.out _ _ ⟨(blk_cell BK139.out 0).trans rfl, (blk_cell BK139.out 1).trans rfl, (blk_cell BK139.out 2).trans rfl, (blk_cell BK139.out 3).trans rfl⟩ (fun hHeld => ?_)
 clear hK K
 refine norm_ (a' := ?_) ?_ ?_
 rotate_left
 ·show Act.put _ (some 27) _ = _
  refine pZ ?_
  rfl
 refine one_ (i := 4) (N := some 28) (bA 7 31) rfl rfl (by kernel_rfl) (by decide) (fun K hK => ?_)
 refine goes_ Try.func98 (by kernel_rfl) rfl #[.pointer (some ⟨g, 0, none⟩), .slice Ao43 y151.length co43] (by rfl) rfl rfl qM ?_
 with_reducible refine (spec_reader_one.calls k g s0_0 t142 _ _ y151 t154 t155 w0 _ ?side1 ?side2 ?side3 ?side4 ?side5 A33.out).mono ?_
 (case side1 => exact iS85 HI0.out)
 (case side2 => exact wS85 HB.out)
 (case side3 => exact qC (Kd.R_reads' HO153.out).2.2)
 (case side4 => exact (Kd.R_reads' HO153.out).2.1)
 (case side5 => exact far_slice (IsS85.own_ne HI0.out HO153.out (by decide)))
 rintro e w44 ⟨rfl, hi, hb, hk⟩
 refine ⟨_, rfl, ?_⟩
 replace HO1_3 := aM (Kd.R_mono (Kd.R_keep (IsS85.apart (show IsS85 w0 _ g s0_0 t142 from iS85 HI0.out) (qR HO1_3.out) (by decide)) hk (fun _ h => h.2)) (fun _ h => h.1))
 replace BK139 := bK hk BK139 NB139_0
 replace BK140 := bK hk BK140 NB140_0
 replace HO153 := aM (Kd.R_mono (Kd.R_keep (IsS85.apart (show IsS85 w0 _ g s0_0 t142 from iS85 HI0.out) (qR HO153.out) (by decide)) hk (fun _ h => h.2)) (fun _ h => h.1))
 replace HK := aM (Kept.of_keep (S := (fun k_ => (P1_3_ k_) ∨ k_ = g)) (kP HK.out) hk (.inl (.inr rfl)))
 replace HB := aM (hb)
 replace HI0 := aM (hi)
 (try clear hb)
 (try clear hb2)
 (try clear hk)
 (try clear hi)
 have p35 : 0 ≤ (0 : Int) := (by omega)
 have q35 : (0 : Int) < ((l1_3.length : Int) : Int) := oD
 have qi35 : (0 < l1_3.length) = True := eq_true (by omega)
 obtain ⟨go35, co35, eo35, gb35, gl35, cl35, HG35⟩ := Kd.R_form HO1_3.out (by omega)
 (first | cases eo35 | (injection eo35 with ea_ en_ ec_; (first | subst ea_ | (injection ea_ with ea_; subst ea_)); subst ec_; clear en_))
 have GB35 := aM gb35
 have GG35 := aM HG35
 clear gb35 gl35 HG35
 have HMgo35 := aM (show (P1_3_ go35 ∨ w.heap.size ≤ go35) from (HO1_3.out.1 _ rfl).1)
 obtain ⟨hx35_0, hf35_0⟩ := Kd.R_celln 0 HO1_3.out (0 : Int) p35 q35
 (try rw [show ((0 : Int)).toNat = 0 from rfl] at hx35_0)
 (try simp only [Nat.reduceMul, Nat.zero_mul, Nat.zero_add, Nat.reduceAdd] at hx35_0)
 (try rw [show ((0 : Int)).toNat = 0 from rfl] at hf35_0)
 (try simp only [Nat.reduceMul, Nat.zero_mul, Nat.zero_add, Nat.reduceAdd] at hf35_0)
 replace p35 := eq_true p35
 replace q35 := eq_true q35
 have HN0_go35 := aM (show g ≠ go35 from by have h_ := IsS85.own_ne HI0.out HO1_3.out (by decide); intro e_; exact h_ (by rw [e_]; rfl))
 have HP45 := Kd.R_putn HO1_3.out (0 : Int) t154
 rw [← Ny156.out] at HP45
 have HQ45 := aM HP45
 clear HP45
 refine hK.out _ _ ⟨(blk_cell BK139.out 0).trans rfl, (blk_cell BK139.out 1).trans rfl, (blk_cell BK139.out 2).trans rfl, (blk_cell BK139.out 3).trans rfl⟩ (fun hHeld => ?_)
 clear hK K
 refine norm_ (a' := ?_) ?_ ?_
 rotate_left
 ·show Act.put _ (some 28) _ = _
  refine pZ ?_
  rfl
 refine pure_ (i := 5) (N := some 29) (v := ?_) (a' := ?_) (bA 7 63) rfl rfl (by kernel_rfl) (fun _ _ _ h => h) (Or.inl ⟨by rfl, ?_⟩) ?_ ?_
 rotate_left
 ·intro w'
  go_simp
  with_reducible rfl
 rotate_left
 ·refine pZ ?_
  rfl
 refine last_ (i := 6) (N := none) (bA 7 127) rfl rfl (by kernel_rfl) (by decide) (fun K hK => ?_)
 refine skip_ (w1 := ?_) (by rfl) rfl ?_ ?_
 rotate_left
 ·go_simp
  rfl
 refine hK.out _ _ ?_
 clear hK K
 refine done_ (by kernel_rfl) ?_
 have n0_ : Aside0 (Kd.R (Kd.int .i64) 3 (w44.setCell ⟨go35, 0, none⟩ (.int .i64 t154)) w0.heap.size (fun k_ => (P1_3_ k_ ∨ w.heap.size ≤ k_) ∧ some k_ ≠ (.slice Ao43 y151.length co43 : Value).ownBlock) (.slice (some ⟨go35, 0, none⟩) l1_3.length co36) y156) := ⟨by refine qR ?_; exact HQ45.out⟩
 have n1_ : Aside0 (Kd.R (Kd.int .i64) 3 (w44.setCell ⟨go35, 0, none⟩ (.int .i64 t154)) w0.heap.size (fun k_ => (P1_3_ k_ ∨ w.heap.size ≤ k_) ∧ some k_ ≠ (.slice (some ⟨go35, 0, none⟩) l1_3.length co36 : Value).ownBlock) (.slice Ao43 y151.length co43) y151) := ⟨by refine qR ?_; exact Kd.R_mono (Kd.R_far (p := ⟨go35, 0, none⟩) (Kd.R_mono HO153.out (fun k_ hk => (⟨hk, fun e_ => hk.2 (by rw [e_]; rfl)⟩ : _ ∧ k_ ≠ go35))) (fun _ hk => hk.2) (.int .i64 t154)) (fun _ hk => by first | exact ⟨hk.1.1.1, hk.1.2⟩ | (revert hk; simp only [and_imp]; intros; and_intros <;> assumption))⟩
 have n2_ : Aside0 ((w44.setCell ⟨go35, 0, none⟩ (.int .i64 t154)).heap[gb139]? = some (.cells #[.int .i64 a1_0, .int .i64 a1_1, .int .i64 a1_2, .slice (some ⟨go35, 0, none⟩) l1_3.length co36] 27 (0, 0))) := ⟨by refine qB ?_; refine blk_far ?_ (by have h_ := Kd.R_ne HO1_3.out BK139.out (by decide); intro e_; exact h_ (by rw [e_]; rfl)) _; refine qB ?_; exact BK139.out⟩
 have n3_ : Aside0 ((w44.setCell ⟨go35, 0, none⟩ (.int .i64 t154)).heap[gb140]? = some (.cells #[.int .i64 0, .int .i64 0, .int .i64 0, .slice none 0 0] 27 (0, 0))) := ⟨by refine qB ?_; refine blk_far ?_ (by have h_ := Kd.R_ne HO1_3.out BK140.out (by decide); intro e_; exact h_ (by rw [e_]; rfl)) _; refine qB ?_; exact BK140.out⟩
 have n4_ : Aside0 (IsS85 w0 (w44.setCell ⟨go35, 0, none⟩ (.int .i64 t154)) g s0_0 t155) := ⟨by repeat (first | (with_reducible first | exact HI0.out | apply IsS85.alloc | apply IsS85.drewN | apply IsS85.drew | apply IsS85.set_1 | refine IsS85.far ?_ HN0_go35.out _ | refine IsS85.far ?_ NB0_139.out _ | refine IsS85.far ?_ NB0_140.out _) | exact HI0.out)⟩
 have n5_ : Aside0 (Kept w (w44.setCell ⟨go35, 0, none⟩ (.int .i64 t154)) (fun k_ => (P1_3_ k_) ∨ k_ = g)) := ⟨by repeat (first | (with_reducible first | exact HK.out | apply Kept.alloc | apply Kept.drewN | apply Kept.drew | refine Kept.setCell ?_ (Or.imp_left Or.inl HMgo35.out) _ | refine Kept.setCell ?_ (.inl (.inr rfl)) _ | refine Kept.setCell ?_ (.inr GW139.out) _ | refine Kept.setCell ?_ (.inr GW140.out) _) | exact HK.out)⟩
 have n6_ : Aside0 (Below w0.heap.size w0 (w44.setCell ⟨go35, 0, none⟩ (.int .i64 t154))) := ⟨wS85 HB.out⟩
 (try clear HO1_3)
 (try clear HO153)
 (try clear BK139)
 (try clear BK140)
 (try clear HI0)
 (try clear HK)
 (try clear HB)
 generalize (w44.setCell ⟨go35, 0, none⟩ (.int .i64 t154)) = w46 at n0_ n1_ n2_ n3_ n4_ n5_ n6_ ⊢
 have HO1_3 := n0_
 have HO153 := n1_
 have BK139 := n2_
 have BK140 := n3_
 have HI0 := n4_
 have HK := n5_
 have HB := n6_
 clear n0_ n1_ n2_ n3_ n4_ n5_ n6_
 have hnb47 := NB139_140.out
 have hnc47 := NB140_139.out
 have hnb48 := NB139_0.out
 have hnc48 := NB0_139.out
 obtain ⟨⟨hcz49_0, hcz49_1, hcz49_2, hcz49_3⟩, hfz49_0, hfz49_1, hfz49_2, hfz49_3⟩ := cf4 BK139
 have hnb50 := NB140_0.out
 have hnc50 := NB0_140.out
 obtain ⟨⟨hcz51_0, hcz51_1, hcz51_2, hcz51_3⟩, hfz51_0, hfz51_1, hfz51_2, hfz51_3⟩ := cf4 BK140
 try go_wp2
 refine bodyPost_ret (results_cell_row rfl _ _ gb140 27 #[.int .i64 a1_0, .int .i64 a1_1, .int .i64 a1_2, .slice (some ⟨go35, 0, none⟩) l1_3.length co36] (0, 0) _ rfl (by exact bP BK140.out) Try.underlying27 rfl (by kernel_rfl)) rfl ?_
 exact ⟨_, qX, Kd.Q_of_R (by refine qR ?_; exact Kd.R_mono (rT HO1_3 BK140) (fun _ hk => hk.1.1)), iS85 HI0.out, wS85 HB.out, kP HK.out⟩
def spec_randomImage.l0 : Nat → Int → Int → Int → List Int → Int → Int → Int → Int → List Int → Option (Int × Int × Int × List Int × Int)
 | 0, _, _, _, _, _, _, _, _, _ => none
 | k + 1, x6, x7, x8, x1000, x1001, x180000, x180001, x180002, x180003 => if x8 < (x180003.length : Int) then (if x6 = 0 then ((spec_reader_pick.f k x1000 x1001 256).bind fun bt184 => (if 0 ≤ x8 then (spec_randomImage.l0 k x6 bt184.1 (wrap64 (x8 + 1)) x1000 bt184.2 x180000 x180001 x180002 (x180003.set (x8 : Int).toNat bt184.1)) else (none))) else (if x6 = 1 then ((spec_reader_pick.f k x1000 x1001 5).bind fun bt187 => (if 0 ≤ x8 then (spec_randomImage.l0 k x6 (Int.tmod (wrap64 ((wrap64 (x7 + bt187.1)) + 254)) 256) (wrap64 (x8 + 1)) x1000 bt187.2 x180000 x180001 x180002 (x180003.set (x8 : Int).toNat (Int.tmod (wrap64 ((wrap64 (x7 + bt187.1)) + 254)) 256))) else (none))) else (if x6 = 2 then ((spec_reader_pick.f k x1000 x1001 4).bind fun bt190 => (if 0 ≤ x8 then (spec_randomImage.l0 k x6 (wrap64 (60 * bt190.1)) (wrap64 (x8 + 1)) x1000 bt190.2 x180000 x180001 x180002 (x180003.set (x8 : Int).toNat (wrap64 (60 * bt190.1)))) else (none))) else (if 0 ≤ x8 then (spec_randomImage.l0 k x6 x7 (wrap64 (x8 + 1)) x1000 x1001 x180000 x180001 x180002 (x180003.set (x8 : Int).toNat x7)) else (none))))) else (some (x180000, x180001, x180002, x180003, x1001))
def spec_randomImage.f (k : Nat) (s0_0 : List Int) (s0_1 : Int) (a1 : Int) : Option (Int × Int × Int × List Int × Int) := (spec_reader_one.f k s0_0 s0_1 (([3, 4, 2, 5, 1, 8, 6] : List Int))).bind fun bt166 => ((spec_reader_one.f k s0_0 bt166.2 (([3, 2, 4, 1, 5, 8] : List Int))).bind fun bt171 => ((spec_newImage.f bt166.1 bt171.1 a1).bind fun bt173 => ((spec_reader_pick.f k s0_0 bt171.2 4).bind fun bt180 => ((spec_reader_pick.f k s0_0 bt180.2 256).bind fun bt182 => (spec_randomImage.l0 k bt180.1 bt182.1 0 s0_0 bt182.2 bt173.1 bt173.2.1 bt173.2.2.1 bt173.2.2.2)))))
theorem spec_randomImage.mono_l : ∀ k, (∀ y0 y1 y2 y3 y4 y5 y6 y7 y8, LeO (spec_randomImage.l0 k y0 y1 y2 y3 y4 y5 y6 y7 y8) (spec_randomImage.l0 (k + 1) y0 y1 y2 y3 y4 y5 y6 y7 y8))
 | 0 => fun _ _ _ _ _ _ _ _ _ r h => by simp [spec_randomImage.l0] at h
 | k + 1 => by
  have ih0 := spec_randomImage.mono_l k
  ·intro y0 y1 y2 y3 y4 y5 y6 y7 y8
   unfold spec_randomImage.l0
   repeat' first | (with_reducible first | exact ih0 _ _ _ _ _ _ _ _ _ | exact spec_reader_one.mono _ _ _ _ | exact spec_reader_pick.mono _ _ _ _ | exact lR | exact lN | refine lI ?_ ?_ | refine lB ?_ fun _ => ?_) | exact ih0 _ _ _ _ _ _ _ _ _ | exact spec_reader_one.mono _ _ _ _ | exact spec_reader_pick.mono _ _ _ _ | exact lN | refine lI ?_ ?_ | refine lB ?_ fun _ => ?_
theorem spec_randomImage.mono : ∀ a0 a1 a2 k, LeO (spec_randomImage.f k a0 a1 a2) (spec_randomImage.f (k + 1) a0 a1 a2) := by
 intro a0 a1 a2 k
 have ih0 := spec_randomImage.mono_l k
 unfold spec_randomImage.f
 repeat' first | (with_reducible first | exact ih0 _ _ _ _ _ _ _ _ _ | exact spec_reader_one.mono _ _ _ _ | exact spec_reader_pick.mono _ _ _ _ | exact lR | exact lN | refine lI ?_ ?_ | refine lB ?_ fun _ => ?_) | exact ih0 _ _ _ _ _ _ _ _ _ | exact spec_reader_one.mono _ _ _ _ | exact spec_reader_pick.mono _ _ _ _ | exact lN | refine lI ?_ ?_ | refine lB ?_ fun _ => ?_
set_option maxHeartbeats 8000000 in
set_option maxRecDepth 100000 in
theorem spec_randomImage.calls (k : Nat) (g : Nat) (s0_0 : List Int) (s0_1 : Int) (a1 : Int) (r1 : Int) (r2 : Int) (r3 : Int) (r4 : List Int) (r5 : Int) (w0 w : World) (hI : IsS85 w0 w g s0_0 s0_1) (hB : Below w0.heap.size w0 w) (h : spec_randomImage.f k s0_0 s0_1 a1 = some (r1, r2, r3, r4, r5)) :
  Calls Try.prog 89 #[.pointer (some ⟨g, 0, none⟩), .int .i64 a1] w fun e w' => ∃ v3_ : Value, e = .returned (.agg #[.int .i64 r1, .int .i64 r2, .int .i64 r3, v3_]) ∧ Kd.R (Kd.int .i64) 3 w' w.heap.size (fun _ => True) v3_ r4 ∧ IsS85 w0 w' g s0_0 r5 ∧ Below w0.heap.size w0 w' ∧ KeepBut w w' g none := by
 have hu27 := Try.underlying27
 have HI0 := aM hI
 have HK := aM (KeepBut.refl w g none)
 have HL := aM hB.size
 clear hI
 have HW0 := aM hB.size
 have HB := aM hB
 clear hB
 unfold spec_randomImage.f at h
 have H := h
 clear h
 obtain ⟨y163, hy163⟩ : ∃ y_ : List Int, y_ = (([3, 4, 2, 5, 1, 8, 6] : List Int)) := ⟨_, rfl⟩
 replace H : ((spec_reader_one.f k s0_0 s0_1 y163).bind fun bt166 => ((spec_reader_one.f k s0_0 bt166.2 (([3, 2, 4, 1, 5, 8] : List Int))).bind fun bt171 => ((spec_newImage.f bt166.1 bt171.1 a1).bind fun bt173 => ((spec_reader_pick.f k s0_0 bt171.2 4).bind fun bt180 => ((spec_reader_pick.f k s0_0 bt180.2 256).bind fun bt182 => (spec_randomImage.l0 k bt180.1 bt182.1 0 s0_0 bt182.2 bt173.1 bt173.2.1 bt173.2.2.1 bt173.2.2.2)))))) = some (r1, r2, r3, r4, r5) := rY hy163 H
 have Ny163 := aM hy163
 clear hy163
 replace H := Option.bind_eq_some_iff.mp H
 obtain ⟨⟨t166, t167⟩, A30, H⟩ := H
 replace H : ((spec_reader_one.f k s0_0 t167 (([3, 2, 4, 1, 5, 8] : List Int))).bind fun bt171 => ((spec_newImage.f t166 bt171.1 a1).bind fun bt173 => ((spec_reader_pick.f k s0_0 bt171.2 4).bind fun bt180 => ((spec_reader_pick.f k s0_0 bt180.2 256).bind fun bt182 => (spec_randomImage.l0 k bt180.1 bt182.1 0 s0_0 bt182.2 bt173.1 bt173.2.1 bt173.2.2.1 bt173.2.2.2))))) = some (r1, r2, r3, r4, r5) := H
 have A3 := aM A30
 clear A30
 obtain ⟨y168, hy168⟩ : ∃ y_ : List Int, y_ = (([3, 2, 4, 1, 5, 8] : List Int)) := ⟨_, rfl⟩
 replace H : ((spec_reader_one.f k s0_0 t167 y168).bind fun bt171 => ((spec_newImage.f t166 bt171.1 a1).bind fun bt173 => ((spec_reader_pick.f k s0_0 bt171.2 4).bind fun bt180 => ((spec_reader_pick.f k s0_0 bt180.2 256).bind fun bt182 => (spec_randomImage.l0 k bt180.1 bt182.1 0 s0_0 bt182.2 bt173.1 bt173.2.1 bt173.2.2.1 bt173.2.2.2))))) = some (r1, r2, r3, r4, r5) := rY hy168 H
 have Ny168 := aM hy168
 clear hy168
 replace H := Option.bind_eq_some_iff.mp H
 obtain ⟨⟨t171, t172⟩, A40, H⟩ := H
 replace H : ((spec_newImage.f t166 t171 a1).bind fun bt173 => ((spec_reader_pick.f k s0_0 t172 4).bind fun bt180 => ((spec_reader_pick.f k s0_0 bt180.2 256).bind fun bt182 => (spec_randomImage.l0 k bt180.1 bt182.1 0 s0_0 bt182.2 bt173.1 bt173.2.1 bt173.2.2.1 bt173.2.2.2)))) = some (r1, r2, r3, r4, r5) := H
 have A4 := aM A40
 clear A40
 replace H := Option.bind_eq_some_iff.mp H
 obtain ⟨⟨t173, t174, t175, t176⟩, A50, H⟩ := H
 replace H : ((spec_reader_pick.f k s0_0 t172 4).bind fun bt180 => ((spec_reader_pick.f k s0_0 bt180.2 256).bind fun bt182 => (spec_randomImage.l0 k bt180.1 bt182.1 0 s0_0 bt182.2 t173 t174 t175 t176))) = some (r1, r2, r3, r4, r5) := H
 have A5 := aM A50
 clear A50
 replace H := Option.bind_eq_some_iff.mp H
 obtain ⟨⟨t180, t181⟩, A60, H⟩ := H
 replace H : ((spec_reader_pick.f k s0_0 t181 256).bind fun bt182 => (spec_randomImage.l0 k t180 bt182.1 0 s0_0 bt182.2 t173 t174 t175 t176)) = some (r1, r2, r3, r4, r5) := H
 have A6 := aM A60
 clear A60
 replace H := Option.bind_eq_some_iff.mp H
 obtain ⟨⟨t182, t183⟩, A70, H⟩ := H
 replace H : (spec_randomImage.l0 k t180 t182 0 s0_0 t183 t173 t174 t175 t176) = some (r1, r2, r3, r4, r5) := H
 have A7 := aM A70
 clear A70
 have H' := aM H
 clear H
 go_enter Try.func89, Try.ntmps89
 go_wp2_with (first | ((with_reducible refine gate_dst (N := 4) rfl ?_); refine bxE (N := 4) (cs := #[.int .i64 0, .int .i64 0, .int .i64 0, .slice none 0 0]) (t := 27) ?_; intro gb162 hg w8 hbox hb; replace HB := aM (below_step (wS85 HB.out) hb); have BK162 := aM (hbox); have GW162 := aM ((by rw [hg]; exact (keep_size (w := w) (g := g) (row := none) (kB HK.out)) : w.heap.size ≤ gb162)); have GE162 := aM ((Nat.le_trans HW0.out (by rw [hg]; exact (keep_size (w := w) (g := g) (row := none) (kB HK.out)) : w.heap.size ≤ gb162) : w0.heap.size ≤ gb162)); replace HK := aM (KeepBut.trans (kB HK.out) (KeepBut.of_below hb g none) (.inl rfl)); have NB0_162 := aM ((by rw [hg]; exact Nat.ne_of_lt (IsS85.lt (show IsS85 w0 _ g s0_0 s0_1 from iS85 HI0.out)) : g ≠ gb162)); have NB162_0 := aM ((by rw [hg]; exact Nat.ne_of_gt (IsS85.lt (show IsS85 w0 _ g s0_0 s0_1 from iS85 HI0.out)) : gb162 ≠ g)); replace HI0 := aM (IsS85.below (iS85 HI0.out) hb); clear hb hbox hg) | ((with_reducible refine gate_dst (N := 10) rfl ?_); refine iL ([3, 4, 2, 5, 1, 8, 6] : List Int) [.int .i64 3, .int .i64 4, .int .i64 2, .int .i64 5, .int .i64 1, .int .i64 8, .int .i64 6] ?_; intro v164 w9 ho10 hb hg_ hnew_; clear hg_ hnew_; (first | rw [← Ny163.out] at ho10 | (simp only [Int.reduceToNat] at ho10; rw [← Ny163.out] at ho10)); have HO165 := lK ho10 HK; replace BK162 := bB BK162 hb; replace HK := aM (KeepBut.trans (kB HK.out) (KeepBut.of_below hb g none) (.inl rfl)); replace HB := aM (below_step (wS85 HB.out) hb); replace HI0 := aM (IsS85.below (iS85 HI0.out) hb); clear hb ho10; obtain ⟨Ao11, co11, rfl⟩ := sL HO165) | ((with_reducible refine gate_callee (f := 98) rfl ?_); refine gL (some 11) Try.func98 #[.pointer (some ⟨g, 0, none⟩), .slice Ao11 y163.length co11] ?_; (with_reducible refine (spec_reader_one.calls k g s0_0 s0_1 _ _ y163 t166 t167 w0 _ ?side1 ?side2 ?side3 ?side4 ?side5 A3.out).mono ?_); (case side1 => exact iS85 HI0.out); (case side2 => exact wS85 HB.out); (case side3 => exact qC (Kd.R_reads' HO165.out).2.2); (case side4 => exact (Kd.R_reads' HO165.out).2.1); (case side5 => exact far_slice (IsS85.own_ne HI0.out HO165.out (by decide))); rintro e w12 ⟨rfl, hi, hb, hk⟩; refine ⟨_, rfl, ?_⟩; replace BK162 := bK hk BK162 NB162_0; replace HO165 := aM (Kd.R_mono (Kd.R_keep (IsS85.apart (show IsS85 w0 _ g s0_0 s0_1 from iS85 HI0.out) (qR HO165.out) (by decide)) hk (fun _ h => h.2)) (fun _ h => h.1)); replace HK := aM (KeepBut.trans (kB HK.out) hk (.inl rfl)); replace HB := aM (hb); replace HI0 := aM (hi); clear hb hk hi) | ((with_reducible refine gate_dst (N := 13) rfl ?_); refine iL ([3, 2, 4, 1, 5, 8] : List Int) [.int .i64 3, .int .i64 2, .int .i64 4, .int .i64 1, .int .i64 5, .int .i64 8] ?_; intro v169 w13 ho14 hb hg_ hnew_; clear hg_ hnew_; (first | rw [← Ny168.out] at ho14 | (simp only [Int.reduceToNat] at ho14; rw [← Ny168.out] at ho14)); have HO170 := aM (Kd.R_lower (Kd.R_new' ho14 (Kd.R_lt (qR HO165.out))) (keep_size (w := w) (g := g) (row := none) (kB HK.out))); replace HO165 := aM (Kd.R_elder' (qR HO165.out) (Kd.R_base ho14) hb); replace BK162 := bB BK162 hb; replace HK := aM (KeepBut.trans (kB HK.out) (KeepBut.of_below hb g none) (.inl rfl)); replace HB := aM (below_step (wS85 HB.out) hb); replace HI0 := aM (IsS85.below (iS85 HI0.out) hb); clear hb ho14; obtain ⟨Ao15, co15, rfl⟩ := sL HO170) | ((with_reducible refine gate_callee (f := 98) rfl ?_); refine gL (some 14) Try.func98 #[.pointer (some ⟨g, 0, none⟩), .slice Ao15 y168.length co15] ?_; (with_reducible refine (spec_reader_one.calls k g s0_0 t167 _ _ y168 t171 t172 w0 _ ?side1 ?side2 ?side3 ?side4 ?side5 A4.out).mono ?_); (case side1 => exact iS85 HI0.out); (case side2 => exact wS85 HB.out); (case side3 => exact qC (Kd.R_reads' HO170.out).2.2); (case side4 => exact (Kd.R_reads' HO170.out).2.1); (case side5 => exact far_slice (IsS85.own_ne HI0.out HO170.out (by decide))); rintro e w16 ⟨rfl, hi, hb, hk⟩; refine ⟨_, rfl, ?_⟩; replace BK162 := bK hk BK162 NB162_0; replace HO165 := aM (Kd.R_mono (Kd.R_keep (IsS85.apart (show IsS85 w0 _ g s0_0 t167 from iS85 HI0.out) (qR HO165.out) (by decide)) hk (fun _ h => h.2)) (fun _ h => h.1)); replace HO170 := aM (Kd.R_mono (Kd.R_keep (IsS85.apart (show IsS85 w0 _ g s0_0 t167 from iS85 HI0.out) (qR HO170.out) (by decide)) hk (fun _ h => h.2)) (fun _ h => h.1)); replace HK := aM (KeepBut.trans (kB HK.out) hk (.inl rfl)); replace HB := aM (hb); replace HI0 := aM (hi); clear hb hk hi) | ((with_reducible refine gate_callee (f := 53) rfl ?_); refine gL (some 16) Try.func53 #[.int .i64 t166, .int .i64 t171, .int .i64 a1] ?_; (with_reducible refine (spec_newImage.calls t166 t171 a1 t173 t174 t175 t176 _ A5.out).mono ?_); rintro e w17 ⟨v177, rfl, ho0, hb⟩; refine ⟨_, rfl, ?_⟩; have HO178 := aM (Kd.R_lower (Kd.R_new' (Kd.R_new' ho0 (Kd.R_lt (qR HO165.out))) (Kd.R_lt (qR HO170.out))) (keep_size (w := w) (g := g) (row := none) (kB HK.out))); replace HO165 := aM (Kd.R_elder' (qR HO165.out) (Kd.R_base ho0) hb); replace HO170 := aM (Kd.R_elder' (qR HO170.out) (Kd.R_base ho0) hb); replace BK162 := bB BK162 hb; replace HK := aM (KeepBut.trans (kB HK.out) (KeepBut.of_below hb g none) (.inl rfl)); replace HB := aM (below_step (wS85 HB.out) hb); replace HI0 := aM (IsS85.below (iS85 HI0.out) hb); clear hb ho0) | ((with_reducible refine gate_dst (N := 5) rfl ?_); refine bxE (N := 5) (cs := #[.int .i64 0, .int .i64 0, .int .i64 0, .slice none 0 0]) (t := 27) ?_; intro gb179 hg w18 hbox hb; replace HO165 := aM (Kd.R_below (qR HO165.out) hb); replace HO170 := aM (Kd.R_below (qR HO170.out) hb); replace HO178 := aM (Kd.R_below (qR HO178.out) hb); replace HB := aM (below_step (wS85 HB.out) hb); have BK179 := aM (hbox); have GW179 := aM ((by rw [hg]; exact (keep_size (w := w) (g := g) (row := none) (kB HK.out)) : w.heap.size ≤ gb179)); have GE179 := aM ((Nat.le_trans HW0.out (by rw [hg]; exact (keep_size (w := w) (g := g) (row := none) (kB HK.out)) : w.heap.size ≤ gb179) : w0.heap.size ≤ gb179)); replace HK := aM (KeepBut.trans (kB HK.out) (KeepBut.of_below hb g none) (.inl rfl)); have NB162_179 := nL hg BK162; have NB179_162 := nG hg BK162; replace BK162 := bB BK162 hb; have NB0_179 := aM ((by rw [hg]; exact Nat.ne_of_lt (IsS85.lt (show IsS85 w0 _ g s0_0 t172 from iS85 HI0.out)) : g ≠ gb179)); have NB179_0 := aM ((by rw [hg]; exact Nat.ne_of_gt (IsS85.lt (show IsS85 w0 _ g s0_0 t172 from iS85 HI0.out)) : gb179 ≠ g)); replace HI0 := aM (IsS85.below (iS85 HI0.out) hb); clear hb hbox hg; have hnb19 := NB179_162.out; have hnc19 := NB162_179.out; have hnb20 := NB179_0.out; have hnc20 := NB0_179.out; obtain ⟨⟨hcz21_0, hcz21_1, hcz21_2, hcz21_3⟩, hfz21_0, hfz21_1, hfz21_2, hfz21_3⟩ := cf4 BK179; obtain ⟨Ao22, co22, rfl⟩ := sL HO178) | ((with_reducible refine gate_callee (f := 45) rfl ?_); refine gL (some 18) Try.func45 #[.pointer (some ⟨g, 0, none⟩), .int .i64 4] ?_; (with_reducible refine (spec_reader_pick.calls k g s0_0 t172 4 t180 t181 w0 _ ?side1 ?side2 A6.out).mono ?_); (case side1 => exact iS85 HI0.out); (case side2 => exact wS85 HB.out); rintro e w23 ⟨rfl, hi, hb, hk⟩; refine ⟨_, rfl, ?_⟩; replace BK162 := aM (KeepBut.blk hk (g' := gb162) (o := .cells #[.int .i64 0, .int .i64 0, .int .i64 0, .slice none 0 0] 27 (0, 0)) (by refine qB ?_; refine blk_far ?_ NB162_179.out _; refine qB ?_; refine blk_far ?_ NB162_179.out _; refine qB ?_; refine blk_far ?_ NB162_179.out _; refine qB ?_; refine blk_far ?_ NB162_179.out _; refine qB ?_; exact BK162.out) NB162_0.out (by simp)); replace HO165 := aM (Kd.R_mono (Kd.R_keep (IsS85.apart (show IsS85 w0 _ g s0_0 t172 from iS85 HI0.out) (by refine qR ?_; exact (fr4 HO165 BK179)) (by decide)) hk (fun _ h => h.2)) (fun _ h => h.1)); replace HO170 := aM (Kd.R_mono (Kd.R_keep (IsS85.apart (show IsS85 w0 _ g s0_0 t172 from iS85 HI0.out) (by refine qR ?_; exact (fr4 HO170 BK179)) (by decide)) hk (fun _ h => h.2)) (fun _ h => h.1)); replace HO178 := aM (Kd.R_mono (Kd.R_keep (IsS85.apart (show IsS85 w0 _ g s0_0 t172 from iS85 HI0.out) (by refine qR ?_; exact (fr4 HO178 BK179)) (by decide)) hk (fun _ h => h.2)) (fun _ h => h.1)); replace BK179 := aM (KeepBut.blk hk (g' := gb179) (o := .cells #[.int .i64 t173, .int .i64 t174, .int .i64 t175, .slice Ao22 t176.length co22] 27 (0, 0)) (by exact bP BK179.out) NB179_0.out (by simp)); replace HK := aM (KeepBut.trans (kB HK.out) hk (.inl rfl)); replace HB := aM (hb); replace HI0 := aM (hi); clear hb hk hi) | ((with_reducible refine gate_callee (f := 45) rfl ?_); refine gL (some 20) Try.func45 #[.pointer (some ⟨g, 0, none⟩), .int .i64 256] ?_; (with_reducible refine (spec_reader_pick.calls k g s0_0 t181 256 t182 t183 w0 _ ?side1 ?side2 A7.out).mono ?_); (case side1 => exact iS85 HI0.out); (case side2 => exact wS85 HB.out); rintro e w24 ⟨rfl, hi, hb, hk⟩; refine ⟨_, rfl, ?_⟩; replace BK162 := bK hk BK162 NB162_0; replace HO165 := aM (Kd.R_mono (Kd.R_keep (IsS85.apart (show IsS85 w0 _ g s0_0 t181 from iS85 HI0.out) (qR HO165.out) (by decide)) hk (fun _ h => h.2)) (fun _ h => h.1)); replace HO170 := aM (Kd.R_mono (Kd.R_keep (IsS85.apart (show IsS85 w0 _ g s0_0 t181 from iS85 HI0.out) (qR HO170.out) (by decide)) hk (fun _ h => h.2)) (fun _ h => h.1)); replace HO178 := aM (Kd.R_mono (Kd.R_keep (IsS85.apart (show IsS85 w0 _ g s0_0 t181 from iS85 HI0.out) (qR HO178.out) (by decide)) hk (fun _ h => h.2)) (fun _ h => h.1)); replace BK179 := bK hk BK179 NB179_0; replace HK := aM (KeepBut.trans (kB HK.out) hk (.inl rfl)); replace HB := aM (hb); replace HI0 := aM (hi); clear hb hk hi))
 go_loopg [7, 8] k (fun kq v7 v8 w' => ∃ (x7_1 : Int) (x8_1 : Int) (x1001_1 : Int) (x180003_1 : List Int) (u180003 : Value), v7 = .int .i64 x7_1 ∧ v8 = .int .i64 x8_1 ∧ Aside0 (spec_randomImage.l0 kq t180 x7_1 x8_1 s0_0 x1001_1 t173 t174 t175 x180003_1 = some (r1, r2, r3, r4, r5)) ∧ Aside0 (kq ≤ k) ∧ Aside0 (Kd.R (Kd.int .i64) 3 w' w.heap.size (fun _ => True) u180003 x180003_1) ∧ Aside0 (w'.heap[gb162]? = some (.cells #[.int .i64 0, .int .i64 0, .int .i64 0, (.slice none 0 0)] 27 (0, 0))) ∧ Aside0 (w'.heap[gb179]? = some (.cells #[.int .i64 t173, .int .i64 t174, .int .i64 t175, u180003] 27 (0, 0))) ∧ Aside0 (IsS85 w0 w' g s0_0 x1001_1) ∧ Aside0 (KeepBut w w' g none) ∧ Aside0 (Below w0.heap.size w0 w'))
 case atStart => exact ⟨(t182), (0), (t183), (t176), (.slice Ao22 t176.length co22), qE, qE, H', ⟨Nat.le_refl _⟩, ⟨by refine qR ?_; exact Kd.R_mono HO178.out (fun _ hk => trivial)⟩, ⟨by refine qB ?_; exact BK162.out⟩, ⟨by refine qB ?_; exact BK179.out⟩, ⟨iS85 HI0.out⟩, ⟨kB HK.out⟩, ⟨wS85 HB.out⟩⟩
 case round =>
  clear H'
  try clear hcz21_0 hcz21_1 hcz21_2 hcz21_3 hfz21_0 hfz21_1 hfz21_2 hfz21_3
  obtain ⟨x7_1, x8_1, x1001_1, x180003_1, u180003, rfl, rfl, HA, HK1, HO_180003, BK162, BK179, HI0, HK, HB⟩ := hrel
  cases gk with
  | zero => exact absurd HA.out (by simp [spec_randomImage.l0])
  | succ k1 =>
   have H := HA.out
   clear HA
   simp only [spec_randomImage.l0] at H
   by_cases c25 : x8_1 < (x180003_1.length : Int)
   rotate_left
   ·rw [if_neg c25] at H
    have c25b0 : decide (x8_1 < (x180003_1.length : Int)) = false := decide_eq_false c25
    clear c25
    simp only [Option.some.injEq, Prod.mk.injEq] at H
    obtain ⟨rfl, rfl, rfl, rfl, rfl⟩ := H
    have hnb70 := NB179_162.out
    have hnc70 := NB162_179.out
    have hnb71 := NB179_0.out
    have hnc71 := NB0_179.out
    obtain ⟨⟨hcz72_0, hcz72_1, hcz72_2, hcz72_3⟩, hfz72_0, hfz72_1, hfz72_2, hfz72_3⟩ := cf4 BK179
    obtain ⟨Ao73, co73, rfl⟩ := sL HO_180003
    have hnb74 := NB162_0.out
    have hnc74 := NB0_162.out
    obtain ⟨⟨hcz75_0, hcz75_1, hcz75_2, hcz75_3⟩, hfz75_0, hfz75_1, hfz75_2, hfz75_3⟩ := cf4 BK162
    go_wp2
    refine bodyPost_ret (results_cell_row rfl _ _ gb162 27 #[.int .i64 t173, .int .i64 t174, .int .i64 t175, .slice Ao73 x180003_1.length co73] (0, 0) _ rfl (by exact bP BK162.out) Try.underlying27 rfl (by kernel_rfl)) rfl ?_
    exact ⟨_, qX, by refine qR ?_; exact Kd.R_mono (rT HO_180003 BK162) (fun _ hk => trivial), iS85 HI0.out, wS85 HB.out, kB HK.out⟩
   rw [if_pos c25] at H
   have c25b0 : decide (x8_1 < (x180003_1.length : Int)) = true := decide_eq_true c25
   clear c25
   by_cases c26 : t180 = 0
   ·rw [if_pos c26] at H
    have c26b0 : (t180 == 0) = true := beq_iff_eq.mpr c26
    have c26b1 : (t180 != 0) = false := bne_eq_false_iff_eq.mpr c26
    clear c26
    replace H := Option.bind_eq_some_iff.mp H
    obtain ⟨⟨t184, t185⟩, A270, H⟩ := H
    replace H : (if 0 ≤ x8_1 then (spec_randomImage.l0 k1 t180 t184 (wrap64 (x8_1 + 1)) s0_0 t185 t173 t174 t175 (x180003_1.set (x8_1 : Int).toNat t184)) else (none)) = some (r1, r2, r3, r4, r5) := H
    have A27 := aM A270
    clear A270
    replace H := iD H
    obtain ⟨c28b0, H⟩ := H
    obtain ⟨y186, hy186⟩ : ∃ y_ : List Int, y_ = (x180003_1.set (x8_1 : Int).toNat t184) := ⟨_, rfl⟩
    replace H : (spec_randomImage.l0 k1 t180 t184 (wrap64 (x8_1 + 1)) s0_0 t185 t173 t174 t175 y186) = some (r1, r2, r3, r4, r5) := rY hy186 H
    have Ny186 := aM hy186
    clear hy186
    have H' := aM H
    clear H
    have hnb30 := NB179_162.out
    have hnc30 := NB162_179.out
    have hnb31 := NB179_0.out
    have hnc31 := NB0_179.out
    obtain ⟨⟨hcz32_0, hcz32_1, hcz32_2, hcz32_3⟩, hfz32_0, hfz32_1, hfz32_2, hfz32_3⟩ := cf4 BK179
    obtain ⟨Ao33, co33, rfl⟩ := sL HO_180003
    go_wp2_with (first | ((with_reducible refine gate_callee (f := 45) rfl ?_); refine gL (some 32) Try.func45 #[.pointer (some ⟨g, 0, none⟩), .int .i64 256] ?_; (with_reducible refine (spec_reader_pick.calls k1 g s0_0 x1001_1 256 t184 t185 w0 _ ?side1 ?side2 A27.out).mono ?_); (case side1 => exact iS85 HI0.out); (case side2 => exact wS85 HB.out); rintro e w34 ⟨rfl, hi, hb, hk⟩; refine ⟨_, rfl, ?_⟩; replace HO_180003 := aM (Kd.R_mono (Kd.R_keep (IsS85.apart (show IsS85 w0 _ g s0_0 x1001_1 from iS85 HI0.out) (qR HO_180003.out) (by decide)) hk (fun _ h => h.2)) (fun _ h => h.1)); replace BK162 := bK hk BK162 NB162_0; replace BK179 := bK hk BK179 NB179_0; replace HK := aM (KeepBut.trans (kB HK.out) hk (.inl rfl)); replace HB := aM (hb); replace HI0 := aM (hi); clear hb hk hi; obtain ⟨⟨hcz35_0, hcz35_1, hcz35_2, hcz35_3⟩, hfz35_0, hfz35_1, hfz35_2, hfz35_3⟩ := cf4 BK179; have p29 : 0 ≤ (x8_1 : Int) := oD; have q29 : (x8_1 : Int) < ((x180003_1.length : Int) : Int) := oD; obtain ⟨go29, co29, eo29, gb29, gl29, cl29, HG29⟩ := Kd.R_form HO_180003.out (by omega); (first | cases eo29 | (injection eo29 with ea_ en_ ec_; (first | subst ea_ | (injection ea_ with ea_; subst ea_)); subst ec_; clear en_)); have GB29 := aM gb29; have GG29 := aM HG29; clear gb29 gl29 HG29; obtain ⟨hx29_0, hf29_0⟩ := Kd.R_celln 0 HO_180003.out (x8_1 : Int) p29 q29; replace p29 := eq_true p29; replace q29 := eq_true q29; obtain ⟨hy36_, hz36_⟩ := Kd.R_celln 0 HO_180003.out (x8_1 : Int) oD oD; have HP36 := Kd.R_putg HO_180003.out (x8_1 : Int) t184) | ((with_reducible refine gate_store (t := 3) (p := 50) rfl ?_); refine store_event (t := 3) (p := 50) (v := ?vo_w37) (w1 := (w34.setCell ⟨go29, (x8_1 : Int).toNat, none⟩ (.int .i64 t184))) ?hg ?ho ?hn ?hr ?_; (case ho => rfl); (case hg => rfl); (case hn => rfl); (case hr => first | (go_simp; done) | (go_simp; rfl)); intro w37 hw; have hg : w34.grownBy w37 (some go29) := (by rw [hw]; exact HP36.2); have hp_ : Kd.R (Kd.int .i64) 3 w37 w.heap.size (fun _ => True) (.slice (some ⟨go29, 0, none⟩) x180003_1.length co33) y186 := (by rw [hw, Ny186.out]; exact HP36.1); clear HP36; replace BK162 := gB BK162 hg (Kd.R_ne HO_180003.out BK162.out (by decide)); replace BK179 := gB BK179 hg (Kd.R_ne HO_180003.out BK179.out (by decide)); replace HI0 := aM (IsS85.grown (iS85 HI0.out) hg (IsS85.own_ne HI0.out HO_180003.out (by decide))); replace HB := aM ((by rw [hw]; exact below_set (HB.out) (Nat.le_trans HL.out GB29.out) : Below w0.heap.size w0 w37)); replace HK := aM (KeepBut.trans (kB HK.out) (KeepBut.of_grown hg g) (Kd.R_base2 HO_180003.out)); replace HO_180003 := aM (hp_); clear hg hw hp_))
    go_roundg k1
    case measure => have := HK1.out; omega
    case rel => exact ⟨(t184), (wrap64 (x8_1 + 1)), (t185), (y186), (.slice (some ⟨go29, 0, none⟩) x180003_1.length co33), qE, qE, H', ⟨by have := HK1.out; omega⟩, ⟨by refine qR ?_; exact HO_180003.out⟩, ⟨by refine qB ?_; exact BK162.out⟩, ⟨by refine qB ?_; exact BK179.out⟩, ⟨iS85 HI0.out⟩, ⟨kB HK.out⟩, ⟨wS85 HB.out⟩⟩
   rw [if_neg c26] at H
   have c26b0 : (t180 == 0) = false := beq_eq_false_iff_ne.mpr c26
   have c26b1 : (t180 != 0) = true := bne_iff_ne.mpr c26
   by_cases c38 : t180 = 1
   ·rw [if_pos c38] at H
    have c38b0 : (t180 == 1) = true := beq_iff_eq.mpr c38
    have c38b1 : (t180 != 1) = false := bne_eq_false_iff_eq.mpr c38
    clear c38
    replace H := Option.bind_eq_some_iff.mp H
    obtain ⟨⟨t187, t188⟩, A390, H⟩ := H
    replace H : (if 0 ≤ x8_1 then (spec_randomImage.l0 k1 t180 (Int.tmod (wrap64 ((wrap64 (x7_1 + t187)) + 254)) 256) (wrap64 (x8_1 + 1)) s0_0 t188 t173 t174 t175 (x180003_1.set (x8_1 : Int).toNat (Int.tmod (wrap64 ((wrap64 (x7_1 + t187)) + 254)) 256))) else (none)) = some (r1, r2, r3, r4, r5) := H
    have A39 := aM A390
    clear A390
    replace H := iD H
    obtain ⟨c40b0, H⟩ := H
    obtain ⟨y189, hy189⟩ : ∃ y_ : List Int, y_ = (x180003_1.set (x8_1 : Int).toNat (Int.tmod (wrap64 ((wrap64 (x7_1 + t187)) + 254)) 256)) := ⟨_, rfl⟩
    replace H : (spec_randomImage.l0 k1 t180 (Int.tmod (wrap64 ((wrap64 (x7_1 + t187)) + 254)) 256) (wrap64 (x8_1 + 1)) s0_0 t188 t173 t174 t175 y189) = some (r1, r2, r3, r4, r5) := rY hy189 H
    have Ny189 := aM hy189
    clear hy189
    have H' := aM H
    clear H
    have hnb42 := NB179_162.out
    have hnc42 := NB162_179.out
    have hnb43 := NB179_0.out
    have hnc43 := NB0_179.out
    obtain ⟨⟨hcz44_0, hcz44_1, hcz44_2, hcz44_3⟩, hfz44_0, hfz44_1, hfz44_2, hfz44_3⟩ := cf4 BK179
    obtain ⟨Ao45, co45, rfl⟩ := sL HO_180003
    go_wp2_with (first | ((with_reducible refine gate_callee (f := 45) rfl ?_); refine gL (some 37) Try.func45 #[.pointer (some ⟨g, 0, none⟩), .int .i64 5] ?_; (with_reducible refine (spec_reader_pick.calls k1 g s0_0 x1001_1 5 t187 t188 w0 _ ?side1 ?side2 A39.out).mono ?_); (case side1 => exact iS85 HI0.out); (case side2 => exact wS85 HB.out); rintro e w46 ⟨rfl, hi, hb, hk⟩; refine ⟨_, rfl, ?_⟩; replace HO_180003 := aM (Kd.R_mono (Kd.R_keep (IsS85.apart (show IsS85 w0 _ g s0_0 x1001_1 from iS85 HI0.out) (qR HO_180003.out) (by decide)) hk (fun _ h => h.2)) (fun _ h => h.1)); replace BK162 := bK hk BK162 NB162_0; replace BK179 := bK hk BK179 NB179_0; replace HK := aM (KeepBut.trans (kB HK.out) hk (.inl rfl)); replace HB := aM (hb); replace HI0 := aM (hi); clear hb hk hi; obtain ⟨⟨hcz47_0, hcz47_1, hcz47_2, hcz47_3⟩, hfz47_0, hfz47_1, hfz47_2, hfz47_3⟩ := cf4 BK179; have p41 : 0 ≤ (x8_1 : Int) := oD; have q41 : (x8_1 : Int) < ((x180003_1.length : Int) : Int) := oD; obtain ⟨go41, co41, eo41, gb41, gl41, cl41, HG41⟩ := Kd.R_form HO_180003.out (by omega); (first | cases eo41 | (injection eo41 with ea_ en_ ec_; (first | subst ea_ | (injection ea_ with ea_; subst ea_)); subst ec_; clear en_)); have GB41 := aM gb41; have GG41 := aM HG41; clear gb41 gl41 HG41; obtain ⟨hx41_0, hf41_0⟩ := Kd.R_celln 0 HO_180003.out (x8_1 : Int) p41 q41; replace p41 := eq_true p41; replace q41 := eq_true q41; obtain ⟨hy48_, hz48_⟩ := Kd.R_celln 0 HO_180003.out (x8_1 : Int) oD oD; have HP48 := Kd.R_putg HO_180003.out (x8_1 : Int) (Int.tmod (wrap64 ((wrap64 (x7_1 + t187)) + 254)) 256)) | ((with_reducible refine gate_store (t := 3) (p := 50) rfl ?_); refine store_event (t := 3) (p := 50) (v := ?vo_w49) (w1 := (w46.setCell ⟨go41, (x8_1 : Int).toNat, none⟩ (.int .i64 (Int.tmod (wrap64 ((wrap64 (x7_1 + t187)) + 254)) 256)))) ?hg ?ho ?hn ?hr ?_; (case ho => rfl); (case hg => rfl); (case hn => rfl); (case hr => first | (go_simp; done) | (go_simp; rfl)); intro w49 hw; have hg : w46.grownBy w49 (some go41) := (by rw [hw]; exact HP48.2); have hp_ : Kd.R (Kd.int .i64) 3 w49 w.heap.size (fun _ => True) (.slice (some ⟨go41, 0, none⟩) x180003_1.length co45) y189 := (by rw [hw, Ny189.out]; exact HP48.1); clear HP48; replace BK162 := gB BK162 hg (Kd.R_ne HO_180003.out BK162.out (by decide)); replace BK179 := gB BK179 hg (Kd.R_ne HO_180003.out BK179.out (by decide)); replace HI0 := aM (IsS85.grown (iS85 HI0.out) hg (IsS85.own_ne HI0.out HO_180003.out (by decide))); replace HB := aM ((by rw [hw]; exact below_set (HB.out) (Nat.le_trans HL.out GB41.out) : Below w0.heap.size w0 w49)); replace HK := aM (KeepBut.trans (kB HK.out) (KeepBut.of_grown hg g) (Kd.R_base2 HO_180003.out)); replace HO_180003 := aM (hp_); clear hg hw hp_))
    go_roundg k1
    case measure => have := HK1.out; omega
    case rel => exact ⟨(Int.tmod (wrap64 ((wrap64 (x7_1 + t187)) + 254)) 256), (wrap64 (x8_1 + 1)), (t188), (y189), (.slice (some ⟨go41, 0, none⟩) x180003_1.length co45), qE, qE, H', ⟨by have := HK1.out; omega⟩, ⟨by refine qR ?_; exact HO_180003.out⟩, ⟨by refine qB ?_; exact BK162.out⟩, ⟨by refine qB ?_; exact BK179.out⟩, ⟨iS85 HI0.out⟩, ⟨kB HK.out⟩, ⟨wS85 HB.out⟩⟩
   rw [if_neg c38] at H
   have c38b0 : (t180 == 1) = false := beq_eq_false_iff_ne.mpr c38
   have c38b1 : (t180 != 1) = true := bne_iff_ne.mpr c38
   by_cases c50 : t180 = 2
   rotate_left
   ·rw [if_neg c50] at H
    have c50b0 : (t180 == 2) = false := beq_eq_false_iff_ne.mpr c50
    have c50b1 : (t180 != 2) = true := bne_iff_ne.mpr c50
    replace H := iD H
    obtain ⟨c62b0, H⟩ := H
    obtain ⟨y193, hy193⟩ : ∃ y_ : List Int, y_ = (x180003_1.set (x8_1 : Int).toNat x7_1) := ⟨_, rfl⟩
    replace H : (spec_randomImage.l0 k1 t180 x7_1 (wrap64 (x8_1 + 1)) s0_0 x1001_1 t173 t174 t175 y193) = some (r1, r2, r3, r4, r5) := rY hy193 H
    have Ny193 := aM hy193
    clear hy193
    have H' := aM H
    clear H
    have hnb64 := NB179_162.out
    have hnc64 := NB162_179.out
    have hnb65 := NB179_0.out
    have hnc65 := NB0_179.out
    obtain ⟨⟨hcz66_0, hcz66_1, hcz66_2, hcz66_3⟩, hfz66_0, hfz66_1, hfz66_2, hfz66_3⟩ := cf4 BK179
    obtain ⟨Ao67, co67, rfl⟩ := sL HO_180003
    have p63 : 0 ≤ (x8_1 : Int) := oD
    have q63 : (x8_1 : Int) < ((x180003_1.length : Int) : Int) := oD
    obtain ⟨go63, co63, eo63, gb63, gl63, cl63, HG63⟩ := Kd.R_form HO_180003.out (by omega)
    (first | cases eo63 | (injection eo63 with ea_ en_ ec_; (first | subst ea_ | (injection ea_ with ea_; subst ea_)); subst ec_; clear en_))
    have GB63 := aM gb63
    have GG63 := aM HG63
    clear gb63 gl63 HG63
    obtain ⟨hx63_0, hf63_0⟩ := Kd.R_celln 0 HO_180003.out (x8_1 : Int) p63 q63
    replace p63 := eq_true p63
    replace q63 := eq_true q63
    have HP68 := Kd.R_putg HO_180003.out (x8_1 : Int) x7_1
    go_wp2_with (first | ((with_reducible refine gate_store (t := 3) (p := 50) rfl ?_); refine store_event (t := 3) (p := 50) (v := ?vo_w69) (w1 := (wr.setCell ⟨go63, (x8_1 : Int).toNat, none⟩ (.int .i64 x7_1))) ?hg ?ho ?hn ?hr ?_; (case ho => rfl); (case hg => rfl); (case hn => rfl); (case hr => first | (go_simp; done) | (go_simp; rfl)); intro w69 hw; have hg : wr.grownBy w69 (some go63) := (by rw [hw]; exact HP68.2); have hp_ : Kd.R (Kd.int .i64) 3 w69 w.heap.size (fun _ => True) (.slice (some ⟨go63, 0, none⟩) x180003_1.length co67) y193 := (by rw [hw, Ny193.out]; exact HP68.1); clear HP68; replace BK162 := gB BK162 hg (Kd.R_ne HO_180003.out BK162.out (by decide)); replace BK179 := gB BK179 hg (Kd.R_ne HO_180003.out BK179.out (by decide)); replace HI0 := aM (IsS85.grown (iS85 HI0.out) hg (IsS85.own_ne HI0.out HO_180003.out (by decide))); replace HB := aM ((by rw [hw]; exact below_set (HB.out) (Nat.le_trans HL.out GB63.out) : Below w0.heap.size w0 w69)); replace HK := aM (KeepBut.trans (kB HK.out) (KeepBut.of_grown hg g) (Kd.R_base2 HO_180003.out)); replace HO_180003 := aM (hp_); clear hg hw hp_))
    go_roundg k1
    case measure => have := HK1.out; omega
    case rel => exact ⟨(x7_1), (wrap64 (x8_1 + 1)), (x1001_1), (y193), (.slice (some ⟨go63, 0, none⟩) x180003_1.length co67), qE, qE, H', ⟨by have := HK1.out; omega⟩, ⟨by refine qR ?_; exact HO_180003.out⟩, ⟨by refine qB ?_; exact BK162.out⟩, ⟨by refine qB ?_; exact BK179.out⟩, ⟨iS85 HI0.out⟩, ⟨kB HK.out⟩, ⟨wS85 HB.out⟩⟩
   rw [if_pos c50] at H
   have c50b0 : (t180 == 2) = true := beq_iff_eq.mpr c50
   have c50b1 : (t180 != 2) = false := bne_eq_false_iff_eq.mpr c50
   clear c50
   replace H := Option.bind_eq_some_iff.mp H
   obtain ⟨⟨t190, t191⟩, A510, H⟩ := H
   replace H : (if 0 ≤ x8_1 then (spec_randomImage.l0 k1 t180 (wrap64 (60 * t190)) (wrap64 (x8_1 + 1)) s0_0 t191 t173 t174 t175 (x180003_1.set (x8_1 : Int).toNat (wrap64 (60 * t190)))) else (none)) = some (r1, r2, r3, r4, r5) := H
   have A51 := aM A510
   clear A510
   replace H := iD H
   obtain ⟨c52b0, H⟩ := H
   obtain ⟨y192, hy192⟩ : ∃ y_ : List Int, y_ = (x180003_1.set (x8_1 : Int).toNat (wrap64 (60 * t190))) := ⟨_, rfl⟩
   replace H : (spec_randomImage.l0 k1 t180 (wrap64 (60 * t190)) (wrap64 (x8_1 + 1)) s0_0 t191 t173 t174 t175 y192) = some (r1, r2, r3, r4, r5) := rY hy192 H
   have Ny192 := aM hy192
   clear hy192
   have H' := aM H
   clear H
   have hnb54 := NB179_162.out
   have hnc54 := NB162_179.out
   have hnb55 := NB179_0.out
   have hnc55 := NB0_179.out
   obtain ⟨⟨hcz56_0, hcz56_1, hcz56_2, hcz56_3⟩, hfz56_0, hfz56_1, hfz56_2, hfz56_3⟩ := cf4 BK179
   obtain ⟨Ao57, co57, rfl⟩ := sL HO_180003
   go_wp2_with (first | ((with_reducible refine gate_callee (f := 45) rfl ?_); refine gL (some 44) Try.func45 #[.pointer (some ⟨g, 0, none⟩), .int .i64 4] ?_; (with_reducible refine (spec_reader_pick.calls k1 g s0_0 x1001_1 4 t190 t191 w0 _ ?side1 ?side2 A51.out).mono ?_); (case side1 => exact iS85 HI0.out); (case side2 => exact wS85 HB.out); rintro e w58 ⟨rfl, hi, hb, hk⟩; refine ⟨_, rfl, ?_⟩; replace HO_180003 := aM (Kd.R_mono (Kd.R_keep (IsS85.apart (show IsS85 w0 _ g s0_0 x1001_1 from iS85 HI0.out) (qR HO_180003.out) (by decide)) hk (fun _ h => h.2)) (fun _ h => h.1)); replace BK162 := bK hk BK162 NB162_0; replace BK179 := bK hk BK179 NB179_0; replace HK := aM (KeepBut.trans (kB HK.out) hk (.inl rfl)); replace HB := aM (hb); replace HI0 := aM (hi); clear hb hk hi; obtain ⟨⟨hcz59_0, hcz59_1, hcz59_2, hcz59_3⟩, hfz59_0, hfz59_1, hfz59_2, hfz59_3⟩ := cf4 BK179; have p53 : 0 ≤ (x8_1 : Int) := oD; have q53 : (x8_1 : Int) < ((x180003_1.length : Int) : Int) := oD; obtain ⟨go53, co53, eo53, gb53, gl53, cl53, HG53⟩ := Kd.R_form HO_180003.out (by omega); (first | cases eo53 | (injection eo53 with ea_ en_ ec_; (first | subst ea_ | (injection ea_ with ea_; subst ea_)); subst ec_; clear en_)); have GB53 := aM gb53; have GG53 := aM HG53; clear gb53 gl53 HG53; obtain ⟨hx53_0, hf53_0⟩ := Kd.R_celln 0 HO_180003.out (x8_1 : Int) p53 q53; replace p53 := eq_true p53; replace q53 := eq_true q53; obtain ⟨hy60_, hz60_⟩ := Kd.R_celln 0 HO_180003.out (x8_1 : Int) oD oD; have HP60 := Kd.R_putg HO_180003.out (x8_1 : Int) (wrap64 (60 * t190))) | ((with_reducible refine gate_store (t := 3) (p := 50) rfl ?_); refine store_event (t := 3) (p := 50) (v := ?vo_w61) (w1 := (w58.setCell ⟨go53, (x8_1 : Int).toNat, none⟩ (.int .i64 (wrap64 (60 * t190))))) ?hg ?ho ?hn ?hr ?_; (case ho => rfl); (case hg => rfl); (case hn => rfl); (case hr => first | (go_simp; done) | (go_simp; rfl)); intro w61 hw; have hg : w58.grownBy w61 (some go53) := (by rw [hw]; exact HP60.2); have hp_ : Kd.R (Kd.int .i64) 3 w61 w.heap.size (fun _ => True) (.slice (some ⟨go53, 0, none⟩) x180003_1.length co57) y192 := (by rw [hw, Ny192.out]; exact HP60.1); clear HP60; replace BK162 := gB BK162 hg (Kd.R_ne HO_180003.out BK162.out (by decide)); replace BK179 := gB BK179 hg (Kd.R_ne HO_180003.out BK179.out (by decide)); replace HI0 := aM (IsS85.grown (iS85 HI0.out) hg (IsS85.own_ne HI0.out HO_180003.out (by decide))); replace HB := aM ((by rw [hw]; exact below_set (HB.out) (Nat.le_trans HL.out GB53.out) : Below w0.heap.size w0 w61)); replace HK := aM (KeepBut.trans (kB HK.out) (KeepBut.of_grown hg g) (Kd.R_base2 HO_180003.out)); replace HO_180003 := aM (hp_); clear hg hw hp_))
   go_roundg k1
   case measure => have := HK1.out; omega
   case rel => exact ⟨(wrap64 (60 * t190)), (wrap64 (x8_1 + 1)), (t191), (y192), (.slice (some ⟨go53, 0, none⟩) x180003_1.length co57), qE, qE, H', ⟨by have := HK1.out; omega⟩, ⟨by refine qR ?_; exact HO_180003.out⟩, ⟨by refine qB ?_; exact BK162.out⟩, ⟨by refine qB ?_; exact BK179.out⟩, ⟨iS85 HI0.out⟩, ⟨kB HK.out⟩, ⟨wS85 HB.out⟩⟩
def spec_anyPlanes.f (k : Nat) (s0_0 : List Int) (s0_1 : Int) : Option (Int × Int) := (spec_reader_one.f k s0_0 s0_1 (([1, 3, 1, 4, 2] : List Int))).bind fun bt197 => (some (bt197.1, bt197.2))
theorem spec_anyPlanes.mono : ∀ a0 a1 k, LeO (spec_anyPlanes.f k a0 a1) (spec_anyPlanes.f (k + 1) a0 a1) := by
 intro a0 a1 k
 unfold spec_anyPlanes.f
 repeat' first | (with_reducible first | exact spec_reader_one.mono _ _ _ _ | exact lR | exact lN | refine lI ?_ ?_ | refine lB ?_ fun _ => ?_) | exact spec_reader_one.mono _ _ _ _ | exact lN | refine lI ?_ ?_ | refine lB ?_ fun _ => ?_
set_option maxHeartbeats 8000000 in
set_option maxRecDepth 100000 in
theorem spec_anyPlanes.calls (k : Nat) (g : Nat) (s0_0 : List Int) (s0_1 : Int) (r1 : Int) (r2 : Int) (w0 w : World) (hI : IsS85 w0 w g s0_0 s0_1) (hB : Below w0.heap.size w0 w) (h : spec_anyPlanes.f k s0_0 s0_1 = some (r1, r2)) :
  Calls Try.prog 90 #[.pointer (some ⟨g, 0, none⟩)] w fun e w' => e = .returned (.int .i64 r1) ∧ IsS85 w0 w' g s0_0 r2 ∧ Below w0.heap.size w0 w' ∧ KeepBut w w' g none := by
 have HI0 := aM hI
 have HK := aM (KeepBut.refl w g none)
 have HL := aM hB.size
 clear hI
 have HW0 := aM hB.size
 have HB := aM hB
 clear hB
 unfold spec_anyPlanes.f at h
 have H := h
 clear h
 obtain ⟨y194, hy194⟩ : ∃ y_ : List Int, y_ = (([1, 3, 1, 4, 2] : List Int)) := ⟨_, rfl⟩
 replace H : ((spec_reader_one.f k s0_0 s0_1 y194).bind fun bt197 => (some (bt197.1, bt197.2))) = some (r1, r2) := rY hy194 H
 have Ny194 := aM hy194
 clear hy194
 replace H := Option.bind_eq_some_iff.mp H
 obtain ⟨⟨t197, t198⟩, A20, H⟩ := H
 replace H : (some (t197, t198)) = some (r1, r2) := H
 have A2 := aM A20
 clear A20
 simp only [Option.some.injEq, Prod.mk.injEq] at H
 obtain ⟨rfl, rfl⟩ := H
 go_enter Try.func90, Try.ntmps90
 go_wp2_with (first | ((with_reducible refine gate_dst (N := 4) rfl ?_); refine iL ([1, 3, 1, 4, 2] : List Int) [.int .i64 1, .int .i64 3, .int .i64 1, .int .i64 4, .int .i64 2] ?_; intro v195 w3 ho4 hb hg_ hnew_; clear hg_ hnew_; (first | rw [← Ny194.out] at ho4 | (simp only [Int.reduceToNat] at ho4; rw [← Ny194.out] at ho4)); have HO196 := lK ho4 HK; replace HK := aM (KeepBut.trans (kB HK.out) (KeepBut.of_below hb g none) (.inl rfl)); replace HB := aM (below_step (wS85 HB.out) hb); replace HI0 := aM (IsS85.below (iS85 HI0.out) hb); clear hb ho4; obtain ⟨Ao5, co5, rfl⟩ := sL HO196) | ((with_reducible refine gate_callee (f := 98) rfl ?_); refine gL (some 5) Try.func98 #[.pointer (some ⟨g, 0, none⟩), .slice Ao5 y194.length co5] ?_; (with_reducible refine (spec_reader_one.calls k g s0_0 s0_1 _ _ y194 t197 t198 w0 _ ?side1 ?side2 ?side3 ?side4 ?side5 A2.out).mono ?_); (case side1 => exact iS85 HI0.out); (case side2 => exact wS85 HB.out); (case side3 => exact qC (Kd.R_reads' HO196.out).2.2); (case side4 => exact (Kd.R_reads' HO196.out).2.1); (case side5 => exact far_slice (IsS85.own_ne HI0.out HO196.out (by decide))); rintro e w6 ⟨rfl, hi, hb, hk⟩; refine ⟨_, rfl, ?_⟩; replace HO196 := aM (Kd.R_mono (Kd.R_keep (IsS85.apart (show IsS85 w0 _ g s0_0 s0_1 from iS85 HI0.out) (qR HO196.out) (by decide)) hk (fun _ h => h.2)) (fun _ h => h.1)); replace HK := aM (KeepBut.trans (kB HK.out) hk (.inl rfl)); replace HB := aM (hb); replace HI0 := aM (hi); clear hb hk hi))
 go_ret
 exact ⟨qX, iS85 HI0.out, wS85 HB.out, kB HK.out⟩
def spec_anyImage.f (k : Nat) (s0_0 : List Int) (s0_1 : Int) : Option (Int × Int × Int × List Int × Int) := (spec_anyPlanes.f k s0_0 s0_1).bind fun bt200 => ((spec_randomImage.f k s0_0 bt200.2 bt200.1).bind fun bt202 => ((spec_spoilImage.f k s0_0 bt202.2.2.2.2 bt202.1 bt202.2.1 bt202.2.2.1 bt202.2.2.2.1).bind fun bt209 => (some (bt209.1, bt209.2.1, bt209.2.2.1, bt209.2.2.2.1, bt209.2.2.2.2))))
theorem spec_anyImage.mono : ∀ a0 a1 k, LeO (spec_anyImage.f k a0 a1) (spec_anyImage.f (k + 1) a0 a1) := by
 intro a0 a1 k
 unfold spec_anyImage.f
 repeat' first | (with_reducible first | exact spec_anyPlanes.mono _ _ _ | exact spec_randomImage.mono _ _ _ _ | exact spec_spoilImage.mono _ _ _ _ _ _ _ | exact lR | exact lN | refine lI ?_ ?_ | refine lB ?_ fun _ => ?_) | exact spec_anyPlanes.mono _ _ _ | exact spec_randomImage.mono _ _ _ _ | exact spec_spoilImage.mono _ _ _ _ _ _ _ | exact lN | refine lI ?_ ?_ | refine lB ?_ fun _ => ?_
set_option maxHeartbeats 8000000 in
set_option maxRecDepth 100000 in
theorem spec_anyImage.calls (k : Nat) (g : Nat) (s0_0 : List Int) (s0_1 : Int) (r1 : Int) (r2 : Int) (r3 : Int) (r4 : List Int) (r5 : Int) (w0 w : World) (hI : IsS85 w0 w g s0_0 s0_1) (hB : Below w0.heap.size w0 w) (h : spec_anyImage.f k s0_0 s0_1 = some (r1, r2, r3, r4, r5)) :
  Calls Try.prog 44 #[.pointer (some ⟨g, 0, none⟩)] w fun e w' => ∃ v3_ : Value, e = .returned (.agg #[.int .i64 r1, .int .i64 r2, .int .i64 r3, v3_]) ∧ Kd.Q (Kd.int .i64) 3 w' w.heap.size (fun _ => True) v3_ r4 ∧ IsS85 w0 w' g s0_0 r5 ∧ Below w0.heap.size w0 w' ∧ KeepBut w w' g none := by
 have hu27 := Try.underlying27
 have HI0 := aM hI
 have HK := aM (KeepBut.refl w g none)
 have HL := aM hB.size
 clear hI
 have HW0 := aM hB.size
 have HB := aM hB
 clear hB
 unfold spec_anyImage.f at h
 have H := h
 clear h
 replace H := Option.bind_eq_some_iff.mp H
 obtain ⟨⟨t200, t201⟩, A20, H⟩ := H
 replace H : ((spec_randomImage.f k s0_0 t201 t200).bind fun bt202 => ((spec_spoilImage.f k s0_0 bt202.2.2.2.2 bt202.1 bt202.2.1 bt202.2.2.1 bt202.2.2.2.1).bind fun bt209 => (some (bt209.1, bt209.2.1, bt209.2.2.1, bt209.2.2.2.1, bt209.2.2.2.2)))) = some (r1, r2, r3, r4, r5) := H
 have A2 := aM A20
 clear A20
 replace H := Option.bind_eq_some_iff.mp H
 obtain ⟨⟨t202, t203, t204, t205, t208⟩, A30, H⟩ := H
 replace H : ((spec_spoilImage.f k s0_0 t208 t202 t203 t204 t205).bind fun bt209 => (some (bt209.1, bt209.2.1, bt209.2.2.1, bt209.2.2.2.1, bt209.2.2.2.2))) = some (r1, r2, r3, r4, r5) := H
 have A3 := aM A30
 clear A30
 replace H := Option.bind_eq_some_iff.mp H
 obtain ⟨⟨t209, t210, t211, t212, t215⟩, A40, H⟩ := H
 replace H : (some (t209, t210, t211, t212, t215)) = some (r1, r2, r3, r4, r5) := H
 have A4 := aM A40
 clear A40
 simp only [Option.some.injEq, Prod.mk.injEq] at H
 obtain ⟨rfl, rfl, rfl, rfl, rfl⟩ := H
 go_enter Try.func44, Try.ntmps44
 go_wp2_with (first | ((with_reducible refine gate_dst (N := 2) rfl ?_); refine bxE (N := 2) (cs := #[.int .i64 0, .int .i64 0, .int .i64 0, .slice none 0 0]) (t := 27) ?_; intro gb199 hg w5 hbox hb; replace HB := aM (below_step (wS85 HB.out) hb); have BK199 := aM (hbox); have GW199 := aM ((by rw [hg]; exact (keep_size (w := w) (g := g) (row := none) (kB HK.out)) : w.heap.size ≤ gb199)); have GE199 := aM ((Nat.le_trans HW0.out (by rw [hg]; exact (keep_size (w := w) (g := g) (row := none) (kB HK.out)) : w.heap.size ≤ gb199) : w0.heap.size ≤ gb199)); replace HK := aM (KeepBut.trans (kB HK.out) (KeepBut.of_below hb g none) (.inl rfl)); have NB0_199 := aM ((by rw [hg]; exact Nat.ne_of_lt (IsS85.lt (show IsS85 w0 _ g s0_0 s0_1 from iS85 HI0.out)) : g ≠ gb199)); have NB199_0 := aM ((by rw [hg]; exact Nat.ne_of_gt (IsS85.lt (show IsS85 w0 _ g s0_0 s0_1 from iS85 HI0.out)) : gb199 ≠ g)); replace HI0 := aM (IsS85.below (iS85 HI0.out) hb); clear hb hbox hg) | ((with_reducible refine gate_callee (f := 90) rfl ?_); refine gL (some 6) Try.func90 #[.pointer (some ⟨g, 0, none⟩)] ?_; (with_reducible refine (spec_anyPlanes.calls k g s0_0 s0_1 t200 t201 w0 _ ?side1 ?side2 A2.out).mono ?_); (case side1 => exact iS85 HI0.out); (case side2 => exact wS85 HB.out); rintro e w6 ⟨rfl, hi, hb, hk⟩; refine ⟨_, rfl, ?_⟩; replace BK199 := bK hk BK199 NB199_0; replace HK := aM (KeepBut.trans (kB HK.out) hk (.inl rfl)); replace HB := aM (hb); replace HI0 := aM (hi); clear hb hk hi) | ((with_reducible refine gate_callee (f := 89) rfl ?_); refine gL (some 7) Try.func89 #[.pointer (some ⟨g, 0, none⟩), .int .i64 t200] ?_; (with_reducible refine (spec_randomImage.calls k g s0_0 t201 t200 t202 t203 t204 t205 t208 w0 _ ?side1 ?side2 A3.out).mono ?_); (case side1 => exact iS85 HI0.out); (case side2 => exact wS85 HB.out); rintro e w7 ⟨v206, rfl, ho0, hi, hb, hk⟩; refine ⟨_, rfl, ?_⟩; replace BK199 := bK hk BK199 NB199_0; have HO207 := lK ho0 HK; replace HK := aM (KeepBut.trans (kB HK.out) hk (.inl rfl)); replace HB := aM (hb); replace HI0 := aM (hi); clear hb hk hi ho0; obtain ⟨Ao8, co8, rfl⟩ := sL HO207) | ((with_reducible refine gate_callee (f := 88) rfl ?_); refine gL (some 8) Try.func88 #[.pointer (some ⟨g, 0, none⟩), .agg #[.int .i64 t202, .int .i64 t203, .int .i64 t204, .slice Ao8 t205.length co8]] ?_; (with_reducible refine (spec_spoilImage.calls k g s0_0 t208 t202 t203 t204 (fun k_ => some k_ = (.slice Ao8 t205.length co8 : Value).ownBlock) (.slice Ao8 t205.length co8) t205 t209 t210 t211 t212 t215 w0 _ ?side1 ?side2 ?side3 A4.out).mono ?_); (case side1 => exact iS85 HI0.out); (case side2 => exact wS85 HB.out); (case side3 => exact Kd.R_lower (Kd.R_tight rfl HO207.out) HL.out); rintro e w9 ⟨v213, rfl, ho0, hi, hb, hkp⟩; refine ⟨_, rfl, ?_⟩; replace HI0 := aM (hi); replace BK199 := aM (blk_kept (qB BK199.out) hkp (fun hs_ => Or.elim hs_ (fun hs_ => (fun e_ => (Kd.R_ne HO207.out BK199.out (by decide)) e_) hs_) (fun e_ => NB199_0.out e_))); have HO214 := aM (Kd.Q_mono (ok' := fun k_ => True) (Kd.Q_raise (d := (Kd.int .i64)) (b := w0.heap.size) (b' := w.heap.size) (fun _ _ _ _ h_ => h_) ho0 (fun k_ e_ => Or.elim (ho0.1 k_ e_) (fun hs_ => (fun e_ => Kd.R_base HO207.out k_ e_.symm) hs_) (fun hn_ => Nat.le_trans (keep_size (w := w) (g := g) (row := none) (kB HK.out)) hn_))) (fun k_ hk_ => trivial)); replace HK := aM (Kept.keepG (kB HK.out) hkp (fun k_ hs_ => Or.elim hs_ (fun hs_ => (fun e_ => .inr (Kd.R_base HO207.out k_ e_.symm)) hs_) (fun e_ => .inl e_))); replace HB := aM (hb); clear HO207; clear hb hkp ho0; have hnb10 := NB199_0.out; have hnc10 := NB0_199.out; obtain ⟨⟨hcz11_0, hcz11_1, hcz11_2, hcz11_3⟩, hfz11_0, hfz11_1, hfz11_2, hfz11_3⟩ := cf4 BK199; obtain ⟨Ao12, co12, eo12, _⟩ := Kd.Q_slice HO214.out; subst eo12))
 refine bodyPost_ret (results_cell_row rfl _ _ gb199 27 #[.int .i64 t209, .int .i64 t210, .int .i64 t211, .slice Ao12 t212.length co12] (0, 0) _ rfl (by exact bP BK199.out) Try.underlying27 rfl (by kernel_rfl)) rfl ?_
 exact ⟨_, qX, by (with_reducible repeat (first | apply Kd.Q_alloc | apply Kd.Q_drewN | apply Kd.Q_drew)); exact Kd.Q_mono (qT HO214 BK199) (fun _ hk => trivial), iS85 HI0.out, wS85 HB.out, kB HK.out⟩
end Go.Proofs.Yteeeedmmcdlhjaa.P
