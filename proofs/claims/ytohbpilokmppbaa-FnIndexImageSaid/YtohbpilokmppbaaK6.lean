/- Contracts and row, written by a program of this place out of the translation: the call answers true and its argument reads as before, for every input; no condition. -/
import Derived.Test.YtohbpilokmppbaaK0
import Derived.Test.YtohbpilokmppbaaK4
import Derived.Test.YtohbpilokmppbaaK5
namespace Go.Proofs.Ytohbpilokmppbaa.P
open Go.RowKit Go.Proofs.YtohbpilokmppbaaW.PrintWords Go.Proofs.YtohbpilokmppbaaW.PrintLast Go.Proofs.YtohbpilokmppbaaW.PrintMore
attribute [local go_sem] max2_int min2_int max_two min_two max_three min_three max_four min_four   -- for this text's walks alone
set_option linter.unusedVariables false
set_option linter.unusedSimpArgs false
def spec_reader_pick.j0 : Nat → Int → Bool → List Int → Int → Option (Int × Int)
 | 0, _, _, _, _ => none
 | k + 1, x1, x24, x1000, x1001 => if x24 = true then (some (0, x1001)) else (if (wrap64 (x1001 - 1)) < (x1000.length : Int) then (if 0 ≤ (wrap64 (x1001 - 1)) then (if x1 = 0 then (none) else (some (Int.tmod (wrap64 (rd x1000 (wrap64 (x1001 - 1)))) x1, x1001))) else (none)) else (if (x1000.length : Int) = 0 then (none) else (if 0 ≤ (Int.tmod (wrap64 (x1001 - 1)) (x1000.length : Int)) then (if (Int.tmod (wrap64 (x1001 - 1)) (x1000.length : Int)) < (x1000.length : Int) then (if 0 ≤ (Int.tmod (wrap64 ((wrap64 ((wrap64 (x1001 - 1)) * 7)) + 3)) (x1000.length : Int)) then (if (Int.tmod (wrap64 ((wrap64 ((wrap64 (x1001 - 1)) * 7)) + 3)) (x1000.length : Int)) < (x1000.length : Int) then (if x1 = 0 then (none) else (some (Int.tmod (Go.bits .xor .i64 (wrap64 ((wrap64 ((wrap64 ((wrap64 ((wrap64 (rd x1000 (Int.tmod (wrap64 (x1001 - 1)) (x1000.length : Int)))) * 131)) + (wrap64 ((wrap64 (rd x1000 (Int.tmod (wrap64 ((wrap64 ((wrap64 (x1001 - 1)) * 7)) + 3)) (x1000.length : Int)))) * 1117)))) + (wrap64 ((wrap64 (x1001 - 1)) * 29)))) + (wrap64 ((wrap64 (Int.tdiv (wrap64 (x1001 - 1)) (x1000.length : Int))) * 53)))) (wrap64 (Int.tdiv (wrap64 ((wrap64 ((wrap64 ((wrap64 ((wrap64 (rd x1000 (Int.tmod (wrap64 (x1001 - 1)) (x1000.length : Int)))) * 131)) + (wrap64 ((wrap64 (rd x1000 (Int.tmod (wrap64 ((wrap64 ((wrap64 (x1001 - 1)) * 7)) + 3)) (x1000.length : Int)))) * 1117)))) + (wrap64 ((wrap64 (x1001 - 1)) * 29)))) + (wrap64 ((wrap64 (Int.tdiv (wrap64 (x1001 - 1)) (x1000.length : Int))) * 53)))) 64))) x1, x1001))) else (none)) else (none)) else (none)) else (none))))
def spec_reader_pick.f (k : Nat) (s0_0 : List Int) (s0_1 : Int) (a1 : Int) : Option (Int × Int) := if a1 < 1 then (spec_reader_pick.j0 k a1 true s0_0 (wrap64 (s0_1 + 1))) else (spec_reader_pick.j0 k a1 ((s0_0.length : Int) == 0) s0_0 (wrap64 (s0_1 + 1)))
theorem spec_reader_pick.mono_l : ∀ k, (∀ y0 y1 y2 y3, LeO (spec_reader_pick.j0 k y0 y1 y2 y3) (spec_reader_pick.j0 (k + 1) y0 y1 y2 y3))
 | 0 => fun _ _ _ _ r h => by simp [spec_reader_pick.j0] at h
 | k + 1 => by
  have ih0 := spec_reader_pick.mono_l k
  ·intro y0 y1 y2 y3
   unfold spec_reader_pick.j0
   repeat' first | (with_reducible first | exact ih0 _ _ _ _ | exact lR | exact lN | refine lI ?_ ?_ | refine lB ?_ fun _ => ?_) | exact ih0 _ _ _ _ | exact lN | refine lI ?_ ?_ | refine lB ?_ fun _ => ?_
theorem spec_reader_pick.mono : ∀ a0 a1 a2 k, LeO (spec_reader_pick.f k a0 a1 a2) (spec_reader_pick.f (k + 1) a0 a1 a2) := by
 intro a0 a1 a2 k
 have ih0 := spec_reader_pick.mono_l k
 unfold spec_reader_pick.f
 repeat' first | (with_reducible first | exact ih0 _ _ _ _ | exact lR | exact lN | refine lI ?_ ?_ | refine lB ?_ fun _ => ?_) | exact ih0 _ _ _ _ | exact lN | refine lI ?_ ?_ | refine lB ?_ fun _ => ?_
set_option maxHeartbeats 8000000 in
set_option maxRecDepth 100000 in
theorem spec_reader_pick.calls (k : Nat) (g : Nat) (s0_0 : List Int) (s0_1 : Int) (a1 : Int) (r1 : Int) (r2 : Int) (w0 w : World) (hI : IsS83 w0 w g s0_0 s0_1) (hB : Below w0.heap.size w0 w) (h : spec_reader_pick.f k s0_0 s0_1 a1 = some (r1, r2)) :
  Calls Try.prog 66 #[.pointer (some ⟨g, 0, none⟩), .int .i64 a1] w fun e w' => e = .returned (.int .i64 r1) ∧ IsS83 w0 w' g s0_0 r2 ∧ Below w0.heap.size w0 w' ∧ KeepBut w w' g none := by
 have HI0 := aM hI
 have HK := aM (KeepBut.refl w g none)
 have HL := aM hB.size
 clear hI
 have HW0 := aM hB.size
 have HB := aM hB
 clear hB
 unfold spec_reader_pick.f at h
 have H := h
 clear h
 have HC3 := aM H
 clear H
 obtain ⟨ASz4_0, cSz4_0, HGz4, hgz4, HSz4_0⟩ := HI0.out
 have hcz4_0 := cellS83_0 HGz4
 have hcz4_1 := cellS83_1 HGz4
 have hfz4_1 := blk_frozen HGz4 1
 clear HGz4 hgz4
 go_enter Try.func66, Try.ntmps66
 go_upto_region 2 with (fail)
 repeat (go_quiet (fail); go_upto_region 2 with (fail))
 go_cut [24] (fun v24 wc => ∃ (kq : Nat) (x24_2 : Bool), v24 = .bool x24_2 ∧ Aside0 (spec_reader_pick.j0 kq a1 x24_2 s0_0 (wrap64 (s0_1 + 1)) = some (r1, r2)) ∧ Aside0 (kq ≤ k) ∧ Aside0 (IsS83 w0 wc g s0_0 (wrap64 (s0_1 + 1))) ∧ Aside0 (KeepBut w wc g none) ∧ Aside0 (Below w0.heap.size w0 wc))
 case first =>
  have H := HC3.out
  clear HC3
  by_cases c5 : a1 < 1
  ·rw [if_pos c5] at H
   have c5b0 : decide (a1 < 1) = true := decide_eq_true c5
   clear c5
   (first | rw [c5b0] | (simp only [i64_w, i32_w]; rw [c5b0]) | skip)
   have H' := aM H
   clear H
   go_wp2
   repeat (go_quiet (fail); try go_wp2)
   go_meet
   case rel => exact ⟨_, (true), qE, H', ⟨by first | omega | exact Nat.le_refl _⟩, ⟨iS83 HI0.out⟩, ⟨kB HK.out⟩, ⟨wS83 HB.out⟩⟩
  rw [if_neg c5] at H
  have c5b0 : decide (a1 < 1) = false := decide_eq_false c5
  clear c5
  (first | rw [c5b0] | (simp only [i64_w, i32_w]; rw [c5b0]) | skip)
  have H' := aM H
  clear H
  obtain ⟨ASz6_0, cSz6_0, HGz6, hgz6, HSz6_0⟩ := HI0.out
  have hcz6_0 := cellS83_0 HGz6
  have hcz6_1 := cellS83_1 HGz6
  have hfz6_1 := blk_frozen HGz6 1
  clear HGz6 hgz6
  go_wp2
  repeat (go_quiet (fail); try go_wp2)
  go_meet
  case rel => exact ⟨_, (((s0_0.length : Int) == 0)), qE, H', ⟨by first | omega | exact Nat.le_refl _⟩, ⟨iS83 HI0.out⟩, ⟨kB HK.out⟩, ⟨wS83 HB.out⟩⟩
 case rest =>
  clear HC3
  try clear c5
  try clear c5b0
  try clear hcz4_0 hcz4_1 hfz4_1
  try clear hcz6_0 hcz6_1 hfz6_1
  obtain ⟨kq, x24_2, rfl, HA, HJ2, HI0, HK, HB⟩ := hcut
  cases kq with
  | zero => exact absurd HA.out (by simp [spec_reader_pick.j0])
  | succ kj2 =>
   have H := HA.out
   clear HA
   simp only [spec_reader_pick.j0] at H
   by_cases c7 : x24_2 = true
   ·subst c7
    have H1 : (some (0, (wrap64 (s0_1 + 1)))) = some (r1, r2) := by rw [if_pos rfl] at H; exact H
    clear H
    have H := H1
    clear H1
    simp only [Option.some.injEq, Prod.mk.injEq] at H
    obtain ⟨rfl, rfl⟩ := H
    go_wp2
    repeat (go_quiet (fail); try go_wp2)
    go_ret
    exact ⟨qX, iS83 HI0.out, wS83 HB.out, kB HK.out⟩
   replace c7 := Bool.eq_false_iff.mpr c7
   subst c7
   have H1 : (if (wrap64 ((wrap64 (s0_1 + 1)) - 1)) < (s0_0.length : Int) then (if 0 ≤ (wrap64 ((wrap64 (s0_1 + 1)) - 1)) then (if a1 = 0 then (none) else (some (Int.tmod (wrap64 (rd s0_0 (wrap64 ((wrap64 (s0_1 + 1)) - 1)))) a1, (wrap64 (s0_1 + 1))))) else (none)) else (if (s0_0.length : Int) = 0 then (none) else (if 0 ≤ (Int.tmod (wrap64 ((wrap64 (s0_1 + 1)) - 1)) (s0_0.length : Int)) then (if (Int.tmod (wrap64 ((wrap64 (s0_1 + 1)) - 1)) (s0_0.length : Int)) < (s0_0.length : Int) then (if 0 ≤ (Int.tmod (wrap64 ((wrap64 ((wrap64 ((wrap64 (s0_1 + 1)) - 1)) * 7)) + 3)) (s0_0.length : Int)) then (if (Int.tmod (wrap64 ((wrap64 ((wrap64 ((wrap64 (s0_1 + 1)) - 1)) * 7)) + 3)) (s0_0.length : Int)) < (s0_0.length : Int) then (if a1 = 0 then (none) else (some (Int.tmod (Go.bits .xor .i64 (wrap64 ((wrap64 ((wrap64 ((wrap64 ((wrap64 (rd s0_0 (Int.tmod (wrap64 ((wrap64 (s0_1 + 1)) - 1)) (s0_0.length : Int)))) * 131)) + (wrap64 ((wrap64 (rd s0_0 (Int.tmod (wrap64 ((wrap64 ((wrap64 ((wrap64 (s0_1 + 1)) - 1)) * 7)) + 3)) (s0_0.length : Int)))) * 1117)))) + (wrap64 ((wrap64 ((wrap64 (s0_1 + 1)) - 1)) * 29)))) + (wrap64 ((wrap64 (Int.tdiv (wrap64 ((wrap64 (s0_1 + 1)) - 1)) (s0_0.length : Int))) * 53)))) (wrap64 (Int.tdiv (wrap64 ((wrap64 ((wrap64 ((wrap64 ((wrap64 (rd s0_0 (Int.tmod (wrap64 ((wrap64 (s0_1 + 1)) - 1)) (s0_0.length : Int)))) * 131)) + (wrap64 ((wrap64 (rd s0_0 (Int.tmod (wrap64 ((wrap64 ((wrap64 ((wrap64 (s0_1 + 1)) - 1)) * 7)) + 3)) (s0_0.length : Int)))) * 1117)))) + (wrap64 ((wrap64 ((wrap64 (s0_1 + 1)) - 1)) * 29)))) + (wrap64 ((wrap64 (Int.tdiv (wrap64 ((wrap64 (s0_1 + 1)) - 1)) (s0_0.length : Int))) * 53)))) 64))) a1, (wrap64 (s0_1 + 1))))) else (none)) else (none)) else (none)) else (none)))) = some (r1, r2) := by rw [if_neg (show ¬ (false = true) by decide)] at H; exact H
   clear H
   have H := H1
   clear H1
   by_cases c8 : (wrap64 ((wrap64 (s0_1 + 1)) - 1)) < (s0_0.length : Int)
   ·rw [if_pos c8] at H
    have c8b0 : decide ((wrap64 ((wrap64 (s0_1 + 1)) - 1)) < (s0_0.length : Int)) = true := decide_eq_true c8
    clear c8
    obtain ⟨ji9, hji9⟩ : ∃ j_ : Int, (wrap64 ((wrap64 (s0_1 + 1)) - 1)) = j_ := ⟨_, rfl⟩
    replace H : (if 0 ≤ (ji9) then (if a1 = 0 then (none) else (some (Int.tmod (wrap64 (rd s0_0 (ji9))) a1, (wrap64 (s0_1 + 1))))) else (none)) = some (r1, r2) := by first | (rw [hji9] at H; exact H) | (simp only [hji9] at H ⊢; exact H)
    (try rw [hji9] at c8b0)
    have hji9w : (IntKind.i64.wrap ((wrap64 (s0_1 + 1)) - 1)) = ji9 := (i64_w _).trans hji9
    replace H := iD H
    obtain ⟨c10b0, H⟩ := H
    by_cases c11 : a1 = 0
    ·rw [if_pos c11] at H
     exact absurd H (by simp)
    rw [if_neg c11] at H
    have c11b0 : (a1 == 0) = false := beq_eq_false_iff_ne.mpr c11
    have c11b1 : (a1 != 0) = true := bne_iff_ne.mpr c11
    simp only [Option.some.injEq, Prod.mk.injEq] at H
    obtain ⟨rfl, rfl⟩ := H
    obtain ⟨ASz12_0, cSz12_0, HGz12, hgz12, HSz12_0⟩ := HI0.out
    have hcz12_0 := cellS83_0 HGz12
    have hcz12_1 := cellS83_1 HGz12
    have hfz12_1 := blk_frozen HGz12 1
    clear HGz12 hgz12
    obtain ⟨ad223, e223, hx223_0⟩ := Kd.at_int HSz12_0 (ji9) oD oD
    cases e223
    replace hx223_0 := pw_cell_below HB.out hx223_0
    have p223 := eq_true (oD : 0 ≤ ((ji9) : Int))
    have q223 := eq_true (oD : (ji9) < (s0_0.length : Int))
    go_wp2
    repeat (go_quiet (fail); try go_wp2)
    go_ret
    exact ⟨by first | rfl | (simp [errW_none, errW_some] <;> rfl) | (simp only [← hji9]; first | rfl | (simp [errW_none, errW_some] <;> rfl)) | (simp [*, errW_none, errW_some] <;> rfl), iS83 HI0.out, wS83 HB.out, kB HK.out⟩
   rw [if_neg c8] at H
   have c8b0 : decide ((wrap64 ((wrap64 (s0_1 + 1)) - 1)) < (s0_0.length : Int)) = false := decide_eq_false c8
   clear c8
   by_cases c13 : (s0_0.length : Int) = 0
   ·rw [if_pos c13] at H
    exact absurd H (by simp)
   rw [if_neg c13] at H
   have c13b0 : ((s0_0.length : Int) == 0) = false := beq_eq_false_iff_ne.mpr c13
   have c13b1 : ((s0_0.length : Int) != 0) = true := bne_iff_ne.mpr c13
   have c13b2 : ¬ (s0_0 = []) := fun h_ => c13 (by rw [h_]; rfl)
   obtain ⟨ji14, hji14⟩ : ∃ j_ : Int, (Int.tmod (wrap64 ((wrap64 (s0_1 + 1)) - 1)) (s0_0.length : Int)) = j_ := ⟨_, rfl⟩
   replace H : (if 0 ≤ (ji14) then (if (ji14) < (s0_0.length : Int) then (if 0 ≤ (Int.tmod (wrap64 ((wrap64 ((wrap64 ((wrap64 (s0_1 + 1)) - 1)) * 7)) + 3)) (s0_0.length : Int)) then (if (Int.tmod (wrap64 ((wrap64 ((wrap64 ((wrap64 (s0_1 + 1)) - 1)) * 7)) + 3)) (s0_0.length : Int)) < (s0_0.length : Int) then (if a1 = 0 then (none) else (some (Int.tmod (Go.bits .xor .i64 (wrap64 ((wrap64 ((wrap64 ((wrap64 ((wrap64 (rd s0_0 (ji14))) * 131)) + (wrap64 ((wrap64 (rd s0_0 (Int.tmod (wrap64 ((wrap64 ((wrap64 ((wrap64 (s0_1 + 1)) - 1)) * 7)) + 3)) (s0_0.length : Int)))) * 1117)))) + (wrap64 ((wrap64 ((wrap64 (s0_1 + 1)) - 1)) * 29)))) + (wrap64 ((wrap64 (Int.tdiv (wrap64 ((wrap64 (s0_1 + 1)) - 1)) (s0_0.length : Int))) * 53)))) (wrap64 (Int.tdiv (wrap64 ((wrap64 ((wrap64 ((wrap64 ((wrap64 (rd s0_0 (ji14))) * 131)) + (wrap64 ((wrap64 (rd s0_0 (Int.tmod (wrap64 ((wrap64 ((wrap64 ((wrap64 (s0_1 + 1)) - 1)) * 7)) + 3)) (s0_0.length : Int)))) * 1117)))) + (wrap64 ((wrap64 ((wrap64 (s0_1 + 1)) - 1)) * 29)))) + (wrap64 ((wrap64 (Int.tdiv (wrap64 ((wrap64 (s0_1 + 1)) - 1)) (s0_0.length : Int))) * 53)))) 64))) a1, (wrap64 (s0_1 + 1))))) else (none)) else (none)) else (none)) else (none)) = some (r1, r2) := by first | (rw [hji14] at H; exact H) | (simp only [hji14] at H ⊢; exact H)
   replace H := iD H
   obtain ⟨c15b0, H⟩ := H
   replace H := iD H
   obtain ⟨c16b0, H⟩ := H
   obtain ⟨ji17, hji17⟩ : ∃ j_ : Int, (Int.tmod (wrap64 ((wrap64 ((wrap64 ((wrap64 (s0_1 + 1)) - 1)) * 7)) + 3)) (s0_0.length : Int)) = j_ := ⟨_, rfl⟩
   replace H : (if 0 ≤ (ji17) then (if (ji17) < (s0_0.length : Int) then (if a1 = 0 then (none) else (some (Int.tmod (Go.bits .xor .i64 (wrap64 ((wrap64 ((wrap64 ((wrap64 ((wrap64 (rd s0_0 (ji14))) * 131)) + (wrap64 ((wrap64 (rd s0_0 (ji17))) * 1117)))) + (wrap64 ((wrap64 ((wrap64 (s0_1 + 1)) - 1)) * 29)))) + (wrap64 ((wrap64 (Int.tdiv (wrap64 ((wrap64 (s0_1 + 1)) - 1)) (s0_0.length : Int))) * 53)))) (wrap64 (Int.tdiv (wrap64 ((wrap64 ((wrap64 ((wrap64 ((wrap64 (rd s0_0 (ji14))) * 131)) + (wrap64 ((wrap64 (rd s0_0 (ji17))) * 1117)))) + (wrap64 ((wrap64 ((wrap64 (s0_1 + 1)) - 1)) * 29)))) + (wrap64 ((wrap64 (Int.tdiv (wrap64 ((wrap64 (s0_1 + 1)) - 1)) (s0_0.length : Int))) * 53)))) 64))) a1, (wrap64 (s0_1 + 1))))) else (none)) else (none)) = some (r1, r2) := by first | (rw [hji17] at H; exact H) | (simp only [hji17] at H ⊢; exact H)
   replace H := iD H
   obtain ⟨c18b0, H⟩ := H
   replace H := iD H
   obtain ⟨c19b0, H⟩ := H
   by_cases c20 : a1 = 0
   ·rw [if_pos c20] at H
    exact absurd H (by simp)
   rw [if_neg c20] at H
   have c20b0 : (a1 == 0) = false := beq_eq_false_iff_ne.mpr c20
   have c20b1 : (a1 != 0) = true := bne_iff_ne.mpr c20
   simp only [Option.some.injEq, Prod.mk.injEq] at H
   obtain ⟨rfl, rfl⟩ := H
   obtain ⟨ASz21_0, cSz21_0, HGz21, hgz21, HSz21_0⟩ := HI0.out
   have hcz21_0 := cellS83_0 HGz21
   have hcz21_1 := cellS83_1 HGz21
   have hfz21_1 := blk_frozen HGz21 1
   clear HGz21 hgz21
   obtain ⟨ad224, e224, hx224_0⟩ := Kd.at_int HSz21_0 (ji14) oD oD
   cases e224
   replace hx224_0 := pw_cell_below HB.out hx224_0
   have p224 := eq_true (oD : 0 ≤ ((ji14) : Int))
   have q224 := eq_true (oD : (ji14) < (s0_0.length : Int))
   obtain ⟨ad225, e225, hx225_0⟩ := Kd.at_int HSz21_0 (ji17) oD oD
   obtain rfl : ad224 = ad225 := (by injection e225)
   replace hx225_0 := pw_cell_below HB.out hx225_0
   have p225 := eq_true (oD : 0 ≤ ((ji17) : Int))
   have q225 := eq_true (oD : (ji17) < (s0_0.length : Int))
   go_wp2
   repeat (go_quiet (fail); try go_wp2)
   go_ret
   exact ⟨by first | rfl | (simp [errW_none, errW_some] <;> rfl) | (simp only [← hji14, ← hji17]; first | rfl | (simp [errW_none, errW_some] <;> rfl)) | (simp [*, errW_none, errW_some] <;> rfl), iS83 HI0.out, wS83 HB.out, kB HK.out⟩
def spec_reader_one.f (k : Nat) (s0_0 : List Int) (s0_1 : Int) (l1 : List Int) : Option (Int × Int) := (spec_reader_pick.f k s0_0 s0_1 (l1.length : Int)).bind fun bt226 => (if 0 ≤ bt226.1 then (if bt226.1 < (l1.length : Int) then (some (rd l1 bt226.1, bt226.2)) else (none)) else (none))
theorem spec_reader_one.mono : ∀ a0 a1 a2 k, LeO (spec_reader_one.f k a0 a1 a2) (spec_reader_one.f (k + 1) a0 a1 a2) := by
 intro a0 a1 a2 k
 unfold spec_reader_one.f
 repeat' first | (with_reducible first | exact spec_reader_pick.mono _ _ _ _ | exact lR | exact lN | refine lI ?_ ?_ | refine lB ?_ fun _ => ?_) | exact spec_reader_pick.mono _ _ _ _ | exact lN | refine lI ?_ ?_ | refine lB ?_ fun _ => ?_
set_option maxHeartbeats 8000000 in
set_option maxRecDepth 100000 in
theorem spec_reader_one.calls (k : Nat) (g : Nat) (s0_0 : List Int) (s0_1 : Int) (A1 : Option Addr) (c1 : Nat) (l1 : List Int) (r1 : Int) (r2 : Int) (w0 w : World) (hI : IsS83 w0 w g s0_0 s0_1) (hB : Below w0.heap.size w0 w) (hr1 : Kd.C (Kd.int .i64) w A1 l1.length l1) (hc1 : l1.length ≤ c1) (hf1 : ∀ ad, A1 = some ad → 0 < l1.length → ad.block ≠ g) (h : spec_reader_one.f k s0_0 s0_1 l1 = some (r1, r2)) :
  Calls Try.prog 74 #[.pointer (some ⟨g, 0, none⟩), .slice A1 l1.length c1] w fun e w' => e = .returned (.int .i64 r1) ∧ IsS83 w0 w' g s0_0 r2 ∧ Below w0.heap.size w0 w' ∧ KeepBut w w' g none := by
 have HR1 := aM hr1
 have HC1 := aM hc1
 clear hr1 hc1
 have HI0 := aM hI
 have HK := aM (KeepBut.refl w g none)
 have HL := aM hB.size
 clear hI
 have HW0 := aM hB.size
 have HB := aM hB
 clear hB
 unfold spec_reader_one.f at h
 have H := h
 clear h
 replace H := Option.bind_eq_some_iff.mp H
 obtain ⟨⟨t226, t227⟩, A30, H⟩ := H
 replace H : (if 0 ≤ t226 then (if t226 < (l1.length : Int) then (some (rd l1 t226, t227)) else (none)) else (none)) = some (r1, r2) := H
 have A3 := aM A30
 clear A30
 replace H := iD H
 obtain ⟨c4b0, H⟩ := H
 replace H := iD H
 obtain ⟨c5b0, H⟩ := H
 simp only [Option.some.injEq, Prod.mk.injEq] at H
 obtain ⟨rfl, rfl⟩ := H
 go_enter Try.func74, Try.ntmps74
 go_wp2_with (first | ((with_reducible refine gate_callee (f := 66) rfl ?_); refine gL (some 9) Try.func66 #[.pointer (some ⟨g, 0, none⟩), .int .i64 (l1.length : Int)] ?_; (with_reducible refine (spec_reader_pick.calls k g s0_0 s0_1 (l1.length : Int) t226 t227 w0 _ ?side1 ?side2 A3.out).mono ?_); (case side1 => exact iS83 HI0.out); (case side2 => exact wS83 HB.out); rintro e w6 ⟨rfl, hi, hb, hk⟩; refine ⟨_, rfl, ?_⟩; replace HK := aM (KeepBut.trans (kB HK.out) hk (.inl rfl)); replace HB := aM (hb); replace HI0 := aM (hi); clear hb hk hi; have p228 : 0 ≤ (t226 : Int) := oD; have q228 : t226 < (l1.length : Int) := oD; obtain ⟨ad228, e228, hx228_0⟩ := Kd.at_int HR1.out t226 p228 q228; cases e228; replace hx228_0 := keep_cell HK.out hx228_0 (by first | (rw [add_block]; exact hf1 _ rfl (by omega)) | exact hf1 _ rfl (by omega) | exact hf1 ad228 rfl (by omega)); replace p228 := eq_true p228; replace q228 := eq_true q228))
 go_ret
 exact ⟨qX, iS83 HI0.out, wS83 HB.out, kB HK.out⟩
def spec_newReader.f (l0 : List Int) : Option (List Int × Int) := if (l0.length : Int) > 2000 then (if 2000 ≤ (l0.length : Int) then (some (l0.take 2000, 0)) else (none)) else (some (l0, 0))
set_option maxHeartbeats 8000000 in
set_option maxRecDepth 100000 in
theorem spec_newReader.calls (A0 : Option Addr) (c0 : Nat) (l0 : List Int) (r1 : List Int) (r2 : Int) (w0 w : World) (hB : Below w0.heap.size w0 w) (hr0 : Kd.C (Kd.int .u8) w0 A0 l0.length l0) (hc0 : l0.length ≤ c0) (h : spec_newReader.f l0 = some (r1, r2)) :
  Calls Try.prog 52 #[.slice A0 l0.length c0] w fun e w' => ∃ g_ : Nat, e = .returned (.pointer (some ⟨g_, 0, none⟩)) ∧ IsS83 w0 w' g_ r1 r2 ∧ Below w0.heap.size w0 w' ∧ Below w.heap.size w w' := by
 have hu83 := Try.underlying83
 have HR0 := aM hr0
 have HC0 := aM hc0
 clear hr0 hc0
 have HBW := aM (Below.refl w.heap.size w)
 have HW0 := aM hB.size
 have HB := aM hB
 clear hB
 unfold spec_newReader.f at h
 have H := h
 clear h
 by_cases c2 : (l0.length : Int) > 2000
 rotate_left
 ·rw [if_neg c2] at H
  have c2b0 : decide (2000 < (l0.length : Int)) = false := decide_eq_false c2
  have c2b1 : decide (2000 < l0.length) = false := decide_eq_false (by omega)
  clear c2
  simp only [Option.some.injEq, Prod.mk.injEq] at H
  obtain ⟨rfl, rfl⟩ := H
  go_enter Try.func52, Try.ntmps52
  go_wp2_with (first | ((with_reducible refine gate_dst (N := 10) rfl ?_); refine bxE (N := 10) (cs := #[.slice A0 l0.length c0, .int .i64 0]) (t := 83) ?_; intro gb312 hg w6 hbox hb; replace HB := bS HB hb; have BK312 := aM (hbox); have GW312 := aM ((by rw [hg]; exact (below_size (qW HBW.out)) : w.heap.size ≤ gb312)); have GE312 := aM ((Nat.le_trans HW0.out (by rw [hg]; exact (below_size (qW HBW.out)) : w.heap.size ≤ gb312) : w0.heap.size ≤ gb312)); replace HBW := aM (below_step HBW.out hb); clear hb hbox hg))
  go_ret
  exact ⟨_, rfl, (show IsS83 w0 _ gb312 l0 0 from ⟨_, _, by refine qB ?_; exact BK312.out, GE312.out, HR0.out⟩), by exact qW HB.out, by exact qW HBW.out⟩
 rw [if_pos c2] at H
 have c2b0 : decide (2000 < (l0.length : Int)) = true := decide_eq_true c2
 have c2b1 : decide (2000 < l0.length) = true := decide_eq_true (by omega)
 clear c2
 replace H := iS H
 obtain ⟨c3, H⟩ := H
 have c3b0 := eq_true c3
 have c3b1 : decide (2000 ≤ (l0.length : Int)) = true := decide_eq_true c3
 clear c3
 simp only [Option.some.injEq, Prod.mk.injEq] at H
 obtain ⟨rfl, rfl⟩ := H
 obtain ⟨i04, hi04, _, hsz4, _⟩ := info_parts info5
 obtain ⟨hcut4, hA4, hC4⟩ := print_take_of (P := Try.prog) (Value.int .u8) 0 36 5 .i64 Try.underlying36 hi04 hsz4 A0 c0 l0 2000 (by omega) oD HC0.out
 have HR310 := aM (Kd.C_of_reads (h1 := fun _ => rfl) (hA4 _ (Kd.reads_of_C HR0.out)))
 have HC310 := aM hC4
 clear hA4 hC4 hi04 hsz4
 go_enter Try.func52, Try.ntmps52
 go_wp2_with (first | ((with_reducible refine gate_dst (N := 10) rfl ?_); refine bxE (N := 10) (cs := #[.slice A0 (l0.take 2000).length c0, .int .i64 0]) (t := 83) ?_; intro gb311 hg w5 hbox hb; replace HB := bS HB hb; have BK311 := aM (hbox); have GW311 := aM ((by rw [hg]; exact (below_size (qW HBW.out)) : w.heap.size ≤ gb311)); have GE311 := aM ((Nat.le_trans HW0.out (by rw [hg]; exact (below_size (qW HBW.out)) : w.heap.size ≤ gb311) : w0.heap.size ≤ gb311)); replace HBW := aM (below_step HBW.out hb); clear hb hbox hg))
 go_ret
 exact ⟨_, rfl, (show IsS83 w0 _ gb311 (l0.take 2000) 0 from ⟨_, _, by refine qB ?_; exact BK311.out, GE311.out, HR310.out⟩), by exact qW HB.out, by exact qW HBW.out⟩
def spec_reader_spoil.f (k : Nat) (s0_0 : List Int) (s0_1 : Int) (l1 : List Int) (a2 : Int) : Option (List Int × Int) := (spec_copyInts.f l1).bind fun t489 => ((spec_reader_pick.f k s0_0 s0_1 20).bind fun bt492 => (if bt492.1 = 0 then (if t489.length < 17592186044416 then (some ((t489 ++ [a2]), bt492.2)) else (none)) else (if bt492.1 = 1 then (if (t489.length : Int) > 0 then (if 1 ≤ (t489.length : Int) then (some ((t489.drop (1 : Int).toNat), bt492.2)) else (none)) else (some (t489, bt492.2))) else (if bt492.1 = 2 then (if (t489.length : Int) > 0 then ((spec_reader_pick.f k s0_0 bt492.2 (t489.length : Int)).bind fun bt500 => ((spec_reader_one.f k s0_0 bt500.2 (([(-1), a2, 0, 1] : List Int))).bind fun bt505 => (if 0 ≤ bt500.1 then (if bt500.1 < (t489.length : Int) then (some ((t489.set (bt500.1 : Int).toNat bt505.1), bt505.2)) else (none)) else (none)))) else (some (t489, bt492.2))) else (some (t489, bt492.2))))))
theorem spec_reader_spoil.mono : ∀ a0 a1 a2 a3 k, LeO (spec_reader_spoil.f k a0 a1 a2 a3) (spec_reader_spoil.f (k + 1) a0 a1 a2 a3) := by
 intro a0 a1 a2 a3 k
 unfold spec_reader_spoil.f
 repeat' first | (with_reducible first | exact spec_reader_one.mono _ _ _ _ | exact spec_reader_pick.mono _ _ _ _ | exact lR | exact lN | refine lI ?_ ?_ | refine lB ?_ fun _ => ?_) | exact spec_reader_one.mono _ _ _ _ | exact spec_reader_pick.mono _ _ _ _ | exact lN | refine lI ?_ ?_ | refine lB ?_ fun _ => ?_
set_option maxHeartbeats 8000000 in
set_option maxRecDepth 100000 in
theorem spec_reader_spoil.calls (k : Nat) (g : Nat) (s0_0 : List Int) (s0_1 : Int) (A1 : Option Addr) (c1 : Nat) (l1 : List Int) (a2 : Int) (r1 : List Int) (r2 : Int) (w0 w : World) (hI : IsS83 w0 w g s0_0 s0_1) (hB : Below w0.heap.size w0 w) (hr1 : Kd.C (Kd.int .i64) w A1 l1.length l1) (hc1 : l1.length ≤ c1) (hf1 : ∀ ad, A1 = some ad → 0 < l1.length → ad.block ≠ g) (h : spec_reader_spoil.f k s0_0 s0_1 l1 a2 = some (r1, r2)) :
  Calls Try.prog 92 #[.pointer (some ⟨g, 0, none⟩), .slice A1 l1.length c1, .int .i64 a2] w fun e w' => ∃ v0_ : Value, e = .returned (v0_) ∧ Kd.Q (Kd.int .i64) 3 w' w.heap.size (fun _ => True) v0_ r1 ∧ IsS83 w0 w' g s0_0 r2 ∧ Below w0.heap.size w0 w' ∧ KeepBut w w' g none := by
 have HR1 := aM hr1
 have HC1 := aM hc1
 clear hr1 hc1
 have HI0 := aM hI
 have HK := aM (KeepBut.refl w g none)
 have HL := aM hB.size
 clear hI
 have HW0 := aM hB.size
 have HB := aM hB
 clear hB
 unfold spec_reader_spoil.f at h
 have H := h
 clear h
 replace H := Option.bind_eq_some_iff.mp H
 obtain ⟨t489, A40, H⟩ := H
 replace H : ((spec_reader_pick.f k s0_0 s0_1 20).bind fun bt492 => (if bt492.1 = 0 then (if t489.length < 17592186044416 then (some ((t489 ++ [a2]), bt492.2)) else (none)) else (if bt492.1 = 1 then (if (t489.length : Int) > 0 then (if 1 ≤ (t489.length : Int) then (some ((t489.drop (1 : Int).toNat), bt492.2)) else (none)) else (some (t489, bt492.2))) else (if bt492.1 = 2 then (if (t489.length : Int) > 0 then ((spec_reader_pick.f k s0_0 bt492.2 (t489.length : Int)).bind fun bt500 => ((spec_reader_one.f k s0_0 bt500.2 (([(-1), a2, 0, 1] : List Int))).bind fun bt505 => (if 0 ≤ bt500.1 then (if bt500.1 < (t489.length : Int) then (some ((t489.set (bt500.1 : Int).toNat bt505.1), bt505.2)) else (none)) else (none)))) else (some (t489, bt492.2))) else (some (t489, bt492.2)))))) = some (r1, r2) := H
 have A4 := aM A40
 clear A40
 replace H := Option.bind_eq_some_iff.mp H
 obtain ⟨⟨t492, t493⟩, A50, H⟩ := H
 replace H : (if t492 = 0 then (if t489.length < 17592186044416 then (some ((t489 ++ [a2]), t493)) else (none)) else (if t492 = 1 then (if (t489.length : Int) > 0 then (if 1 ≤ (t489.length : Int) then (some ((t489.drop (1 : Int).toNat), t493)) else (none)) else (some (t489, t493))) else (if t492 = 2 then (if (t489.length : Int) > 0 then ((spec_reader_pick.f k s0_0 t493 (t489.length : Int)).bind fun bt500 => ((spec_reader_one.f k s0_0 bt500.2 (([(-1), a2, 0, 1] : List Int))).bind fun bt505 => (if 0 ≤ bt500.1 then (if bt500.1 < (t489.length : Int) then (some ((t489.set (bt500.1 : Int).toNat bt505.1), bt505.2)) else (none)) else (none)))) else (some (t489, t493))) else (some (t489, t493))))) = some (r1, r2) := H
 have A5 := aM A50
 clear A50
 by_cases c6 : t492 = 0
 ·rw [if_pos c6] at H
  have c6b0 : (t492 == 0) = true := beq_iff_eq.mpr c6
  have c6b1 : (t492 != 0) = false := bne_eq_false_iff_eq.mpr c6
  clear c6
  replace H := iS H
  obtain ⟨c7, H⟩ := H
  have LMc7 := aM c7
  clear c7
  obtain ⟨y494, hy494⟩ : ∃ y_ : List Int, y_ = (t489 ++ [a2]) := ⟨_, rfl⟩
  replace H : (some (y494, t493)) = some (r1, r2) := rY hy494 H
  have Ny494 := aM hy494
  clear hy494
  simp only [Option.some.injEq, Prod.mk.injEq] at H
  obtain ⟨rfl, rfl⟩ := H
  go_enter Try.func92, Try.ntmps92
  go_wp2_with (first | ((with_reducible refine gate_callee (f := 76) rfl ?_); refine gL (some 9) Try.func76 #[.slice A1 l1.length c1] ?_; (with_reducible refine (spec_copyInts.calls _ _ l1 t489 _ ?side1 ?side2 A4.out).mono ?_); (case side1 => exact Kd.C_keep 0 HR1.out (kB HK.out) hf1); (case side2 => exact HC1.out); rintro e w8 ⟨v490, rfl, ho0, hb⟩; refine ⟨_, rfl, ?_⟩; have HO491 := lK ho0 HK; replace HK := aM (KeepBut.trans (kB HK.out) (KeepBut.of_below hb g none) (.inl rfl)); replace HB := aM (below_step (wS83 HB.out) hb); replace HI0 := aM (IsS83.below (iS83 HI0.out) hb); clear hb ho0) | ((with_reducible refine gate_callee (f := 66) rfl ?_); refine gL (some 11) Try.func66 #[.pointer (some ⟨g, 0, none⟩), .int .i64 20] ?_; (with_reducible refine (spec_reader_pick.calls k g s0_0 s0_1 20 t492 t493 w0 _ ?side1 ?side2 A5.out).mono ?_); (case side1 => exact iS83 HI0.out); (case side2 => exact wS83 HB.out); rintro e w9 ⟨rfl, hi, hb, hk⟩; refine ⟨_, rfl, ?_⟩; replace HO491 := aM (Kd.R_mono (Kd.R_keep (IsS83.apart (show IsS83 w0 _ g s0_0 s0_1 from iS83 HI0.out) (qR HO491.out) (by decide)) hk (fun _ h => h.2)) (fun _ h => h.1)); replace HK := aM (KeepBut.trans (kB HK.out) hk (.inl rfl)); replace HB := aM (hb); replace HI0 := aM (hi); clear hb hk hi) | ((with_reducible refine gate_builtin (b := .append) (xs := #[.tmp 14, .tmp 16]) rfl ?_); at_builtin; refine Kd.R_append (Kd.int .i64) w.heap.size rfl (.tmp 14) (.tmp 16) 22 3 (.int .i64 0) 8 rfl Try.underlying22 info3 rfl (by decide) (by omega) v490 t489 a2 [.int .i64 a2] (fun _ => True) (fun _ => False) rfl rfl ?aP (fun _ hk => hk.elim) ?aF ?aO (Below.refl _ _) ?aS ?aL ?_; (case aP => exact rfl); (case aF => exact (fun _ _ => trivial)); (case aO => exact (qR HO491.out)); (case aS => exact (keep_size (w := w) (g := g) (row := none) (kB HK.out))); (case aL => have := LMc7.out; omega); intro v495 w10 ho hb hg hat; rw [← Ny494.out] at ho; replace HB := aM (below_weaken (wS83 HB.out) HL.out hb); replace HI0 := aM (IsS83.grown (iS83 HI0.out) hg (IsS83.own_ne HI0.out HO491.out (by decide))); replace HK := aM (KeepBut.trans (kB HK.out) (KeepBut.of_grown hg g) (Kd.R_base2 HO491.out)); have HO496 := aM (ho); clear HO491; clear ho hb hg hat))
  go_ret
  exact ⟨_, qX, Kd.Q_of_R (qR HO496.out), iS83 HI0.out, wS83 HB.out, kB HK.out⟩
 rw [if_neg c6] at H
 have c6b0 : (t492 == 0) = false := beq_eq_false_iff_ne.mpr c6
 have c6b1 : (t492 != 0) = true := bne_iff_ne.mpr c6
 by_cases c11 : t492 = 1
 ·rw [if_pos c11] at H
  have c11b0 : (t492 == 1) = true := beq_iff_eq.mpr c11
  have c11b1 : (t492 != 1) = false := bne_eq_false_iff_eq.mpr c11
  clear c11
  by_cases c12 : (t489.length : Int) > 0
  rotate_left
  ·rw [if_neg c12] at H
   have c12b0 : decide (0 < (t489.length : Int)) = false := decide_eq_false c12
   have c12b1 : decide (0 < t489.length) = false := decide_eq_false (by omega)
   clear c12
   simp only [Option.some.injEq, Prod.mk.injEq] at H
   obtain ⟨rfl, rfl⟩ := H
   go_enter Try.func92, Try.ntmps92
   go_wp2_with (first | ((with_reducible refine gate_callee (f := 76) rfl ?_); refine gL (some 9) Try.func76 #[.slice A1 l1.length c1] ?_; (with_reducible refine (spec_copyInts.calls _ _ l1 t489 _ ?side1 ?side2 A4.out).mono ?_); (case side1 => exact Kd.C_keep 0 HR1.out (kB HK.out) hf1); (case side2 => exact HC1.out); rintro e w18 ⟨v490, rfl, ho0, hb⟩; refine ⟨_, rfl, ?_⟩; have HO491 := lK ho0 HK; replace HK := aM (KeepBut.trans (kB HK.out) (KeepBut.of_below hb g none) (.inl rfl)); replace HB := aM (below_step (wS83 HB.out) hb); replace HI0 := aM (IsS83.below (iS83 HI0.out) hb); clear hb ho0) | ((with_reducible refine gate_callee (f := 66) rfl ?_); refine gL (some 11) Try.func66 #[.pointer (some ⟨g, 0, none⟩), .int .i64 20] ?_; (with_reducible refine (spec_reader_pick.calls k g s0_0 s0_1 20 t492 t493 w0 _ ?side1 ?side2 A5.out).mono ?_); (case side1 => exact iS83 HI0.out); (case side2 => exact wS83 HB.out); rintro e w19 ⟨rfl, hi, hb, hk⟩; refine ⟨_, rfl, ?_⟩; replace HO491 := aM (Kd.R_mono (Kd.R_keep (IsS83.apart (show IsS83 w0 _ g s0_0 s0_1 from iS83 HI0.out) (qR HO491.out) (by decide)) hk (fun _ h => h.2)) (fun _ h => h.1)); replace HK := aM (KeepBut.trans (kB HK.out) hk (.inl rfl)); replace HB := aM (hb); replace HI0 := aM (hi); clear hb hk hi; obtain ⟨Ao20, co20, rfl⟩ := sL HO491))
   go_ret
   exact ⟨_, qX, Kd.Q_of_R (qR HO491.out), iS83 HI0.out, wS83 HB.out, kB HK.out⟩
  rw [if_pos c12] at H
  have c12b0 : decide (0 < (t489.length : Int)) = true := decide_eq_true c12
  have c12b1 : decide (0 < t489.length) = true := decide_eq_true (by omega)
  clear c12
  replace H := iS H
  obtain ⟨c13, H⟩ := H
  have c13b0 := eq_true c13
  have c13b1 : decide (1 ≤ (t489.length : Int)) = true := decide_eq_true c13
  clear c13
  obtain ⟨y497, hy497⟩ : ∃ y_ : List Int, y_ = (t489.drop (1 : Int).toNat) := ⟨_, rfl⟩
  replace H : (some (y497, t493)) = some (r1, r2) := rY hy497 H
  have Ny497 := aM hy497
  clear hy497
  simp only [Option.some.injEq, Prod.mk.injEq] at H
  obtain ⟨rfl, rfl⟩ := H
  go_enter Try.func92, Try.ntmps92
  go_wp2_with (first | ((with_reducible refine gate_callee (f := 76) rfl ?_); refine gL (some 9) Try.func76 #[.slice A1 l1.length c1] ?_; (with_reducible refine (spec_copyInts.calls _ _ l1 t489 _ ?side1 ?side2 A4.out).mono ?_); (case side1 => exact Kd.C_keep 0 HR1.out (kB HK.out) hf1); (case side2 => exact HC1.out); rintro e w14 ⟨v490, rfl, ho0, hb⟩; refine ⟨_, rfl, ?_⟩; have HO491 := lK ho0 HK; replace HK := aM (KeepBut.trans (kB HK.out) (KeepBut.of_below hb g none) (.inl rfl)); replace HB := aM (below_step (wS83 HB.out) hb); replace HI0 := aM (IsS83.below (iS83 HI0.out) hb); clear hb ho0) | ((with_reducible refine gate_callee (f := 66) rfl ?_); refine gL (some 11) Try.func66 #[.pointer (some ⟨g, 0, none⟩), .int .i64 20] ?_; (with_reducible refine (spec_reader_pick.calls k g s0_0 s0_1 20 t492 t493 w0 _ ?side1 ?side2 A5.out).mono ?_); (case side1 => exact iS83 HI0.out); (case side2 => exact wS83 HB.out); rintro e w15 ⟨rfl, hi, hb, hk⟩; refine ⟨_, rfl, ?_⟩; replace HO491 := aM (Kd.R_mono (Kd.R_keep (IsS83.apart (show IsS83 w0 _ g s0_0 s0_1 from iS83 HI0.out) (qR HO491.out) (by decide)) hk (fun _ h => h.2)) (fun _ h => h.1)); replace HK := aM (KeepBut.trans (kB HK.out) hk (.inl rfl)); replace HB := aM (hb); replace HI0 := aM (hi); clear hb hk hi; obtain ⟨Ao16, co16, rfl⟩ := sL HO491; have q17 : (1 : Int) ≤ ((t489.length : Int) : Int) := oD; obtain ⟨i017, hi017, _, hsz17, _⟩ := info_parts info3; have hcut17 := cut_from (P := Try.prog) 22 3 .i64 Try.underlying22 hi017 1 hsz17 Ao16 t489.length co16 1 (by omega) q17; have hr17 := Kd.Q_drop (k := (1 : Int).toNat) (Kd.Q_of_R HO491.out) (by omega); obtain ⟨A17, hA17⟩ : ∃ A1, A1 = (if co16 = (1 : Int).toNat then Ao16 else (Ao16 : Option Addr).map (·.add ((1 : Int).toNat * 1))) := ⟨_, rfl⟩; obtain ⟨c17, hc17⟩ : ∃ c1, c1 = co16 - (1 : Int).toNat := ⟨_, rfl⟩; have hy17 : y497.length = t489.length - (1 : Int).toNat := (by rw [Ny497.out, List.length_drop]); rw [← Ny497.out] at hr17; rw [← hy17, ← hA17, ← hc17] at hcut17; replace hr17 : Kd.Q (Kd.int .i64) 3 w15 w.heap.size (fun _ => True) (.slice A17 y497.length c17) y497 := (by rw [hA17, hc17, hy17]; exact hr17); have HE17 : Aside0 ((Value.slice A17 y497.length c17).ownBlock = (.slice Ao16 t489.length co16 : Value).ownBlock) := ⟨by rw [hA17]; split <;> (cases (Ao16 : Option Addr) <;> rfl)⟩; clear hy17 hi017 hsz17 HO491 hA17 hc17; have HO499 := aM hr17; clear hr17; replace q17 := eq_true q17))
  go_ret
  exact ⟨_, qX, by (with_reducible repeat (first | apply Kd.Q_alloc | apply Kd.Q_drewN | apply Kd.Q_drew)); exact HO499.out, iS83 HI0.out, wS83 HB.out, kB HK.out⟩
 rw [if_neg c11] at H
 have c11b0 : (t492 == 1) = false := beq_eq_false_iff_ne.mpr c11
 have c11b1 : (t492 != 1) = true := bne_iff_ne.mpr c11
 by_cases c21 : t492 = 2
 rotate_left
 ·rw [if_neg c21] at H
  have c21b0 : (t492 == 2) = false := beq_eq_false_iff_ne.mpr c21
  have c21b1 : (t492 != 2) = true := bne_iff_ne.mpr c21
  simp only [Option.some.injEq, Prod.mk.injEq] at H
  obtain ⟨rfl, rfl⟩ := H
  go_enter Try.func92, Try.ntmps92
  go_wp2_with (first | ((with_reducible refine gate_callee (f := 76) rfl ?_); refine gL (some 9) Try.func76 #[.slice A1 l1.length c1] ?_; (with_reducible refine (spec_copyInts.calls _ _ l1 t489 _ ?side1 ?side2 A4.out).mono ?_); (case side1 => exact Kd.C_keep 0 HR1.out (kB HK.out) hf1); (case side2 => exact HC1.out); rintro e w41 ⟨v490, rfl, ho0, hb⟩; refine ⟨_, rfl, ?_⟩; have HO491 := lK ho0 HK; replace HK := aM (KeepBut.trans (kB HK.out) (KeepBut.of_below hb g none) (.inl rfl)); replace HB := aM (below_step (wS83 HB.out) hb); replace HI0 := aM (IsS83.below (iS83 HI0.out) hb); clear hb ho0) | ((with_reducible refine gate_callee (f := 66) rfl ?_); refine gL (some 11) Try.func66 #[.pointer (some ⟨g, 0, none⟩), .int .i64 20] ?_; (with_reducible refine (spec_reader_pick.calls k g s0_0 s0_1 20 t492 t493 w0 _ ?side1 ?side2 A5.out).mono ?_); (case side1 => exact iS83 HI0.out); (case side2 => exact wS83 HB.out); rintro e w42 ⟨rfl, hi, hb, hk⟩; refine ⟨_, rfl, ?_⟩; replace HO491 := aM (Kd.R_mono (Kd.R_keep (IsS83.apart (show IsS83 w0 _ g s0_0 s0_1 from iS83 HI0.out) (qR HO491.out) (by decide)) hk (fun _ h => h.2)) (fun _ h => h.1)); replace HK := aM (KeepBut.trans (kB HK.out) hk (.inl rfl)); replace HB := aM (hb); replace HI0 := aM (hi); clear hb hk hi))
  go_ret
  exact ⟨_, qX, Kd.Q_of_R (qR HO491.out), iS83 HI0.out, wS83 HB.out, kB HK.out⟩
 rw [if_pos c21] at H
 have c21b0 : (t492 == 2) = true := beq_iff_eq.mpr c21
 have c21b1 : (t492 != 2) = false := bne_eq_false_iff_eq.mpr c21
 clear c21
 by_cases c22 : (t489.length : Int) > 0
 rotate_left
 ·rw [if_neg c22] at H
  have c22b0 : decide (0 < (t489.length : Int)) = false := decide_eq_false c22
  have c22b1 : decide (0 < t489.length) = false := decide_eq_false (by omega)
  clear c22
  simp only [Option.some.injEq, Prod.mk.injEq] at H
  obtain ⟨rfl, rfl⟩ := H
  go_enter Try.func92, Try.ntmps92
  go_wp2_with (first | ((with_reducible refine gate_callee (f := 76) rfl ?_); refine gL (some 9) Try.func76 #[.slice A1 l1.length c1] ?_; (with_reducible refine (spec_copyInts.calls _ _ l1 t489 _ ?side1 ?side2 A4.out).mono ?_); (case side1 => exact Kd.C_keep 0 HR1.out (kB HK.out) hf1); (case side2 => exact HC1.out); rintro e w38 ⟨v490, rfl, ho0, hb⟩; refine ⟨_, rfl, ?_⟩; have HO491 := lK ho0 HK; replace HK := aM (KeepBut.trans (kB HK.out) (KeepBut.of_below hb g none) (.inl rfl)); replace HB := aM (below_step (wS83 HB.out) hb); replace HI0 := aM (IsS83.below (iS83 HI0.out) hb); clear hb ho0) | ((with_reducible refine gate_callee (f := 66) rfl ?_); refine gL (some 11) Try.func66 #[.pointer (some ⟨g, 0, none⟩), .int .i64 20] ?_; (with_reducible refine (spec_reader_pick.calls k g s0_0 s0_1 20 t492 t493 w0 _ ?side1 ?side2 A5.out).mono ?_); (case side1 => exact iS83 HI0.out); (case side2 => exact wS83 HB.out); rintro e w39 ⟨rfl, hi, hb, hk⟩; refine ⟨_, rfl, ?_⟩; replace HO491 := aM (Kd.R_mono (Kd.R_keep (IsS83.apart (show IsS83 w0 _ g s0_0 s0_1 from iS83 HI0.out) (qR HO491.out) (by decide)) hk (fun _ h => h.2)) (fun _ h => h.1)); replace HK := aM (KeepBut.trans (kB HK.out) hk (.inl rfl)); replace HB := aM (hb); replace HI0 := aM (hi); clear hb hk hi; obtain ⟨Ao40, co40, rfl⟩ := sL HO491))
  go_ret
  exact ⟨_, qX, Kd.Q_of_R (qR HO491.out), iS83 HI0.out, wS83 HB.out, kB HK.out⟩
 rw [if_pos c22] at H
 have c22b0 : decide (0 < (t489.length : Int)) = true := decide_eq_true c22
 have c22b1 : decide (0 < t489.length) = true := decide_eq_true (by omega)
 clear c22
 replace H := Option.bind_eq_some_iff.mp H
 obtain ⟨⟨t500, t501⟩, A230, H⟩ := H
 replace H : ((spec_reader_one.f k s0_0 t501 (([(-1), a2, 0, 1] : List Int))).bind fun bt505 => (if 0 ≤ t500 then (if t500 < (t489.length : Int) then (some ((t489.set (t500 : Int).toNat bt505.1), bt505.2)) else (none)) else (none))) = some (r1, r2) := H
 have A23 := aM A230
 clear A230
 obtain ⟨y502, hy502⟩ : ∃ y_ : List Int, y_ = (([(-1), a2, 0, 1] : List Int)) := ⟨_, rfl⟩
 replace H : ((spec_reader_one.f k s0_0 t501 y502).bind fun bt505 => (if 0 ≤ t500 then (if t500 < (t489.length : Int) then (some ((t489.set (t500 : Int).toNat bt505.1), bt505.2)) else (none)) else (none))) = some (r1, r2) := rY hy502 H
 have Ny502 := aM hy502
 clear hy502
 replace H := Option.bind_eq_some_iff.mp H
 obtain ⟨⟨t505, t506⟩, A240, H⟩ := H
 replace H : (if 0 ≤ t500 then (if t500 < (t489.length : Int) then (some ((t489.set (t500 : Int).toNat t505), t506)) else (none)) else (none)) = some (r1, r2) := H
 have A24 := aM A240
 clear A240
 replace H := iD H
 obtain ⟨c25b0, H⟩ := H
 replace H := iD H
 obtain ⟨c26b0, H⟩ := H
 obtain ⟨y507, hy507⟩ : ∃ y_ : List Int, y_ = (t489.set (t500 : Int).toNat t505) := ⟨_, rfl⟩
 replace H : (some (y507, t506)) = some (r1, r2) := rY hy507 H
 have Ny507 := aM hy507
 clear hy507
 simp only [Option.some.injEq, Prod.mk.injEq] at H
 obtain ⟨rfl, rfl⟩ := H
 go_enter Try.func92, Try.ntmps92
 go_wp2_with (first | ((with_reducible refine gate_callee (f := 76) rfl ?_); refine gL (some 9) Try.func76 #[.slice A1 l1.length c1] ?_; (with_reducible refine (spec_copyInts.calls _ _ l1 t489 _ ?side1 ?side2 A4.out).mono ?_); (case side1 => exact Kd.C_keep 0 HR1.out (kB HK.out) hf1); (case side2 => exact HC1.out); rintro e w28 ⟨v490, rfl, ho0, hb⟩; refine ⟨_, rfl, ?_⟩; have HO491 := lK ho0 HK; replace HK := aM (KeepBut.trans (kB HK.out) (KeepBut.of_below hb g none) (.inl rfl)); replace HB := aM (below_step (wS83 HB.out) hb); replace HI0 := aM (IsS83.below (iS83 HI0.out) hb); clear hb ho0) | ((with_reducible refine gate_callee (f := 66) rfl ?_); refine gL (some 11) Try.func66 #[.pointer (some ⟨g, 0, none⟩), .int .i64 20] ?_; (with_reducible refine (spec_reader_pick.calls k g s0_0 s0_1 20 t492 t493 w0 _ ?side1 ?side2 A5.out).mono ?_); (case side1 => exact iS83 HI0.out); (case side2 => exact wS83 HB.out); rintro e w29 ⟨rfl, hi, hb, hk⟩; refine ⟨_, rfl, ?_⟩; replace HO491 := aM (Kd.R_mono (Kd.R_keep (IsS83.apart (show IsS83 w0 _ g s0_0 s0_1 from iS83 HI0.out) (qR HO491.out) (by decide)) hk (fun _ h => h.2)) (fun _ h => h.1)); replace HK := aM (KeepBut.trans (kB HK.out) hk (.inl rfl)); replace HB := aM (hb); replace HI0 := aM (hi); clear hb hk hi; obtain ⟨Ao30, co30, rfl⟩ := sL HO491) | ((with_reducible refine gate_callee (f := 66) rfl ?_); refine gL (some 34) Try.func66 #[.pointer (some ⟨g, 0, none⟩), .int .i64 (t489.length : Int)] ?_; (with_reducible refine (spec_reader_pick.calls k g s0_0 t493 (t489.length : Int) t500 t501 w0 _ ?side1 ?side2 A23.out).mono ?_); (case side1 => exact iS83 HI0.out); (case side2 => exact wS83 HB.out); rintro e w31 ⟨rfl, hi, hb, hk⟩; refine ⟨_, rfl, ?_⟩; replace HO491 := aM (Kd.R_mono (Kd.R_keep (IsS83.apart (show IsS83 w0 _ g s0_0 t493 from iS83 HI0.out) (qR HO491.out) (by decide)) hk (fun _ h => h.2)) (fun _ h => h.1)); replace HK := aM (KeepBut.trans (kB HK.out) hk (.inl rfl)); replace HB := aM (hb); replace HI0 := aM (hi); clear hb hk hi) | ((with_reducible refine gate_dst (N := 37) rfl ?_); refine iL ([(-1), a2, 0, 1] : List Int) [.int .i64 (-1), .int .i64 a2, .int .i64 0, .int .i64 1] ?_; intro v503 w32 ho33 hb hg_ hnew_; clear hg_ hnew_; (first | rw [← Ny502.out] at ho33 | (simp only [Int.reduceToNat] at ho33; rw [← Ny502.out] at ho33)); have HO504 := aM (Kd.R_lower (Kd.R_new' ho33 (Kd.R_lt (qR HO491.out))) (keep_size (w := w) (g := g) (row := none) (kB HK.out))); replace HO491 := aM (Kd.R_elder' (qR HO491.out) (Kd.R_base ho33) hb); replace HK := aM (KeepBut.trans (kB HK.out) (KeepBut.of_below hb g none) (.inl rfl)); replace HB := aM (below_step (wS83 HB.out) hb); replace HI0 := aM (IsS83.below (iS83 HI0.out) hb); clear hb ho33; obtain ⟨Ao34, co34, rfl⟩ := sL HO504) | ((with_reducible refine gate_callee (f := 74) rfl ?_); refine gL (some 38) Try.func74 #[.pointer (some ⟨g, 0, none⟩), .slice Ao34 y502.length co34] ?_; (with_reducible refine (spec_reader_one.calls k g s0_0 t501 _ _ y502 t505 t506 w0 _ ?side1 ?side2 ?side3 ?side4 ?side5 A24.out).mono ?_); (case side1 => exact iS83 HI0.out); (case side2 => exact wS83 HB.out); (case side3 => exact qC (Kd.R_reads' HO504.out).2.2); (case side4 => exact (Kd.R_reads' HO504.out).2.1); (case side5 => exact far_slice (IsS83.own_ne HI0.out HO504.out (by decide))); rintro e w35 ⟨rfl, hi, hb, hk⟩; refine ⟨_, rfl, ?_⟩; replace HO491 := aM (Kd.R_mono (Kd.R_keep (IsS83.apart (show IsS83 w0 _ g s0_0 t501 from iS83 HI0.out) (qR HO491.out) (by decide)) hk (fun _ h => h.2)) (fun _ h => h.1)); replace HO504 := aM (Kd.R_mono (Kd.R_keep (IsS83.apart (show IsS83 w0 _ g s0_0 t501 from iS83 HI0.out) (qR HO504.out) (by decide)) hk (fun _ h => h.2)) (fun _ h => h.1)); replace HK := aM (KeepBut.trans (kB HK.out) hk (.inl rfl)); replace HB := aM (hb); replace HI0 := aM (hi); clear hb hk hi; have p27 : 0 ≤ (t500 : Int) := oD; have q27 : (t500 : Int) < ((t489.length : Int) : Int) := oD; obtain ⟨go27, co27, eo27, gb27, gl27, cl27, HG27⟩ := Kd.R_form HO491.out (by omega); (first | cases eo27 | (injection eo27 with ea_ en_ ec_; (first | subst ea_ | (injection ea_ with ea_; subst ea_)); subst ec_; clear en_)); have GB27 := aM gb27; have GG27 := aM HG27; clear gb27 gl27 HG27; obtain ⟨hx27_0, hf27_0⟩ := Kd.R_celln 0 HO491.out (t500 : Int) p27 q27; replace p27 := eq_true p27; replace q27 := eq_true q27; have n_ := aM (Kd.R_mono (ok' := (fun k_ => some k_ ≠ (.slice Ao34 y502.length co34 : Value).ownBlock)) HO491.out (fun k_ hk => hk.2)); clear HO491; have HO491 := n_; clear n_; obtain ⟨hy36_, hz36_⟩ := Kd.R_celln 0 HO491.out (t500 : Int) oD oD; have HP36 := Kd.R_putg HO491.out (t500 : Int) t505) | ((with_reducible refine gate_store (t := 3) (p := 39) rfl ?_); refine store_event (t := 3) (p := 39) (v := ?vo_w37) (w1 := (w35.setCell ⟨go27, (t500 : Int).toNat, none⟩ (.int .i64 t505))) ?hg ?ho ?hn ?hr ?_; (case ho => rfl); (case hg => rfl); (case hn => rfl); (case hr => first | (go_simp; done) | (go_simp; rfl)); intro w37 hw; have hg : w35.grownBy w37 (some go27) := (by rw [hw]; exact HP36.2); have hp_ : Kd.R (Kd.int .i64) 3 w37 w.heap.size (fun k_ => some k_ ≠ (.slice Ao34 y502.length co34 : Value).ownBlock) (.slice (some ⟨go27, 0, none⟩) t489.length co30) y507 := (by rw [hw, Ny507.out]; exact HP36.1); clear HP36; replace HI0 := aM (IsS83.grown (iS83 HI0.out) hg (IsS83.own_ne HI0.out HO491.out (by decide))); replace HO504 := aM (Kd.R_after (v := (.slice (some ⟨go27, 0, none⟩) t489.length co30)) (v1 := (.slice (some ⟨go27, 0, none⟩) t489.length co30)) (ok := (fun _ => True)) (qR HO504.out) hg (.inl rfl)); replace HB := aM ((by rw [hw]; exact below_set (HB.out) (Nat.le_trans HL.out GB27.out) : Below w0.heap.size w0 w37)); replace HK := aM (KeepBut.trans (kB HK.out) (KeepBut.of_grown hg g) (Kd.R_base2 HO491.out)); replace HO491 := aM (hp_); clear hg hw hp_))
 go_ret
 exact ⟨_, qX, Kd.Q_of_R (by refine qR ?_; exact Kd.R_mono HO491.out (fun _ hk => trivial)), iS83 HI0.out, wS83 HB.out, kB HK.out⟩
def spec_anyPixel.l0 : Nat → Int → List Int → Int → List Int → Int → Option (List Int × Int)
 | 0, _, _, _, _, _ => none
 | k + 1, x1, x5, x6, x1000, x1001 => if x6 < x1 then ((spec_reader_pick.f k x1000 x1001 256).bind fun bt511 => (if x5.length < 17592186044416 then (spec_anyPixel.l0 k x1 (x5 ++ [bt511.1]) (wrap64 (x6 + 1)) x1000 bt511.2) else (none))) else ((spec_reader_spoil.f k x1000 x1001 x5 256).bind fun bt516 => (some (bt516.1, bt516.2)))
def spec_anyPixel.f (k : Nat) (s0_0 : List Int) (s0_1 : Int) (a1 : Int) : Option (List Int × Int) := spec_anyPixel.l0 k a1 (([] : List Int)) 0 s0_0 s0_1
theorem spec_anyPixel.mono_l : ∀ k, (∀ y0 y1 y2 y3 y4, LeO (spec_anyPixel.l0 k y0 y1 y2 y3 y4) (spec_anyPixel.l0 (k + 1) y0 y1 y2 y3 y4))
 | 0 => fun _ _ _ _ _ r h => by simp [spec_anyPixel.l0] at h
 | k + 1 => by
  have ih0 := spec_anyPixel.mono_l k
  ·intro y0 y1 y2 y3 y4
   unfold spec_anyPixel.l0
   repeat' first | (with_reducible first | exact ih0 _ _ _ _ _ | exact spec_reader_pick.mono _ _ _ _ | exact spec_reader_spoil.mono _ _ _ _ _ | exact lR | exact lN | refine lI ?_ ?_ | refine lB ?_ fun _ => ?_) | exact ih0 _ _ _ _ _ | exact spec_reader_pick.mono _ _ _ _ | exact spec_reader_spoil.mono _ _ _ _ _ | exact lN | refine lI ?_ ?_ | refine lB ?_ fun _ => ?_
theorem spec_anyPixel.mono : ∀ a0 a1 a2 k, LeO (spec_anyPixel.f k a0 a1 a2) (spec_anyPixel.f (k + 1) a0 a1 a2) := by
 intro a0 a1 a2 k
 have ih0 := spec_anyPixel.mono_l k
 unfold spec_anyPixel.f
 repeat' first | (with_reducible first | exact ih0 _ _ _ _ _ | exact spec_reader_pick.mono _ _ _ _ | exact spec_reader_spoil.mono _ _ _ _ _ | exact lR | exact lN | refine lI ?_ ?_ | refine lB ?_ fun _ => ?_) | exact ih0 _ _ _ _ _ | exact spec_reader_pick.mono _ _ _ _ | exact spec_reader_spoil.mono _ _ _ _ _ | exact lN | refine lI ?_ ?_ | refine lB ?_ fun _ => ?_
set_option maxHeartbeats 8000000 in
set_option maxRecDepth 100000 in
theorem spec_anyPixel.calls (k : Nat) (g : Nat) (s0_0 : List Int) (s0_1 : Int) (a1 : Int) (r1 : List Int) (r2 : Int) (w0 w : World) (hI : IsS83 w0 w g s0_0 s0_1) (hB : Below w0.heap.size w0 w) (h : spec_anyPixel.f k s0_0 s0_1 a1 = some (r1, r2)) :
  Calls Try.prog 83 #[.pointer (some ⟨g, 0, none⟩), .int .i64 a1] w fun e w' => ∃ v0_ : Value, e = .returned (v0_) ∧ Kd.Q (Kd.int .i64) 3 w' w.heap.size (fun _ => True) v0_ r1 ∧ IsS83 w0 w' g s0_0 r2 ∧ Below w0.heap.size w0 w' ∧ KeepBut w w' g none := by
 have HI0 := aM hI
 have HK := aM (KeepBut.refl w g none)
 have HL := aM hB.size
 clear hI
 have HW0 := aM hB.size
 have HB := aM hB
 clear hB
 unfold spec_anyPixel.f at h
 have H := h
 clear h
 obtain ⟨y508, hy508⟩ : ∃ y_ : List Int, y_ = (([] : List Int)) := ⟨_, rfl⟩
 replace H : (spec_anyPixel.l0 k a1 y508 0 s0_0 s0_1) = some (r1, r2) := rY hy508 H
 have Ny508 := aM hy508
 clear hy508
 have H' := aM H
 clear H
 go_enter Try.func83, Try.ntmps83
 go_wp2_with (first | ((with_reducible refine gate_dst (N := 7) rfl ?_); refine iL ([] : List Int) [] ?_; intro v509 w3 ho4 hb hg_ hnew_; clear hg_ hnew_; (first | rw [← Ny508.out] at ho4 | (simp only [Int.reduceToNat] at ho4; rw [← Ny508.out] at ho4)); have HO510 := lK ho4 HK; replace HK := aM (KeepBut.trans (kB HK.out) (KeepBut.of_below hb g none) (.inl rfl)); replace HB := aM (below_step (wS83 HB.out) hb); replace HI0 := aM (IsS83.below (iS83 HI0.out) hb); clear hb ho4))
 go_loopg [5, 6] k (fun kq v5 v6 w' => ∃ (x5_1 : List Int) (x6_1 : Int) (x1001_1 : Int), v6 = .int .i64 x6_1 ∧ Aside0 (spec_anyPixel.l0 kq a1 x5_1 x6_1 s0_0 x1001_1 = some (r1, r2)) ∧ Aside0 (kq ≤ k) ∧ Aside0 (Kd.R (Kd.int .i64) 3 w' w.heap.size (fun _ => True) v5 x5_1) ∧ Aside0 (IsS83 w0 w' g s0_0 x1001_1) ∧ Aside0 (KeepBut w w' g none) ∧ Aside0 (Below w0.heap.size w0 w'))
 case atStart => exact ⟨(y508), (0), (s0_1), qE, H', ⟨Nat.le_refl _⟩, ⟨by refine qR ?_; exact HO510.out⟩, ⟨iS83 HI0.out⟩, ⟨kB HK.out⟩, ⟨wS83 HB.out⟩⟩
 case round =>
  clear H'
  obtain ⟨x5_1, x6_1, x1001_1, rfl, HA, HK1, HO_5, HI0, HK, HB⟩ := hrel
  cases gk with
  | zero => exact absurd HA.out (by simp [spec_anyPixel.l0])
  | succ k1 =>
   have H := HA.out
   clear HA
   simp only [spec_anyPixel.l0] at H
   by_cases c5 : x6_1 < a1
   rotate_left
   ·rw [if_neg c5] at H
    have c5b0 : decide (x6_1 < a1) = false := decide_eq_false c5
    clear c5
    replace H := Option.bind_eq_some_iff.mp H
    obtain ⟨⟨t516, t519⟩, A100, H⟩ := H
    replace H : (some (t516, t519)) = some (r1, r2) := H
    have A10 := aM A100
    clear A100
    simp only [Option.some.injEq, Prod.mk.injEq] at H
    obtain ⟨rfl, rfl⟩ := H
    obtain ⟨Ao11, co11, rfl⟩ := sL HO_5
    go_wp2_with (first | ((with_reducible refine gate_callee (f := 92) rfl ?_); refine gL (some 20) Try.func92 #[.pointer (some ⟨g, 0, none⟩), .slice Ao11 x5_1.length co11, .int .i64 256] ?_; (with_reducible refine (spec_reader_spoil.calls k1 g s0_0 x1001_1 _ _ x5_1 256 t516 t519 w0 _ ?side1 ?side2 ?side3 ?side4 ?side5 A10.out).mono ?_); (case side1 => exact iS83 HI0.out); (case side2 => exact wS83 HB.out); (case side3 => exact qC (Kd.R_reads' HO_5.out).2.2); (case side4 => exact (Kd.R_reads' HO_5.out).2.1); (case side5 => exact far_slice (IsS83.own_ne HI0.out HO_5.out (by decide))); rintro e w12 ⟨v517, rfl, ho0, hi, hb, hk⟩; refine ⟨_, rfl, ?_⟩; have HO518 := aM (Kd.Q_lower (Kd.Q_new' ho0 (Kd.R_lt (qR HO_5.out))) (keep_size (w := w) (g := g) (row := none) (kB HK.out))); replace HO_5 := aM (Kd.R_mono (Kd.R_told (Kd.R_oldK (IsS83.apart (show IsS83 w0 _ g s0_0 x1001_1 from iS83 HI0.out) (qR HO_5.out) (by decide)) hk) (Kd.Q_base ho0)) (fun _ h_ => h_.1)); replace HK := aM (KeepBut.trans (kB HK.out) hk (.inl rfl)); replace HB := aM (hb); replace HI0 := aM (hi); clear hb hk hi ho0))
    go_ret
    exact ⟨_, qX, by (with_reducible repeat (first | apply Kd.Q_alloc | apply Kd.Q_drewN | apply Kd.Q_drew)); exact Kd.Q_mono HO518.out (fun _ hk => trivial), iS83 HI0.out, wS83 HB.out, kB HK.out⟩
   rw [if_pos c5] at H
   have c5b0 : decide (x6_1 < a1) = true := decide_eq_true c5
   clear c5
   replace H := Option.bind_eq_some_iff.mp H
   obtain ⟨⟨t511, t512⟩, A60, H⟩ := H
   replace H : (if x5_1.length < 17592186044416 then (spec_anyPixel.l0 k1 a1 (x5_1 ++ [t511]) (wrap64 (x6_1 + 1)) s0_0 t512) else (none)) = some (r1, r2) := H
   have A6 := aM A60
   clear A60
   replace H := iS H
   obtain ⟨c7, H⟩ := H
   have LMc7 := aM c7
   clear c7
   obtain ⟨y513, hy513⟩ : ∃ y_ : List Int, y_ = (x5_1 ++ [t511]) := ⟨_, rfl⟩
   replace H : (spec_anyPixel.l0 k1 a1 y513 (wrap64 (x6_1 + 1)) s0_0 t512) = some (r1, r2) := rY hy513 H
   have Ny513 := aM hy513
   clear hy513
   have H' := aM H
   clear H
   go_wp2_with (first | ((with_reducible refine gate_callee (f := 66) rfl ?_); refine gL (some 15) Try.func66 #[.pointer (some ⟨g, 0, none⟩), .int .i64 256] ?_; (with_reducible refine (spec_reader_pick.calls k1 g s0_0 x1001_1 256 t511 t512 w0 _ ?side1 ?side2 A6.out).mono ?_); (case side1 => exact iS83 HI0.out); (case side2 => exact wS83 HB.out); rintro e w8 ⟨rfl, hi, hb, hk⟩; refine ⟨_, rfl, ?_⟩; replace HO_5 := aM (Kd.R_mono (Kd.R_keep (IsS83.apart (show IsS83 w0 _ g s0_0 x1001_1 from iS83 HI0.out) (qR HO_5.out) (by decide)) hk (fun _ h => h.2)) (fun _ h => h.1)); replace HK := aM (KeepBut.trans (kB HK.out) hk (.inl rfl)); replace HB := aM (hb); replace HI0 := aM (hi); clear hb hk hi) | ((with_reducible refine gate_builtin (b := .append) (xs := #[.tmp 13, .tmp 16]) rfl ?_); at_builtin; refine Kd.R_append (Kd.int .i64) w.heap.size rfl (.tmp 13) (.tmp 16) 22 3 (.int .i64 0) 8 rfl Try.underlying22 info3 rfl (by decide) (by omega) u5 x5_1 t511 [.int .i64 t511] (fun _ => True) (fun _ => False) rfl rfl ?aP (fun _ hk => hk.elim) ?aF ?aO (Below.refl _ _) ?aS ?aL ?_; (case aP => exact rfl); (case aF => exact (fun _ _ => trivial)); (case aO => exact (qR HO_5.out)); (case aS => exact (keep_size (w := w) (g := g) (row := none) (kB HK.out))); (case aL => have := LMc7.out; omega); intro v514 w9 ho hb hg hat; rw [← Ny513.out] at ho; replace HB := aM (below_weaken (wS83 HB.out) HL.out hb); replace HI0 := aM (IsS83.grown (iS83 HI0.out) hg (IsS83.own_ne HI0.out HO_5.out (by decide))); replace HK := aM (KeepBut.trans (kB HK.out) (KeepBut.of_grown hg g) (Kd.R_base2 HO_5.out)); have HO515 := aM (ho); clear HO_5; clear ho hb hg hat))
   go_roundg k1
   case measure => have := HK1.out; omega
   case rel => exact ⟨(y513), (wrap64 (x6_1 + 1)), (t512), qE, H', ⟨by have := HK1.out; omega⟩, ⟨by refine qR ?_; exact HO515.out⟩, ⟨iS83 HI0.out⟩, ⟨kB HK.out⟩, ⟨wS83 HB.out⟩⟩
theorem FK_of_Q {α : Type} {d : Kd α} {e base : Nat} {W : World} {ok : Nat → Prop} {v : Value} {xs : List α} (h : Kd.Q d e W base ok v xs) : Kd.FK (Kd.slice e d) W ok xs [v] := by
 obtain ⟨A, c, rfl, _⟩ := Kd.Q_slice h
 exact Kd.FK_slice_mk (Kd.Q_reads' h).2.1 (Kd.Q_F h)
mutual
def spec_anyColors.l0 : Nat → Int → List (List Int) → Int → List Int → Int → Option ((List (List Int)) × Int)
 | 0, _, _, _, _, _ => none
 | k + 1, x1, x5, x6, x1000, x1001 => if x6 > 0 then (spec_anyColors.l1 k x1 x5 x6 (([] : List Int)) 0 x1000 x1001) else (if (x5.length : Int) > 0 then ((spec_reader_pick.f k x1000 x1001 20).bind fun bt539 => (spec_anyColors.j2 k x1 x5 (bt539.1 == 0) x1000 bt539.2)) else (spec_anyColors.j2 k x1 x5 false x1000 x1001))
def spec_anyColors.l1 : Nat → Int → List (List Int) → Int → List Int → Int → List Int → Int → Option ((List (List Int)) × Int)
 | 0, _, _, _, _, _, _, _ => none
 | k + 1, x1, x5, x6, x7, x8, x1000, x1001 => if x8 < x1 then ((spec_reader_pick.f k x1000 x1001 5).bind fun bt531 => (if x7.length < 17592186044416 then (spec_anyColors.l1 k x1 x5 x6 (x7 ++ [wrap64 (bt531.1 * 60)]) (wrap64 (x8 + 1)) x1000 bt531.2) else (none))) else (if x5.length < 5864062014805 then (spec_anyColors.l0 k x1 (x5 ++ [x7]) (wrap64 (x6 - 1)) x1000 x1001) else (none))
def spec_anyColors.j2 : Nat → Int → List (List Int) → Bool → List Int → Int → Option ((List (List Int)) × Int)
 | 0, _, _, _, _, _ => none
 | k + 1, x1, x5, x40, x1000, x1001 => if x40 = true then ((spec_reader_pick.f k x1000 x1001 2).bind fun bt541 => ((spec_anyPixel.f k x1000 bt541.2 (wrap64 (x1 + bt541.1))).bind fun bt543 => (if 0 < (x5.length : Int) then (some ((x5.set (0 : Int).toNat bt543.1), bt543.2)) else (none)))) else (some (x5, x1001))
end
def spec_anyColors.f (k : Nat) (s0_0 : List Int) (s0_1 : Int) (a1 : Int) : Option ((List (List Int)) × Int) := (spec_reader_one.f k s0_0 s0_1 (([2, 3, 4, 5, 1, 0, 16, 17] : List Int))).bind fun bt526 => (spec_anyColors.l0 k a1 (([] : List (List Int))) bt526.1 s0_0 bt526.2)
theorem spec_anyColors.mono_l : ∀ k, (∀ y0 y1 y2 y3 y4, LeO (spec_anyColors.l0 k y0 y1 y2 y3 y4) (spec_anyColors.l0 (k + 1) y0 y1 y2 y3 y4)) ∧ (∀ y0 y1 y2 y3 y4 y5 y6, LeO (spec_anyColors.l1 k y0 y1 y2 y3 y4 y5 y6) (spec_anyColors.l1 (k + 1) y0 y1 y2 y3 y4 y5 y6)) ∧ (∀ y0 y1 y2 y3 y4, LeO (spec_anyColors.j2 k y0 y1 y2 y3 y4) (spec_anyColors.j2 (k + 1) y0 y1 y2 y3 y4))
 | 0 => ⟨fun _ _ _ _ _ r h => by simp [spec_anyColors.l0] at h, fun _ _ _ _ _ _ _ r h => by simp [spec_anyColors.l1] at h, fun _ _ _ _ _ r h => by simp [spec_anyColors.j2] at h⟩
 | k + 1 => by
  obtain ⟨ih0, ih1, ih2⟩ := spec_anyColors.mono_l k
  refine ⟨?_, ?_, ?_⟩
  all_goals intros
  all_goals first | unfold spec_anyColors.l0 | unfold spec_anyColors.l1 | unfold spec_anyColors.j2
  all_goals repeat' first | (with_reducible first | exact ih0 _ _ _ _ _ | exact ih1 _ _ _ _ _ _ _ | exact ih2 _ _ _ _ _ | exact spec_anyPixel.mono _ _ _ _ | exact spec_reader_one.mono _ _ _ _ | exact spec_reader_pick.mono _ _ _ _ | exact lR | exact lN | refine lI ?_ ?_ | refine lB ?_ fun _ => ?_) | exact ih0 _ _ _ _ _ | exact ih1 _ _ _ _ _ _ _ | exact ih2 _ _ _ _ _ | exact spec_anyPixel.mono _ _ _ _ | exact spec_reader_one.mono _ _ _ _ | exact spec_reader_pick.mono _ _ _ _ | exact lN | refine lI ?_ ?_ | refine lB ?_ fun _ => ?_
theorem spec_anyColors.mono : ∀ a0 a1 a2 k, LeO (spec_anyColors.f k a0 a1 a2) (spec_anyColors.f (k + 1) a0 a1 a2) := by
 intro a0 a1 a2 k
 obtain ⟨ih0, ih1, ih2⟩ := spec_anyColors.mono_l k
 unfold spec_anyColors.f
 repeat' first | (with_reducible first | exact ih0 _ _ _ _ _ | exact ih1 _ _ _ _ _ _ _ | exact ih2 _ _ _ _ _ | exact spec_anyPixel.mono _ _ _ _ | exact spec_reader_one.mono _ _ _ _ | exact spec_reader_pick.mono _ _ _ _ | exact lR | exact lN | refine lI ?_ ?_ | refine lB ?_ fun _ => ?_) | exact ih0 _ _ _ _ _ | exact ih1 _ _ _ _ _ _ _ | exact ih2 _ _ _ _ _ | exact spec_anyPixel.mono _ _ _ _ | exact spec_reader_one.mono _ _ _ _ | exact spec_reader_pick.mono _ _ _ _ | exact lN | refine lI ?_ ?_ | refine lB ?_ fun _ => ?_
set_option maxHeartbeats 8000000 in
set_option maxRecDepth 100000 in
theorem spec_anyColors.calls (k : Nat) (g : Nat) (s0_0 : List Int) (s0_1 : Int) (a1 : Int) (r1 : List (List Int)) (r2 : Int) (w0 w : World) (hI : IsS83 w0 w g s0_0 s0_1) (hB : Below w0.heap.size w0 w) (h : spec_anyColors.f k s0_0 s0_1 a1 = some (r1, r2)) :
  Calls Try.prog 64 #[.pointer (some ⟨g, 0, none⟩), .int .i64 a1] w fun e w' => ∃ v0_ : Value, e = .returned (v0_) ∧ Kd.N (Kd.slice 3 (Kd.int .i64)) 22 w' w.heap.size (fun k_ => (w.heap.size ≤ k_)) v0_ r1 ∧ IsS83 w0 w' g s0_0 r2 ∧ Below w0.heap.size w0 w' ∧ KeepBut w w' g none := by
 have HI0 := aM hI
 have HK := aM (KeepBut.refl w g none)
 have HL := aM hB.size
 clear hI
 have HW0 := aM hB.size
 have HB := aM hB
 clear hB
 unfold spec_anyColors.f at h
 have H := h
 clear h
 obtain ⟨y520, hy520⟩ : ∃ y_ : List (List Int), y_ = (([] : List (List Int))) := ⟨_, rfl⟩
 replace H : ((spec_reader_one.f k s0_0 s0_1 (([2, 3, 4, 5, 1, 0, 16, 17] : List Int))).bind fun bt526 => (spec_anyColors.l0 k a1 y520 bt526.1 s0_0 bt526.2)) = some (r1, r2) := rY hy520 H
 have Ny520 := aM hy520
 clear hy520
 obtain ⟨y523, hy523⟩ : ∃ y_ : List Int, y_ = (([2, 3, 4, 5, 1, 0, 16, 17] : List Int)) := ⟨_, rfl⟩
 replace H : ((spec_reader_one.f k s0_0 s0_1 y523).bind fun bt526 => (spec_anyColors.l0 k a1 y520 bt526.1 s0_0 bt526.2)) = some (r1, r2) := rY hy523 H
 have Ny523 := aM hy523
 clear hy523
 replace H := Option.bind_eq_some_iff.mp H
 obtain ⟨⟨t526, t527⟩, A30, H⟩ := H
 replace H : (spec_anyColors.l0 k a1 y520 t526 s0_0 t527) = some (r1, r2) := H
 have A3 := aM A30
 clear A30
 have H' := aM H
 clear H
 go_enter Try.func64, Try.ntmps64
 go_wp2_with (first | ((with_reducible refine gate_dst (N := 9) rfl ?_); refine Kd.N_lit (Kd.slice 3 (Kd.int .i64)) _ 22 ?hg (N' := 9) ?hd (xs := ([] : List (List Int))) (inner := []) (ok := (fun k_ => (w.heap.size ≤ k_) ∧ k_ ≠ g)) (okp := (fun k_ => (w.heap.size ≤ k_) ∧ k_ ≠ g)) ?hr ?hp (fun _ hk => hk) ((show ∀ k_, w.heap.size ≤ k_ → (fun k_ => (w.heap.size ≤ k_) ∧ k_ ≠ g) k_ from fun k_ hk => ⟨(Nat.le_trans (keep_size (w := w) (g := g) (row := none) (kB HK.out)) hk), IsS83.fresh (iS83 HI0.out) k_ hk⟩) _ (Nat.le_refl _)) (Below.refl _ _) (Nat.le_refl _) (by simp) ?_; (case hd => rfl); (case hg => rfl); (case hr => first | (go_simp; done) | (go_simp; rfl)); (case hp => exact (Reps.none _ _)); intro v521 w4 ho5 hb hg_ hnew_; clear hg_ hnew_; (first | rw [← Ny520.out] at ho5 | (simp only [Int.reduceToNat] at ho5; rw [← Ny520.out] at ho5)); have HO522 := aM (Kd.N_lower ho5 (keep_size (w := w) (g := g) (row := none) (kB HK.out))); replace HK := aM (KeepBut.trans (kB HK.out) (KeepBut.of_below hb g none) (.inl rfl)); replace HB := aM (below_step (wS83 HB.out) hb); replace HI0 := aM (IsS83.below (iS83 HI0.out) hb); clear hb ho5) | ((with_reducible refine gate_dst (N := 11) rfl ?_); refine iL ([2, 3, 4, 5, 1, 0, 16, 17] : List Int) [.int .i64 2, .int .i64 3, .int .i64 4, .int .i64 5, .int .i64 1, .int .i64 0, .int .i64 16, .int .i64 17] ?_; intro v524 w6 ho7 hb hg_ hnew_; clear hg_ hnew_; (first | rw [← Ny523.out] at ho7 | (simp only [Int.reduceToNat] at ho7; rw [← Ny523.out] at ho7)); replace HO522 := aM (Kd.N_elder' (by (with_reducible repeat (first | apply Kd.N_alloc | apply Kd.N_drewN | apply Kd.N_drew)); exact HO522.out) (Kd.R_base ho7) hb); have HO525 := aM (Kd.R_lower (Kd.R_newM (M := fun k_ => (w.heap.size ≤ k_)) ho7 (keep_size (w := w) (g := g) (row := none) (kB HK.out)) (fun k_ h_ => h_)) (keep_size (w := w) (g := g) (row := none) (kB HK.out))); replace HK := aM (KeepBut.trans (kB HK.out) (KeepBut.of_below hb g none) (.inl rfl)); replace HB := aM (below_step (wS83 HB.out) hb); replace HI0 := aM (IsS83.below (iS83 HI0.out) hb); clear hb ho7; obtain ⟨Ao8, co8, rfl⟩ := sL HO525) | ((with_reducible refine gate_callee (f := 74) rfl ?_); refine gL (some 12) Try.func74 #[.pointer (some ⟨g, 0, none⟩), .slice Ao8 y523.length co8] ?_; (with_reducible refine (spec_reader_one.calls k g s0_0 s0_1 _ _ y523 t526 t527 w0 _ ?side1 ?side2 ?side3 ?side4 ?side5 A3.out).mono ?_); (case side1 => exact iS83 HI0.out); (case side2 => exact wS83 HB.out); (case side3 => exact qC (Kd.R_reads' HO525.out).2.2); (case side4 => exact (Kd.R_reads' HO525.out).2.1); (case side5 => exact far_slice (IsS83.own_ne HI0.out HO525.out (by decide))); rintro e w9 ⟨rfl, hi, hb, hk⟩; refine ⟨_, rfl, ?_⟩; replace HO522 := aM (Kd.N_mono (Kd.N_keep (Kd.N_mono (ok := fun k_ => ((((w.heap.size ≤ k_)) ∧ k_ ≠ g) ∧ some k_ ≠ (.slice Ao8 y523.length co8 : Value).ownBlock)) (by (with_reducible repeat (first | apply Kd.N_alloc | apply Kd.N_drewN | apply Kd.N_drew)); exact HO522.out) (fun k_ hk_ => (⟨hk_, hk_.1.2⟩ : _ ∧ k_ ≠ g))) hk (fun _ h => h.2)) (fun _ h => h.1)); replace HO525 := aM (Kd.R_mono (Kd.R_keep (IsS83.apart (show IsS83 w0 _ g s0_0 s0_1 from iS83 HI0.out) (qR HO525.out) (by decide)) hk (fun _ h => h.2)) (fun _ h => h.1)); replace HK := aM (KeepBut.trans (kB HK.out) hk (.inl rfl)); replace HB := aM (hb); replace HI0 := aM (hi); clear hb hk hi))
 go_loopg [5, 6] k (fun kq v5 v6 w' => ∃ (x5_1 : List (List Int)) (x6_1 : Int) (x1001_1 : Int), v6 = .int .i64 x6_1 ∧ Aside0 (spec_anyColors.l0 kq a1 x5_1 x6_1 s0_0 x1001_1 = some (r1, r2)) ∧ Aside0 (kq ≤ k) ∧ Aside0 (Kd.N (Kd.slice 3 (Kd.int .i64)) 22 w' w.heap.size (fun k_ => (w.heap.size ≤ k_) ∧ k_ ≠ g) v5 x5_1) ∧ Aside0 (IsS83 w0 w' g s0_0 x1001_1) ∧ Aside0 (KeepBut w w' g none) ∧ Aside0 (Below w0.heap.size w0 w'))
 case atStart => exact ⟨(y520), (t526), (t527), qE, H', ⟨Nat.le_refl _⟩, ⟨by (with_reducible repeat (first | apply Kd.N_alloc | apply Kd.N_drewN | apply Kd.N_drew)); exact Kd.N_mono HO522.out (fun _ hk => ⟨hk.1.1, hk.1.2⟩)⟩, ⟨iS83 HI0.out⟩, ⟨kB HK.out⟩, ⟨wS83 HB.out⟩⟩
 case round =>
  clear H'
  obtain ⟨x5_1, x6_1, x1001_1, rfl, HA, HK1, HO_5, HI0, HK, HB⟩ := hrel
  cases gk with
  | zero => exact absurd HA.out (by simp [spec_anyColors.l0])
  | succ k1 =>
   have H := HA.out
   clear HA
   simp only [spec_anyColors.l0] at H
   by_cases c10 : x6_1 > 0
   ·rw [if_pos c10] at H
    have c10b0 : decide (0 < x6_1) = true := decide_eq_true c10
    clear c10
    obtain ⟨y528, hy528⟩ : ∃ y_ : List Int, y_ = (([] : List Int)) := ⟨_, rfl⟩
    replace H : (spec_anyColors.l1 k1 a1 x5_1 x6_1 y528 0 s0_0 x1001_1) = some (r1, r2) := rY hy528 H
    have Ny528 := aM hy528
    clear hy528
    have H' := aM H
    clear H
    go_wp2_with (first | ((with_reducible refine gate_dst (N := 17) rfl ?_); refine iL ([] : List Int) [] ?_; intro v529 w11 ho12 hb hg_ hnew_; clear hg_ hnew_; (first | rw [← Ny528.out] at ho12 | (simp only [Int.reduceToNat] at ho12; rw [← Ny528.out] at ho12)); replace HO_5 := aM (Kd.N_elder' (by (with_reducible repeat (first | apply Kd.N_alloc | apply Kd.N_drewN | apply Kd.N_drew)); exact HO_5.out) (Kd.R_base ho12) hb); have HO530 := aM (Kd.R_lower (Kd.R_newM (M := fun k_ => (w.heap.size ≤ k_)) ho12 (keep_size (w := w) (g := g) (row := none) (kB HK.out)) (fun k_ h_ => h_)) (keep_size (w := w) (g := g) (row := none) (kB HK.out))); replace HK := aM (KeepBut.trans (kB HK.out) (KeepBut.of_below hb g none) (.inl rfl)); replace HB := aM (below_step (wS83 HB.out) hb); replace HI0 := aM (IsS83.below (iS83 HI0.out) hb); clear hb ho12))
    go_loopg [7, 8] k1 (fun kq v7 v8 w' => ∃ (x7_2 : List Int) (x8_2 : Int) (x1001_2 : Int), v8 = .int .i64 x8_2 ∧ Aside0 (spec_anyColors.l1 kq a1 x5_1 x6_1 x7_2 x8_2 s0_0 x1001_2 = some (r1, r2)) ∧ Aside0 (kq ≤ k1) ∧ Aside0 (Kd.N (Kd.slice 3 (Kd.int .i64)) 22 w' w.heap.size (fun k_ => (w.heap.size ≤ k_) ∧ some k_ ≠ (v7 : Value).ownBlock ∧ k_ ≠ g) u5 x5_1) ∧ Aside0 (Kd.R (Kd.int .i64) 3 w' w.heap.size (fun k_ => (w.heap.size ≤ k_)) v7 x7_2) ∧ Aside0 (IsS83 w0 w' g s0_0 x1001_2) ∧ Aside0 (KeepBut w w' g none) ∧ Aside0 (Below w0.heap.size w0 w'))
    case atStart => exact ⟨(y528), (0), (x1001_1), qE, H', ⟨Nat.le_refl _⟩, ⟨by (with_reducible repeat (first | apply Kd.N_alloc | apply Kd.N_drewN | apply Kd.N_drew)); exact Kd.N_mono HO_5.out (fun _ hk => ⟨hk.1.1, ⟨hk.2, hk.1.2⟩⟩)⟩, ⟨by refine qR ?_; exact Kd.R_mono HO530.out (fun _ hk => hk.1)⟩, ⟨iS83 HI0.out⟩, ⟨kB HK.out⟩, ⟨wS83 HB.out⟩⟩
    case round =>
     clear H'
     try clear c10
     try clear c10b0
     obtain ⟨x7_2, x8_2, x1001_2, rfl, HA, HK2, HO_5, HO_7, HI0, HK, HB⟩ := hrel
     cases gk with
     | zero => exact absurd HA.out (by simp [spec_anyColors.l1])
     | succ k2 =>
      have H := HA.out
      clear HA
      simp only [spec_anyColors.l1] at H
      by_cases c13 : x8_2 < a1
      rotate_left
      ·rw [if_neg c13] at H
       have c13b0 : decide (x8_2 < a1) = false := decide_eq_false c13
       clear c13
       replace H := iS H
       obtain ⟨c18, H⟩ := H
       have LMc18 := aM c18
       clear c18
       obtain ⟨y536, hy536⟩ : ∃ y_ : List (List Int), y_ = (x5_1 ++ [x7_2]) := ⟨_, rfl⟩
       replace H : (spec_anyColors.l0 k2 a1 y536 (wrap64 (x6_1 - 1)) s0_0 x1001_2) = some (r1, r2) := rY hy536 H
       have Ny536 := aM hy536
       clear hy536
       have H' := aM H
       clear H
       obtain ⟨Ao20, co20, rfl⟩ := sL HO_7
       go_wp2_with (first | ((with_reducible refine gate_builtin (b := .append) (xs := #[.tmp 29, .tmp 31]) rfl ?_); at_builtin; refine Kd.N_append (Kd.slice 3 (Kd.int .i64)) w.heap.size rfl (.tmp 29) (.tmp 31) 26 22 (.slice none 0 0) 24 rfl Try.underlying26 info22 rfl (by decide) (by omega) u5 x5_1 x7_2 [.slice Ao20 x7_2.length co20] (fun k_ => (w.heap.size ≤ k_) ∧ k_ ≠ g) (fun k_ => ((fun k_ => (w.heap.size ≤ k_) ∧ k_ ≠ g)) k_ ∧ some k_ ≠ (u5 : Value).ownBlock) rfl rfl ?aP (fun _ hk => hk) ?aF ?aO (Below.refl _ _) ?aS ?aL ?_; (case aP => exact (Kd.FK_slice_mk (Kd.R_reads' (Kd.R_mono (ok' := (fun k_ => ((fun k_ => (w.heap.size ≤ k_) ∧ k_ ≠ g)) k_ ∧ some k_ ≠ (u5 : Value).ownBlock)) (IsS83.apart HI0.out (Kd.R_apart' (HO_7.out) (Kd.N_typed HO_5.out) (by decide)) (by decide)) (fun k_ hk => ⟨⟨hk.1.1, hk.2⟩, hk.1.2⟩))).2.1 (Kd.R_F (Kd.R_mono (ok' := (fun k_ => ((fun k_ => (w.heap.size ≤ k_) ∧ k_ ≠ g)) k_ ∧ some k_ ≠ (u5 : Value).ownBlock)) (IsS83.apart HI0.out (Kd.R_apart' (HO_7.out) (Kd.N_typed HO_5.out) (by decide)) (by decide)) (fun k_ hk => ⟨⟨hk.1.1, hk.2⟩, hk.1.2⟩))))); (case aF => exact (fun k_ hk => ⟨(Nat.le_trans (keep_size (w := w) (g := g) (row := none) (kB HK.out)) hk), IsS83.fresh (iS83 HI0.out) k_ hk⟩)); (case aO => exact (by (with_reducible repeat (first | apply Kd.N_alloc | apply Kd.N_drewN | apply Kd.N_drew)); exact Kd.N_mono HO_5.out (fun _ hk => ⟨hk.1, hk.2.2⟩))); (case aS => exact (keep_size (w := w) (g := g) (row := none) (kB HK.out))); (case aL => have := LMc18.out; omega); intro v537 w19 ho hb hg hat; rw [← Ny536.out] at ho; replace HB := aM (below_weaken (wS83 HB.out) HL.out hb); replace HI0 := aM (IsS83.grown (iS83 HI0.out) hg (IsS83.own_neN HI0.out HO_5.out (by decide))); replace HK := aM (KeepBut.trans (kB HK.out) (KeepBut.of_grown hg g) (Kd.N_base2 HO_5.out)); have HO538 := aM (ho); clear HO_5 HO_7; clear ho hb hg hat))
       go_roundg k2
       case measure => have := HK1.out; have := HK2.out; omega
       case rel => exact ⟨(y536), (wrap64 (x6_1 - 1)), (x1001_2), qE, H', ⟨by have := HK1.out; have := HK2.out; omega⟩, ⟨by (with_reducible repeat (first | apply Kd.N_alloc | apply Kd.N_drewN | apply Kd.N_drew)); exact HO538.out⟩, ⟨iS83 HI0.out⟩, ⟨kB HK.out⟩, ⟨wS83 HB.out⟩⟩
      rw [if_pos c13] at H
      have c13b0 : decide (x8_2 < a1) = true := decide_eq_true c13
      clear c13
      replace H := Option.bind_eq_some_iff.mp H
      obtain ⟨⟨t531, t532⟩, A140, H⟩ := H
      replace H : (if x7_2.length < 17592186044416 then (spec_anyColors.l1 k2 a1 x5_1 x6_1 (x7_2 ++ [wrap64 (t531 * 60)]) (wrap64 (x8_2 + 1)) s0_0 t532) else (none)) = some (r1, r2) := H
      have A14 := aM A140
      clear A140
      replace H := iS H
      obtain ⟨c15, H⟩ := H
      have LMc15 := aM c15
      clear c15
      obtain ⟨y533, hy533⟩ : ∃ y_ : List Int, y_ = (x7_2 ++ [wrap64 (t531 * 60)]) := ⟨_, rfl⟩
      replace H : (spec_anyColors.l1 k2 a1 x5_1 x6_1 y533 (wrap64 (x8_2 + 1)) s0_0 t532) = some (r1, r2) := rY hy533 H
      have Ny533 := aM hy533
      clear hy533
      have H' := aM H
      clear H
      go_wp2_with (first | ((with_reducible refine gate_callee (f := 66) rfl ?_); refine gL (some 25) Try.func66 #[.pointer (some ⟨g, 0, none⟩), .int .i64 5] ?_; (with_reducible refine (spec_reader_pick.calls k2 g s0_0 x1001_2 5 t531 t532 w0 _ ?side1 ?side2 A14.out).mono ?_); (case side1 => exact iS83 HI0.out); (case side2 => exact wS83 HB.out); rintro e w16 ⟨rfl, hi, hb, hk⟩; refine ⟨_, rfl, ?_⟩; replace HO_5 := aM (Kd.N_mono (Kd.N_keep (Kd.N_mono (ok := fun k_ => (((w.heap.size ≤ k_)) ∧ (some k_ ≠ (u7 : Value).ownBlock ∧ k_ ≠ g))) (by (with_reducible repeat (first | apply Kd.N_alloc | apply Kd.N_drewN | apply Kd.N_drew)); exact HO_5.out) (fun k_ hk_ => (⟨hk_, hk_.2.2⟩ : _ ∧ k_ ≠ g))) hk (fun _ h => h.2)) (fun _ h => h.1)); replace HO_7 := aM (Kd.R_mono (Kd.R_keep (IsS83.apart (show IsS83 w0 _ g s0_0 x1001_2 from iS83 HI0.out) (qR HO_7.out) (by decide)) hk (fun _ h => h.2)) (fun _ h => h.1)); replace HK := aM (KeepBut.trans (kB HK.out) hk (.inl rfl)); replace HB := aM (hb); replace HI0 := aM (hi); clear hb hk hi) | ((with_reducible refine gate_builtin (b := .append) (xs := #[.tmp 23, .tmp 27]) rfl ?_); at_builtin; refine Kd.R_append (Kd.int .i64) w.heap.size rfl (.tmp 23) (.tmp 27) 22 3 (.int .i64 0) 8 rfl Try.underlying22 info3 rfl (by decide) (by omega) u7 x7_2 (wrap64 (t531 * 60)) [.int .i64 (wrap64 (t531 * 60))] (fun k_ => (w.heap.size ≤ k_)) (fun _ => False) rfl rfl ?aP (fun _ hk => hk.elim) ?aF ?aO (Below.refl _ _) ?aS ?aL ?_; (case aP => exact rfl); (case aF => exact (fun k_ hk => (Nat.le_trans (keep_size (w := w) (g := g) (row := none) (kB HK.out)) hk))); (case aO => exact (qR HO_7.out)); (case aS => exact (keep_size (w := w) (g := g) (row := none) (kB HK.out))); (case aL => have := LMc15.out; omega); intro v534 w17 ho hb hg hat; rw [← Ny533.out] at ho; replace HO_5 := aM (Kd.N_afterv (ok := (fun k_ => (w.heap.size ≤ k_) ∧ k_ ≠ g)) (by (with_reducible repeat (first | apply Kd.N_alloc | apply Kd.N_drewN | apply Kd.N_drew)); exact Kd.N_mono HO_5.out (fun _ hk => ⟨⟨hk.1, hk.2.2⟩, hk.2.1⟩)) hg hat); replace HB := aM (below_weaken (wS83 HB.out) HL.out hb); replace HI0 := aM (IsS83.grown (iS83 HI0.out) hg (IsS83.own_ne HI0.out HO_7.out (by decide))); replace HK := aM (KeepBut.trans (kB HK.out) (KeepBut.of_grown hg g) (Kd.R_base2 HO_7.out)); have HO535 := aM (ho); clear HO_7; clear ho hb hg hat))
      go_roundg k2
      case measure => have := HK1.out; have := HK2.out; omega
      case rel => exact ⟨(y533), (wrap64 (x8_2 + 1)), (t532), qE, H', ⟨by have := HK1.out; have := HK2.out; omega⟩, ⟨by (with_reducible repeat (first | apply Kd.N_alloc | apply Kd.N_drewN | apply Kd.N_drew)); exact Kd.N_mono HO_5.out (fun _ hk => ⟨hk.1.1, ⟨hk.2, hk.1.2⟩⟩)⟩, ⟨by refine qR ?_; exact HO535.out⟩, ⟨iS83 HI0.out⟩, ⟨kB HK.out⟩, ⟨wS83 HB.out⟩⟩
   rw [if_neg c10] at H
   have c10b0 : decide (0 < x6_1) = false := decide_eq_false c10
   clear c10
   have HC21 := aM H
   clear H
   go_upto_region 11 with (fail)
   go_cut [40] (fun v40 wc => ∃ (kq : Nat) (x40_20 : Bool) (x1001_20 : Int), v40 = .bool x40_20 ∧ Aside0 (spec_anyColors.j2 kq a1 x5_1 x40_20 s0_0 x1001_20 = some (r1, r2)) ∧ Aside0 (kq ≤ k1) ∧ Aside0 (Kd.N (Kd.slice 3 (Kd.int .i64)) 22 wc w.heap.size (fun k_ => (w.heap.size ≤ k_) ∧ k_ ≠ g) u5 x5_1) ∧ Aside0 (IsS83 w0 wc g s0_0 x1001_20) ∧ Aside0 (KeepBut w wc g none) ∧ Aside0 (Below w0.heap.size w0 wc))
   case first =>
    have H := HC21.out
    clear HC21
    by_cases c22 : (x5_1.length : Int) > 0
    rotate_left
    ·rw [if_neg c22] at H
     have c22b0 : decide (0 < (x5_1.length : Int)) = false := decide_eq_false c22
     have c22b1 : decide (0 < x5_1.length) = false := decide_eq_false (by omega)
     clear c22
     (first | rw [c22b0] | (simp only [i64_w, i32_w]; rw [c22b0]) | skip)
     have H' := aM H
     clear H
     obtain ⟨Ao26, co26, eo26⟩ := Kd.N_slice HO_5.out
     subst eo26
     go_wp2
     go_meet
     case rel => exact ⟨_, (false), (x1001_1), qE, H', ⟨by have := HK1.out; first | omega | exact Nat.le_refl _⟩, ⟨by (with_reducible repeat (first | apply Kd.N_alloc | apply Kd.N_drewN | apply Kd.N_drew)); exact HO_5.out⟩, ⟨iS83 HI0.out⟩, ⟨kB HK.out⟩, ⟨wS83 HB.out⟩⟩
    rw [if_pos c22] at H
    have c22b0 : decide (0 < (x5_1.length : Int)) = true := decide_eq_true c22
    have c22b1 : decide (0 < x5_1.length) = true := decide_eq_true (by omega)
    clear c22
    (first | rw [c22b0] | (simp only [i64_w, i32_w]; rw [c22b0]) | skip)
    replace H := Option.bind_eq_some_iff.mp H
    obtain ⟨⟨t539, t540⟩, A230, H⟩ := H
    replace H : (spec_anyColors.j2 k1 a1 x5_1 (t539 == 0) s0_0 t540) = some (r1, r2) := H
    have A23 := aM A230
    clear A230
    have H' := aM H
    clear H
    obtain ⟨Ao24, co24, eo24⟩ := Kd.N_slice HO_5.out
    subst eo24
    go_wp2_with (first | (go_at_call 66; (with_reducible refine (spec_reader_pick.calls k1 g s0_0 x1001_1 20 t539 t540 w0 _ ?side1 ?side2 A23.out).mono ?_); (case side1 => exact iS83 HI0.out); (case side2 => exact wS83 HB.out); rintro e w25 ⟨rfl, hi, hb, hk⟩; replace HO_5 := aM (Kd.N_mono (Kd.N_keep (Kd.N_mono (ok := fun k_ => (((w.heap.size ≤ k_)) ∧ k_ ≠ g)) (by (with_reducible repeat (first | apply Kd.N_alloc | apply Kd.N_drewN | apply Kd.N_drew)); exact HO_5.out) (fun k_ hk_ => (⟨hk_, hk_.2⟩ : _ ∧ k_ ≠ g))) hk (fun _ h => h.2)) (fun _ h => h.1)); replace HK := aM (KeepBut.trans (kB HK.out) hk (.inl rfl)); replace HB := aM (hb); replace HI0 := aM (hi); clear hb hk hi))
    go_meet
    case rel => exact ⟨_, ((t539 == 0)), (t540), qE, H', ⟨by have := HK1.out; first | omega | exact Nat.le_refl _⟩, ⟨by (with_reducible repeat (first | apply Kd.N_alloc | apply Kd.N_drewN | apply Kd.N_drew)); exact HO_5.out⟩, ⟨iS83 HI0.out⟩, ⟨kB HK.out⟩, ⟨wS83 HB.out⟩⟩
   case rest =>
    clear HC21
    try clear c10
    try clear c10b0
    try clear c13
    try clear c13b0
    try clear c15
    try clear c18
    try clear c22
    try clear c22b0
    try clear c22b1
    obtain ⟨kq, x40_20, x1001_20, rfl, HA, HJ20, HO_5, HI0, HK, HB⟩ := hcut
    cases kq with
    | zero => exact absurd HA.out (by simp [spec_anyColors.j2])
    | succ kj20 =>
     have H := HA.out
     clear HA
     simp only [spec_anyColors.j2] at H
     by_cases c27 : x40_20 = true
     rotate_left
     ·replace c27 := Bool.eq_false_iff.mpr c27
      subst c27
      have H1 : (some (x5_1, x1001_20)) = some (r1, r2) := by rw [if_neg (show ¬ (false = true) by decide)] at H; exact H
      clear H
      have H := H1
      clear H1
      simp only [Option.some.injEq, Prod.mk.injEq] at H
      obtain ⟨rfl, rfl⟩ := H
      go_wp2
      go_ret
      exact ⟨_, qX, by (with_reducible repeat (first | apply Kd.N_alloc | apply Kd.N_drewN | apply Kd.N_drew)); exact Kd.N_mono HO_5.out (fun _ hk => hk.1), iS83 HI0.out, wS83 HB.out, kB HK.out⟩
     subst c27
     have H1 : ((spec_reader_pick.f kj20 s0_0 x1001_20 2).bind fun bt541 => ((spec_anyPixel.f kj20 s0_0 bt541.2 (wrap64 (a1 + bt541.1))).bind fun bt543 => (if 0 < (x5_1.length : Int) then (some ((x5_1.set (0 : Int).toNat bt543.1), bt543.2)) else (none)))) = some (r1, r2) := by rw [if_pos rfl] at H; exact H
     clear H
     have H := H1
     clear H1
     replace H := Option.bind_eq_some_iff.mp H
     obtain ⟨⟨t541, t542⟩, A280, H⟩ := H
     replace H : ((spec_anyPixel.f kj20 s0_0 t542 (wrap64 (a1 + t541))).bind fun bt543 => (if 0 < (x5_1.length : Int) then (some ((x5_1.set (0 : Int).toNat bt543.1), bt543.2)) else (none))) = some (r1, r2) := H
     have A28 := aM A280
     clear A280
     replace H := Option.bind_eq_some_iff.mp H
     obtain ⟨⟨t543, t546⟩, A290, H⟩ := H
     replace H : (if 0 < (x5_1.length : Int) then (some ((x5_1.set (0 : Int).toNat t543), t546)) else (none)) = some (r1, r2) := H
     have A29 := aM A290
     clear A290
     replace H := iS H
     obtain ⟨c30, H⟩ := H
     have c30b0 : decide (0 < (x5_1.length : Int)) = true := decide_eq_true c30
     have c30b1 : decide (0 < x5_1.length) = true := decide_eq_true (by omega)
     clear c30
     obtain ⟨y547, hy547⟩ : ∃ y_ : List (List Int), y_ = (x5_1.set (0 : Int).toNat t543) := ⟨_, rfl⟩
     replace H : (some (y547, t546)) = some (r1, r2) := rY hy547 H
     have Ny547 := aM hy547
     clear hy547
     simp only [Option.some.injEq, Prod.mk.injEq] at H
     obtain ⟨rfl, rfl⟩ := H
     go_wp2_with (first | ((with_reducible refine gate_callee (f := 66) rfl ?_); refine gL (some 45) Try.func66 #[.pointer (some ⟨g, 0, none⟩), .int .i64 2] ?_; (with_reducible refine (spec_reader_pick.calls kj20 g s0_0 x1001_20 2 t541 t542 w0 _ ?side1 ?side2 A28.out).mono ?_); (case side1 => exact iS83 HI0.out); (case side2 => exact wS83 HB.out); rintro e w32 ⟨rfl, hi, hb, hk⟩; refine ⟨_, rfl, ?_⟩; replace HO_5 := aM (Kd.N_mono (Kd.N_keep (Kd.N_mono (ok := fun k_ => (((w.heap.size ≤ k_)) ∧ k_ ≠ g)) (by (with_reducible repeat (first | apply Kd.N_alloc | apply Kd.N_drewN | apply Kd.N_drew)); exact HO_5.out) (fun k_ hk_ => (⟨hk_, hk_.2⟩ : _ ∧ k_ ≠ g))) hk (fun _ h => h.2)) (fun _ h => h.1)); replace HK := aM (KeepBut.trans (kB HK.out) hk (.inl rfl)); replace HB := aM (hb); replace HI0 := aM (hi); clear hb hk hi) | ((with_reducible refine gate_callee (f := 83) rfl ?_); refine gL (some 47) Try.func83 #[.pointer (some ⟨g, 0, none⟩), .int .i64 (wrap64 (a1 + t541))] ?_; (with_reducible refine (spec_anyPixel.calls kj20 g s0_0 t542 (wrap64 (a1 + t541)) t543 t546 w0 _ ?side1 ?side2 A29.out).mono ?_); (case side1 => exact iS83 HI0.out); (case side2 => exact wS83 HB.out); rintro e w33 ⟨v544, rfl, ho0, hi, hb, hk⟩; refine ⟨_, rfl, ?_⟩; have n0_ := aM (Kd.N_mono (Kd.N_told (Kd.N_oldK (Kd.N_mono (ok := fun k_ => (((w.heap.size ≤ k_)) ∧ k_ ≠ g)) (by (with_reducible repeat (first | apply Kd.N_alloc | apply Kd.N_drewN | apply Kd.N_drew)); exact HO_5.out) (fun k_ hk_ => (⟨hk_, hk_.2⟩ : _ ∧ k_ ≠ g))) hk) (Kd.Q_base ho0)) (fun _ h_ => h_.1)); have n1_ := aM (Kd.Q_lower (Kd.Q_newM (M := fun k_ => (w.heap.size ≤ k_)) ho0 (keep_size (w := w) (g := g) (row := none) (kB HK.out)) (fun k_ h_ => h_)) (keep_size (w := w) (g := g) (row := none) (kB HK.out))); have n2_ := aM (KeepBut.trans (kB HK.out) hk (.inl rfl)); have n3_ := aM (hb); have n4_ := aM (hi); clear HO_5; clear HK; clear HB; clear HI0; have HO_5 := n0_; have HO545 := n1_; obtain ⟨Aqv544, cqv544, eqv544, _⟩ := Kd.Q_slice HO545.out; subst eqv544; have HK := n2_; have HB := n3_; have HI0 := n4_; clear n0_ n1_ n2_ n3_ n4_; clear hb hk hi ho0; have p31 : 0 ≤ (0 : Int) := (by omega); have q31 : (0 : Int) < ((x5_1.length : Int) : Int) := oD; have qi31 : (0 < x5_1.length) = True := eq_true (by omega); obtain ⟨go31, co31, eo31, gb31, gl31, cl31, HG31⟩ := Kd.N_form HO_5.out (by omega); (first | cases eo31 | (injection eo31 with ea_ en_ ec_; (first | subst ea_ | (injection ea_ with ea_; subst ea_)); subst ec_; clear en_)); have GB31 := aM gb31; have GG31 := aM HG31; clear gb31 gl31 HG31; obtain ⟨ce31, hcl31, hM31, hcc31, hfr31⟩ := Kd.N_elem HO_5.out [] (0 : Int) p31 q31; obtain ⟨ua31_0, uc31_0, rfl, ul31_0, ge31_0⟩ := Kd.FK_slice_open hM31; have hx31_0 := hcc31 0 _ rfl; have hf31_0 := hfr31 0; (try simp only [show ((Kd.slice 3 (Kd.int .i64))).sz = 1 from rfl, Nat.mul_one, Nat.add_zero] at hx31_0); (try simp only [show ((Kd.slice 3 (Kd.int .i64))).sz = 1 from rfl, Nat.mul_one, Nat.add_zero] at hf31_0); (try clear hcl31); (try clear hcc31); (try clear hfr31); (try clear hM31); (try rw [show ((0 : Int)).toNat = 0 from rfl] at hx31_0); (try simp only [Nat.reduceMul, Nat.zero_mul, Nat.zero_add, Nat.reduceAdd] at hx31_0); (try rw [show ((0 : Int)).toNat = 0 from rfl] at hf31_0); (try simp only [Nat.reduceMul, Nat.zero_mul, Nat.zero_add, Nat.reduceAdd] at hf31_0); replace p31 := eq_true p31; replace q31 := eq_true q31; have n_ := aM (Kd.N_mono (ok' := (fun k_ => (w.heap.size ≤ k_) ∧ some k_ ≠ ((.slice Aqv544 t543.length cqv544) : Value).ownBlock)) HO_5.out (fun k_ hk => ⟨hk.1.1, hk.2⟩)); clear HO_5; have HO_5 := n_; clear n_; have HX34 := aM (show Kd.N (Kd.slice 3 (Kd.int .i64)) 22 w33 w.heap.size (fun k_ => (w.heap.size ≤ k_)) (.slice (some ⟨go31, 0, none⟩) x5_1.length co31) x5_1 from (by (with_reducible repeat (first | apply Kd.N_alloc | apply Kd.N_drewN | apply Kd.N_drew)); exact Kd.N_mono HO_5.out (fun _ hk => hk.1))); obtain ⟨ce34, hcl34, hM34, hcc34, hfr34⟩ := Kd.N_elem HX34.out [] (0 : Int) (by omega) (by have h_ : (0 : Int) < ((x5_1.length : Int) : Int) := oD; first | exact h_ | (have e_ := (Kd.N_reads' HO_5.out).1; omega) | simpa using h_); obtain ⟨ua34_0, uc34_0, rfl, ul34_0, ge34_0⟩ := Kd.FK_slice_open hM34; have HP34 := Kd.N_seg HX34.out (0 : Int) (by omega) (by have h_ : (0 : Int) < ((x5_1.length : Int) : Int) := oD; first | exact h_ | (have e_ := (Kd.N_reads' HO_5.out).1; omega) | simpa using h_) (seg := [(.slice Aqv544 t543.length cqv544)]) (j := 0) hcl34 hcc34 (show 1 ≤ 1 from by decide) (x' := t543) (FK_of_Q (Kd.Q_mono (ok' := (fun k_ => ((fun k_ => (w.heap.size ≤ k_))) k_ ∧ k_ ≠ go31)) (Kd.Q_apart' (HO545.out) (Kd.N_typed HO_5.out) (by decide)) (fun k_ hk => ⟨hk.1.1, fun e_ => (hk.2) (by rw [e_]; rfl)⟩))) (fun _ hk => hk); have hx34_0 := hcc34 0 _ rfl; (try simp only [show ((Kd.slice 3 (Kd.int .i64))).sz = 1 from rfl, Nat.mul_one, Nat.add_zero] at hx34_0); (try rw [show ((0 : Int)).toNat = 0 from rfl] at hx34_0); (try simp only [Nat.reduceMul, Nat.zero_mul, Nat.zero_add, Nat.reduceAdd] at hx34_0); have hf34_0 := hfr34 0; (try simp only [show ((Kd.slice 3 (Kd.int .i64))).sz = 1 from rfl, Nat.mul_one, Nat.add_zero] at hf34_0); (try rw [show ((0 : Int)).toNat = 0 from rfl] at hf34_0); (try simp only [Nat.reduceMul, Nat.zero_mul, Nat.zero_add, Nat.reduceAdd] at hf34_0); (try clear hcl34); (try clear hcc34); (try clear hfr34); (try clear hM34); (try simp only [show ((Kd.slice 3 (Kd.int .i64))).sz = 1 from rfl, Nat.mul_one, Nat.add_zero] at HP34); (try simp only [show ((Kd.slice 3 (Kd.int .i64))).sz = 1 from rfl, Nat.mul_one, Nat.add_zero] at HP34)) | ((with_reducible refine gate_store (t := 22) (p := 48) rfl ?_); refine store_event (t := 22) (p := 48) (v := ?vo_w35) (w1 := (w33.setCell ⟨go31, 0, none⟩ ((.slice Aqv544 t543.length cqv544)))) ?hg ?ho ?hn ?hr ?_; (case ho => rfl); (case hg => rfl); (case hn => rfl); (case hr => first | (go_simp; done) | (go_simp; rfl)); intro w35 hw; have hg : w33.grownBy w35 (some go31) := (by rw [hw]; exact HP34.2); have hp_ : Kd.N (Kd.slice 3 (Kd.int .i64)) 22 w35 w.heap.size (fun k_ => (w.heap.size ≤ k_)) (.slice (some ⟨go31, 0, none⟩) x5_1.length co31) y547 := (by rw [hw, Ny547.out]; exact HP34.1); clear HP34; replace HI0 := aM (IsS83.grown (iS83 HI0.out) hg (IsS83.own_neN HI0.out HO_5.out (by decide))); replace HB := aM ((by rw [hw]; exact below_set (HB.out) (Nat.le_trans HL.out GB31.out) : Below w0.heap.size w0 w35)); replace HK := aM (KeepBut.trans (kB HK.out) (KeepBut.of_grown hg g) (Kd.N_base2 HO_5.out)); replace HO_5 := aM (hp_); clear HO545; clear hg hw hp_))
     go_ret
     exact ⟨_, qX, by (with_reducible repeat (first | apply Kd.N_alloc | apply Kd.N_drewN | apply Kd.N_drew)); exact HO_5.out, iS83 HI0.out, wS83 HB.out, kB HK.out⟩
def spec_anyPlanes.f (k : Nat) (s0_0 : List Int) (s0_1 : Int) : Option (Int × Int) := (spec_reader_one.f k s0_0 s0_1 (([1, 3, 1, 4, 2] : List Int))).bind fun bt232 => (some (bt232.1, bt232.2))
theorem spec_anyPlanes.mono : ∀ a0 a1 k, LeO (spec_anyPlanes.f k a0 a1) (spec_anyPlanes.f (k + 1) a0 a1) := by
 intro a0 a1 k
 unfold spec_anyPlanes.f
 repeat' first | (with_reducible first | exact spec_reader_one.mono _ _ _ _ | exact lR | exact lN | refine lI ?_ ?_ | refine lB ?_ fun _ => ?_) | exact spec_reader_one.mono _ _ _ _ | exact lN | refine lI ?_ ?_ | refine lB ?_ fun _ => ?_
set_option maxHeartbeats 8000000 in
set_option maxRecDepth 100000 in
theorem spec_anyPlanes.calls (k : Nat) (g : Nat) (s0_0 : List Int) (s0_1 : Int) (r1 : Int) (r2 : Int) (w0 w : World) (hI : IsS83 w0 w g s0_0 s0_1) (hB : Below w0.heap.size w0 w) (h : spec_anyPlanes.f k s0_0 s0_1 = some (r1, r2)) :
  Calls Try.prog 63 #[.pointer (some ⟨g, 0, none⟩)] w fun e w' => e = .returned (.int .i64 r1) ∧ IsS83 w0 w' g s0_0 r2 ∧ Below w0.heap.size w0 w' ∧ KeepBut w w' g none := by
 have HI0 := aM hI
 have HK := aM (KeepBut.refl w g none)
 have HL := aM hB.size
 clear hI
 have HW0 := aM hB.size
 have HB := aM hB
 clear hB
 unfold spec_anyPlanes.f at h
 have H := h
 clear h
 obtain ⟨y229, hy229⟩ : ∃ y_ : List Int, y_ = (([1, 3, 1, 4, 2] : List Int)) := ⟨_, rfl⟩
 replace H : ((spec_reader_one.f k s0_0 s0_1 y229).bind fun bt232 => (some (bt232.1, bt232.2))) = some (r1, r2) := rY hy229 H
 have Ny229 := aM hy229
 clear hy229
 replace H := Option.bind_eq_some_iff.mp H
 obtain ⟨⟨t232, t233⟩, A20, H⟩ := H
 replace H : (some (t232, t233)) = some (r1, r2) := H
 have A2 := aM A20
 clear A20
 simp only [Option.some.injEq, Prod.mk.injEq] at H
 obtain ⟨rfl, rfl⟩ := H
 go_enter Try.func63, Try.ntmps63
 go_wp2_with (first | ((with_reducible refine gate_dst (N := 4) rfl ?_); refine iL ([1, 3, 1, 4, 2] : List Int) [.int .i64 1, .int .i64 3, .int .i64 1, .int .i64 4, .int .i64 2] ?_; intro v230 w3 ho4 hb hg_ hnew_; clear hg_ hnew_; (first | rw [← Ny229.out] at ho4 | (simp only [Int.reduceToNat] at ho4; rw [← Ny229.out] at ho4)); have HO231 := lK ho4 HK; replace HK := aM (KeepBut.trans (kB HK.out) (KeepBut.of_below hb g none) (.inl rfl)); replace HB := aM (below_step (wS83 HB.out) hb); replace HI0 := aM (IsS83.below (iS83 HI0.out) hb); clear hb ho4; obtain ⟨Ao5, co5, rfl⟩ := sL HO231) | ((with_reducible refine gate_callee (f := 74) rfl ?_); refine gL (some 5) Try.func74 #[.pointer (some ⟨g, 0, none⟩), .slice Ao5 y229.length co5] ?_; (with_reducible refine (spec_reader_one.calls k g s0_0 s0_1 _ _ y229 t232 t233 w0 _ ?side1 ?side2 ?side3 ?side4 ?side5 A2.out).mono ?_); (case side1 => exact iS83 HI0.out); (case side2 => exact wS83 HB.out); (case side3 => exact qC (Kd.R_reads' HO231.out).2.2); (case side4 => exact (Kd.R_reads' HO231.out).2.1); (case side5 => exact far_slice (IsS83.own_ne HI0.out HO231.out (by decide))); rintro e w6 ⟨rfl, hi, hb, hk⟩; refine ⟨_, rfl, ?_⟩; replace HO231 := aM (Kd.R_mono (Kd.R_keep (IsS83.apart (show IsS83 w0 _ g s0_0 s0_1 from iS83 HI0.out) (qR HO231.out) (by decide)) hk (fun _ h => h.2)) (fun _ h => h.1)); replace HK := aM (KeepBut.trans (kB HK.out) hk (.inl rfl)); replace HB := aM (hb); replace HI0 := aM (hi); clear hb hk hi))
 go_ret
 exact ⟨qX, iS83 HI0.out, wS83 HB.out, kB HK.out⟩
end Go.Proofs.Ytohbpilokmppbaa.P
