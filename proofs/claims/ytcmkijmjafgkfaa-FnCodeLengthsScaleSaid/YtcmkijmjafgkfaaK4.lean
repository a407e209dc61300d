/- Contracts and row, written by a program of this place out of the translation: the call answers true and its argument reads as before, for every input; no condition. -/
import Derived.Test.YtcmkijmjafgkfaaK0
import Derived.Test.YtcmkijmjafgkfaaK1
import Derived.Test.YtcmkijmjafgkfaaK2
import Derived.Test.YtcmkijmjafgkfaaK3
namespace Go.Proofs.Ytcmkijmjafgkfaa.P
open Go.RowKit Go.Proofs.YtcmkijmjafgkfaaW.PrintWords Go.Proofs.YtcmkijmjafgkfaaW.PrintLast Go.Proofs.YtcmkijmjafgkfaaW.PrintMore
attribute [local go_sem] max2_int min2_int max_two min_two max_three min_three max_four min_four   -- for this text's walks alone
set_option linter.unusedVariables false
set_option linter.unusedSimpArgs false
def spec_newReader.f (l0 : List Int) : Option (List Int × Int) := if (l0.length : Int) > 2000 then (if 2000 ≤ (l0.length : Int) then (some (l0.take 2000, 0)) else (none)) else (some (l0, 0))
set_option maxHeartbeats 8000000 in
set_option maxRecDepth 100000 in
theorem spec_newReader.calls (A0 : Option Addr) (c0 : Nat) (l0 : List Int) (r1 : List Int) (r2 : Int) (w0 w : World) (hB : Below w0.heap.size w0 w) (hr0 : Kd.C (Kd.int .u8) w0 A0 l0.length l0) (hc0 : l0.length ≤ c0) (h : spec_newReader.f l0 = some (r1, r2)) :
  Calls Try.prog 33 #[.slice A0 l0.length c0] w fun e w' => ∃ g_ : Nat, e = .returned (.pointer (some ⟨g_, 0, none⟩)) ∧ IsS60 w0 w' g_ r1 r2 ∧ Below w0.heap.size w0 w' ∧ Below w.heap.size w w' := by
 have hu60 := Try.underlying60
 have HR0 := aM hr0
 have HC0 := aM hc0
 clear hr0 hc0
 have HBW := aM (Below.refl w.heap.size w)
 have HW0 := aM hB.size
 have HB := aM hB
 clear hB
 unfold spec_newReader.f at h
 have H := h
 clear h
 by_cases c2 : (l0.length : Int) > 2000
 rotate_left
 ·rw [if_neg c2] at H
  have c2b0 : decide (2000 < (l0.length : Int)) = false := decide_eq_false c2
  have c2b1 : decide (2000 < l0.length) = false := decide_eq_false (by omega)
  clear c2
  simp only [Option.some.injEq, Prod.mk.injEq] at H
  obtain ⟨rfl, rfl⟩ := H
  go_enter Try.func33, Try.ntmps33
  go_wp2_with (first | ((with_reducible refine gate_dst (N := 10) rfl ?_); refine bxE (N := 10) (cs := #[.slice A0 l0.length c0, .int .i64 0]) (t := 60) ?_; intro gb193 hg w6 hbox hb; replace HB := bS HB hb; have BK193 := aM (hbox); have GW193 := aM ((by rw [hg]; exact (below_size (qW HBW.out)) : w.heap.size ≤ gb193)); have GE193 := aM ((Nat.le_trans HW0.out (by rw [hg]; exact (below_size (qW HBW.out)) : w.heap.size ≤ gb193) : w0.heap.size ≤ gb193)); replace HBW := aM (below_step HBW.out hb); clear hb hbox hg))
  go_ret
  exact ⟨_, rfl, (show IsS60 w0 _ gb193 l0 0 from ⟨_, _, by refine qB ?_; exact BK193.out, GE193.out, HR0.out⟩), by exact qW HB.out, by exact qW HBW.out⟩
 rw [if_pos c2] at H
 have c2b0 : decide (2000 < (l0.length : Int)) = true := decide_eq_true c2
 have c2b1 : decide (2000 < l0.length) = true := decide_eq_true (by omega)
 clear c2
 replace H := iS H
 obtain ⟨c3, H⟩ := H
 have c3b0 := eq_true c3
 have c3b1 : decide (2000 ≤ (l0.length : Int)) = true := decide_eq_true c3
 clear c3
 simp only [Option.some.injEq, Prod.mk.injEq] at H
 obtain ⟨rfl, rfl⟩ := H
 obtain ⟨i04, hi04, _, hsz4, _⟩ := info_parts info5
 obtain ⟨hcut4, hA4, hC4⟩ := print_take_of (P := Try.prog) (Value.int .u8) 0 27 5 .i64 Try.underlying27 hi04 hsz4 A0 c0 l0 2000 (by omega) oD HC0.out
 have HR191 := aM (Kd.C_of_reads (h1 := fun _ => rfl) (hA4 _ (Kd.reads_of_C HR0.out)))
 have HC191 := aM hC4
 clear hA4 hC4 hi04 hsz4
 go_enter Try.func33, Try.ntmps33
 go_wp2_with (first | ((with_reducible refine gate_dst (N := 10) rfl ?_); refine bxE (N := 10) (cs := #[.slice A0 (l0.take 2000).length c0, .int .i64 0]) (t := 60) ?_; intro gb192 hg w5 hbox hb; replace HB := bS HB hb; have BK192 := aM (hbox); have GW192 := aM ((by rw [hg]; exact (below_size (qW HBW.out)) : w.heap.size ≤ gb192)); have GE192 := aM ((Nat.le_trans HW0.out (by rw [hg]; exact (below_size (qW HBW.out)) : w.heap.size ≤ gb192) : w0.heap.size ≤ gb192)); replace HBW := aM (below_step HBW.out hb); clear hb hbox hg))
 go_ret
 exact ⟨_, rfl, (show IsS60 w0 _ gb192 (l0.take 2000) 0 from ⟨_, _, by refine qB ?_; exact BK192.out, GE192.out, HR191.out⟩), by exact qW HB.out, by exact qW HBW.out⟩
def spec_reader_pick.j0 : Nat → Int → Bool → List Int → Int → Option (Int × Int)
 | 0, _, _, _, _ => none
 | k + 1, x1, x24, x1000, x1001 => if x24 = true then (some (0, x1001)) else (if (wrap64 (x1001 - 1)) < (x1000.length : Int) then (if 0 ≤ (wrap64 (x1001 - 1)) then (if x1 = 0 then (none) else (some (Int.tmod (wrap64 (rd x1000 (wrap64 (x1001 - 1)))) x1, x1001))) else (none)) else (if (x1000.length : Int) = 0 then (none) else (if 0 ≤ (Int.tmod (wrap64 (x1001 - 1)) (x1000.length : Int)) then (if (Int.tmod (wrap64 (x1001 - 1)) (x1000.length : Int)) < (x1000.length : Int) then (if 0 ≤ (Int.tmod (wrap64 ((wrap64 ((wrap64 (x1001 - 1)) * 7)) + 3)) (x1000.length : Int)) then (if (Int.tmod (wrap64 ((wrap64 ((wrap64 (x1001 - 1)) * 7)) + 3)) (x1000.length : Int)) < (x1000.length : Int) then (if x1 = 0 then (none) else (some (Int.tmod (Go.bits .xor .i64 (wrap64 ((wrap64 ((wrap64 ((wrap64 ((wrap64 (rd x1000 (Int.tmod (wrap64 (x1001 - 1)) (x1000.length : Int)))) * 131)) + (wrap64 ((wrap64 (rd x1000 (Int.tmod (wrap64 ((wrap64 ((wrap64 (x1001 - 1)) * 7)) + 3)) (x1000.length : Int)))) * 1117)))) + (wrap64 ((wrap64 (x1001 - 1)) * 29)))) + (wrap64 ((wrap64 (Int.tdiv (wrap64 (x1001 - 1)) (x1000.length : Int))) * 53)))) (wrap64 (Int.tdiv (wrap64 ((wrap64 ((wrap64 ((wrap64 ((wrap64 (rd x1000 (Int.tmod (wrap64 (x1001 - 1)) (x1000.length : Int)))) * 131)) + (wrap64 ((wrap64 (rd x1000 (Int.tmod (wrap64 ((wrap64 ((wrap64 (x1001 - 1)) * 7)) + 3)) (x1000.length : Int)))) * 1117)))) + (wrap64 ((wrap64 (x1001 - 1)) * 29)))) + (wrap64 ((wrap64 (Int.tdiv (wrap64 (x1001 - 1)) (x1000.length : Int))) * 53)))) 64))) x1, x1001))) else (none)) else (none)) else (none)) else (none))))
def spec_reader_pick.f (k : Nat) (s0_0 : List Int) (s0_1 : Int) (a1 : Int) : Option (Int × Int) := if a1 < 1 then (spec_reader_pick.j0 k a1 true s0_0 (wrap64 (s0_1 + 1))) else (spec_reader_pick.j0 k a1 ((s0_0.length : Int) == 0) s0_0 (wrap64 (s0_1 + 1)))
theorem spec_reader_pick.mono_l : ∀ k, (∀ y0 y1 y2 y3, LeO (spec_reader_pick.j0 k y0 y1 y2 y3) (spec_reader_pick.j0 (k + 1) y0 y1 y2 y3))
 | 0 => fun _ _ _ _ r h => by simp [spec_reader_pick.j0] at h
 | k + 1 => by
  have ih0 := spec_reader_pick.mono_l k
  ·intro y0 y1 y2 y3
   unfold spec_reader_pick.j0
   repeat' first | (with_reducible first | exact ih0 _ _ _ _ | exact lR | exact lN | refine lI ?_ ?_ | refine lB ?_ fun _ => ?_) | exact ih0 _ _ _ _ | exact lN | refine lI ?_ ?_ | refine lB ?_ fun _ => ?_
theorem spec_reader_pick.mono : ∀ a0 a1 a2 k, LeO (spec_reader_pick.f k a0 a1 a2) (spec_reader_pick.f (k + 1) a0 a1 a2) := by
 intro a0 a1 a2 k
 have ih0 := spec_reader_pick.mono_l k
 unfold spec_reader_pick.f
 repeat' first | (with_reducible first | exact ih0 _ _ _ _ | exact lR | exact lN | refine lI ?_ ?_ | refine lB ?_ fun _ => ?_) | exact ih0 _ _ _ _ | exact lN | refine lI ?_ ?_ | refine lB ?_ fun _ => ?_
set_option maxHeartbeats 8000000 in
set_option maxRecDepth 100000 in
theorem spec_reader_pick.calls (k : Nat) (g : Nat) (s0_0 : List Int) (s0_1 : Int) (a1 : Int) (r1 : Int) (r2 : Int) (w0 w : World) (hI : IsS60 w0 w g s0_0 s0_1) (hB : Below w0.heap.size w0 w) (h : spec_reader_pick.f k s0_0 s0_1 a1 = some (r1, r2)) :
  Calls Try.prog 36 #[.pointer (some ⟨g, 0, none⟩), .int .i64 a1] w fun e w' => e = .returned (.int .i64 r1) ∧ IsS60 w0 w' g s0_0 r2 ∧ Below w0.heap.size w0 w' ∧ KeepBut w w' g none := by
 have HI0 := aM hI
 have HK := aM (KeepBut.refl w g none)
 have HL := aM hB.size
 clear hI
 have HW0 := aM hB.size
 have HB := aM hB
 clear hB
 unfold spec_reader_pick.f at h
 have H := h
 clear h
 have HC3 := aM H
 clear H
 obtain ⟨ASz4_0, cSz4_0, HGz4, hgz4, HSz4_0⟩ := HI0.out
 have hcz4_0 := cellS60_0 HGz4
 have hcz4_1 := cellS60_1 HGz4
 have hfz4_1 := blk_frozen HGz4 1
 clear HGz4 hgz4
 go_enter Try.func36, Try.ntmps36
 go_upto_region 2 with (fail)
 repeat (go_quiet (fail); go_upto_region 2 with (fail))
 go_cut [24] (fun v24 wc => ∃ (kq : Nat) (x24_2 : Bool), v24 = .bool x24_2 ∧ Aside0 (spec_reader_pick.j0 kq a1 x24_2 s0_0 (wrap64 (s0_1 + 1)) = some (r1, r2)) ∧ Aside0 (kq ≤ k) ∧ Aside0 (IsS60 w0 wc g s0_0 (wrap64 (s0_1 + 1))) ∧ Aside0 (KeepBut w wc g none) ∧ Aside0 (Below w0.heap.size w0 wc))
 case first =>
  have H := HC3.out
  clear HC3
  by_cases c5 : a1 < 1
  ·rw [if_pos c5] at H
   have c5b0 : decide (a1 < 1) = true := decide_eq_true c5
   clear c5
   (first | rw [c5b0] | (simp only [i64_w, i32_w]; rw [c5b0]) | skip)
   have H' := aM H
   clear H
   go_wp2
   repeat (go_quiet (fail); try go_wp2)
   go_meet
   case rel => exact ⟨_, (true), qE, H', ⟨by first | omega | exact Nat.le_refl _⟩, ⟨iS60 HI0.out⟩, ⟨kB HK.out⟩, ⟨wS60 HB.out⟩⟩
  rw [if_neg c5] at H
  have c5b0 : decide (a1 < 1) = false := decide_eq_false c5
  clear c5
  (first | rw [c5b0] | (simp only [i64_w, i32_w]; rw [c5b0]) | skip)
  have H' := aM H
  clear H
  obtain ⟨ASz6_0, cSz6_0, HGz6, hgz6, HSz6_0⟩ := HI0.out
  have hcz6_0 := cellS60_0 HGz6
  have hcz6_1 := cellS60_1 HGz6
  have hfz6_1 := blk_frozen HGz6 1
  clear HGz6 hgz6
  go_wp2
  repeat (go_quiet (fail); try go_wp2)
  go_meet
  case rel => exact ⟨_, (((s0_0.length : Int) == 0)), qE, H', ⟨by first | omega | exact Nat.le_refl _⟩, ⟨iS60 HI0.out⟩, ⟨kB HK.out⟩, ⟨wS60 HB.out⟩⟩
 case rest =>
  clear HC3
  try clear c5
  try clear c5b0
  try clear hcz4_0 hcz4_1 hfz4_1
  try clear hcz6_0 hcz6_1 hfz6_1
  obtain ⟨kq, x24_2, rfl, HA, HJ2, HI0, HK, HB⟩ := hcut
  cases kq with
  | zero => exact absurd HA.out (by simp [spec_reader_pick.j0])
  | succ kj2 =>
   have H := HA.out
   clear HA
   simp only [spec_reader_pick.j0] at H
   by_cases c7 : x24_2 = true
   ·subst c7
    have H1 : (some (0, (wrap64 (s0_1 + 1)))) = some (r1, r2) := by rw [if_pos rfl] at H; exact H
    clear H
    have H := H1
    clear H1
    simp only [Option.some.injEq, Prod.mk.injEq] at H
    obtain ⟨rfl, rfl⟩ := H
    go_wp2
    repeat (go_quiet (fail); try go_wp2)
    go_ret
    exact ⟨qX, iS60 HI0.out, wS60 HB.out, kB HK.out⟩
   replace c7 := Bool.eq_false_iff.mpr c7
   subst c7
   have H1 : (if (wrap64 ((wrap64 (s0_1 + 1)) - 1)) < (s0_0.length : Int) then (if 0 ≤ (wrap64 ((wrap64 (s0_1 + 1)) - 1)) then (if a1 = 0 then (none) else (some (Int.tmod (wrap64 (rd s0_0 (wrap64 ((wrap64 (s0_1 + 1)) - 1)))) a1, (wrap64 (s0_1 + 1))))) else (none)) else (if (s0_0.length : Int) = 0 then (none) else (if 0 ≤ (Int.tmod (wrap64 ((wrap64 (s0_1 + 1)) - 1)) (s0_0.length : Int)) then (if (Int.tmod (wrap64 ((wrap64 (s0_1 + 1)) - 1)) (s0_0.length : Int)) < (s0_0.length : Int) then (if 0 ≤ (Int.tmod (wrap64 ((wrap64 ((wrap64 ((wrap64 (s0_1 + 1)) - 1)) * 7)) + 3)) (s0_0.length : Int)) then (if (Int.tmod (wrap64 ((wrap64 ((wrap64 ((wrap64 (s0_1 + 1)) - 1)) * 7)) + 3)) (s0_0.length : Int)) < (s0_0.length : Int) then (if a1 = 0 then (none) else (some (Int.tmod (Go.bits .xor .i64 (wrap64 ((wrap64 ((wrap64 ((wrap64 ((wrap64 (rd s0_0 (Int.tmod (wrap64 ((wrap64 (s0_1 + 1)) - 1)) (s0_0.length : Int)))) * 131)) + (wrap64 ((wrap64 (rd s0_0 (Int.tmod (wrap64 ((wrap64 ((wrap64 ((wrap64 (s0_1 + 1)) - 1)) * 7)) + 3)) (s0_0.length : Int)))) * 1117)))) + (wrap64 ((wrap64 ((wrap64 (s0_1 + 1)) - 1)) * 29)))) + (wrap64 ((wrap64 (Int.tdiv (wrap64 ((wrap64 (s0_1 + 1)) - 1)) (s0_0.length : Int))) * 53)))) (wrap64 (Int.tdiv (wrap64 ((wrap64 ((wrap64 ((wrap64 ((wrap64 (rd s0_0 (Int.tmod (wrap64 ((wrap64 (s0_1 + 1)) - 1)) (s0_0.length : Int)))) * 131)) + (wrap64 ((wrap64 (rd s0_0 (Int.tmod (wrap64 ((wrap64 ((wrap64 ((wrap64 (s0_1 + 1)) - 1)) * 7)) + 3)) (s0_0.length : Int)))) * 1117)))) + (wrap64 ((wrap64 ((wrap64 (s0_1 + 1)) - 1)) * 29)))) + (wrap64 ((wrap64 (Int.tdiv (wrap64 ((wrap64 (s0_1 + 1)) - 1)) (s0_0.length : Int))) * 53)))) 64))) a1, (wrap64 (s0_1 + 1))))) else (none)) else (none)) else (none)) else (none)))) = some (r1, r2) := by rw [if_neg (show ¬ (false = true) by decide)] at H; exact H
   clear H
   have H := H1
   clear H1
   by_cases c8 : (wrap64 ((wrap64 (s0_1 + 1)) - 1)) < (s0_0.length : Int)
   ·rw [if_pos c8] at H
    have c8b0 : decide ((wrap64 ((wrap64 (s0_1 + 1)) - 1)) < (s0_0.length : Int)) = true := decide_eq_true c8
    clear c8
    obtain ⟨ji9, hji9⟩ : ∃ j_ : Int, (wrap64 ((wrap64 (s0_1 + 1)) - 1)) = j_ := ⟨_, rfl⟩
    replace H : (if 0 ≤ (ji9) then (if a1 = 0 then (none) else (some (Int.tmod (wrap64 (rd s0_0 (ji9))) a1, (wrap64 (s0_1 + 1))))) else (none)) = some (r1, r2) := by first | (rw [hji9] at H; exact H) | (simp only [hji9] at H ⊢; exact H)
    (try rw [hji9] at c8b0)
    have hji9w : (IntKind.i64.wrap ((wrap64 (s0_1 + 1)) - 1)) = ji9 := (i64_w _).trans hji9
    replace H := iD H
    obtain ⟨c10b0, H⟩ := H
    by_cases c11 : a1 = 0
    ·rw [if_pos c11] at H
     exact absurd H (by simp)
    rw [if_neg c11] at H
    have c11b0 : (a1 == 0) = false := beq_eq_false_iff_ne.mpr c11
    have c11b1 : (a1 != 0) = true := bne_iff_ne.mpr c11
    simp only [Option.some.injEq, Prod.mk.injEq] at H
    obtain ⟨rfl, rfl⟩ := H
    obtain ⟨ASz12_0, cSz12_0, HGz12, hgz12, HSz12_0⟩ := HI0.out
    have hcz12_0 := cellS60_0 HGz12
    have hcz12_1 := cellS60_1 HGz12
    have hfz12_1 := blk_frozen HGz12 1
    clear HGz12 hgz12
    obtain ⟨ad194, e194, hx194_0⟩ := Kd.at_int HSz12_0 (ji9) oD oD
    cases e194
    replace hx194_0 := pw_cell_below HB.out hx194_0
    have p194 := eq_true (oD : 0 ≤ ((ji9) : Int))
    have q194 := eq_true (oD : (ji9) < (s0_0.length : Int))
    go_wp2
    repeat (go_quiet (fail); try go_wp2)
    go_ret
    exact ⟨by first | rfl | (simp [errW_none, errW_some] <;> rfl) | (simp only [← hji9]; first | rfl | (simp [errW_none, errW_some] <;> rfl)) | (simp [*, errW_none, errW_some] <;> rfl), iS60 HI0.out, wS60 HB.out, kB HK.out⟩
   rw [if_neg c8] at H
   have c8b0 : decide ((wrap64 ((wrap64 (s0_1 + 1)) - 1)) < (s0_0.length : Int)) = false := decide_eq_false c8
   clear c8
   by_cases c13 : (s0_0.length : Int) = 0
   ·rw [if_pos c13] at H
    exact absurd H (by simp)
   rw [if_neg c13] at H
   have c13b0 : ((s0_0.length : Int) == 0) = false := beq_eq_false_iff_ne.mpr c13
   have c13b1 : ((s0_0.length : Int) != 0) = true := bne_iff_ne.mpr c13
   have c13b2 : ¬ (s0_0 = []) := fun h_ => c13 (by rw [h_]; rfl)
   obtain ⟨ji14, hji14⟩ : ∃ j_ : Int, (Int.tmod (wrap64 ((wrap64 (s0_1 + 1)) - 1)) (s0_0.length : Int)) = j_ := ⟨_, rfl⟩
   replace H : (if 0 ≤ (ji14) then (if (ji14) < (s0_0.length : Int) then (if 0 ≤ (Int.tmod (wrap64 ((wrap64 ((wrap64 ((wrap64 (s0_1 + 1)) - 1)) * 7)) + 3)) (s0_0.length : Int)) then (if (Int.tmod (wrap64 ((wrap64 ((wrap64 ((wrap64 (s0_1 + 1)) - 1)) * 7)) + 3)) (s0_0.length : Int)) < (s0_0.length : Int) then (if a1 = 0 then (none) else (some (Int.tmod (Go.bits .xor .i64 (wrap64 ((wrap64 ((wrap64 ((wrap64 ((wrap64 (rd s0_0 (ji14))) * 131)) + (wrap64 ((wrap64 (rd s0_0 (Int.tmod (wrap64 ((wrap64 ((wrap64 ((wrap64 (s0_1 + 1)) - 1)) * 7)) + 3)) (s0_0.length : Int)))) * 1117)))) + (wrap64 ((wrap64 ((wrap64 (s0_1 + 1)) - 1)) * 29)))) + (wrap64 ((wrap64 (Int.tdiv (wrap64 ((wrap64 (s0_1 + 1)) - 1)) (s0_0.length : Int))) * 53)))) (wrap64 (Int.tdiv (wrap64 ((wrap64 ((wrap64 ((wrap64 ((wrap64 (rd s0_0 (ji14))) * 131)) + (wrap64 ((wrap64 (rd s0_0 (Int.tmod (wrap64 ((wrap64 ((wrap64 ((wrap64 (s0_1 + 1)) - 1)) * 7)) + 3)) (s0_0.length : Int)))) * 1117)))) + (wrap64 ((wrap64 ((wrap64 (s0_1 + 1)) - 1)) * 29)))) + (wrap64 ((wrap64 (Int.tdiv (wrap64 ((wrap64 (s0_1 + 1)) - 1)) (s0_0.length : Int))) * 53)))) 64))) a1, (wrap64 (s0_1 + 1))))) else (none)) else (none)) else (none)) else (none)) = some (r1, r2) := by first | (rw [hji14] at H; exact H) | (simp only [hji14] at H ⊢; exact H)
   replace H := iD H
   obtain ⟨c15b0, H⟩ := H
   replace H := iD H
   obtain ⟨c16b0, H⟩ := H
   obtain ⟨ji17, hji17⟩ : ∃ j_ : Int, (Int.tmod (wrap64 ((wrap64 ((wrap64 ((wrap64 (s0_1 + 1)) - 1)) * 7)) + 3)) (s0_0.length : Int)) = j_ := ⟨_, rfl⟩
   replace H : (if 0 ≤ (ji17) then (if (ji17) < (s0_0.length : Int) then (if a1 = 0 then (none) else (some (Int.tmod (Go.bits .xor .i64 (wrap64 ((wrap64 ((wrap64 ((wrap64 ((wrap64 (rd s0_0 (ji14))) * 131)) + (wrap64 ((wrap64 (rd s0_0 (ji17))) * 1117)))) + (wrap64 ((wrap64 ((wrap64 (s0_1 + 1)) - 1)) * 29)))) + (wrap64 ((wrap64 (Int.tdiv (wrap64 ((wrap64 (s0_1 + 1)) - 1)) (s0_0.length : Int))) * 53)))) (wrap64 (Int.tdiv (wrap64 ((wrap64 ((wrap64 ((wrap64 ((wrap64 (rd s0_0 (ji14))) * 131)) + (wrap64 ((wrap64 (rd s0_0 (ji17))) * 1117)))) + (wrap64 ((wrap64 ((wrap64 (s0_1 + 1)) - 1)) * 29)))) + (wrap64 ((wrap64 (Int.tdiv (wrap64 ((wrap64 (s0_1 + 1)) - 1)) (s0_0.length : Int))) * 53)))) 64))) a1, (wrap64 (s0_1 + 1))))) else (none)) else (none)) = some (r1, r2) := by first | (rw [hji17] at H; exact H) | (simp only [hji17] at H ⊢; exact H)
   replace H := iD H
   obtain ⟨c18b0, H⟩ := H
   replace H := iD H
   obtain ⟨c19b0, H⟩ := H
   by_cases c20 : a1 = 0
   ·rw [if_pos c20] at H
    exact absurd H (by simp)
   rw [if_neg c20] at H
   have c20b0 : (a1 == 0) = false := beq_eq_false_iff_ne.mpr c20
   have c20b1 : (a1 != 0) = true := bne_iff_ne.mpr c20
   simp only [Option.some.injEq, Prod.mk.injEq] at H
   obtain ⟨rfl, rfl⟩ := H
   obtain ⟨ASz21_0, cSz21_0, HGz21, hgz21, HSz21_0⟩ := HI0.out
   have hcz21_0 := cellS60_0 HGz21
   have hcz21_1 := cellS60_1 HGz21
   have hfz21_1 := blk_frozen HGz21 1
   clear HGz21 hgz21
   obtain ⟨ad195, e195, hx195_0⟩ := Kd.at_int HSz21_0 (ji14) oD oD
   cases e195
   replace hx195_0 := pw_cell_below HB.out hx195_0
   have p195 := eq_true (oD : 0 ≤ ((ji14) : Int))
   have q195 := eq_true (oD : (ji14) < (s0_0.length : Int))
   obtain ⟨ad196, e196, hx196_0⟩ := Kd.at_int HSz21_0 (ji17) oD oD
   obtain rfl : ad195 = ad196 := (by injection e196)
   replace hx196_0 := pw_cell_below HB.out hx196_0
   have p196 := eq_true (oD : 0 ≤ ((ji17) : Int))
   have q196 := eq_true (oD : (ji17) < (s0_0.length : Int))
   go_wp2
   repeat (go_quiet (fail); try go_wp2)
   go_ret
   exact ⟨by first | rfl | (simp [errW_none, errW_some] <;> rfl) | (simp only [← hji14, ← hji17]; first | rfl | (simp [errW_none, errW_some] <;> rfl)) | (simp [*, errW_none, errW_some] <;> rfl), iS60 HI0.out, wS60 HB.out, kB HK.out⟩
def spec_reader_one.f (k : Nat) (s0_0 : List Int) (s0_1 : Int) (l1 : List Int) : Option (Int × Int) := (spec_reader_pick.f k s0_0 s0_1 (l1.length : Int)).bind fun bt197 => (if 0 ≤ bt197.1 then (if bt197.1 < (l1.length : Int) then (some (rd l1 bt197.1, bt197.2)) else (none)) else (none))
theorem spec_reader_one.mono : ∀ a0 a1 a2 k, LeO (spec_reader_one.f k a0 a1 a2) (spec_reader_one.f (k + 1) a0 a1 a2) := by
 intro a0 a1 a2 k
 unfold spec_reader_one.f
 repeat' first | (with_reducible first | exact spec_reader_pick.mono _ _ _ _ | exact lR | exact lN | refine lI ?_ ?_ | refine lB ?_ fun _ => ?_) | exact spec_reader_pick.mono _ _ _ _ | exact lN | refine lI ?_ ?_ | refine lB ?_ fun _ => ?_
set_option maxHeartbeats 8000000 in
set_option maxRecDepth 100000 in
theorem spec_reader_one.calls (k : Nat) (g : Nat) (s0_0 : List Int) (s0_1 : Int) (A1 : Option Addr) (c1 : Nat) (l1 : List Int) (r1 : Int) (r2 : Int) (w0 w : World) (hI : IsS60 w0 w g s0_0 s0_1) (hB : Below w0.heap.size w0 w) (hr1 : Kd.C (Kd.int .i64) w A1 l1.length l1) (hc1 : l1.length ≤ c1) (hf1 : ∀ ad, A1 = some ad → 0 < l1.length → ad.block ≠ g) (h : spec_reader_one.f k s0_0 s0_1 l1 = some (r1, r2)) :
  Calls Try.prog 35 #[.pointer (some ⟨g, 0, none⟩), .slice A1 l1.length c1] w fun e w' => e = .returned (.int .i64 r1) ∧ IsS60 w0 w' g s0_0 r2 ∧ Below w0.heap.size w0 w' ∧ KeepBut w w' g none := by
 have HR1 := aM hr1
 have HC1 := aM hc1
 clear hr1 hc1
 have HI0 := aM hI
 have HK := aM (KeepBut.refl w g none)
 have HL := aM hB.size
 clear hI
 have HW0 := aM hB.size
 have HB := aM hB
 clear hB
 unfold spec_reader_one.f at h
 have H := h
 clear h
 replace H := Option.bind_eq_some_iff.mp H
 obtain ⟨⟨t197, t198⟩, A30, H⟩ := H
 replace H : (if 0 ≤ t197 then (if t197 < (l1.length : Int) then (some (rd l1 t197, t198)) else (none)) else (none)) = some (r1, r2) := H
 have A3 := aM A30
 clear A30
 replace H := iD H
 obtain ⟨c4b0, H⟩ := H
 replace H := iD H
 obtain ⟨c5b0, H⟩ := H
 simp only [Option.some.injEq, Prod.mk.injEq] at H
 obtain ⟨rfl, rfl⟩ := H
 go_enter Try.func35, Try.ntmps35
 go_wp2_with (first | ((with_reducible refine gate_callee (f := 36) rfl ?_); refine gL (some 9) Try.func36 #[.pointer (some ⟨g, 0, none⟩), .int .i64 (l1.length : Int)] ?_; (with_reducible refine (spec_reader_pick.calls k g s0_0 s0_1 (l1.length : Int) t197 t198 w0 _ ?side1 ?side2 A3.out).mono ?_); (case side1 => exact iS60 HI0.out); (case side2 => exact wS60 HB.out); rintro e w6 ⟨rfl, hi, hb, hk⟩; refine ⟨_, rfl, ?_⟩; replace HK := aM (KeepBut.trans (kB HK.out) hk (.inl rfl)); replace HB := aM (hb); replace HI0 := aM (hi); clear hb hk hi; have p199 : 0 ≤ (t197 : Int) := oD; have q199 : t197 < (l1.length : Int) := oD; obtain ⟨ad199, e199, hx199_0⟩ := Kd.at_int HR1.out t197 p199 q199; cases e199; replace hx199_0 := keep_cell HK.out hx199_0 (by first | (rw [add_block]; exact hf1 _ rfl (by omega)) | exact hf1 _ rfl (by omega) | exact hf1 ad199 rfl (by omega)); replace p199 := eq_true p199; replace q199 := eq_true q199))
 go_ret
 exact ⟨qX, iS60 HI0.out, wS60 HB.out, kB HK.out⟩
def spec_reader_spoil.f (k : Nat) (s0_0 : List Int) (s0_1 : Int) (l1 : List Int) (a2 : Int) : Option (List Int × Int) := (spec_copyInts.f l1).bind fun t206 => ((spec_reader_pick.f k s0_0 s0_1 20).bind fun bt209 => (if bt209.1 = 0 then (if t206.length < 17592186044416 then (some ((t206 ++ [a2]), bt209.2)) else (none)) else (if bt209.1 = 1 then (if (t206.length : Int) > 0 then (if 1 ≤ (t206.length : Int) then (some ((t206.drop (1 : Int).toNat), bt209.2)) else (none)) else (some (t206, bt209.2))) else (if bt209.1 = 2 then (if (t206.length : Int) > 0 then ((spec_reader_pick.f k s0_0 bt209.2 (t206.length : Int)).bind fun bt217 => ((spec_reader_one.f k s0_0 bt217.2 (([(-1), a2, 0, 1] : List Int))).bind fun bt222 => (if 0 ≤ bt217.1 then (if bt217.1 < (t206.length : Int) then (some ((t206.set (bt217.1 : Int).toNat bt222.1), bt222.2)) else (none)) else (none)))) else (some (t206, bt209.2))) else (some (t206, bt209.2))))))
theorem spec_reader_spoil.mono : ∀ a0 a1 a2 a3 k, LeO (spec_reader_spoil.f k a0 a1 a2 a3) (spec_reader_spoil.f (k + 1) a0 a1 a2 a3) := by
 intro a0 a1 a2 a3 k
 unfold spec_reader_spoil.f
 repeat' first | (with_reducible first | exact spec_reader_one.mono _ _ _ _ | exact spec_reader_pick.mono _ _ _ _ | exact lR | exact lN | refine lI ?_ ?_ | refine lB ?_ fun _ => ?_) | exact spec_reader_one.mono _ _ _ _ | exact spec_reader_pick.mono _ _ _ _ | exact lN | refine lI ?_ ?_ | refine lB ?_ fun _ => ?_
set_option maxHeartbeats 8000000 in
set_option maxRecDepth 100000 in
theorem spec_reader_spoil.calls (k : Nat) (g : Nat) (s0_0 : List Int) (s0_1 : Int) (A1 : Option Addr) (c1 : Nat) (l1 : List Int) (a2 : Int) (r1 : List Int) (r2 : Int) (w0 w : World) (hI : IsS60 w0 w g s0_0 s0_1) (hB : Below w0.heap.size w0 w) (hr1 : Kd.C (Kd.int .i64) w A1 l1.length l1) (hc1 : l1.length ≤ c1) (hf1 : ∀ ad, A1 = some ad → 0 < l1.length → ad.block ≠ g) (h : spec_reader_spoil.f k s0_0 s0_1 l1 a2 = some (r1, r2)) :
  Calls Try.prog 37 #[.pointer (some ⟨g, 0, none⟩), .slice A1 l1.length c1, .int .i64 a2] w fun e w' => ∃ v0_ : Value, e = .returned (v0_) ∧ Kd.Q (Kd.int .i64) 3 w' w.heap.size (fun _ => True) v0_ r1 ∧ IsS60 w0 w' g s0_0 r2 ∧ Below w0.heap.size w0 w' ∧ KeepBut w w' g none := by
 have HR1 := aM hr1
 have HC1 := aM hc1
 clear hr1 hc1
 have HI0 := aM hI
 have HK := aM (KeepBut.refl w g none)
 have HL := aM hB.size
 clear hI
 have HW0 := aM hB.size
 have HB := aM hB
 clear hB
 unfold spec_reader_spoil.f at h
 have H := h
 clear h
 replace H := Option.bind_eq_some_iff.mp H
 obtain ⟨t206, A40, H⟩ := H
 replace H : ((spec_reader_pick.f k s0_0 s0_1 20).bind fun bt209 => (if bt209.1 = 0 then (if t206.length < 17592186044416 then (some ((t206 ++ [a2]), bt209.2)) else (none)) else (if bt209.1 = 1 then (if (t206.length : Int) > 0 then (if 1 ≤ (t206.length : Int) then (some ((t206.drop (1 : Int).toNat), bt209.2)) else (none)) else (some (t206, bt209.2))) else (if bt209.1 = 2 then (if (t206.length : Int) > 0 then ((spec_reader_pick.f k s0_0 bt209.2 (t206.length : Int)).bind fun bt217 => ((spec_reader_one.f k s0_0 bt217.2 (([(-1), a2, 0, 1] : List Int))).bind fun bt222 => (if 0 ≤ bt217.1 then (if bt217.1 < (t206.length : Int) then (some ((t206.set (bt217.1 : Int).toNat bt222.1), bt222.2)) else (none)) else (none)))) else (some (t206, bt209.2))) else (some (t206, bt209.2)))))) = some (r1, r2) := H
 have A4 := aM A40
 clear A40
 replace H := Option.bind_eq_some_iff.mp H
 obtain ⟨⟨t209, t210⟩, A50, H⟩ := H
 replace H : (if t209 = 0 then (if t206.length < 17592186044416 then (some ((t206 ++ [a2]), t210)) else (none)) else (if t209 = 1 then (if (t206.length : Int) > 0 then (if 1 ≤ (t206.length : Int) then (some ((t206.drop (1 : Int).toNat), t210)) else (none)) else (some (t206, t210))) else (if t209 = 2 then (if (t206.length : Int) > 0 then ((spec_reader_pick.f k s0_0 t210 (t206.length : Int)).bind fun bt217 => ((spec_reader_one.f k s0_0 bt217.2 (([(-1), a2, 0, 1] : List Int))).bind fun bt222 => (if 0 ≤ bt217.1 then (if bt217.1 < (t206.length : Int) then (some ((t206.set (bt217.1 : Int).toNat bt222.1), bt222.2)) else (none)) else (none)))) else (some (t206, t210))) else (some (t206, t210))))) = some (r1, r2) := H
 have A5 := aM A50
 clear A50
 by_cases c6 : t209 = 0
 ·rw [if_pos c6] at H
  have c6b0 : (t209 == 0) = true := beq_iff_eq.mpr c6
  have c6b1 : (t209 != 0) = false := bne_eq_false_iff_eq.mpr c6
  clear c6
  replace H := iS H
  obtain ⟨c7, H⟩ := H
  have LMc7 := aM c7
  clear c7
  obtain ⟨y211, hy211⟩ : ∃ y_ : List Int, y_ = (t206 ++ [a2]) := ⟨_, rfl⟩
  replace H : (some (y211, t210)) = some (r1, r2) := rY hy211 H
  have Ny211 := aM hy211
  clear hy211
  simp only [Option.some.injEq, Prod.mk.injEq] at H
  obtain ⟨rfl, rfl⟩ := H
  go_enter Try.func37, Try.ntmps37
  go_wp2_with (first | ((with_reducible refine gate_callee (f := 52) rfl ?_); refine gL (some 9) Try.func52 #[.slice A1 l1.length c1] ?_; (with_reducible refine (spec_copyInts.calls _ _ l1 t206 _ ?side1 ?side2 A4.out).mono ?_); (case side1 => exact Kd.C_keep 0 HR1.out (kB HK.out) hf1); (case side2 => exact HC1.out); rintro e w8 ⟨v207, rfl, ho0, hb⟩; refine ⟨_, rfl, ?_⟩; have HO208 := lK ho0 HK; replace HK := aM (KeepBut.trans (kB HK.out) (KeepBut.of_below hb g none) (.inl rfl)); replace HB := aM (below_step (wS60 HB.out) hb); replace HI0 := aM (IsS60.below (iS60 HI0.out) hb); clear hb ho0) | ((with_reducible refine gate_callee (f := 36) rfl ?_); refine gL (some 11) Try.func36 #[.pointer (some ⟨g, 0, none⟩), .int .i64 20] ?_; (with_reducible refine (spec_reader_pick.calls k g s0_0 s0_1 20 t209 t210 w0 _ ?side1 ?side2 A5.out).mono ?_); (case side1 => exact iS60 HI0.out); (case side2 => exact wS60 HB.out); rintro e w9 ⟨rfl, hi, hb, hk⟩; refine ⟨_, rfl, ?_⟩; replace HO208 := aM (Kd.R_mono (Kd.R_keep (IsS60.apart (show IsS60 w0 _ g s0_0 s0_1 from iS60 HI0.out) (qR HO208.out) (by decide)) hk (fun _ h => h.2)) (fun _ h => h.1)); replace HK := aM (KeepBut.trans (kB HK.out) hk (.inl rfl)); replace HB := aM (hb); replace HI0 := aM (hi); clear hb hk hi) | ((with_reducible refine gate_builtin (b := .append) (xs := #[.tmp 14, .tmp 16]) rfl ?_); at_builtin; refine Kd.R_append (Kd.int .i64) w.heap.size rfl (.tmp 14) (.tmp 16) 22 3 (.int .i64 0) 8 rfl Try.underlying22 info3 rfl (by decide) (by omega) v207 t206 a2 [.int .i64 a2] (fun _ => True) (fun _ => False) rfl rfl ?aP (fun _ hk => hk.elim) ?aF ?aO (Below.refl _ _) ?aS ?aL ?_; (case aP => exact rfl); (case aF => exact (fun _ _ => trivial)); (case aO => exact (qR HO208.out)); (case aS => exact (keep_size (w := w) (g := g) (row := none) (kB HK.out))); (case aL => have := LMc7.out; omega); intro v212 w10 ho hb hg hat; rw [← Ny211.out] at ho; replace HB := aM (below_weaken (wS60 HB.out) HL.out hb); replace HI0 := aM (IsS60.grown (iS60 HI0.out) hg (IsS60.own_ne HI0.out HO208.out (by decide))); replace HK := aM (KeepBut.trans (kB HK.out) (KeepBut.of_grown hg g) (Kd.R_base2 HO208.out)); have HO213 := aM (ho); clear HO208; clear ho hb hg hat))
  go_ret
  exact ⟨_, qX, Kd.Q_of_R (qR HO213.out), iS60 HI0.out, wS60 HB.out, kB HK.out⟩
 rw [if_neg c6] at H
 have c6b0 : (t209 == 0) = false := beq_eq_false_iff_ne.mpr c6
 have c6b1 : (t209 != 0) = true := bne_iff_ne.mpr c6
 by_cases c11 : t209 = 1
 ·rw [if_pos c11] at H
  have c11b0 : (t209 == 1) = true := beq_iff_eq.mpr c11
  have c11b1 : (t209 != 1) = false := bne_eq_false_iff_eq.mpr c11
  clear c11
  by_cases c12 : (t206.length : Int) > 0
  rotate_left
  ·rw [if_neg c12] at H
   have c12b0 : decide (0 < (t206.length : Int)) = false := decide_eq_false c12
   have c12b1 : decide (0 < t206.length) = false := decide_eq_false (by omega)
   clear c12
   simp only [Option.some.injEq, Prod.mk.injEq] at H
   obtain ⟨rfl, rfl⟩ := H
   go_enter Try.func37, Try.ntmps37
   go_wp2_with (first | ((with_reducible refine gate_callee (f := 52) rfl ?_); refine gL (some 9) Try.func52 #[.slice A1 l1.length c1] ?_; (with_reducible refine (spec_copyInts.calls _ _ l1 t206 _ ?side1 ?side2 A4.out).mono ?_); (case side1 => exact Kd.C_keep 0 HR1.out (kB HK.out) hf1); (case side2 => exact HC1.out); rintro e w18 ⟨v207, rfl, ho0, hb⟩; refine ⟨_, rfl, ?_⟩; have HO208 := lK ho0 HK; replace HK := aM (KeepBut.trans (kB HK.out) (KeepBut.of_below hb g none) (.inl rfl)); replace HB := aM (below_step (wS60 HB.out) hb); replace HI0 := aM (IsS60.below (iS60 HI0.out) hb); clear hb ho0) | ((with_reducible refine gate_callee (f := 36) rfl ?_); refine gL (some 11) Try.func36 #[.pointer (some ⟨g, 0, none⟩), .int .i64 20] ?_; (with_reducible refine (spec_reader_pick.calls k g s0_0 s0_1 20 t209 t210 w0 _ ?side1 ?side2 A5.out).mono ?_); (case side1 => exact iS60 HI0.out); (case side2 => exact wS60 HB.out); rintro e w19 ⟨rfl, hi, hb, hk⟩; refine ⟨_, rfl, ?_⟩; replace HO208 := aM (Kd.R_mono (Kd.R_keep (IsS60.apart (show IsS60 w0 _ g s0_0 s0_1 from iS60 HI0.out) (qR HO208.out) (by decide)) hk (fun _ h => h.2)) (fun _ h => h.1)); replace HK := aM (KeepBut.trans (kB HK.out) hk (.inl rfl)); replace HB := aM (hb); replace HI0 := aM (hi); clear hb hk hi; obtain ⟨Ao20, co20, rfl⟩ := sL HO208))
   go_ret
   exact ⟨_, qX, Kd.Q_of_R (qR HO208.out), iS60 HI0.out, wS60 HB.out, kB HK.out⟩
  rw [if_pos c12] at H
  have c12b0 : decide (0 < (t206.length : Int)) = true := decide_eq_true c12
  have c12b1 : decide (0 < t206.length) = true := decide_eq_true (by omega)
  clear c12
  replace H := iS H
  obtain ⟨c13, H⟩ := H
  have c13b0 := eq_true c13
  have c13b1 : decide (1 ≤ (t206.length : Int)) = true := decide_eq_true c13
  clear c13
  obtain ⟨y214, hy214⟩ : ∃ y_ : List Int, y_ = (t206.drop (1 : Int).toNat) := ⟨_, rfl⟩
  replace H : (some (y214, t210)) = some (r1, r2) := rY hy214 H
  have Ny214 := aM hy214
  clear hy214
  simp only [Option.some.injEq, Prod.mk.injEq] at H
  obtain ⟨rfl, rfl⟩ := H
  go_enter Try.func37, Try.ntmps37
  go_wp2_with (first | ((with_reducible refine gate_callee (f := 52) rfl ?_); refine gL (some 9) Try.func52 #[.slice A1 l1.length c1] ?_; (with_reducible refine (spec_copyInts.calls _ _ l1 t206 _ ?side1 ?side2 A4.out).mono ?_); (case side1 => exact Kd.C_keep 0 HR1.out (kB HK.out) hf1); (case side2 => exact HC1.out); rintro e w14 ⟨v207, rfl, ho0, hb⟩; refine ⟨_, rfl, ?_⟩; have HO208 := lK ho0 HK; replace HK := aM (KeepBut.trans (kB HK.out) (KeepBut.of_below hb g none) (.inl rfl)); replace HB := aM (below_step (wS60 HB.out) hb); replace HI0 := aM (IsS60.below (iS60 HI0.out) hb); clear hb ho0) | ((with_reducible refine gate_callee (f := 36) rfl ?_); refine gL (some 11) Try.func36 #[.pointer (some ⟨g, 0, none⟩), .int .i64 20] ?_; (with_reducible refine (spec_reader_pick.calls k g s0_0 s0_1 20 t209 t210 w0 _ ?side1 ?side2 A5.out).mono ?_); (case side1 => exact iS60 HI0.out); (case side2 => exact wS60 HB.out); rintro e w15 ⟨rfl, hi, hb, hk⟩; refine ⟨_, rfl, ?_⟩; replace HO208 := aM (Kd.R_mono (Kd.R_keep (IsS60.apart (show IsS60 w0 _ g s0_0 s0_1 from iS60 HI0.out) (qR HO208.out) (by decide)) hk (fun _ h => h.2)) (fun _ h => h.1)); replace HK := aM (KeepBut.trans (kB HK.out) hk (.inl rfl)); replace HB := aM (hb); replace HI0 := aM (hi); clear hb hk hi; obtain ⟨Ao16, co16, rfl⟩ := sL HO208; have q17 : (1 : Int) ≤ ((t206.length : Int) : Int) := oD; obtain ⟨i017, hi017, _, hsz17, _⟩ := info_parts info3; have hcut17 := cut_from (P := Try.prog) 22 3 .i64 Try.underlying22 hi017 1 hsz17 Ao16 t206.length co16 1 (by omega) q17; have hr17 := Kd.Q_drop (k := (1 : Int).toNat) (Kd.Q_of_R HO208.out) (by omega); obtain ⟨A17, hA17⟩ : ∃ A1, A1 = (if co16 = (1 : Int).toNat then Ao16 else (Ao16 : Option Addr).map (·.add ((1 : Int).toNat * 1))) := ⟨_, rfl⟩; obtain ⟨c17, hc17⟩ : ∃ c1, c1 = co16 - (1 : Int).toNat := ⟨_, rfl⟩; have hy17 : y214.length = t206.length - (1 : Int).toNat := (by rw [Ny214.out, List.length_drop]); rw [← Ny214.out] at hr17; rw [← hy17, ← hA17, ← hc17] at hcut17; replace hr17 : Kd.Q (Kd.int .i64) 3 w15 w.heap.size (fun _ => True) (.slice A17 y214.length c17) y214 := (by rw [hA17, hc17, hy17]; exact hr17); have HE17 : Aside0 ((Value.slice A17 y214.length c17).ownBlock = (.slice Ao16 t206.length co16 : Value).ownBlock) := ⟨by rw [hA17]; split <;> (cases (Ao16 : Option Addr) <;> rfl)⟩; clear hy17 hi017 hsz17 HO208 hA17 hc17; have HO216 := aM hr17; clear hr17; replace q17 := eq_true q17))
  go_ret
  exact ⟨_, qX, by (with_reducible repeat (first | apply Kd.Q_alloc | apply Kd.Q_drewN | apply Kd.Q_drew)); exact HO216.out, iS60 HI0.out, wS60 HB.out, kB HK.out⟩
 rw [if_neg c11] at H
 have c11b0 : (t209 == 1) = false := beq_eq_false_iff_ne.mpr c11
 have c11b1 : (t209 != 1) = true := bne_iff_ne.mpr c11
 by_cases c21 : t209 = 2
 rotate_left
 ·rw [if_neg c21] at H
  have c21b0 : (t209 == 2) = false := beq_eq_false_iff_ne.mpr c21
  have c21b1 : (t209 != 2) = true := bne_iff_ne.mpr c21
  simp only [Option.some.injEq, Prod.mk.injEq] at H
  obtain ⟨rfl, rfl⟩ := H
  go_enter Try.func37, Try.ntmps37
  go_wp2_with (first | ((with_reducible refine gate_callee (f := 52) rfl ?_); refine gL (some 9) Try.func52 #[.slice A1 l1.length c1] ?_; (with_reducible refine (spec_copyInts.calls _ _ l1 t206 _ ?side1 ?side2 A4.out).mono ?_); (case side1 => exact Kd.C_keep 0 HR1.out (kB HK.out) hf1); (case side2 => exact HC1.out); rintro e w41 ⟨v207, rfl, ho0, hb⟩; refine ⟨_, rfl, ?_⟩; have HO208 := lK ho0 HK; replace HK := aM (KeepBut.trans (kB HK.out) (KeepBut.of_below hb g none) (.inl rfl)); replace HB := aM (below_step (wS60 HB.out) hb); replace HI0 := aM (IsS60.below (iS60 HI0.out) hb); clear hb ho0) | ((with_reducible refine gate_callee (f := 36) rfl ?_); refine gL (some 11) Try.func36 #[.pointer (some ⟨g, 0, none⟩), .int .i64 20] ?_; (with_reducible refine (spec_reader_pick.calls k g s0_0 s0_1 20 t209 t210 w0 _ ?side1 ?side2 A5.out).mono ?_); (case side1 => exact iS60 HI0.out); (case side2 => exact wS60 HB.out); rintro e w42 ⟨rfl, hi, hb, hk⟩; refine ⟨_, rfl, ?_⟩; replace HO208 := aM (Kd.R_mono (Kd.R_keep (IsS60.apart (show IsS60 w0 _ g s0_0 s0_1 from iS60 HI0.out) (qR HO208.out) (by decide)) hk (fun _ h => h.2)) (fun _ h => h.1)); replace HK := aM (KeepBut.trans (kB HK.out) hk (.inl rfl)); replace HB := aM (hb); replace HI0 := aM (hi); clear hb hk hi))
  go_ret
  exact ⟨_, qX, Kd.Q_of_R (qR HO208.out), iS60 HI0.out, wS60 HB.out, kB HK.out⟩
 rw [if_pos c21] at H
 have c21b0 : (t209 == 2) = true := beq_iff_eq.mpr c21
 have c21b1 : (t209 != 2) = false := bne_eq_false_iff_eq.mpr c21
 clear c21
 by_cases c22 : (t206.length : Int) > 0
 rotate_left
 ·rw [if_neg c22] at H
  have c22b0 : decide (0 < (t206.length : Int)) = false := decide_eq_false c22
  have c22b1 : decide (0 < t206.length) = false := decide_eq_false (by omega)
  clear c22
  simp only [Option.some.injEq, Prod.mk.injEq] at H
  obtain ⟨rfl, rfl⟩ := H
  go_enter Try.func37, Try.ntmps37
  go_wp2_with (first | ((with_reducible refine gate_callee (f := 52) rfl ?_); refine gL (some 9) Try.func52 #[.slice A1 l1.length c1] ?_; (with_reducible refine (spec_copyInts.calls _ _ l1 t206 _ ?side1 ?side2 A4.out).mono ?_); (case side1 => exact Kd.C_keep 0 HR1.out (kB HK.out) hf1); (case side2 => exact HC1.out); rintro e w38 ⟨v207, rfl, ho0, hb⟩; refine ⟨_, rfl, ?_⟩; have HO208 := lK ho0 HK; replace HK := aM (KeepBut.trans (kB HK.out) (KeepBut.of_below hb g none) (.inl rfl)); replace HB := aM (below_step (wS60 HB.out) hb); replace HI0 := aM (IsS60.below (iS60 HI0.out) hb); clear hb ho0) | ((with_reducible refine gate_callee (f := 36) rfl ?_); refine gL (some 11) Try.func36 #[.pointer (some ⟨g, 0, none⟩), .int .i64 20] ?_; (with_reducible refine (spec_reader_pick.calls k g s0_0 s0_1 20 t209 t210 w0 _ ?side1 ?side2 A5.out).mono ?_); (case side1 => exact iS60 HI0.out); (case side2 => exact wS60 HB.out); rintro e w39 ⟨rfl, hi, hb, hk⟩; refine ⟨_, rfl, ?_⟩; replace HO208 := aM (Kd.R_mono (Kd.R_keep (IsS60.apart (show IsS60 w0 _ g s0_0 s0_1 from iS60 HI0.out) (qR HO208.out) (by decide)) hk (fun _ h => h.2)) (fun _ h => h.1)); replace HK := aM (KeepBut.trans (kB HK.out) hk (.inl rfl)); replace HB := aM (hb); replace HI0 := aM (hi); clear hb hk hi; obtain ⟨Ao40, co40, rfl⟩ := sL HO208))
  go_ret
  exact ⟨_, qX, Kd.Q_of_R (qR HO208.out), iS60 HI0.out, wS60 HB.out, kB HK.out⟩
 rw [if_pos c22] at H
 have c22b0 : decide (0 < (t206.length : Int)) = true := decide_eq_true c22
 have c22b1 : decide (0 < t206.length) = true := decide_eq_true (by omega)
 clear c22
 replace H := Option.bind_eq_some_iff.mp H
 obtain ⟨⟨t217, t218⟩, A230, H⟩ := H
 replace H : ((spec_reader_one.f k s0_0 t218 (([(-1), a2, 0, 1] : List Int))).bind fun bt222 => (if 0 ≤ t217 then (if t217 < (t206.length : Int) then (some ((t206.set (t217 : Int).toNat bt222.1), bt222.2)) else (none)) else (none))) = some (r1, r2) := H
 have A23 := aM A230
 clear A230
 obtain ⟨y219, hy219⟩ : ∃ y_ : List Int, y_ = (([(-1), a2, 0, 1] : List Int)) := ⟨_, rfl⟩
 replace H : ((spec_reader_one.f k s0_0 t218 y219).bind fun bt222 => (if 0 ≤ t217 then (if t217 < (t206.length : Int) then (some ((t206.set (t217 : Int).toNat bt222.1), bt222.2)) else (none)) else (none))) = some (r1, r2) := rY hy219 H
 have Ny219 := aM hy219
 clear hy219
 replace H := Option.bind_eq_some_iff.mp H
 obtain ⟨⟨t222, t223⟩, A240, H⟩ := H
 replace H : (if 0 ≤ t217 then (if t217 < (t206.length : Int) then (some ((t206.set (t217 : Int).toNat t222), t223)) else (none)) else (none)) = some (r1, r2) := H
 have A24 := aM A240
 clear A240
 replace H := iD H
 obtain ⟨c25b0, H⟩ := H
 replace H := iD H
 obtain ⟨c26b0, H⟩ := H
 obtain ⟨y224, hy224⟩ : ∃ y_ : List Int, y_ = (t206.set (t217 : Int).toNat t222) := ⟨_, rfl⟩
 replace H : (some (y224, t223)) = some (r1, r2) := rY hy224 H
 have Ny224 := aM hy224
 clear hy224
 simp only [Option.some.injEq, Prod.mk.injEq] at H
 obtain ⟨rfl, rfl⟩ := H
 go_enter Try.func37, Try.ntmps37
 go_wp2_with (first | ((with_reducible refine gate_callee (f := 52) rfl ?_); refine gL (some 9) Try.func52 #[.slice A1 l1.length c1] ?_; (with_reducible refine (spec_copyInts.calls _ _ l1 t206 _ ?side1 ?side2 A4.out).mono ?_); (case side1 => exact Kd.C_keep 0 HR1.out (kB HK.out) hf1); (case side2 => exact HC1.out); rintro e w28 ⟨v207, rfl, ho0, hb⟩; refine ⟨_, rfl, ?_⟩; have HO208 := lK ho0 HK; replace HK := aM (KeepBut.trans (kB HK.out) (KeepBut.of_below hb g none) (.inl rfl)); replace HB := aM (below_step (wS60 HB.out) hb); replace HI0 := aM (IsS60.below (iS60 HI0.out) hb); clear hb ho0) | ((with_reducible refine gate_callee (f := 36) rfl ?_); refine gL (some 11) Try.func36 #[.pointer (some ⟨g, 0, none⟩), .int .i64 20] ?_; (with_reducible refine (spec_reader_pick.calls k g s0_0 s0_1 20 t209 t210 w0 _ ?side1 ?side2 A5.out).mono ?_); (case side1 => exact iS60 HI0.out); (case side2 => exact wS60 HB.out); rintro e w29 ⟨rfl, hi, hb, hk⟩; refine ⟨_, rfl, ?_⟩; replace HO208 := aM (Kd.R_mono (Kd.R_keep (IsS60.apart (show IsS60 w0 _ g s0_0 s0_1 from iS60 HI0.out) (qR HO208.out) (by decide)) hk (fun _ h => h.2)) (fun _ h => h.1)); replace HK := aM (KeepBut.trans (kB HK.out) hk (.inl rfl)); replace HB := aM (hb); replace HI0 := aM (hi); clear hb hk hi; obtain ⟨Ao30, co30, rfl⟩ := sL HO208) | ((with_reducible refine gate_callee (f := 36) rfl ?_); refine gL (some 34) Try.func36 #[.pointer (some ⟨g, 0, none⟩), .int .i64 (t206.length : Int)] ?_; (with_reducible refine (spec_reader_pick.calls k g s0_0 t210 (t206.length : Int) t217 t218 w0 _ ?side1 ?side2 A23.out).mono ?_); (case side1 => exact iS60 HI0.out); (case side2 => exact wS60 HB.out); rintro e w31 ⟨rfl, hi, hb, hk⟩; refine ⟨_, rfl, ?_⟩; replace HO208 := aM (Kd.R_mono (Kd.R_keep (IsS60.apart (show IsS60 w0 _ g s0_0 t210 from iS60 HI0.out) (qR HO208.out) (by decide)) hk (fun _ h => h.2)) (fun _ h => h.1)); replace HK := aM (KeepBut.trans (kB HK.out) hk (.inl rfl)); replace HB := aM (hb); replace HI0 := aM (hi); clear hb hk hi) | ((with_reducible refine gate_dst (N := 37) rfl ?_); refine iL ([(-1), a2, 0, 1] : List Int) [.int .i64 (-1), .int .i64 a2, .int .i64 0, .int .i64 1] ?_; intro v220 w32 ho33 hb hg_ hnew_; clear hg_ hnew_; (first | rw [← Ny219.out] at ho33 | (simp only [Int.reduceToNat] at ho33; rw [← Ny219.out] at ho33)); have HO221 := aM (Kd.R_lower (Kd.R_new' ho33 (Kd.R_lt (qR HO208.out))) (keep_size (w := w) (g := g) (row := none) (kB HK.out))); replace HO208 := aM (Kd.R_elder' (qR HO208.out) (Kd.R_base ho33) hb); replace HK := aM (KeepBut.trans (kB HK.out) (KeepBut.of_below hb g none) (.inl rfl)); replace HB := aM (below_step (wS60 HB.out) hb); replace HI0 := aM (IsS60.below (iS60 HI0.out) hb); clear hb ho33; obtain ⟨Ao34, co34, rfl⟩ := sL HO221) | ((with_reducible refine gate_callee (f := 35) rfl ?_); refine gL (some 38) Try.func35 #[.pointer (some ⟨g, 0, none⟩), .slice Ao34 y219.length co34] ?_; (with_reducible refine (spec_reader_one.calls k g s0_0 t218 _ _ y219 t222 t223 w0 _ ?side1 ?side2 ?side3 ?side4 ?side5 A24.out).mono ?_); (case side1 => exact iS60 HI0.out); (case side2 => exact wS60 HB.out); (case side3 => exact qC (Kd.R_reads' HO221.out).2.2); (case side4 => exact (Kd.R_reads' HO221.out).2.1); (case side5 => exact far_slice (IsS60.own_ne HI0.out HO221.out (by decide))); rintro e w35 ⟨rfl, hi, hb, hk⟩; refine ⟨_, rfl, ?_⟩; replace HO208 := aM (Kd.R_mono (Kd.R_keep (IsS60.apart (show IsS60 w0 _ g s0_0 t218 from iS60 HI0.out) (qR HO208.out) (by decide)) hk (fun _ h => h.2)) (fun _ h => h.1)); replace HO221 := aM (Kd.R_mono (Kd.R_keep (IsS60.apart (show IsS60 w0 _ g s0_0 t218 from iS60 HI0.out) (qR HO221.out) (by decide)) hk (fun _ h => h.2)) (fun _ h => h.1)); replace HK := aM (KeepBut.trans (kB HK.out) hk (.inl rfl)); replace HB := aM (hb); replace HI0 := aM (hi); clear hb hk hi; have p27 : 0 ≤ (t217 : Int) := oD; have q27 : (t217 : Int) < ((t206.length : Int) : Int) := oD; obtain ⟨go27, co27, eo27, gb27, gl27, cl27, HG27⟩ := Kd.R_form HO208.out (by omega); (first | cases eo27 | (injection eo27 with ea_ en_ ec_; (first | subst ea_ | (injection ea_ with ea_; subst ea_)); subst ec_; clear en_)); have GB27 := aM gb27; have GG27 := aM HG27; clear gb27 gl27 HG27; obtain ⟨hx27_0, hf27_0⟩ := Kd.R_celln 0 HO208.out (t217 : Int) p27 q27; replace p27 := eq_true p27; replace q27 := eq_true q27; have n_ := aM (Kd.R_mono (ok' := (fun k_ => some k_ ≠ (.slice Ao34 y219.length co34 : Value).ownBlock)) HO208.out (fun k_ hk => hk.2)); clear HO208; have HO208 := n_; clear n_; obtain ⟨hy36_, hz36_⟩ := Kd.R_celln 0 HO208.out (t217 : Int) oD oD; have HP36 := Kd.R_putg HO208.out (t217 : Int) t222) | ((with_reducible refine gate_store (t := 3) (p := 39) rfl ?_); refine store_event (t := 3) (p := 39) (v := ?vo_w37) (w1 := (w35.setCell ⟨go27, (t217 : Int).toNat, none⟩ (.int .i64 t222))) ?hg ?ho ?hn ?hr ?_; (case ho => rfl); (case hg => rfl); (case hn => rfl); (case hr => first | (go_simp; done) | (go_simp; rfl)); intro w37 hw; have hg : w35.grownBy w37 (some go27) := (by rw [hw]; exact HP36.2); have hp_ : Kd.R (Kd.int .i64) 3 w37 w.heap.size (fun k_ => some k_ ≠ (.slice Ao34 y219.length co34 : Value).ownBlock) (.slice (some ⟨go27, 0, none⟩) t206.length co30) y224 := (by rw [hw, Ny224.out]; exact HP36.1); clear HP36; replace HI0 := aM (IsS60.grown (iS60 HI0.out) hg (IsS60.own_ne HI0.out HO208.out (by decide))); replace HO221 := aM (Kd.R_after (v := (.slice (some ⟨go27, 0, none⟩) t206.length co30)) (v1 := (.slice (some ⟨go27, 0, none⟩) t206.length co30)) (ok := (fun _ => True)) (qR HO221.out) hg (.inl rfl)); replace HB := aM ((by rw [hw]; exact below_set (HB.out) (Nat.le_trans HL.out GB27.out) : Below w0.heap.size w0 w37)); replace HK := aM (KeepBut.trans (kB HK.out) (KeepBut.of_grown hg g) (Kd.R_base2 HO208.out)); replace HO208 := aM (hp_); clear hg hw hp_))
 go_ret
 exact ⟨_, qX, Kd.Q_of_R (by refine qR ?_; exact Kd.R_mono HO208.out (fun _ hk => trivial)), iS60 HI0.out, wS60 HB.out, kB HK.out⟩
def spec_anyCounts.l0 : Nat → List Int → Int → List Int → Int → Option (List Int × Int)
 | 0, _, _, _, _ => none
 | k + 1, x3, x4, x1000, x1001 => if x4 > 0 then ((spec_reader_one.f k x1000 x1001 (([0, 1, 2, 3, 5, 8, 13, 40, 9999] : List Int))).bind fun bt236 => (if x3.length < 17592186044416 then (spec_anyCounts.l0 k (x3 ++ [bt236.1]) (wrap64 (x4 - 1)) x1000 bt236.2) else (none))) else ((spec_reader_spoil.f k x1000 x1001 x3 10000).bind fun bt241 => (some (bt241.1, bt241.2)))
def spec_anyCounts.f (k : Nat) (s0_0 : List Int) (s0_1 : Int) : Option (List Int × Int) := (spec_reader_one.f k s0_0 s0_1 (([4, 6, 3, 2, 1, 16, 17, 0] : List Int))).bind fun bt231 => (spec_anyCounts.l0 k (([] : List Int)) bt231.1 s0_0 bt231.2)
theorem spec_anyCounts.mono_l : ∀ k, (∀ y0 y1 y2 y3, LeO (spec_anyCounts.l0 k y0 y1 y2 y3) (spec_anyCounts.l0 (k + 1) y0 y1 y2 y3))
 | 0 => fun _ _ _ _ r h => by simp [spec_anyCounts.l0] at h
 | k + 1 => by
  have ih0 := spec_anyCounts.mono_l k
  ·intro y0 y1 y2 y3
   unfold spec_anyCounts.l0
   repeat' first | (with_reducible first | exact ih0 _ _ _ _ | exact spec_reader_one.mono _ _ _ _ | exact spec_reader_spoil.mono _ _ _ _ _ | exact lR | exact lN | refine lI ?_ ?_ | refine lB ?_ fun _ => ?_) | exact ih0 _ _ _ _ | exact spec_reader_one.mono _ _ _ _ | exact spec_reader_spoil.mono _ _ _ _ _ | exact lN | refine lI ?_ ?_ | refine lB ?_ fun _ => ?_
theorem spec_anyCounts.mono : ∀ a0 a1 k, LeO (spec_anyCounts.f k a0 a1) (spec_anyCounts.f (k + 1) a0 a1) := by
 intro a0 a1 k
 have ih0 := spec_anyCounts.mono_l k
 unfold spec_anyCounts.f
 repeat' first | (with_reducible first | exact ih0 _ _ _ _ | exact spec_reader_one.mono _ _ _ _ | exact spec_reader_spoil.mono _ _ _ _ _ | exact lR | exact lN | refine lI ?_ ?_ | refine lB ?_ fun _ => ?_) | exact ih0 _ _ _ _ | exact spec_reader_one.mono _ _ _ _ | exact spec_reader_spoil.mono _ _ _ _ _ | exact lN | refine lI ?_ ?_ | refine lB ?_ fun _ => ?_
set_option maxHeartbeats 8000000 in
set_option maxRecDepth 100000 in
theorem spec_anyCounts.calls (k : Nat) (g : Nat) (s0_0 : List Int) (s0_1 : Int) (r1 : List Int) (r2 : Int) (w0 w : World) (hI : IsS60 w0 w g s0_0 s0_1) (hB : Below w0.heap.size w0 w) (h : spec_anyCounts.f k s0_0 s0_1 = some (r1, r2)) :
  Calls Try.prog 46 #[.pointer (some ⟨g, 0, none⟩)] w fun e w' => ∃ v0_ : Value, e = .returned (v0_) ∧ Kd.Q (Kd.int .i64) 3 w' w.heap.size (fun _ => True) v0_ r1 ∧ IsS60 w0 w' g s0_0 r2 ∧ Below w0.heap.size w0 w' ∧ KeepBut w w' g none := by
 have HI0 := aM hI
 have HK := aM (KeepBut.refl w g none)
 have HL := aM hB.size
 clear hI
 have HW0 := aM hB.size
 have HB := aM hB
 clear hB
 unfold spec_anyCounts.f at h
 have H := h
 clear h
 obtain ⟨y225, hy225⟩ : ∃ y_ : List Int, y_ = (([] : List Int)) := ⟨_, rfl⟩
 replace H : ((spec_reader_one.f k s0_0 s0_1 (([4, 6, 3, 2, 1, 16, 17, 0] : List Int))).bind fun bt231 => (spec_anyCounts.l0 k y225 bt231.1 s0_0 bt231.2)) = some (r1, r2) := rY hy225 H
 have Ny225 := aM hy225
 clear hy225
 obtain ⟨y228, hy228⟩ : ∃ y_ : List Int, y_ = (([4, 6, 3, 2, 1, 16, 17, 0] : List Int)) := ⟨_, rfl⟩
 replace H : ((spec_reader_one.f k s0_0 s0_1 y228).bind fun bt231 => (spec_anyCounts.l0 k y225 bt231.1 s0_0 bt231.2)) = some (r1, r2) := rY hy228 H
 have Ny228 := aM hy228
 clear hy228
 replace H := Option.bind_eq_some_iff.mp H
 obtain ⟨⟨t231, t232⟩, A20, H⟩ := H
 replace H : (spec_anyCounts.l0 k y225 t231 s0_0 t232) = some (r1, r2) := H
 have A2 := aM A20
 clear A20
 have H' := aM H
 clear H
 go_enter Try.func46, Try.ntmps46
 go_wp2_with (first | ((with_reducible refine gate_dst (N := 5) rfl ?_); refine iL ([] : List Int) [] ?_; intro v226 w3 ho4 hb hg_ hnew_; clear hg_ hnew_; (first | rw [← Ny225.out] at ho4 | (simp only [Int.reduceToNat] at ho4; rw [← Ny225.out] at ho4)); have HO227 := lK ho4 HK; replace HK := aM (KeepBut.trans (kB HK.out) (KeepBut.of_below hb g none) (.inl rfl)); replace HB := aM (below_step (wS60 HB.out) hb); replace HI0 := aM (IsS60.below (iS60 HI0.out) hb); clear hb ho4) | ((with_reducible refine gate_dst (N := 7) rfl ?_); refine iL ([4, 6, 3, 2, 1, 16, 17, 0] : List Int) [.int .i64 4, .int .i64 6, .int .i64 3, .int .i64 2, .int .i64 1, .int .i64 16, .int .i64 17, .int .i64 0] ?_; intro v229 w5 ho6 hb hg_ hnew_; clear hg_ hnew_; (first | rw [← Ny228.out] at ho6 | (simp only [Int.reduceToNat] at ho6; rw [← Ny228.out] at ho6)); have HO230 := aM (Kd.R_lower (Kd.R_new' ho6 (Kd.R_lt (qR HO227.out))) (keep_size (w := w) (g := g) (row := none) (kB HK.out))); replace HO227 := aM (Kd.R_elder' (qR HO227.out) (Kd.R_base ho6) hb); replace HK := aM (KeepBut.trans (kB HK.out) (KeepBut.of_below hb g none) (.inl rfl)); replace HB := aM (below_step (wS60 HB.out) hb); replace HI0 := aM (IsS60.below (iS60 HI0.out) hb); clear hb ho6; obtain ⟨Ao7, co7, rfl⟩ := sL HO230) | ((with_reducible refine gate_callee (f := 35) rfl ?_); refine gL (some 8) Try.func35 #[.pointer (some ⟨g, 0, none⟩), .slice Ao7 y228.length co7] ?_; (with_reducible refine (spec_reader_one.calls k g s0_0 s0_1 _ _ y228 t231 t232 w0 _ ?side1 ?side2 ?side3 ?side4 ?side5 A2.out).mono ?_); (case side1 => exact iS60 HI0.out); (case side2 => exact wS60 HB.out); (case side3 => exact qC (Kd.R_reads' HO230.out).2.2); (case side4 => exact (Kd.R_reads' HO230.out).2.1); (case side5 => exact far_slice (IsS60.own_ne HI0.out HO230.out (by decide))); rintro e w8 ⟨rfl, hi, hb, hk⟩; refine ⟨_, rfl, ?_⟩; replace HO227 := aM (Kd.R_mono (Kd.R_keep (IsS60.apart (show IsS60 w0 _ g s0_0 s0_1 from iS60 HI0.out) (qR HO227.out) (by decide)) hk (fun _ h => h.2)) (fun _ h => h.1)); replace HO230 := aM (Kd.R_mono (Kd.R_keep (IsS60.apart (show IsS60 w0 _ g s0_0 s0_1 from iS60 HI0.out) (qR HO230.out) (by decide)) hk (fun _ h => h.2)) (fun _ h => h.1)); replace HK := aM (KeepBut.trans (kB HK.out) hk (.inl rfl)); replace HB := aM (hb); replace HI0 := aM (hi); clear hb hk hi))
 go_loopg [3, 4] k (fun kq v3 v4 w' => ∃ (x3_1 : List Int) (x4_1 : Int) (x1001_1 : Int), v4 = .int .i64 x4_1 ∧ Aside0 (spec_anyCounts.l0 kq x3_1 x4_1 s0_0 x1001_1 = some (r1, r2)) ∧ Aside0 (kq ≤ k) ∧ Aside0 (Kd.R (Kd.int .i64) 3 w' w.heap.size (fun _ => True) v3 x3_1) ∧ Aside0 (IsS60 w0 w' g s0_0 x1001_1) ∧ Aside0 (KeepBut w w' g none) ∧ Aside0 (Below w0.heap.size w0 w'))
 case atStart => exact ⟨(y225), (t231), (t232), qE, H', ⟨Nat.le_refl _⟩, ⟨by refine qR ?_; exact Kd.R_mono HO227.out (fun _ hk => trivial)⟩, ⟨iS60 HI0.out⟩, ⟨kB HK.out⟩, ⟨wS60 HB.out⟩⟩
 case round =>
  clear H'
  obtain ⟨x3_1, x4_1, x1001_1, rfl, HA, HK1, HO_3, HI0, HK, HB⟩ := hrel
  cases gk with
  | zero => exact absurd HA.out (by simp [spec_anyCounts.l0])
  | succ k1 =>
   have H := HA.out
   clear HA
   simp only [spec_anyCounts.l0] at H
   by_cases c9 : x4_1 > 0
   rotate_left
   ·rw [if_neg c9] at H
    have c9b0 : decide (0 < x4_1) = false := decide_eq_false c9
    clear c9
    replace H := Option.bind_eq_some_iff.mp H
    obtain ⟨⟨t241, t244⟩, A170, H⟩ := H
    replace H : (some (t241, t244)) = some (r1, r2) := H
    have A17 := aM A170
    clear A170
    simp only [Option.some.injEq, Prod.mk.injEq] at H
    obtain ⟨rfl, rfl⟩ := H
    obtain ⟨Ao18, co18, rfl⟩ := sL HO_3
    go_wp2_with (first | ((with_reducible refine gate_callee (f := 37) rfl ?_); refine gL (some 21) Try.func37 #[.pointer (some ⟨g, 0, none⟩), .slice Ao18 x3_1.length co18, .int .i64 10000] ?_; (with_reducible refine (spec_reader_spoil.calls k1 g s0_0 x1001_1 _ _ x3_1 10000 t241 t244 w0 _ ?side1 ?side2 ?side3 ?side4 ?side5 A17.out).mono ?_); (case side1 => exact iS60 HI0.out); (case side2 => exact wS60 HB.out); (case side3 => exact qC (Kd.R_reads' HO_3.out).2.2); (case side4 => exact (Kd.R_reads' HO_3.out).2.1); (case side5 => exact far_slice (IsS60.own_ne HI0.out HO_3.out (by decide))); rintro e w19 ⟨v242, rfl, ho0, hi, hb, hk⟩; refine ⟨_, rfl, ?_⟩; have HO243 := aM (Kd.Q_lower (Kd.Q_new' ho0 (Kd.R_lt (qR HO_3.out))) (keep_size (w := w) (g := g) (row := none) (kB HK.out))); replace HO_3 := aM (Kd.R_mono (Kd.R_told (Kd.R_oldK (IsS60.apart (show IsS60 w0 _ g s0_0 x1001_1 from iS60 HI0.out) (qR HO_3.out) (by decide)) hk) (Kd.Q_base ho0)) (fun _ h_ => h_.1)); replace HK := aM (KeepBut.trans (kB HK.out) hk (.inl rfl)); replace HB := aM (hb); replace HI0 := aM (hi); clear hb hk hi ho0))
    go_ret
    exact ⟨_, qX, by (with_reducible repeat (first | apply Kd.Q_alloc | apply Kd.Q_drewN | apply Kd.Q_drew)); exact Kd.Q_mono HO243.out (fun _ hk => trivial), iS60 HI0.out, wS60 HB.out, kB HK.out⟩
   rw [if_pos c9] at H
   have c9b0 : decide (0 < x4_1) = true := decide_eq_true c9
   clear c9
   obtain ⟨y233, hy233⟩ : ∃ y_ : List Int, y_ = (([0, 1, 2, 3, 5, 8, 13, 40, 9999] : List Int)) := ⟨_, rfl⟩
   replace H : ((spec_reader_one.f k1 s0_0 x1001_1 y233).bind fun bt236 => (if x3_1.length < 17592186044416 then (spec_anyCounts.l0 k1 (x3_1 ++ [bt236.1]) (wrap64 (x4_1 - 1)) s0_0 bt236.2) else (none))) = some (r1, r2) := rY hy233 H
   have Ny233 := aM hy233
   clear hy233
   replace H := Option.bind_eq_some_iff.mp H
   obtain ⟨⟨t236, t237⟩, A100, H⟩ := H
   replace H : (if x3_1.length < 17592186044416 then (spec_anyCounts.l0 k1 (x3_1 ++ [t236]) (wrap64 (x4_1 - 1)) s0_0 t237) else (none)) = some (r1, r2) := H
   have A10 := aM A100
   clear A100
   replace H := iS H
   obtain ⟨c11, H⟩ := H
   have LMc11 := aM c11
   clear c11
   obtain ⟨y238, hy238⟩ : ∃ y_ : List Int, y_ = (x3_1 ++ [t236]) := ⟨_, rfl⟩
   replace H : (spec_anyCounts.l0 k1 y238 (wrap64 (x4_1 - 1)) s0_0 t237) = some (r1, r2) := rY hy238 H
   have Ny238 := aM hy238
   clear hy238
   have H' := aM H
   clear H
   go_wp2_with (first | ((with_reducible refine gate_dst (N := 15) rfl ?_); refine iL ([0, 1, 2, 3, 5, 8, 13, 40, 9999] : List Int) [.int .i64 0, .int .i64 1, .int .i64 2, .int .i64 3, .int .i64 5, .int .i64 8, .int .i64 13, .int .i64 40, .int .i64 9999] ?_; intro v234 w12 ho13 hb hg_ hnew_; clear hg_ hnew_; (first | rw [← Ny233.out] at ho13 | (simp only [Int.reduceToNat] at ho13; rw [← Ny233.out] at ho13)); have HO235 := aM (Kd.R_lower (Kd.R_new' ho13 (Kd.R_lt (qR HO_3.out))) (keep_size (w := w) (g := g) (row := none) (kB HK.out))); replace HO_3 := aM (Kd.R_elder' (qR HO_3.out) (Kd.R_base ho13) hb); replace HK := aM (KeepBut.trans (kB HK.out) (KeepBut.of_below hb g none) (.inl rfl)); replace HB := aM (below_step (wS60 HB.out) hb); replace HI0 := aM (IsS60.below (iS60 HI0.out) hb); clear hb ho13; obtain ⟨Ao14, co14, rfl⟩ := sL HO235) | ((with_reducible refine gate_callee (f := 35) rfl ?_); refine gL (some 16) Try.func35 #[.pointer (some ⟨g, 0, none⟩), .slice Ao14 y233.length co14] ?_; (with_reducible refine (spec_reader_one.calls k1 g s0_0 x1001_1 _ _ y233 t236 t237 w0 _ ?side1 ?side2 ?side3 ?side4 ?side5 A10.out).mono ?_); (case side1 => exact iS60 HI0.out); (case side2 => exact wS60 HB.out); (case side3 => exact qC (Kd.R_reads' HO235.out).2.2); (case side4 => exact (Kd.R_reads' HO235.out).2.1); (case side5 => exact far_slice (IsS60.own_ne HI0.out HO235.out (by decide))); rintro e w15 ⟨rfl, hi, hb, hk⟩; refine ⟨_, rfl, ?_⟩; replace HO_3 := aM (Kd.R_mono (Kd.R_keep (IsS60.apart (show IsS60 w0 _ g s0_0 x1001_1 from iS60 HI0.out) (qR HO_3.out) (by decide)) hk (fun _ h => h.2)) (fun _ h => h.1)); replace HO235 := aM (Kd.R_mono (Kd.R_keep (IsS60.apart (show IsS60 w0 _ g s0_0 x1001_1 from iS60 HI0.out) (qR HO235.out) (by decide)) hk (fun _ h => h.2)) (fun _ h => h.1)); replace HK := aM (KeepBut.trans (kB HK.out) hk (.inl rfl)); replace HB := aM (hb); replace HI0 := aM (hi); clear hb hk hi) | ((with_reducible refine gate_builtin (b := .append) (xs := #[.tmp 13, .tmp 17]) rfl ?_); at_builtin; refine Kd.R_append (Kd.int .i64) w.heap.size rfl (.tmp 13) (.tmp 17) 22 3 (.int .i64 0) 8 rfl Try.underlying22 info3 rfl (by decide) (by omega) u3 x3_1 t236 [.int .i64 t236] (fun k_ => some k_ ≠ (.slice Ao14 y233.length co14 : Value).ownBlock) (fun _ => False) rfl rfl ?aP (fun _ hk => hk.elim) ?aF ?aO (Below.refl _ _) ?aS ?aL ?_; (case aP => exact rfl); (case aF => exact (fun k_ hk => Kd.fresh' (Kd.R_lt (qR HO235.out)) k_ hk)); (case aO => exact (by refine qR ?_; exact Kd.R_mono HO_3.out (fun _ hk => hk.2))); (case aS => exact (keep_size (w := w) (g := g) (row := none) (kB HK.out))); (case aL => have := LMc11.out; omega); intro v239 w16 ho hb hg hat; rw [← Ny238.out] at ho; replace HO235 := aM (Kd.R_after (ok := (fun _ => True)) (qR HO235.out) hg hat); replace HB := aM (below_weaken (wS60 HB.out) HL.out hb); replace HI0 := aM (IsS60.grown (iS60 HI0.out) hg (IsS60.own_ne HI0.out HO_3.out (by decide))); replace HK := aM (KeepBut.trans (kB HK.out) (KeepBut.of_grown hg g) (Kd.R_base2 HO_3.out)); have HO240 := aM (ho); clear HO_3; clear ho hb hg hat))
   go_roundg k1
   case measure => have := HK1.out; omega
   case rel => exact ⟨(y238), (wrap64 (x4_1 - 1)), (t237), qE, H', ⟨by have := HK1.out; omega⟩, ⟨by refine qR ?_; exact Kd.R_mono HO240.out (fun _ hk => trivial)⟩, ⟨iS60 HI0.out⟩, ⟨kB HK.out⟩, ⟨wS60 HB.out⟩⟩
def spec_codeLengthsOf.f (k : Nat) (l0 : List Int) : Option (List Int) := (spec_CodeLengths.f k l0).bind fun t307 => (if (t307.length : Int) = 0 then (some (([1, 2, 2] : List Int))) else (some t307))
theorem spec_codeLengthsOf.mono : ∀ a0 k, LeO (spec_codeLengthsOf.f k a0) (spec_codeLengthsOf.f (k + 1) a0) := by
 intro a0 k
 unfold spec_codeLengthsOf.f
 repeat' first | (with_reducible first | exact spec_CodeLengths.mono _ _ | exact lR | exact lN | refine lI ?_ ?_ | refine lB ?_ fun _ => ?_) | exact spec_CodeLengths.mono _ _ | exact lN | refine lI ?_ ?_ | refine lB ?_ fun _ => ?_
set_option maxHeartbeats 8000000 in
set_option maxRecDepth 100000 in
theorem spec_codeLengthsOf.calls (k : Nat) (A0 : Option Addr) (c0 : Nat) (l0 : List Int) (r : List Int) (w : World) (hr0 : Kd.C (Kd.int .i64) w A0 l0.length l0) (hc0 : l0.length ≤ c0) (h : spec_codeLengthsOf.f k l0 = some r) :
  Calls Try.prog 51 #[.slice A0 l0.length c0] w fun e w' => ∃ v0_ : Value, e = .returned (v0_) ∧ Kd.R (Kd.int .i64) 3 w' w.heap.size (fun _ => True) v0_ r ∧ Below w.heap.size w w' := by
 have HR0 := aM hr0
 have HC0 := aM hc0
 clear hr0 hc0
 have HB := aM (Below.refl w.heap.size w)
 unfold spec_codeLengthsOf.f at h
 have H := h
 clear h
 replace H := Option.bind_eq_some_iff.mp H
 obtain ⟨t307, A20, H⟩ := H
 replace H : (if (t307.length : Int) = 0 then (some (([1, 2, 2] : List Int))) else (some t307)) = some r := H
 have A2 := aM A20
 clear A20
 by_cases c3 : (t307.length : Int) = 0
 rotate_left
 ·rw [if_neg c3] at H
  have c3b0 : ((t307.length : Int) == 0) = false := beq_eq_false_iff_ne.mpr c3
  have c3b1 : ((t307.length : Int) != 0) = true := bne_iff_ne.mpr c3
  have c3b2 : ¬ (t307 = []) := fun h_ => c3 (by rw [h_]; rfl)
  obtain rfl := Option.some.inj H
  go_enter Try.func51, Try.ntmps51
  go_wp2_with (first | ((with_reducible refine gate_callee (f := 24) rfl ?_); refine gL (some 5) Try.func24 #[.slice A0 l0.length c0] ?_; (with_reducible refine (spec_CodeLengths.calls k _ _ l0 t307 _ ?side1 ?side2 A2.out).mono ?_); (case side1 => exact qC HR0.out); (case side2 => exact HC0.out); rintro e w8 ⟨v308, rfl, ho0, hb⟩; refine ⟨_, rfl, ?_⟩; have HO309 := oR ho0 HB; replace HB := bS HB hb; clear hb ho0; obtain ⟨Ao9, co9, rfl⟩ := sL HO309))
  go_ret
  exact ⟨_, qX, by refine qR ?_; exact HO309.out, by exact qW HB.out⟩
 rw [if_pos c3] at H
 have c3b0 : ((t307.length : Int) == 0) = true := beq_iff_eq.mpr c3
 have c3b1 : ((t307.length : Int) != 0) = false := bne_eq_false_iff_eq.mpr c3
 clear c3
 obtain ⟨y310, hy310⟩ : ∃ y_ : List Int, y_ = (([1, 2, 2] : List Int)) := ⟨_, rfl⟩
 replace H : (some y310) = some r := rY hy310 H
 have Ny310 := aM hy310
 clear hy310
 obtain rfl := Option.some.inj H
 go_enter Try.func51, Try.ntmps51
 go_wp2_with (first | ((with_reducible refine gate_callee (f := 24) rfl ?_); refine gL (some 5) Try.func24 #[.slice A0 l0.length c0] ?_; (with_reducible refine (spec_CodeLengths.calls k _ _ l0 t307 _ ?side1 ?side2 A2.out).mono ?_); (case side1 => exact qC HR0.out); (case side2 => exact HC0.out); rintro e w4 ⟨v308, rfl, ho0, hb⟩; refine ⟨_, rfl, ?_⟩; have HO309 := oR ho0 HB; replace HB := bS HB hb; clear hb ho0; obtain ⟨Ao5, co5, rfl⟩ := sL HO309) | ((with_reducible refine gate_dst (N := 9) rfl ?_); refine iL ([1, 2, 2] : List Int) [.int .i64 1, .int .i64 2, .int .i64 2] ?_; intro v311 w6 ho7 hb hg_ hnew_; clear hg_ hnew_; (first | rw [← Ny310.out] at ho7 | (simp only [Int.reduceToNat] at ho7; rw [← Ny310.out] at ho7)); have HO312 := nR ho7 HO309 HB; replace HO309 := aM (Kd.R_elder' (qR HO309.out) (Kd.R_base ho7) hb); replace HB := bS HB hb; clear hb ho7))
 go_ret
 exact ⟨_, qX, by refine qR ?_; exact Kd.R_mono HO312.out (fun _ hk => trivial), by exact qW HB.out⟩
def spec_anyLengths.f (k : Nat) (s0_0 : List Int) (s0_1 : Int) : Option (List Int × Int) := (spec_anyCounts.f k s0_0 s0_1).bind fun bt313 => ((spec_codeLengthsOf.f k bt313.1).bind fun t317 => ((spec_reader_one.f k s0_0 bt313.2 (([1, 2, 16, 17] : List Int))).bind fun bt323 => ((spec_reader_spoil.f k s0_0 bt323.2 t317 bt323.1).bind fun bt325 => (some (bt325.1, bt325.2)))))
theorem spec_anyLengths.mono : ∀ a0 a1 k, LeO (spec_anyLengths.f k a0 a1) (spec_anyLengths.f (k + 1) a0 a1) := by
 intro a0 a1 k
 unfold spec_anyLengths.f
 repeat' first | (with_reducible first | exact spec_anyCounts.mono _ _ _ | exact spec_codeLengthsOf.mono _ _ | exact spec_reader_one.mono _ _ _ _ | exact spec_reader_spoil.mono _ _ _ _ _ | exact lR | exact lN | refine lI ?_ ?_ | refine lB ?_ fun _ => ?_) | exact spec_anyCounts.mono _ _ _ | exact spec_codeLengthsOf.mono _ _ | exact spec_reader_one.mono _ _ _ _ | exact spec_reader_spoil.mono _ _ _ _ _ | exact lN | refine lI ?_ ?_ | refine lB ?_ fun _ => ?_
set_option maxHeartbeats 8000000 in
set_option maxRecDepth 100000 in
theorem spec_anyLengths.calls (k : Nat) (g : Nat) (s0_0 : List Int) (s0_1 : Int) (r1 : List Int) (r2 : Int) (w0 w : World) (hI : IsS60 w0 w g s0_0 s0_1) (hB : Below w0.heap.size w0 w) (h : spec_anyLengths.f k s0_0 s0_1 = some (r1, r2)) :
  Calls Try.prog 34 #[.pointer (some ⟨g, 0, none⟩)] w fun e w' => ∃ v0_ : Value, e = .returned (v0_) ∧ Kd.Q (Kd.int .i64) 3 w' w.heap.size (fun _ => True) v0_ r1 ∧ IsS60 w0 w' g s0_0 r2 ∧ Below w0.heap.size w0 w' ∧ KeepBut w w' g none := by
 have HI0 := aM hI
 have HK := aM (KeepBut.refl w g none)
 have HL := aM hB.size
 clear hI
 have HW0 := aM hB.size
 have HB := aM hB
 clear hB
 unfold spec_anyLengths.f at h
 have H := h
 clear h
 replace H := Option.bind_eq_some_iff.mp H
 obtain ⟨⟨t313, t316⟩, A20, H⟩ := H
 replace H : ((spec_codeLengthsOf.f k t313).bind fun t317 => ((spec_reader_one.f k s0_0 t316 (([1, 2, 16, 17] : List Int))).bind fun bt323 => ((spec_reader_spoil.f k s0_0 bt323.2 t317 bt323.1).bind fun bt325 => (some (bt325.1, bt325.2))))) = some (r1, r2) := H
 have A2 := aM A20
 clear A20
 replace H := Option.bind_eq_some_iff.mp H
 obtain ⟨t317, A30, H⟩ := H
 replace H : ((spec_reader_one.f k s0_0 t316 (([1, 2, 16, 17] : List Int))).bind fun bt323 => ((spec_reader_spoil.f k s0_0 bt323.2 t317 bt323.1).bind fun bt325 => (some (bt325.1, bt325.2)))) = some (r1, r2) := H
 have A3 := aM A30
 clear A30
 obtain ⟨y320, hy320⟩ : ∃ y_ : List Int, y_ = (([1, 2, 16, 17] : List Int)) := ⟨_, rfl⟩
 replace H : ((spec_reader_one.f k s0_0 t316 y320).bind fun bt323 => ((spec_reader_spoil.f k s0_0 bt323.2 t317 bt323.1).bind fun bt325 => (some (bt325.1, bt325.2)))) = some (r1, r2) := rY hy320 H
 have Ny320 := aM hy320
 clear hy320
 replace H := Option.bind_eq_some_iff.mp H
 obtain ⟨⟨t323, t324⟩, A40, H⟩ := H
 replace H : ((spec_reader_spoil.f k s0_0 t324 t317 t323).bind fun bt325 => (some (bt325.1, bt325.2))) = some (r1, r2) := H
 have A4 := aM A40
 clear A40
 replace H := Option.bind_eq_some_iff.mp H
 obtain ⟨⟨t325, t328⟩, A50, H⟩ := H
 replace H : (some (t325, t328)) = some (r1, r2) := H
 have A5 := aM A50
 clear A50
 simp only [Option.some.injEq, Prod.mk.injEq] at H
 obtain ⟨rfl, rfl⟩ := H
 go_enter Try.func34, Try.ntmps34
 go_wp2_with (first | ((with_reducible refine gate_callee (f := 46) rfl ?_); refine gL (some 5) Try.func46 #[.pointer (some ⟨g, 0, none⟩)] ?_; (with_reducible refine (spec_anyCounts.calls k g s0_0 s0_1 t313 t316 w0 _ ?side1 ?side2 A2.out).mono ?_); (case side1 => exact iS60 HI0.out); (case side2 => exact wS60 HB.out); rintro e w6 ⟨v314, rfl, ho0, hi, hb, hk⟩; refine ⟨_, rfl, ?_⟩; have HO315 := aM (Kd.Q_lower ho0 (keep_size (w := w) (g := g) (row := none) (kB HK.out))); replace HK := aM (KeepBut.trans (kB HK.out) hk (.inl rfl)); replace HB := aM (hb); replace HI0 := aM (hi); clear hb hk hi ho0; obtain ⟨Ao7, co7, eo7, _⟩ := Kd.Q_slice HO315.out; subst eo7) | ((with_reducible refine gate_callee (f := 51) rfl ?_); refine gL (some 6) Try.func51 #[.slice Ao7 t313.length co7] ?_; (with_reducible refine (spec_codeLengthsOf.calls k _ _ t313 t317 _ ?side1 ?side2 A3.out).mono ?_); (case side1 => exact qC (Kd.Q_reads' HO315.out).2.2); (case side2 => exact (Kd.Q_reads' HO315.out).2.1); rintro e w8 ⟨v318, rfl, ho0, hb⟩; refine ⟨_, rfl, ?_⟩; have HO319 := aM (Kd.R_lower (Kd.R_new' ho0 (Kd.Q_lt (qQ HO315.out))) (keep_size (w := w) (g := g) (row := none) (kB HK.out))); replace HO315 := aM (Kd.Q_elder' (qQ HO315.out) (Kd.R_base ho0) hb); replace HK := aM (KeepBut.trans (kB HK.out) (KeepBut.of_below hb g none) (.inl rfl)); replace HB := aM (below_step (wS60 HB.out) hb); replace HI0 := aM (IsS60.below (iS60 HI0.out) hb); clear hb ho0) | ((with_reducible refine gate_dst (N := 10) rfl ?_); refine iL ([1, 2, 16, 17] : List Int) [.int .i64 1, .int .i64 2, .int .i64 16, .int .i64 17] ?_; intro v321 w9 ho10 hb hg_ hnew_; clear hg_ hnew_; (first | rw [← Ny320.out] at ho10 | (simp only [Int.reduceToNat] at ho10; rw [← Ny320.out] at ho10)); have HO322 := aM (Kd.R_lower (Kd.R_new' (Kd.R_new' ho10 (Kd.Q_lt (qQ HO315.out))) (Kd.R_lt (qR HO319.out))) (keep_size (w := w) (g := g) (row := none) (kB HK.out))); replace HO315 := aM (Kd.Q_elder' (qQ HO315.out) (Kd.R_base ho10) hb); replace HO319 := aM (Kd.R_elder' (qR HO319.out) (Kd.R_base ho10) hb); replace HK := aM (KeepBut.trans (kB HK.out) (KeepBut.of_below hb g none) (.inl rfl)); replace HB := aM (below_step (wS60 HB.out) hb); replace HI0 := aM (IsS60.below (iS60 HI0.out) hb); clear hb ho10; obtain ⟨Ao11, co11, rfl⟩ := sL HO322) | ((with_reducible refine gate_callee (f := 35) rfl ?_); refine gL (some 11) Try.func35 #[.pointer (some ⟨g, 0, none⟩), .slice Ao11 y320.length co11] ?_; (with_reducible refine (spec_reader_one.calls k g s0_0 t316 _ _ y320 t323 t324 w0 _ ?side1 ?side2 ?side3 ?side4 ?side5 A4.out).mono ?_); (case side1 => exact iS60 HI0.out); (case side2 => exact wS60 HB.out); (case side3 => exact qC (Kd.R_reads' HO322.out).2.2); (case side4 => exact (Kd.R_reads' HO322.out).2.1); (case side5 => exact far_slice (IsS60.own_ne HI0.out HO322.out (by decide))); rintro e w12 ⟨rfl, hi, hb, hk⟩; refine ⟨_, rfl, ?_⟩; replace HO315 := aM (Kd.Q_mono (Kd.Q_keep (IsS60.apartQ (show IsS60 w0 _ g s0_0 t316 from iS60 HI0.out) (qQ HO315.out) (by decide)) hk (fun _ h => h.2)) (fun _ h => h.1)); replace HO319 := aM (Kd.R_mono (Kd.R_keep (IsS60.apart (show IsS60 w0 _ g s0_0 t316 from iS60 HI0.out) (qR HO319.out) (by decide)) hk (fun _ h => h.2)) (fun _ h => h.1)); replace HO322 := aM (Kd.R_mono (Kd.R_keep (IsS60.apart (show IsS60 w0 _ g s0_0 t316 from iS60 HI0.out) (qR HO322.out) (by decide)) hk (fun _ h => h.2)) (fun _ h => h.1)); replace HK := aM (KeepBut.trans (kB HK.out) hk (.inl rfl)); replace HB := aM (hb); replace HI0 := aM (hi); clear hb hk hi; obtain ⟨Ao13, co13, rfl⟩ := sL HO319) | ((with_reducible refine gate_callee (f := 37) rfl ?_); refine gL (some 12) Try.func37 #[.pointer (some ⟨g, 0, none⟩), .slice Ao13 t317.length co13, .int .i64 t323] ?_; (with_reducible refine (spec_reader_spoil.calls k g s0_0 t324 _ _ t317 t323 t325 t328 w0 _ ?side1 ?side2 ?side3 ?side4 ?side5 A5.out).mono ?_); (case side1 => exact iS60 HI0.out); (case side2 => exact wS60 HB.out); (case side3 => exact qC (Kd.R_reads' HO319.out).2.2); (case side4 => exact (Kd.R_reads' HO319.out).2.1); (case side5 => exact far_slice (IsS60.own_ne HI0.out HO319.out (by decide))); rintro e w14 ⟨v326, rfl, ho0, hi, hb, hk⟩; refine ⟨_, rfl, ?_⟩; have HO327 := aM (Kd.Q_lower (Kd.Q_new' (Kd.Q_new' (Kd.Q_new' ho0 (Kd.Q_lt (qQ HO315.out))) (Kd.R_lt (qR HO319.out))) (Kd.R_lt (qR HO322.out))) (keep_size (w := w) (g := g) (row := none) (kB HK.out))); replace HO315 := aM (Kd.Q_mono (Kd.Q_told (Kd.Q_oldK (IsS60.apartQ (show IsS60 w0 _ g s0_0 t324 from iS60 HI0.out) (qQ HO315.out) (by decide)) hk) (Kd.Q_base ho0)) (fun _ h_ => h_.1)); replace HO319 := aM (Kd.R_mono (Kd.R_told (Kd.R_oldK (IsS60.apart (show IsS60 w0 _ g s0_0 t324 from iS60 HI0.out) (qR HO319.out) (by decide)) hk) (Kd.Q_base ho0)) (fun _ h_ => h_.1)); replace HO322 := aM (Kd.R_mono (Kd.R_told (Kd.R_oldK (IsS60.apart (show IsS60 w0 _ g s0_0 t324 from iS60 HI0.out) (qR HO322.out) (by decide)) hk) (Kd.Q_base ho0)) (fun _ h_ => h_.1)); replace HK := aM (KeepBut.trans (kB HK.out) hk (.inl rfl)); replace HB := aM (hb); replace HI0 := aM (hi); clear hb hk hi ho0))
 go_ret
 exact ⟨_, qX, by (with_reducible repeat (first | apply Kd.Q_alloc | apply Kd.Q_drewN | apply Kd.Q_drew)); exact Kd.Q_mono HO327.out (fun _ hk => trivial), iS60 HI0.out, wS60 HB.out, kB HK.out⟩
def spec_DrawCodeLengths.f (k : Nat) (l0 : List Int) : Option (List Int) := (spec_newReader.f l0).bind fun bt542 => ((spec_anyCounts.f k bt542.1 bt542.2).bind fun bt545 => (some bt545.1))
theorem spec_DrawCodeLengths.mono : ∀ a0 k, LeO (spec_DrawCodeLengths.f k a0) (spec_DrawCodeLengths.f (k + 1) a0) := by
 intro a0 k
 unfold spec_DrawCodeLengths.f
 repeat' first | (with_reducible first | exact spec_anyCounts.mono _ _ _ | exact lR | exact lN | refine lI ?_ ?_ | refine lB ?_ fun _ => ?_) | exact spec_anyCounts.mono _ _ _ | exact lN | refine lI ?_ ?_ | refine lB ?_ fun _ => ?_
set_option maxHeartbeats 8000000 in
set_option maxRecDepth 100000 in
theorem spec_DrawCodeLengths.calls (k : Nat) (A0 : Option Addr) (c0 : Nat) (l0 : List Int) (r : List Int) (w : World) (hr0 : Kd.C (Kd.int .u8) w A0 l0.length l0) (hc0 : l0.length ≤ c0) (h : spec_DrawCodeLengths.f k l0 = some r) :
  Calls Try.prog 26 #[.slice A0 l0.length c0] w fun e w' => ∃ v0_ : Value, e = .returned (v0_) ∧ Kd.Q (Kd.int .i64) 3 w' w.heap.size (fun _ => True) v0_ r ∧ Below w.heap.size w w' := by
 have HR0 := aM hr0
 have HC0 := aM hc0
 clear hr0 hc0
 have HB := aM (Below.refl w.heap.size w)
 unfold spec_DrawCodeLengths.f at h
 have H := h
 clear h
 replace H := Option.bind_eq_some_iff.mp H
 obtain ⟨⟨t542, t543⟩, A20, H⟩ := H
 replace H : ((spec_anyCounts.f k t542 t543).bind fun bt545 => (some bt545.1)) = some r := H
 have A2 := aM A20
 clear A20
 replace H := Option.bind_eq_some_iff.mp H
 obtain ⟨⟨t545, t548⟩, A30, H⟩ := H
 replace H : (some t545) = some r := H
 have A3 := aM A30
 clear A30
 obtain rfl := Option.some.inj H
 go_enter Try.func26, Try.ntmps26
 go_wp2_with (first | ((with_reducible refine gate_callee (f := 33) rfl ?_); refine gL (some 4) Try.func33 #[.slice A0 l0.length c0] ?_; (with_reducible refine (spec_newReader.calls _ _ l0 t542 t543 w _ ?side1 ?side2 ?side3 A2.out).mono ?_); (case side1 => exact qW HB.out); (case side2 => exact HR0.out); (case side3 => exact HC0.out); rintro e w4 ⟨g544, rfl, hi, hb, hb2⟩; refine ⟨_, rfl, ?_⟩; replace HB := aM (hb); have HI544 := aM (hi); clear hb hb2 hi) | ((with_reducible refine gate_callee (f := 46) rfl ?_); refine gL (some 5) Try.func46 #[.pointer (some ⟨g544, 0, none⟩)] ?_; (with_reducible refine (spec_anyCounts.calls k g544 t542 t543 t545 t548 w _ ?side1 ?side2 A3.out).mono ?_); (case side1 => exact iS60 HI544.out); (case side2 => exact wS60 HB.out); rintro e w5 ⟨v546, rfl, ho0, hi, hb, hk⟩; refine ⟨_, rfl, ?_⟩; have HO547 := aM (Kd.Q_lower ho0 (below_size (wS60 HB.out))); replace HB := aM (hb); replace HI544 := aM (hi); clear hb hk hi ho0))
 go_ret
 exact ⟨_, qX, by (with_reducible repeat (first | apply Kd.Q_alloc | apply Kd.Q_drewN | apply Kd.Q_drew)); exact HO547.out, wS60 HB.out⟩
def spec_DrawCanonicalCodes.f (k : Nat) (l0 : List Int) : Option (List Int) := (spec_newReader.f l0).bind fun bt613 => ((spec_anyLengths.f k bt613.1 bt613.2).bind fun bt616 => (some bt616.1))
theorem spec_DrawCanonicalCodes.mono : ∀ a0 k, LeO (spec_DrawCanonicalCodes.f k a0) (spec_DrawCanonicalCodes.f (k + 1) a0) := by
 intro a0 k
 unfold spec_DrawCanonicalCodes.f
 repeat' first | (with_reducible first | exact spec_anyLengths.mono _ _ _ | exact lR | exact lN | refine lI ?_ ?_ | refine lB ?_ fun _ => ?_) | exact spec_anyLengths.mono _ _ _ | exact lN | refine lI ?_ ?_ | refine lB ?_ fun _ => ?_
set_option maxHeartbeats 8000000 in
set_option maxRecDepth 100000 in
theorem spec_DrawCanonicalCodes.calls (k : Nat) (A0 : Option Addr) (c0 : Nat) (l0 : List Int) (r : List Int) (w : World) (hr0 : Kd.C (Kd.int .u8) w A0 l0.length l0) (hc0 : l0.length ≤ c0) (h : spec_DrawCanonicalCodes.f k l0 = some r) :
  Calls Try.prog 27 #[.slice A0 l0.length c0] w fun e w' => ∃ v0_ : Value, e = .returned (v0_) ∧ Kd.Q (Kd.int .i64) 3 w' w.heap.size (fun _ => True) v0_ r ∧ Below w.heap.size w w' := by
 have HR0 := aM hr0
 have HC0 := aM hc0
 clear hr0 hc0
 have HB := aM (Below.refl w.heap.size w)
 unfold spec_DrawCanonicalCodes.f at h
 have H := h
 clear h
 replace H := Option.bind_eq_some_iff.mp H
 obtain ⟨⟨t613, t614⟩, A20, H⟩ := H
 replace H : ((spec_anyLengths.f k t613 t614).bind fun bt616 => (some bt616.1)) = some r := H
 have A2 := aM A20
 clear A20
 replace H := Option.bind_eq_some_iff.mp H
 obtain ⟨⟨t616, t619⟩, A30, H⟩ := H
 replace H : (some t616) = some r := H
 have A3 := aM A30
 clear A30
 obtain rfl := Option.some.inj H
 go_enter Try.func27, Try.ntmps27
 go_wp2_with (first | ((with_reducible refine gate_callee (f := 33) rfl ?_); refine gL (some 4) Try.func33 #[.slice A0 l0.length c0] ?_; (with_reducible refine (spec_newReader.calls _ _ l0 t613 t614 w _ ?side1 ?side2 ?side3 A2.out).mono ?_); (case side1 => exact qW HB.out); (case side2 => exact HR0.out); (case side3 => exact HC0.out); rintro e w4 ⟨g615, rfl, hi, hb, hb2⟩; refine ⟨_, rfl, ?_⟩; replace HB := aM (hb); have HI615 := aM (hi); clear hb hb2 hi) | ((with_reducible refine gate_callee (f := 34) rfl ?_); refine gL (some 5) Try.func34 #[.pointer (some ⟨g615, 0, none⟩)] ?_; (with_reducible refine (spec_anyLengths.calls k g615 t613 t614 t616 t619 w _ ?side1 ?side2 A3.out).mono ?_); (case side1 => exact iS60 HI615.out); (case side2 => exact wS60 HB.out); rintro e w5 ⟨v617, rfl, ho0, hi, hb, hk⟩; refine ⟨_, rfl, ?_⟩; have HO618 := aM (Kd.Q_lower ho0 (below_size (wS60 HB.out))); replace HB := aM (hb); replace HI615 := aM (hi); clear hb hk hi ho0))
 go_ret
 exact ⟨_, qX, by (with_reducible repeat (first | apply Kd.Q_alloc | apply Kd.Q_drewN | apply Kd.Q_drew)); exact HO618.out, wS60 HB.out⟩
mutual
def laws_FnCodeLengthsScale.j0 : Nat → List Int → List Int → Bool → Option (Bool)
 | 0, _, _, _ => none
 | k + 1, x3, x4, x23 => if x23 = true then ((spec_CodeLengths.f k x3).bind fun t597 => ((laws_equalInts.f k x4 t597).bind fun t600 => (some t600))) else (laws_FnCodeLengthsScale.l0 k x3 x4 (([] : List Int)) 0)
def laws_FnCodeLengthsScale.l0 : Nat → List Int → List Int → List Int → Int → Option (Bool)
 | 0, _, _, _, _ => none
 | k + 1, x3, x4, x5, x6 => if x6 < (x3.length : Int) then (if 0 ≤ x6 then (if (wrap64 (2 * (rd x3 x6))) > 9999 then (some true) else (if x5.length < 17592186044416 then (laws_FnCodeLengthsScale.l0 k x3 x4 (x5 ++ [wrap64 (2 * (rd x3 x6))]) (wrap64 (x6 + 1))) else (none))) else (none)) else ((impl_CodeLengths.f k x5).bind fun t609 => ((laws_equalInts.f k t609 x4).bind fun t612 => (some t612)))
end
def laws_FnCodeLengthsScale.f (k : Nat) (l0 : List Int) : Option (Bool) := if (l0.length : Int) > 1048576 then (some true) else ((spec_DrawCodeLengths.f k l0).bind fun t587 => ((impl_CodeLengths.f k t587).bind fun t590 => ((spec_CodeLengths.f k t587).bind fun t593 => ((laws_equalInts.f k t590 t593).bind fun t596 => (if t596 = true then (laws_FnCodeLengthsScale.j0 k t587 t590 ((t590.length : Int) == 0)) else (laws_FnCodeLengthsScale.j0 k t587 t590 true))))))
theorem laws_FnCodeLengthsScale.mono_l : ∀ k, (∀ y0 y1 y2, LeO (laws_FnCodeLengthsScale.j0 k y0 y1 y2) (laws_FnCodeLengthsScale.j0 (k + 1) y0 y1 y2)) ∧ (∀ y0 y1 y2 y3, LeO (laws_FnCodeLengthsScale.l0 k y0 y1 y2 y3) (laws_FnCodeLengthsScale.l0 (k + 1) y0 y1 y2 y3))
 | 0 => ⟨fun _ _ _ r h => by simp [laws_FnCodeLengthsScale.j0] at h, fun _ _ _ _ r h => by simp [laws_FnCodeLengthsScale.l0] at h⟩
 | k + 1 => by
  obtain ⟨ih0, ih1⟩ := laws_FnCodeLengthsScale.mono_l k
  refine ⟨?_, ?_⟩
  all_goals intros
  all_goals first | unfold laws_FnCodeLengthsScale.j0 | unfold laws_FnCodeLengthsScale.l0
  all_goals repeat' first | (with_reducible first | exact ih0 _ _ _ | exact ih1 _ _ _ _ | exact impl_CodeLengths.mono _ _ | exact laws_equalInts.mono _ _ _ | exact spec_CodeLengths.mono _ _ | exact spec_DrawCodeLengths.mono _ _ | exact lR | exact lN | refine lI ?_ ?_ | refine lB ?_ fun _ => ?_) | exact ih0 _ _ _ | exact ih1 _ _ _ _ | exact impl_CodeLengths.mono _ _ | exact laws_equalInts.mono _ _ _ | exact spec_CodeLengths.mono _ _ | exact spec_DrawCodeLengths.mono _ _ | exact lN | refine lI ?_ ?_ | refine lB ?_ fun _ => ?_
theorem laws_FnCodeLengthsScale.mono : ∀ a0 k, LeO (laws_FnCodeLengthsScale.f k a0) (laws_FnCodeLengthsScale.f (k + 1) a0) := by
 intro a0 k
 obtain ⟨ih0, ih1⟩ := laws_FnCodeLengthsScale.mono_l k
 unfold laws_FnCodeLengthsScale.f
 repeat' first | (with_reducible first | exact ih0 _ _ _ | exact ih1 _ _ _ _ | exact impl_CodeLengths.mono _ _ | exact laws_equalInts.mono _ _ _ | exact spec_CodeLengths.mono _ _ | exact spec_DrawCodeLengths.mono _ _ | exact lR | exact lN | refine lI ?_ ?_ | refine lB ?_ fun _ => ?_) | exact ih0 _ _ _ | exact ih1 _ _ _ _ | exact impl_CodeLengths.mono _ _ | exact laws_equalInts.mono _ _ _ | exact spec_CodeLengths.mono _ _ | exact spec_DrawCodeLengths.mono _ _ | exact lN | refine lI ?_ ?_ | refine lB ?_ fun _ => ?_
set_option maxHeartbeats 8000000 in
set_option maxRecDepth 100000 in
theorem laws_FnCodeLengthsScale.calls (k : Nat) (A0 : Option Addr) (c0 : Nat) (l0 : List Int) (r : Bool) (w : World) (hr0 : Kd.C (Kd.int .u8) w A0 l0.length l0) (hc0 : l0.length ≤ c0) (h : laws_FnCodeLengthsScale.f k l0 = some r) :
  Calls Try.prog 10 #[.slice A0 l0.length c0] w fun e w' => e = .returned (.bool r) ∧ Below w.heap.size w w' := by
 have HR0 := aM hr0
 have HC0 := aM hc0
 clear hr0 hc0
 have HB := aM (Below.refl w.heap.size w)
 unfold laws_FnCodeLengthsScale.f at h
 have H := h
 clear h
 by_cases c2 : (l0.length : Int) > 1048576
 ·rw [if_pos c2] at H
  have c2b0 : decide (1048576 < (l0.length : Int)) = true := decide_eq_true c2
  have c2b1 : decide (1048576 < l0.length) = true := decide_eq_true (by omega)
  clear c2
  obtain rfl := Option.some.inj H
  go_enter Try.func10, Try.ntmps10
  go_wp2
  go_ret
  exact ⟨qX, by exact qW HB.out⟩
 rw [if_neg c2] at H
 have c2b0 : decide (1048576 < (l0.length : Int)) = false := decide_eq_false c2
 have c2b1 : decide (1048576 < l0.length) = false := decide_eq_false (by omega)
 clear c2
 replace H := Option.bind_eq_some_iff.mp H
 obtain ⟨t587, A30, H⟩ := H
 replace H : ((impl_CodeLengths.f k t587).bind fun t590 => ((spec_CodeLengths.f k t587).bind fun t593 => ((laws_equalInts.f k t590 t593).bind fun t596 => (if t596 = true then (laws_FnCodeLengthsScale.j0 k t587 t590 ((t590.length : Int) == 0)) else (laws_FnCodeLengthsScale.j0 k t587 t590 true))))) = some r := H
 have A3 := aM A30
 clear A30
 replace H := Option.bind_eq_some_iff.mp H
 obtain ⟨t590, A40, H⟩ := H
 replace H : ((spec_CodeLengths.f k t587).bind fun t593 => ((laws_equalInts.f k t590 t593).bind fun t596 => (if t596 = true then (laws_FnCodeLengthsScale.j0 k t587 t590 ((t590.length : Int) == 0)) else (laws_FnCodeLengthsScale.j0 k t587 t590 true)))) = some r := H
 have A4 := aM A40
 clear A40
 have HC5 := aM H
 clear H
 go_enter Try.func10, Try.ntmps10
 go_upto_region 5 with (first | ((with_reducible refine gate_callee (f := 26) rfl ?_); refine gL (some 11) Try.func26 #[.slice A0 l0.length c0] ?_; (with_reducible refine (spec_DrawCodeLengths.calls k _ _ l0 t587 _ ?side1 ?side2 A3.out).mono ?_); (case side1 => exact qC HR0.out); (case side2 => exact HC0.out); rintro e w6 ⟨v588, rfl, ho0, hb⟩; refine ⟨_, rfl, ?_⟩; have HO589 := aM (Kd.Q_lower ho0 (below_size (qW HB.out))); replace HB := bS HB hb; clear hb ho0; obtain ⟨Ao7, co7, eo7, _⟩ := Kd.Q_slice HO589.out; subst eo7) | ((with_reducible refine gate_callee (f := 25) rfl ?_); refine gL (some 13) Try.func25 #[.slice Ao7 t587.length co7] ?_; (with_reducible refine (impl_CodeLengths.calls k _ _ t587 t590 _ ?side1 ?side2 A4.out).mono ?_); (case side1 => exact qC (Kd.Q_reads' HO589.out).2.2); (case side2 => exact (Kd.Q_reads' HO589.out).2.1); rintro e w8 ⟨v591, rfl, ho0, hb⟩; refine ⟨_, rfl, ?_⟩; have HO592 := aM (Kd.R_lower (Kd.R_new' ho0 (Kd.Q_lt (qQ HO589.out))) (below_size (qW HB.out))); replace HO589 := aM (Kd.Q_elder' (qQ HO589.out) (Kd.R_base ho0) hb); replace HB := bS HB hb; clear hb ho0))
 (try simp only [Act.put, List.setIfInBounds_toArray, List.set_cons_zero, List.set_cons_succ])
 go_cut [23] (fun v23 wc => ∃ (kq : Nat) (x23_4 : Bool), v23 = .bool x23_4 ∧ Aside0 (laws_FnCodeLengthsScale.j0 kq t587 t590 x23_4 = some r) ∧ Aside0 (kq ≤ k) ∧ Aside0 (Kd.Q (Kd.int .i64) 3 wc w.heap.size (fun k_ => some k_ ≠ (v591 : Value).ownBlock) (.slice Ao7 t587.length co7) t587) ∧ Aside0 (Kd.R (Kd.int .i64) 3 wc w.heap.size (fun k_ => some k_ ≠ ((.slice Ao7 t587.length co7) : Value).ownBlock) v591 t590) ∧ Aside0 (Below w.heap.size w wc))
 case first =>
  have H := HC5.out
  clear HC5
  replace H := Option.bind_eq_some_iff.mp H
  obtain ⟨t593, A90, H⟩ := H
  replace H : ((laws_equalInts.f k t590 t593).bind fun t596 => (if t596 = true then (laws_FnCodeLengthsScale.j0 k t587 t590 ((t590.length : Int) == 0)) else (laws_FnCodeLengthsScale.j0 k t587 t590 true))) = some r := H
  have A9 := aM A90
  clear A90
  replace H := Option.bind_eq_some_iff.mp H
  obtain ⟨t596, A100, H⟩ := H
  replace H : (if t596 = true then (laws_FnCodeLengthsScale.j0 k t587 t590 ((t590.length : Int) == 0)) else (laws_FnCodeLengthsScale.j0 k t587 t590 true)) = some r := H
  have A10 := aM A100
  clear A100
  by_cases c11 : t596 = true
  ·subst c11
   have H1 : (laws_FnCodeLengthsScale.j0 k t587 t590 ((t590.length : Int) == 0)) = some r := by rw [if_pos rfl] at H; exact H
   clear H
   have H := H1
   clear H1
   have H' := aM H
   clear H
   go_wp2_with (first | ((with_reducible refine gate_callee (f := 24) rfl ?_); refine gL (some 16) Try.func24 #[.slice Ao7 t587.length co7] ?_; (with_reducible refine (spec_CodeLengths.calls k _ _ t587 t593 _ ?side1 ?side2 A9.out).mono ?_); (case side1 => exact qC (Kd.Q_reads' HO589.out).2.2); (case side2 => exact (Kd.Q_reads' HO589.out).2.1); rintro e w12 ⟨v594, rfl, ho0, hb⟩; refine ⟨_, rfl, ?_⟩; have HO595 := aM (Kd.R_lower (Kd.R_new' (Kd.R_new' ho0 (Kd.Q_lt (qQ HO589.out))) (Kd.R_lt (qR HO592.out))) (below_size (qW HB.out))); replace HO589 := aM (Kd.Q_elder' (qQ HO589.out) (Kd.R_base ho0) hb); replace HO592 := aM (Kd.R_elder' (qR HO592.out) (Kd.R_base ho0) hb); replace HB := bS HB hb; clear hb ho0; obtain ⟨Ao13, co13, rfl⟩ := sL HO592; obtain ⟨Ao14, co14, rfl⟩ := sL HO595) | ((with_reducible refine gate_callee (f := 19) rfl ?_); refine gL (some 17) Try.func19 #[.slice Ao13 t590.length co13, .slice Ao14 t593.length co14] ?_; (with_reducible refine (laws_equalInts.calls k _ _ t590 _ _ t593 true _ ?side1 ?side2 ?side3 ?side4 A10.out).mono ?_); (case side1 => exact qC (Kd.R_reads' HO592.out).2.2); (case side2 => exact (Kd.R_reads' HO592.out).2.1); (case side3 => exact qC (Kd.R_reads' HO595.out).2.2); (case side4 => exact (Kd.R_reads' HO595.out).2.1); rintro e w' ⟨rfl, ⟨nd, rfl⟩⟩; refine ⟨_, rfl, ?_⟩))
   go_meet
   case rel => exact ⟨_, (((t590.length : Int) == 0)), qE, H', ⟨by first | omega | exact Nat.le_refl _⟩, ⟨by (with_reducible repeat (first | apply Kd.Q_alloc | apply Kd.Q_drewN | apply Kd.Q_drew)); exact Kd.Q_mono HO589.out (fun _ hk => hk.1.2)⟩, ⟨by refine qR ?_; exact Kd.R_mono HO592.out (fun _ hk => hk.1.2)⟩, ⟨by exact qW HB.out⟩⟩
  replace c11 := Bool.eq_false_iff.mpr c11
  subst c11
  have H1 : (laws_FnCodeLengthsScale.j0 k t587 t590 true) = some r := by rw [if_neg (show ¬ (false = true) by decide)] at H; exact H
  clear H
  have H := H1
  clear H1
  have H' := aM H
  clear H
  go_wp2_with (first | ((with_reducible refine gate_callee (f := 24) rfl ?_); refine gL (some 16) Try.func24 #[.slice Ao7 t587.length co7] ?_; (with_reducible refine (spec_CodeLengths.calls k _ _ t587 t593 _ ?side1 ?side2 A9.out).mono ?_); (case side1 => exact qC (Kd.Q_reads' HO589.out).2.2); (case side2 => exact (Kd.Q_reads' HO589.out).2.1); rintro e w15 ⟨v594, rfl, ho0, hb⟩; refine ⟨_, rfl, ?_⟩; have HO595 := aM (Kd.R_lower (Kd.R_new' (Kd.R_new' ho0 (Kd.Q_lt (qQ HO589.out))) (Kd.R_lt (qR HO592.out))) (below_size (qW HB.out))); replace HO589 := aM (Kd.Q_elder' (qQ HO589.out) (Kd.R_base ho0) hb); replace HO592 := aM (Kd.R_elder' (qR HO592.out) (Kd.R_base ho0) hb); replace HB := bS HB hb; clear hb ho0; obtain ⟨Ao16, co16, rfl⟩ := sL HO592; obtain ⟨Ao17, co17, rfl⟩ := sL HO595) | ((with_reducible refine gate_callee (f := 19) rfl ?_); refine gL (some 17) Try.func19 #[.slice Ao16 t590.length co16, .slice Ao17 t593.length co17] ?_; (with_reducible refine (laws_equalInts.calls k _ _ t590 _ _ t593 false _ ?side1 ?side2 ?side3 ?side4 A10.out).mono ?_); (case side1 => exact qC (Kd.R_reads' HO592.out).2.2); (case side2 => exact (Kd.R_reads' HO592.out).2.1); (case side3 => exact qC (Kd.R_reads' HO595.out).2.2); (case side4 => exact (Kd.R_reads' HO595.out).2.1); rintro e w' ⟨rfl, ⟨nd, rfl⟩⟩; refine ⟨_, rfl, ?_⟩))
  go_meet
  case rel => exact ⟨_, (true), qE, H', ⟨by first | omega | exact Nat.le_refl _⟩, ⟨by (with_reducible repeat (first | apply Kd.Q_alloc | apply Kd.Q_drewN | apply Kd.Q_drew)); exact Kd.Q_mono HO589.out (fun _ hk => hk.1.2)⟩, ⟨by refine qR ?_; exact Kd.R_mono HO592.out (fun _ hk => hk.1.2)⟩, ⟨by exact qW HB.out⟩⟩
 case rest =>
  clear HC5
  try clear c2
  try clear c2b0
  try clear c2b1
  try clear c11
  obtain ⟨kq, x23_4, rfl, HA, HJ4, HO_3, HO_4, HB⟩ := hcut
  cases kq with
  | zero => exact absurd HA.out (by simp [laws_FnCodeLengthsScale.j0])
  | succ kj4 =>
   have H := HA.out
   clear HA
   simp only [laws_FnCodeLengthsScale.j0] at H
   by_cases c18 : x23_4 = true
   ·subst c18
    have H1 : ((spec_CodeLengths.f kj4 t587).bind fun t597 => ((laws_equalInts.f kj4 t590 t597).bind fun t600 => (some t600))) = some r := by rw [if_pos rfl] at H; exact H
    clear H
    have H := H1
    clear H1
    replace H := Option.bind_eq_some_iff.mp H
    obtain ⟨t597, A190, H⟩ := H
    replace H : ((laws_equalInts.f kj4 t590 t597).bind fun t600 => (some t600)) = some r := H
    have A19 := aM A190
    clear A190
    replace H := Option.bind_eq_some_iff.mp H
    obtain ⟨t600, A200, H⟩ := H
    replace H : (some t600) = some r := H
    have A20 := aM A200
    clear A200
    obtain rfl := Option.some.inj H
    go_wp2_with (first | ((with_reducible refine gate_callee (f := 24) rfl ?_); refine gL (some 26) Try.func24 #[.slice Ao7 t587.length co7] ?_; (with_reducible refine (spec_CodeLengths.calls kj4 _ _ t587 t597 _ ?side1 ?side2 A19.out).mono ?_); (case side1 => exact qC (Kd.Q_reads' HO_3.out).2.2); (case side2 => exact (Kd.Q_reads' HO_3.out).2.1); rintro e w21 ⟨v598, rfl, ho0, hb⟩; refine ⟨_, rfl, ?_⟩; have HO599 := aM (Kd.R_lower (Kd.R_new' (Kd.R_new' ho0 (Kd.Q_lt (qQ HO_3.out))) (Kd.R_lt (qR HO_4.out))) (below_size (qW HB.out))); replace HO_3 := aM (Kd.Q_elder' (qQ HO_3.out) (Kd.R_base ho0) hb); replace HO_4 := aM (Kd.R_elder' (qR HO_4.out) (Kd.R_base ho0) hb); replace HB := bS HB hb; clear hb ho0; obtain ⟨Ao22, co22, rfl⟩ := sL HO_4; obtain ⟨Ao23, co23, rfl⟩ := sL HO599) | ((with_reducible refine gate_callee (f := 19) rfl ?_); refine gL (some 27) Try.func19 #[.slice Ao22 t590.length co22, .slice Ao23 t597.length co23] ?_; (with_reducible refine (laws_equalInts.calls kj4 _ _ t590 _ _ t597 t600 _ ?side1 ?side2 ?side3 ?side4 A20.out).mono ?_); (case side1 => exact qC (Kd.R_reads' HO_4.out).2.2); (case side2 => exact (Kd.R_reads' HO_4.out).2.1); (case side3 => exact qC (Kd.R_reads' HO599.out).2.2); (case side4 => exact (Kd.R_reads' HO599.out).2.1); rintro e w' ⟨rfl, ⟨nd, rfl⟩⟩; refine ⟨_, rfl, ?_⟩))
    go_ret
    exact ⟨qX, by exact qW HB.out⟩
   replace c18 := Bool.eq_false_iff.mpr c18
   subst c18
   have H1 : (laws_FnCodeLengthsScale.l0 kj4 t587 t590 (([] : List Int)) 0) = some r := by rw [if_neg (show ¬ (false = true) by decide)] at H; exact H
   clear H
   have H := H1
   clear H1
   obtain ⟨y601, hy601⟩ : ∃ y_ : List Int, y_ = (([] : List Int)) := ⟨_, rfl⟩
   replace H : (laws_FnCodeLengthsScale.l0 kj4 t587 t590 y601 0) = some r := rY hy601 H
   have Ny601 := aM hy601
   clear hy601
   have H' := aM H
   clear H
   go_wp2_with (first | ((with_reducible refine gate_dst (N := 28) rfl ?_); (try (refine gate_guard (by rfl) ?_; dsimp only)); refine iL ([] : List Int) [] ?_; intro v602 w24 ho25 hb hg_ hnew_; clear hg_ hnew_; (first | rw [← Ny601.out] at ho25 | (simp only [Int.reduceToNat] at ho25; rw [← Ny601.out] at ho25)); have HO603 := aM (Kd.R_lower (Kd.R_new' (Kd.R_new' ho25 (Kd.Q_lt (qQ HO_3.out))) (Kd.R_lt (qR HO_4.out))) (below_size (qW HB.out))); replace HO_3 := aM (Kd.Q_elder' (qQ HO_3.out) (Kd.R_base ho25) hb); replace HO_4 := aM (Kd.R_elder' (qR HO_4.out) (Kd.R_base ho25) hb); replace HB := bS HB hb; clear hb ho25))
   go_loopg [5, 6] kj4 (fun kq v5 v6 w' => ∃ (x5_2 : List Int) (x6_2 : Int), v6 = .int .i64 x6_2 ∧ Aside0 (laws_FnCodeLengthsScale.l0 kq t587 t590 x5_2 x6_2 = some r) ∧ Aside0 (kq ≤ kj4) ∧ Aside0 (Kd.Q (Kd.int .i64) 3 w' w.heap.size (fun k_ => some k_ ≠ (v591 : Value).ownBlock ∧ some k_ ≠ (v5 : Value).ownBlock) (.slice Ao7 t587.length co7) t587) ∧ Aside0 (Kd.R (Kd.int .i64) 3 w' w.heap.size (fun k_ => some k_ ≠ ((.slice Ao7 t587.length co7) : Value).ownBlock ∧ some k_ ≠ (v5 : Value).ownBlock) v591 t590) ∧ Aside0 (Kd.R (Kd.int .i64) 3 w' w.heap.size (fun k_ => some k_ ≠ ((.slice Ao7 t587.length co7) : Value).ownBlock ∧ some k_ ≠ (v591 : Value).ownBlock) v5 x5_2) ∧ Aside0 (Below w.heap.size w w'))
   case atStart => exact ⟨(y601), (0), qE, H', ⟨Nat.le_refl _⟩, ⟨by (with_reducible repeat (first | apply Kd.Q_alloc | apply Kd.Q_drewN | apply Kd.Q_drew)); exact HO_3.out⟩, ⟨by refine qR ?_; exact HO_4.out⟩, ⟨by refine qR ?_; exact Kd.R_mono HO603.out (fun _ hk => ⟨hk.1.2, hk.2⟩)⟩, ⟨by exact qW HB.out⟩⟩
   case round =>
    clear H'
    try clear c2
    try clear c2b0
    try clear c2b1
    try clear c11
    try clear c18
    obtain ⟨x5_2, x6_2, rfl, HA, HK2, HO_3, HO_4, HO_5, HB⟩ := hrel
    cases gk with
    | zero => exact absurd HA.out (by simp [laws_FnCodeLengthsScale.l0])
    | succ k2 =>
     have H := HA.out
     clear HA
     simp only [laws_FnCodeLengthsScale.l0] at H
     by_cases c26 : x6_2 < (t587.length : Int)
     rotate_left
     ·rw [if_neg c26] at H
      have c26b0 : decide (x6_2 < (t587.length : Int)) = false := decide_eq_false c26
      clear c26
      replace H := Option.bind_eq_some_iff.mp H
      obtain ⟨t609, A310, H⟩ := H
      replace H : ((laws_equalInts.f k2 t609 t590).bind fun t612 => (some t612)) = some r := H
      have A31 := aM A310
      clear A310
      replace H := Option.bind_eq_some_iff.mp H
      obtain ⟨t612, A320, H⟩ := H
      replace H : (some t612) = some r := H
      have A32 := aM A320
      clear A320
      obtain rfl := Option.some.inj H
      obtain ⟨Ao33, co33, rfl⟩ := sL HO_5
      go_wp2_with (first | ((with_reducible refine gate_callee (f := 25) rfl ?_); refine gL (some 50) Try.func25 #[.slice Ao33 x5_2.length co33] ?_; (with_reducible refine (impl_CodeLengths.calls k2 _ _ x5_2 t609 _ ?side1 ?side2 A31.out).mono ?_); (case side1 => exact qC (Kd.R_reads' HO_5.out).2.2); (case side2 => exact (Kd.R_reads' HO_5.out).2.1); rintro e w34 ⟨v610, rfl, ho0, hb⟩; refine ⟨_, rfl, ?_⟩; have HO611 := aM (Kd.R_lower (Kd.R_new' (Kd.R_new' (Kd.R_new' ho0 (Kd.Q_lt (qQ HO_3.out))) (Kd.R_lt (qR HO_4.out))) (Kd.R_lt (qR HO_5.out))) (below_size (qW HB.out))); replace HO_3 := aM (Kd.Q_elder' (qQ HO_3.out) (Kd.R_base ho0) hb); replace HO_4 := aM (Kd.R_elder' (qR HO_4.out) (Kd.R_base ho0) hb); replace HO_5 := aM (Kd.R_elder' (qR HO_5.out) (Kd.R_base ho0) hb); replace HB := bS HB hb; clear hb ho0; obtain ⟨Ao35, co35, rfl⟩ := sL HO611; obtain ⟨Ao36, co36, rfl⟩ := sL HO_4) | ((with_reducible refine gate_callee (f := 19) rfl ?_); refine gL (some 52) Try.func19 #[.slice Ao35 t609.length co35, .slice Ao36 t590.length co36] ?_; (with_reducible refine (laws_equalInts.calls k2 _ _ t609 _ _ t590 t612 _ ?side1 ?side2 ?side3 ?side4 A32.out).mono ?_); (case side1 => exact qC (Kd.R_reads' HO611.out).2.2); (case side2 => exact (Kd.R_reads' HO611.out).2.1); (case side3 => exact qC (Kd.R_reads' HO_4.out).2.2); (case side4 => exact (Kd.R_reads' HO_4.out).2.1); rintro e w' ⟨rfl, ⟨nd, rfl⟩⟩; refine ⟨_, rfl, ?_⟩))
      go_ret
      exact ⟨qX, by exact qW HB.out⟩
     rw [if_pos c26] at H
     have c26b0 : decide (x6_2 < (t587.length : Int)) = true := decide_eq_true c26
     clear c26
     replace H := iD H
     obtain ⟨c27b0, H⟩ := H
     by_cases c28 : (wrap64 (2 * (rd t587 x6_2))) > 9999
     ·rw [if_pos c28] at H
      have c28b0 : decide (9999 < (wrap64 (2 * (rd t587 x6_2)))) = true := decide_eq_true c28
      clear c28
      obtain rfl := Option.some.inj H
      obtain ⟨ad604, e604, hx604_0⟩ := Kd.at_int (Kd.Q_reads' HO_3.out).2.2 x6_2 oD oD
      cases e604
      have p604 := eq_true (oD : 0 ≤ (x6_2 : Int))
      have q604 := eq_true (oD : x6_2 < (t587.length : Int))
      go_wp2
      go_ret
      exact ⟨qX, by exact qW HB.out⟩
     rw [if_neg c28] at H
     have c28b0 : decide (9999 < (wrap64 (2 * (rd t587 x6_2)))) = false := decide_eq_false c28
     clear c28
     replace H := iS H
     obtain ⟨c29, H⟩ := H
     have LMc29 := aM c29
     clear c29
     obtain ⟨y606, hy606⟩ : ∃ y_ : List Int, y_ = (x5_2 ++ [wrap64 (2 * (rd t587 x6_2))]) := ⟨_, rfl⟩
     replace H : (laws_FnCodeLengthsScale.l0 k2 t587 t590 y606 (wrap64 (x6_2 + 1))) = some r := rY hy606 H
     have Ny606 := aM hy606
     clear hy606
     have H' := aM H
     clear H
     obtain ⟨ad604, e604, hx604_0⟩ := Kd.at_int (Kd.Q_reads' HO_3.out).2.2 x6_2 oD oD
     cases e604
     have p604 := eq_true (oD : 0 ≤ (x6_2 : Int))
     have q604 := eq_true (oD : x6_2 < (t587.length : Int))
     obtain ⟨ad605, e605, hx605_0⟩ := Kd.at_int (Kd.Q_reads' HO_3.out).2.2 x6_2 oD oD
     obtain rfl : ad604 = ad605 := (by injection e605)
     have p605 := eq_true (oD : 0 ≤ (x6_2 : Int))
     have q605 := eq_true (oD : x6_2 < (t587.length : Int))
     go_wp2_with (first | ((with_reducible refine gate_builtin (b := .append) (xs := #[.tmp 41, .tmp 47]) rfl ?_); (try (refine gate_guard (by rfl) ?_; dsimp only)); at_builtin; refine Kd.R_append (Kd.int .i64) (w0 := w) w.heap.size rfl (.tmp 41) (.tmp 47) 22 3 (.int .i64 0) 8 rfl Try.underlying22 info3 rfl (by decide) (by omega) u5 x5_2 (wrap64 (2 * (rd t587 x6_2))) [.int .i64 (wrap64 (2 * (rd t587 x6_2)))] (fun k_ => some k_ ≠ (.slice (some ad604) t587.length co7 : Value).ownBlock ∧ some k_ ≠ (v591 : Value).ownBlock) (fun _ => False) rfl rfl ?aP (fun _ hk => hk.elim) ?aF ?aO ?aB ?aS ?aL ?_; (case aP => exact rfl); (case aB => exact (qW HB.out)); (case aF => exact (fun k_ hk => ⟨Kd.fresh' (Kd.Q_lt (qQ HO_3.out)) k_ hk, Kd.fresh' (Kd.R_lt (qR HO_4.out)) k_ hk⟩)); (case aO => exact (qR HO_5.out)); (case aS => exact (below_size (qW HB.out))); (case aL => have := LMc29.out; omega); intro v607 w30 ho hb hg hat; rw [← Ny606.out] at ho; replace HO_3 := aM (Kd.Q_after (ok := (fun k_ => some k_ ≠ (v591 : Value).ownBlock)) (qQ HO_3.out) hg hat); replace HO_4 := aM (Kd.R_after (ok := (fun k_ => some k_ ≠ (.slice (some ad604) t587.length co7 : Value).ownBlock)) (qR HO_4.out) hg hat); replace HB := aM (hb); have HO608 := aM (ho); clear HO_5; clear ho hb hg hat))
     go_roundg k2
     case measure => have := HJ4.out; have := HK2.out; omega
     case rel => exact ⟨(y606), (wrap64 (x6_2 + 1)), qE, H', ⟨by have := HJ4.out; have := HK2.out; omega⟩, ⟨by (with_reducible repeat (first | apply Kd.Q_alloc | apply Kd.Q_drewN | apply Kd.Q_drew)); exact HO_3.out⟩, ⟨by refine qR ?_; exact HO_4.out⟩, ⟨by refine qR ?_; exact HO608.out⟩, ⟨by exact qW HB.out⟩⟩
def laws_FnCodeLengthsScale.Pure : Prop := ∀ (l0 : List Int), l0.length ≤ maxLen → l0.length * 1 ≤ 140737488351232 → (∀ x ∈ l0, (Lit.int .u8 x).wf = true) → ∃ k, laws_FnCodeLengthsScale.f k l0 = some true
theorem laws_FnCodeLengthsScale.walk (P : laws_FnCodeLengthsScale.Pure) (a0 : Option Addr) (len0 cap0 : Nat) (z0 : List Int) (w : World) (w0 : (a0 = none ∧ len0 = 0 ∧ cap0 = 0 ∧ z0 = []) ∨ ∃ x, a0 = some x ∧ len0 ≤ cap0 ∧ cap0 ≤ maxLen ∧ z0.length = cap0 ∧ (∀ i, i < z0.length → w.cell? (x.add i) = some (.int .u8 (z0.getD i 0))) ∧ ∀ n ∈ z0, (Lit.int .u8 n).wf = true) (y0 : len0 * 1 ≤ 140737488351232) :
  Calls Try.prog 10 #[.slice a0 len0 cap0] w fun e w' => e = .returned (.bool true) ∧ Below w.heap.size w w' := by
 obtain ⟨l0, rfl, hr0, hm0, hw0, hc0⟩ := ReadsInt.ofRowC w0
 obtain ⟨k, h⟩ := P l0 hm0 y0 hw0
 refine (laws_FnCodeLengthsScale.calls k _ _ l0 true w (Kd.C_of_reads (d := (0 : Int)) (h1 := fun _ => rfl) hr0) hc0 h).mono ?_
 rintro e w' ⟨rfl, hd⟩
 exact ⟨rfl, hd⟩
end Go.Proofs.Ytcmkijmjafgkfaa.P
