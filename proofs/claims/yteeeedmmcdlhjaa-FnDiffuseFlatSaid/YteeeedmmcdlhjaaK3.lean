/- Contracts and row, written by a program of this place out of the translation: the call answers true and its argument reads as before, for every input; no condition. -/
import Derived.Test.YteeeedmmcdlhjaaK0
import Derived.Test.YteeeedmmcdlhjaaK1
import Derived.Test.YteeeedmmcdlhjaaK2
namespace Go.Proofs.Yteeeedmmcdlhjaa.P
open Go.RowKit Go.Proofs.YteeeedmmcdlhjaaW.PrintWords Go.Proofs.YteeeedmmcdlhjaaW.PrintLast Go.Proofs.YteeeedmmcdlhjaaW.PrintMore
attribute [local go_sem] max2_int min2_int max_two min_two max_three min_three max_four min_four   -- for this text's walks alone
set_option linter.unusedVariables false
set_option linter.unusedSimpArgs false
def dfPix (k : Nat) (a b lv : Int) (x y : Nat) (d : List Int) : Option (List Int) := (impl_levelOf.f k (rd d ((y : Int) * a + x)) lv).bind fun t => (impl_valueOf.f t lv).bind fun v => (impl_floorDiv.f (wrap64 (7 * wrap64 (rd d ((y : Int) * a + x) - v))) 16).bind fun p => (impl_floorDiv.f (wrap64 (3 * wrap64 (rd d ((y : Int) * a + x) - v))) 16).bind fun q => (impl_floorDiv.f (wrap64 (5 * wrap64 (rd d ((y : Int) * a + x) - v))) 16).bind fun s =>
 some (dfGive a b ((x : Int) + 1) ((y : Int) + 1) (wrap64 (wrap64 (wrap64 (wrap64 (rd d ((y : Int) * a + x) - v) - p) - q) - s)) (dfGive a b (x : Int) ((y : Int) + 1) s (dfGive a b ((x : Int) - 1) ((y : Int) + 1) q (dfGive a b ((x : Int) + 1) (y : Int) p (d.set ((y : Int) * a + x).toNat v)))))
theorem dfPix_mono (k : Nat) (a b lv : Int) (x y : Nat) (d : List Int) : LeO (dfPix k a b lv x y d) (dfPix (k + 1) a b lv x y d) := LeO.bind (impl_levelOf.mono _ _ _) (fun _ => LeO.refl _)
theorem dfPix_len {k : Nat} {a b lv : Int} {x y : Nat} {d e : List Int} (h : dfPix k a b lv x y d = some e) : e.length = d.length := by
 unfold dfPix at h
 obtain ⟨t, _, h⟩ := Option.bind_eq_some_iff.mp h
 obtain ⟨v, _, h⟩ := Option.bind_eq_some_iff.mp h
 obtain ⟨p, _, h⟩ := Option.bind_eq_some_iff.mp h
 obtain ⟨q, _, h⟩ := Option.bind_eq_some_iff.mp h
 obtain ⟨s, _, h⟩ := Option.bind_eq_some_iff.mp h
 cases h
 rw [dfGive_len, dfGive_len, dfGive_len, dfGive_len, List.length_set]
def dfRow (k : Nat) (a b lv : Int) (y : Nat) (d : List Int) : Nat → Option (List Int)
 | 0 => some d
 | x + 1 => (dfRow k a b lv y d x).bind (dfPix k a b lv x y)
def dfAll (k : Nat) (a b lv : Int) (d : List Int) : Nat → Option (List Int)
 | 0 => some d
 | y + 1 => (dfAll k a b lv d y).bind fun e => dfRow k a b lv y e a.toNat
theorem dfRow_mono (k : Nat) (a b lv : Int) (y : Nat) (d : List Int) : ∀ x, LeO (dfRow k a b lv y d x) (dfRow (k + 1) a b lv y d x)
 | 0 => LeO.refl _
 | x + 1 => LeO.bind (dfRow_mono k a b lv y d x) (fun e => dfPix_mono k a b lv x y e)
theorem dfAll_mono (k : Nat) (a b lv : Int) (d : List Int) : ∀ y, LeO (dfAll k a b lv d y) (dfAll (k + 1) a b lv d y)
 | 0 => LeO.refl _
 | y + 1 => LeO.bind (dfAll_mono k a b lv d y) (fun e => dfRow_mono k a b lv y e a.toNat)
theorem dfRow_le {k : Nat} {a b lv : Int} {y : Nat} {d : List Int} : ∀ (n x : Nat) (e : List Int), dfRow k a b lv y d n = some e → x ≤ n → ∃ f, dfRow k a b lv y d x = some f
 | 0, x, e, h, hx => ⟨e, by rw [show x = 0 by omega]; exact h⟩
 | n + 1, x, e, h, hx => by
  by_cases ex : x = n + 1
  ·exact ⟨e, by rw [ex]; exact h⟩
  ·rw [dfRow] at h
   obtain ⟨f, hf, _⟩ := Option.bind_eq_some_iff.mp h
   exact dfRow_le n x f hf (by omega)
theorem dfAll_le {k : Nat} {a b lv : Int} {d : List Int} : ∀ (n y : Nat) (e : List Int), dfAll k a b lv d n = some e → y ≤ n → ∃ f, dfAll k a b lv d y = some f
 | 0, y, e, h, hy => ⟨e, by rw [show y = 0 by omega]; exact h⟩
 | n + 1, y, e, h, hy => by
  by_cases ey : y = n + 1
  ·exact ⟨e, by rw [ey]; exact h⟩
  ·rw [dfAll] at h
   obtain ⟨f, hf, _⟩ := Option.bind_eq_some_iff.mp h
   exact dfAll_le n y f hf (by omega)
theorem dfRow_len {k : Nat} {a b lv : Int} {y : Nat} {d : List Int} : ∀ (n : Nat) (e : List Int), dfRow k a b lv y d n = some e → e.length = d.length
 | 0, e, h => by cases h; rfl
 | n + 1, e, h => by
  rw [dfRow] at h
  obtain ⟨f, hf, h⟩ := Option.bind_eq_some_iff.mp h
  rw [dfPix_len h, dfRow_len n f hf]
theorem dfAll_len {k : Nat} {a b lv : Int} {d : List Int} : ∀ (n : Nat) (e : List Int), dfAll k a b lv d n = some e → e.length = d.length
 | 0, e, h => by cases h; rfl
 | n + 1, e, h => by
  rw [dfAll] at h
  obtain ⟨f, hf, h⟩ := Option.bind_eq_some_iff.mp h
  rw [dfRow_len _ _ h, dfAll_len n f hf]
def impl_DiffuseImage.f (k : Nat) (a0_0 : Int) (a0_1 : Int) (a0_2 : Int) (l0_3 : List Int) (a1 : Int) : Option (Int × Int × Int × List Int × Bool) := (impl_isImage.f a0_0 a0_1 a0_2 l0_3).bind fun t0 => (if t0 = true then (if a0_2 = 1 then ((impl_isLevels.f a1).bind fun t2 => (if t2 = true then ((dfAll k a0_0 a0_1 a1 l0_3 a0_1.toNat).bind fun d => some (a0_0, a0_1, a0_2, d, true)) else (some (0, 0, 0, ([] : List Int), false)))) else (some (0, 0, 0, ([] : List Int), false))) else (some (0, 0, 0, ([] : List Int), false)))
theorem impl_DiffuseImage.mono : ∀ a0 a1 a2 a3 a4 k, LeO (impl_DiffuseImage.f k a0 a1 a2 a3 a4) (impl_DiffuseImage.f (k + 1) a0 a1 a2 a3 a4) := fun a0 a1 a2 a3 a4 k =>
 LeO.bind (LeO.refl _) (fun _ => LeO.ite (LeO.ite (LeO.bind (LeO.refl _) (fun _ => LeO.ite (LeO.bind (dfAll_mono k _ _ _ _ _) (fun _ => LeO.refl _)) (LeO.refl _))) (LeO.refl _)) (LeO.refl _))
set_option maxHeartbeats 8000000 in
set_option maxRecDepth 100000 in
theorem impl_DiffuseImage.calls (k : Nat) (a0_0 : Int) (a0_1 : Int) (a0_2 : Int) (A0_3 : Option Addr) (c0_3 : Nat) (l0_3 : List Int) (a1 : Int) (r1 : Int) (r2 : Int) (r3 : Int) (r4 : List Int) (r5 : Bool) (w : World) (hr0_3 : Kd.C (Kd.int .i64) w A0_3 l0_3.length l0_3) (hc0_3 : l0_3.length ≤ c0_3) (h : impl_DiffuseImage.f k a0_0 a0_1 a0_2 l0_3 a1 = some (r1, r2, r3, r4, r5)) :
  Calls Try.prog 28 #[.agg #[.int .i64 a0_0, .int .i64 a0_1, .int .i64 a0_2, .slice A0_3 l0_3.length c0_3], .int .i64 a1] w fun e w' => ∃ v3_ : Value, e = .returned (.tuple #[.agg #[.int .i64 r1, .int .i64 r2, .int .i64 r3, v3_], .bool r5]) ∧ Kd.R (Kd.int .i64) 3 w' w.heap.size (fun _ => True) v3_ r4 ∧ Below w.heap.size w w' := by
 have hu26 := Try.underlying27
 have HR0 := aM hr0_3
 have HC0 := aM hc0_3
 clear hr0_3 hc0_3
 have HB := aM (Below.refl w.heap.size w)
 unfold impl_DiffuseImage.f at h
 obtain ⟨t0, q0, H⟩ := Option.bind_eq_some_iff.mp h
 clear h
 have A0 := aM q0
 clear q0
 cases t0 with
 | false =>
  rw [if_neg (show ¬ (false = true) by decide)] at H
  simp only [Option.some.injEq, Prod.mk.injEq] at H
  obtain ⟨rfl, rfl, rfl, rfl, rfl⟩ := H
  go_enter Try.func28, Try.ntmps28
  go_wp2_with (first | ((with_reducible refine gate_dst (N := 2) rfl ?_); (try (refine gate_guard (by rfl) ?_; dsimp only)); refine bxE (N := 2) (cs := #[.int .i64 a0_0, .int .i64 a0_1, .int .i64 a0_2, .slice A0_3 l0_3.length c0_3]) (t := 27) ?_; intro gm hg w48 hbox hb; have n49 := bS HB hb; have n50 := aM hbox; have n51 := aM ((by rw [hg]; exact (below_size (qW HB.out))) : w.heap.size ≤ gm); clear HB; have HB := n49; have BKgm := n50; have GEgm := n51; clear n49 n50 n51; clear hb hbox hg; have hz52 : w48.cell? ⟨gm, 0, none⟩ = some (.int .i64 a0_0) := (blk_cell BKgm.out 0).trans rfl; have hz53 : w48.cell? ⟨gm, 1, none⟩ = some (.int .i64 a0_1) := (blk_cell BKgm.out 1).trans rfl; have hz54 : w48.cell? ⟨gm, 2, none⟩ = some (.int .i64 a0_2) := (blk_cell BKgm.out 2).trans rfl; have hz55 : w48.cell? ⟨gm, 3, none⟩ = some (.slice A0_3 l0_3.length c0_3) := (blk_cell BKgm.out 3).trans rfl; have hf56 := blk_frozen BKgm.out 0; have hf57 := blk_frozen BKgm.out 1; have hf58 := blk_frozen BKgm.out 2; have hf59 := blk_frozen BKgm.out 3) | ((with_reducible refine gate_dst (N := 4) rfl ?_); (try (refine gate_guard (by rfl) ?_; dsimp only)); refine bxE (N := 4) (cs := #[.int .i64 0, .int .i64 0, .int .i64 0, .slice none 0 0]) (t := 27) ?_; intro gr hg w60 hbox hb; have n61 := bB BKgm hb; have n62 := bS HB hb; have n63 := aM hbox; have n64 := aM ((by rw [hg]; exact (below_size (qW HB.out))) : w.heap.size ≤ gr); have n65 := aM ((by rw [hg]; exact Nat.ne_of_lt (blk_lt (g := gm) (o := .cells #[.int .i64 a0_0, .int .i64 a0_1, .int .i64 a0_2, .slice A0_3 l0_3.length c0_3] 27 (0, 0)) (qB BKgm.out))) : gm ≠ gr); have n66 := aM ((by rw [hg]; exact Nat.ne_of_gt (blk_lt (g := gm) (o := .cells #[.int .i64 a0_0, .int .i64 a0_1, .int .i64 a0_2, .slice A0_3 l0_3.length c0_3] 27 (0, 0)) (qB BKgm.out))) : gr ≠ gm); clear HB BKgm; have BKgm := n61; have HB := n62; have BKgr := n63; have GEgr := n64; have NBgm_gr := n65; have NBgr_gm := n66; clear n61 n62 n63 n64 n65 n66; clear hb hbox hg; have hz67 : w60.cell? ⟨gm, 0, none⟩ = some (.int .i64 a0_0) := (blk_cell BKgm.out 0).trans rfl; have hz68 : w60.cell? ⟨gm, 1, none⟩ = some (.int .i64 a0_1) := (blk_cell BKgm.out 1).trans rfl; have hz69 : w60.cell? ⟨gm, 2, none⟩ = some (.int .i64 a0_2) := (blk_cell BKgm.out 2).trans rfl; have hz70 : w60.cell? ⟨gm, 3, none⟩ = some (.slice A0_3 l0_3.length c0_3) := (blk_cell BKgm.out 3).trans rfl; have hf71 := blk_frozen BKgm.out 0; have hf72 := blk_frozen BKgm.out 1; have hf73 := blk_frozen BKgm.out 2; have hf74 := blk_frozen BKgm.out 3; have hz75 : w60.cell? ⟨gr, 0, none⟩ = some (.int .i64 0) := (blk_cell BKgr.out 0).trans rfl; have hz76 : w60.cell? ⟨gr, 1, none⟩ = some (.int .i64 0) := (blk_cell BKgr.out 1).trans rfl; have hz77 : w60.cell? ⟨gr, 2, none⟩ = some (.int .i64 0) := (blk_cell BKgr.out 2).trans rfl; have hz78 : w60.cell? ⟨gr, 3, none⟩ = some (.slice none 0 0) := (blk_cell BKgr.out 3).trans rfl; have hf79 := blk_frozen BKgr.out 0; have hf80 := blk_frozen BKgr.out 1; have hf81 := blk_frozen BKgr.out 2; have hf82 := blk_frozen BKgr.out 3) | (go_at_call 47; (with_reducible refine (impl_isImage.calls a0_0 a0_1 a0_2 _ _ l0_3 false _ ?side1 ?side2 A0.out).mono ?_); (case side1 => exact (Kd.C_below HR0.out (qW HB.out))); (case side2 => exact HC0.out); rintro e w83 ⟨rfl, hb⟩; have n84 := bB BKgm hb; have n85 := bB BKgr hb; have n86 := bS HB hb; clear HB BKgm BKgr; have BKgm := n84; have BKgr := n85; have HB := n86; clear n84 n85 n86 hb; have hz87 : w83.cell? ⟨gm, 0, none⟩ = some (.int .i64 a0_0) := (blk_cell BKgm.out 0).trans rfl; have hz88 : w83.cell? ⟨gm, 1, none⟩ = some (.int .i64 a0_1) := (blk_cell BKgm.out 1).trans rfl; have hz89 : w83.cell? ⟨gm, 2, none⟩ = some (.int .i64 a0_2) := (blk_cell BKgm.out 2).trans rfl; have hz90 : w83.cell? ⟨gm, 3, none⟩ = some (.slice A0_3 l0_3.length c0_3) := (blk_cell BKgm.out 3).trans rfl; have hf91 := blk_frozen BKgm.out 0; have hf92 := blk_frozen BKgm.out 1; have hf93 := blk_frozen BKgm.out 2; have hf94 := blk_frozen BKgm.out 3; have hz95 : w83.cell? ⟨gr, 0, none⟩ = some (.int .i64 0) := (blk_cell BKgr.out 0).trans rfl; have hz96 : w83.cell? ⟨gr, 1, none⟩ = some (.int .i64 0) := (blk_cell BKgr.out 1).trans rfl; have hz97 : w83.cell? ⟨gr, 2, none⟩ = some (.int .i64 0) := (blk_cell BKgr.out 2).trans rfl; have hz98 : w83.cell? ⟨gr, 3, none⟩ = some (.slice none 0 0) := (blk_cell BKgr.out 3).trans rfl; have hf99 := blk_frozen BKgr.out 0; have hf100 := blk_frozen BKgr.out 1; have hf101 := blk_frozen BKgr.out 2; have hf102 := blk_frozen BKgr.out 3))
  refine bodyPost_ret (results_ct rfl _ _ gr 27 #[.int .i64 0, .int .i64 0, .int .i64 0, .slice none 0 0] (0, 0) _ rfl (by exact bP BKgr.out) Try.underlying27 rfl (by kernel_rfl)) rfl ?_
  exact ⟨_, by first | rfl | (simp; done), Kd.R_nil _ _ _ _ _, by exact qW HB.out⟩
 | true =>
  rw [if_pos rfl] at H
  have V := aM (isImage_true A0.out)
  by_cases k1 : a0_2 = 1
  case neg =>
   rw [if_neg k1] at H
   have k1a : (a0_2 == 1) = false := beq_eq_false_iff_ne.mpr k1
   have k1b : (a0_2 != 1) = true := bne_iff_ne.mpr k1
   clear k1
   simp only [Option.some.injEq, Prod.mk.injEq] at H
   obtain ⟨rfl, rfl, rfl, rfl, rfl⟩ := H
   go_enter Try.func28, Try.ntmps28
   go_wp2_with (first | ((with_reducible refine gate_dst (N := 2) rfl ?_); (try (refine gate_guard (by rfl) ?_; dsimp only)); refine bxE (N := 2) (cs := #[.int .i64 a0_0, .int .i64 a0_1, .int .i64 a0_2, .slice A0_3 l0_3.length c0_3]) (t := 27) ?_; intro gm hg w103 hbox hb; have n104 := bS HB hb; have n105 := aM hbox; have n106 := aM ((by rw [hg]; exact (below_size (qW HB.out))) : w.heap.size ≤ gm); clear HB; have HB := n104; have BKgm := n105; have GEgm := n106; clear n104 n105 n106; clear hb hbox hg; have hz107 : w103.cell? ⟨gm, 0, none⟩ = some (.int .i64 a0_0) := (blk_cell BKgm.out 0).trans rfl; have hz108 : w103.cell? ⟨gm, 1, none⟩ = some (.int .i64 a0_1) := (blk_cell BKgm.out 1).trans rfl; have hz109 : w103.cell? ⟨gm, 2, none⟩ = some (.int .i64 a0_2) := (blk_cell BKgm.out 2).trans rfl; have hz110 : w103.cell? ⟨gm, 3, none⟩ = some (.slice A0_3 l0_3.length c0_3) := (blk_cell BKgm.out 3).trans rfl; have hf111 := blk_frozen BKgm.out 0; have hf112 := blk_frozen BKgm.out 1; have hf113 := blk_frozen BKgm.out 2; have hf114 := blk_frozen BKgm.out 3) | ((with_reducible refine gate_dst (N := 4) rfl ?_); (try (refine gate_guard (by rfl) ?_; dsimp only)); refine bxE (N := 4) (cs := #[.int .i64 0, .int .i64 0, .int .i64 0, .slice none 0 0]) (t := 27) ?_; intro gr hg w115 hbox hb; have n116 := bB BKgm hb; have n117 := bS HB hb; have n118 := aM hbox; have n119 := aM ((by rw [hg]; exact (below_size (qW HB.out))) : w.heap.size ≤ gr); have n120 := aM ((by rw [hg]; exact Nat.ne_of_lt (blk_lt (g := gm) (o := .cells #[.int .i64 a0_0, .int .i64 a0_1, .int .i64 a0_2, .slice A0_3 l0_3.length c0_3] 27 (0, 0)) (qB BKgm.out))) : gm ≠ gr); have n121 := aM ((by rw [hg]; exact Nat.ne_of_gt (blk_lt (g := gm) (o := .cells #[.int .i64 a0_0, .int .i64 a0_1, .int .i64 a0_2, .slice A0_3 l0_3.length c0_3] 27 (0, 0)) (qB BKgm.out))) : gr ≠ gm); clear HB BKgm; have BKgm := n116; have HB := n117; have BKgr := n118; have GEgr := n119; have NBgm_gr := n120; have NBgr_gm := n121; clear n116 n117 n118 n119 n120 n121; clear hb hbox hg; have hz122 : w115.cell? ⟨gm, 0, none⟩ = some (.int .i64 a0_0) := (blk_cell BKgm.out 0).trans rfl; have hz123 : w115.cell? ⟨gm, 1, none⟩ = some (.int .i64 a0_1) := (blk_cell BKgm.out 1).trans rfl; have hz124 : w115.cell? ⟨gm, 2, none⟩ = some (.int .i64 a0_2) := (blk_cell BKgm.out 2).trans rfl; have hz125 : w115.cell? ⟨gm, 3, none⟩ = some (.slice A0_3 l0_3.length c0_3) := (blk_cell BKgm.out 3).trans rfl; have hf126 := blk_frozen BKgm.out 0; have hf127 := blk_frozen BKgm.out 1; have hf128 := blk_frozen BKgm.out 2; have hf129 := blk_frozen BKgm.out 3; have hz130 : w115.cell? ⟨gr, 0, none⟩ = some (.int .i64 0) := (blk_cell BKgr.out 0).trans rfl; have hz131 : w115.cell? ⟨gr, 1, none⟩ = some (.int .i64 0) := (blk_cell BKgr.out 1).trans rfl; have hz132 : w115.cell? ⟨gr, 2, none⟩ = some (.int .i64 0) := (blk_cell BKgr.out 2).trans rfl; have hz133 : w115.cell? ⟨gr, 3, none⟩ = some (.slice none 0 0) := (blk_cell BKgr.out 3).trans rfl; have hf134 := blk_frozen BKgr.out 0; have hf135 := blk_frozen BKgr.out 1; have hf136 := blk_frozen BKgr.out 2; have hf137 := blk_frozen BKgr.out 3) | (go_at_call 47; (with_reducible refine (impl_isImage.calls a0_0 a0_1 a0_2 _ _ l0_3 true _ ?side1 ?side2 A0.out).mono ?_); (case side1 => exact (Kd.C_below HR0.out (qW HB.out))); (case side2 => exact HC0.out); rintro e w138 ⟨rfl, hb⟩; have n139 := bB BKgm hb; have n140 := bB BKgr hb; have n141 := bS HB hb; clear HB BKgm BKgr; have BKgm := n139; have BKgr := n140; have HB := n141; clear n139 n140 n141 hb; have hz142 : w138.cell? ⟨gm, 0, none⟩ = some (.int .i64 a0_0) := (blk_cell BKgm.out 0).trans rfl; have hz143 : w138.cell? ⟨gm, 1, none⟩ = some (.int .i64 a0_1) := (blk_cell BKgm.out 1).trans rfl; have hz144 : w138.cell? ⟨gm, 2, none⟩ = some (.int .i64 a0_2) := (blk_cell BKgm.out 2).trans rfl; have hz145 : w138.cell? ⟨gm, 3, none⟩ = some (.slice A0_3 l0_3.length c0_3) := (blk_cell BKgm.out 3).trans rfl; have hf146 := blk_frozen BKgm.out 0; have hf147 := blk_frozen BKgm.out 1; have hf148 := blk_frozen BKgm.out 2; have hf149 := blk_frozen BKgm.out 3; have hz150 : w138.cell? ⟨gr, 0, none⟩ = some (.int .i64 0) := (blk_cell BKgr.out 0).trans rfl; have hz151 : w138.cell? ⟨gr, 1, none⟩ = some (.int .i64 0) := (blk_cell BKgr.out 1).trans rfl; have hz152 : w138.cell? ⟨gr, 2, none⟩ = some (.int .i64 0) := (blk_cell BKgr.out 2).trans rfl; have hz153 : w138.cell? ⟨gr, 3, none⟩ = some (.slice none 0 0) := (blk_cell BKgr.out 3).trans rfl; have hf154 := blk_frozen BKgr.out 0; have hf155 := blk_frozen BKgr.out 1; have hf156 := blk_frozen BKgr.out 2; have hf157 := blk_frozen BKgr.out 3))
   refine bodyPost_ret (results_ct rfl _ _ gr 27 #[.int .i64 0, .int .i64 0, .int .i64 0, .slice none 0 0] (0, 0) _ rfl (by exact bP BKgr.out) Try.underlying27 rfl (by kernel_rfl)) rfl ?_
   exact ⟨_, by first | rfl | (simp; done), Kd.R_nil _ _ _ _ _, by exact qW HB.out⟩
  rw [if_pos k1] at H
  subst k1
  obtain ⟨t2, q2, H⟩ := Option.bind_eq_some_iff.mp H
  have A2 := aM q2
  clear q2
  cases t2 with
  | false =>
   rw [if_neg (show ¬ (false = true) by decide)] at H
   simp only [Option.some.injEq, Prod.mk.injEq] at H
   obtain ⟨rfl, rfl, rfl, rfl, rfl⟩ := H
   go_enter Try.func28, Try.ntmps28
   go_wp2_with (first | ((with_reducible refine gate_dst (N := 2) rfl ?_); (try (refine gate_guard (by rfl) ?_; dsimp only)); refine bxE (N := 2) (cs := #[.int .i64 a0_0, .int .i64 a0_1, .int .i64 1, .slice A0_3 l0_3.length c0_3]) (t := 27) ?_; intro gm hg w158 hbox hb; have n159 := bS HB hb; have n160 := aM hbox; have n161 := aM ((by rw [hg]; exact (below_size (qW HB.out))) : w.heap.size ≤ gm); clear HB; have HB := n159; have BKgm := n160; have GEgm := n161; clear n159 n160 n161; clear hb hbox hg; have hz162 : w158.cell? ⟨gm, 0, none⟩ = some (.int .i64 a0_0) := (blk_cell BKgm.out 0).trans rfl; have hz163 : w158.cell? ⟨gm, 1, none⟩ = some (.int .i64 a0_1) := (blk_cell BKgm.out 1).trans rfl; have hz164 : w158.cell? ⟨gm, 2, none⟩ = some (.int .i64 1) := (blk_cell BKgm.out 2).trans rfl; have hz165 : w158.cell? ⟨gm, 3, none⟩ = some (.slice A0_3 l0_3.length c0_3) := (blk_cell BKgm.out 3).trans rfl; have hf166 := blk_frozen BKgm.out 0; have hf167 := blk_frozen BKgm.out 1; have hf168 := blk_frozen BKgm.out 2; have hf169 := blk_frozen BKgm.out 3) | ((with_reducible refine gate_dst (N := 4) rfl ?_); (try (refine gate_guard (by rfl) ?_; dsimp only)); refine bxE (N := 4) (cs := #[.int .i64 0, .int .i64 0, .int .i64 0, .slice none 0 0]) (t := 27) ?_; intro gr hg w170 hbox hb; have n171 := bB BKgm hb; have n172 := bS HB hb; have n173 := aM hbox; have n174 := aM ((by rw [hg]; exact (below_size (qW HB.out))) : w.heap.size ≤ gr); have n175 := aM ((by rw [hg]; exact Nat.ne_of_lt (blk_lt (g := gm) (o := .cells #[.int .i64 a0_0, .int .i64 a0_1, .int .i64 1, .slice A0_3 l0_3.length c0_3] 27 (0, 0)) (qB BKgm.out))) : gm ≠ gr); have n176 := aM ((by rw [hg]; exact Nat.ne_of_gt (blk_lt (g := gm) (o := .cells #[.int .i64 a0_0, .int .i64 a0_1, .int .i64 1, .slice A0_3 l0_3.length c0_3] 27 (0, 0)) (qB BKgm.out))) : gr ≠ gm); clear HB BKgm; have BKgm := n171; have HB := n172; have BKgr := n173; have GEgr := n174; have NBgm_gr := n175; have NBgr_gm := n176; clear n171 n172 n173 n174 n175 n176; clear hb hbox hg; have hz177 : w170.cell? ⟨gm, 0, none⟩ = some (.int .i64 a0_0) := (blk_cell BKgm.out 0).trans rfl; have hz178 : w170.cell? ⟨gm, 1, none⟩ = some (.int .i64 a0_1) := (blk_cell BKgm.out 1).trans rfl; have hz179 : w170.cell? ⟨gm, 2, none⟩ = some (.int .i64 1) := (blk_cell BKgm.out 2).trans rfl; have hz180 : w170.cell? ⟨gm, 3, none⟩ = some (.slice A0_3 l0_3.length c0_3) := (blk_cell BKgm.out 3).trans rfl; have hf181 := blk_frozen BKgm.out 0; have hf182 := blk_frozen BKgm.out 1; have hf183 := blk_frozen BKgm.out 2; have hf184 := blk_frozen BKgm.out 3; have hz185 : w170.cell? ⟨gr, 0, none⟩ = some (.int .i64 0) := (blk_cell BKgr.out 0).trans rfl; have hz186 : w170.cell? ⟨gr, 1, none⟩ = some (.int .i64 0) := (blk_cell BKgr.out 1).trans rfl; have hz187 : w170.cell? ⟨gr, 2, none⟩ = some (.int .i64 0) := (blk_cell BKgr.out 2).trans rfl; have hz188 : w170.cell? ⟨gr, 3, none⟩ = some (.slice none 0 0) := (blk_cell BKgr.out 3).trans rfl; have hf189 := blk_frozen BKgr.out 0; have hf190 := blk_frozen BKgr.out 1; have hf191 := blk_frozen BKgr.out 2; have hf192 := blk_frozen BKgr.out 3) | (go_at_call 47; (with_reducible refine (impl_isImage.calls a0_0 a0_1 1 _ _ l0_3 true _ ?side1 ?side2 A0.out).mono ?_); (case side1 => exact (Kd.C_below HR0.out (qW HB.out))); (case side2 => exact HC0.out); rintro e w193 ⟨rfl, hb⟩; have n194 := bB BKgm hb; have n195 := bB BKgr hb; have n196 := bS HB hb; clear HB BKgm BKgr; have BKgm := n194; have BKgr := n195; have HB := n196; clear n194 n195 n196 hb; have hz197 : w193.cell? ⟨gm, 0, none⟩ = some (.int .i64 a0_0) := (blk_cell BKgm.out 0).trans rfl; have hz198 : w193.cell? ⟨gm, 1, none⟩ = some (.int .i64 a0_1) := (blk_cell BKgm.out 1).trans rfl; have hz199 : w193.cell? ⟨gm, 2, none⟩ = some (.int .i64 1) := (blk_cell BKgm.out 2).trans rfl; have hz200 : w193.cell? ⟨gm, 3, none⟩ = some (.slice A0_3 l0_3.length c0_3) := (blk_cell BKgm.out 3).trans rfl; have hf201 := blk_frozen BKgm.out 0; have hf202 := blk_frozen BKgm.out 1; have hf203 := blk_frozen BKgm.out 2; have hf204 := blk_frozen BKgm.out 3; have hz205 : w193.cell? ⟨gr, 0, none⟩ = some (.int .i64 0) := (blk_cell BKgr.out 0).trans rfl; have hz206 : w193.cell? ⟨gr, 1, none⟩ = some (.int .i64 0) := (blk_cell BKgr.out 1).trans rfl; have hz207 : w193.cell? ⟨gr, 2, none⟩ = some (.int .i64 0) := (blk_cell BKgr.out 2).trans rfl; have hz208 : w193.cell? ⟨gr, 3, none⟩ = some (.slice none 0 0) := (blk_cell BKgr.out 3).trans rfl; have hf209 := blk_frozen BKgr.out 0; have hf210 := blk_frozen BKgr.out 1; have hf211 := blk_frozen BKgr.out 2; have hf212 := blk_frozen BKgr.out 3) | (go_at_call 62; (with_reducible refine (impl_isLevels.calls a1 false _ A2.out).mono ?_); rintro e w' ⟨rfl, ⟨nd, rfl⟩⟩))
   refine bodyPost_ret (results_ct rfl _ _ gr 27 #[.int .i64 0, .int .i64 0, .int .i64 0, .slice none 0 0] (0, 0) _ rfl (by exact bP BKgr.out) Try.underlying27 rfl (by kernel_rfl)) rfl ?_
   exact ⟨_, by first | rfl | (simp; done), Kd.R_nil _ _ _ _ _, by exact qW HB.out⟩
  | true =>
   rw [if_pos rfl] at H
   obtain ⟨D, hD, H⟩ := Option.bind_eq_some_iff.mp H
   simp only [Option.some.injEq, Prod.mk.injEq] at H
   obtain ⟨rfl, rfl, rfl, rfl, rfl⟩ := H
   have b_ := V.out
   obtain ⟨v0, v1, _, hlen, _⟩ := b_
   obtain ⟨a, rfl⟩ := Int.eq_ofNat_of_zero_le (show 0 ≤ a0_0 by omega)
   obtain ⟨b, rfl⟩ := Int.eq_ofNat_of_zero_le (show 0 ≤ a0_1 by omega)
   rw [Int.toNat_natCast] at hD
   have HD := aM hD
   have HLN := aM (show (l0_3.length : Int) = (b : Int) * (a : Int) by rw [hlen, Int.mul_one, Int.mul_comm])
   have HLP := aM (show 0 < l0_3.length ∧ l0_3.length < 17592186044416 by
    have h1 : (1 : Int) * 1 ≤ (b : Int) * (a : Int) := Int.mul_le_mul (by omega) (by omega) (by omega) (by omega)
    have h2 : (b : Int) * (a : Int) ≤ 16 * 16 := Int.mul_le_mul (by omega) (by omega) (by omega) (by omega)
    have := HLN.out
    omega)
   have HV0 := aM v0
   have HV1 := aM v1
   obtain ⟨v0a, v0b⟩ := v0
   obtain ⟨v1a, v1b⟩ := v1
   have HCP : Aside0 (impl_copyImage.f (a : Int) (b : Int) 1 l0_3 = some ((a : Int), (b : Int), 1, l0_3)) := ⟨by unfold impl_copyImage.f; rw [Option.bind_some, if_pos (by have := HLP.out.2; simpa using this)]; rfl⟩
   clear hlen hD
   go_enter Try.func28, Try.ntmps28
   go_wp2_with (first | ((with_reducible refine gate_dst (N := 2) rfl ?_); (try (refine gate_guard (by rfl) ?_; dsimp only)); refine bxE (N := 2) (cs := #[.int .i64 (a : Int), .int .i64 (b : Int), .int .i64 1, .slice A0_3 l0_3.length c0_3]) (t := 27) ?_; intro gm hg w213 hbox hb; have n214 := bS HB hb; have n215 := aM hbox; have n216 := aM ((by rw [hg]; exact (below_size (qW HB.out))) : w.heap.size ≤ gm); clear HB; have HB := n214; have BKgm := n215; have GEgm := n216; clear n214 n215 n216; clear hb hbox hg; have hz217 : w213.cell? ⟨gm, 0, none⟩ = some (.int .i64 (a : Int)) := (blk_cell BKgm.out 0).trans rfl; have hz218 : w213.cell? ⟨gm, 1, none⟩ = some (.int .i64 (b : Int)) := (blk_cell BKgm.out 1).trans rfl; have hz219 : w213.cell? ⟨gm, 2, none⟩ = some (.int .i64 1) := (blk_cell BKgm.out 2).trans rfl; have hz220 : w213.cell? ⟨gm, 3, none⟩ = some (.slice A0_3 l0_3.length c0_3) := (blk_cell BKgm.out 3).trans rfl; have hf221 := blk_frozen BKgm.out 0; have hf222 := blk_frozen BKgm.out 1; have hf223 := blk_frozen BKgm.out 2; have hf224 := blk_frozen BKgm.out 3) | ((with_reducible refine gate_dst (N := 4) rfl ?_); (try (refine gate_guard (by rfl) ?_; dsimp only)); refine bxE (N := 4) (cs := #[.int .i64 0, .int .i64 0, .int .i64 0, .slice none 0 0]) (t := 27) ?_; intro gr hg w225 hbox hb; have n226 := bB BKgm hb; have n227 := bS HB hb; have n228 := aM hbox; have n229 := aM ((by rw [hg]; exact (below_size (qW HB.out))) : w.heap.size ≤ gr); have n230 := aM ((by rw [hg]; exact Nat.ne_of_lt (blk_lt (g := gm) (o := .cells #[.int .i64 (a : Int), .int .i64 (b : Int), .int .i64 1, .slice A0_3 l0_3.length c0_3] 27 (0, 0)) (qB BKgm.out))) : gm ≠ gr); have n231 := aM ((by rw [hg]; exact Nat.ne_of_gt (blk_lt (g := gm) (o := .cells #[.int .i64 (a : Int), .int .i64 (b : Int), .int .i64 1, .slice A0_3 l0_3.length c0_3] 27 (0, 0)) (qB BKgm.out))) : gr ≠ gm); clear HB BKgm; have BKgm := n226; have HB := n227; have BKgr := n228; have GEgr := n229; have NBgm_gr := n230; have NBgr_gm := n231; clear n226 n227 n228 n229 n230 n231; clear hb hbox hg; have hz232 : w225.cell? ⟨gm, 0, none⟩ = some (.int .i64 (a : Int)) := (blk_cell BKgm.out 0).trans rfl; have hz233 : w225.cell? ⟨gm, 1, none⟩ = some (.int .i64 (b : Int)) := (blk_cell BKgm.out 1).trans rfl; have hz234 : w225.cell? ⟨gm, 2, none⟩ = some (.int .i64 1) := (blk_cell BKgm.out 2).trans rfl; have hz235 : w225.cell? ⟨gm, 3, none⟩ = some (.slice A0_3 l0_3.length c0_3) := (blk_cell BKgm.out 3).trans rfl; have hf236 := blk_frozen BKgm.out 0; have hf237 := blk_frozen BKgm.out 1; have hf238 := blk_frozen BKgm.out 2; have hf239 := blk_frozen BKgm.out 3; have hz240 : w225.cell? ⟨gr, 0, none⟩ = some (.int .i64 0) := (blk_cell BKgr.out 0).trans rfl; have hz241 : w225.cell? ⟨gr, 1, none⟩ = some (.int .i64 0) := (blk_cell BKgr.out 1).trans rfl; have hz242 : w225.cell? ⟨gr, 2, none⟩ = some (.int .i64 0) := (blk_cell BKgr.out 2).trans rfl; have hz243 : w225.cell? ⟨gr, 3, none⟩ = some (.slice none 0 0) := (blk_cell BKgr.out 3).trans rfl; have hf244 := blk_frozen BKgr.out 0; have hf245 := blk_frozen BKgr.out 1; have hf246 := blk_frozen BKgr.out 2; have hf247 := blk_frozen BKgr.out 3) | (go_at_call 47; (with_reducible refine (impl_isImage.calls (a : Int) (b : Int) 1 _ _ l0_3 true _ ?side1 ?side2 A0.out).mono ?_); (case side1 => exact (Kd.C_below HR0.out (qW HB.out))); (case side2 => exact HC0.out); rintro e w248 ⟨rfl, hb⟩; have n249 := bB BKgm hb; have n250 := bB BKgr hb; have n251 := bS HB hb; clear HB BKgm BKgr; have BKgm := n249; have BKgr := n250; have HB := n251; clear n249 n250 n251 hb; have hz252 : w248.cell? ⟨gm, 0, none⟩ = some (.int .i64 (a : Int)) := (blk_cell BKgm.out 0).trans rfl; have hz253 : w248.cell? ⟨gm, 1, none⟩ = some (.int .i64 (b : Int)) := (blk_cell BKgm.out 1).trans rfl; have hz254 : w248.cell? ⟨gm, 2, none⟩ = some (.int .i64 1) := (blk_cell BKgm.out 2).trans rfl; have hz255 : w248.cell? ⟨gm, 3, none⟩ = some (.slice A0_3 l0_3.length c0_3) := (blk_cell BKgm.out 3).trans rfl; have hf256 := blk_frozen BKgm.out 0; have hf257 := blk_frozen BKgm.out 1; have hf258 := blk_frozen BKgm.out 2; have hf259 := blk_frozen BKgm.out 3; have hz260 : w248.cell? ⟨gr, 0, none⟩ = some (.int .i64 0) := (blk_cell BKgr.out 0).trans rfl; have hz261 : w248.cell? ⟨gr, 1, none⟩ = some (.int .i64 0) := (blk_cell BKgr.out 1).trans rfl; have hz262 : w248.cell? ⟨gr, 2, none⟩ = some (.int .i64 0) := (blk_cell BKgr.out 2).trans rfl; have hz263 : w248.cell? ⟨gr, 3, none⟩ = some (.slice none 0 0) := (blk_cell BKgr.out 3).trans rfl; have hf264 := blk_frozen BKgr.out 0; have hf265 := blk_frozen BKgr.out 1; have hf266 := blk_frozen BKgr.out 2; have hf267 := blk_frozen BKgr.out 3) | (go_at_call 62; (with_reducible refine (impl_isLevels.calls a1 true _ A2.out).mono ?_); rintro e w' ⟨rfl, ⟨nd, rfl⟩⟩) | (go_at_call 72; (with_reducible refine (impl_copyImage.calls (a : Int) (b : Int) 1 _ _ l0_3 (a : Int) (b : Int) 1 l0_3 _ ?side1 ?side2 HCP.out).mono ?_); (case side1 => exact (Kd.C_below HR0.out (qW HB.out))); (case side2 => exact HC0.out); rintro e w268 ⟨v3, rfl, ho, hb⟩; have ho := Kd.R_lower ho (below_size (qW HB.out)); obtain ⟨Ao, co, eo⟩ := Kd.R_slice ho; subst eo; obtain ⟨g, cg, eg, _⟩ := Kd.R_form ho (by have := HLP.out.1; omega); injection eg with ea el ec; clear el; subst ec; subst ea; have HO := aM ho; clear ho; have n269 := bB BKgm hb; have n270 := bB BKgr hb; have n271 := bS HB hb; clear HB BKgm BKgr; have BKgm := n269; have BKgr := n270; have HB := n271; clear n269 n270 n271 hb; have hz272 : w268.cell? ⟨gm, 0, none⟩ = some (.int .i64 (a : Int)) := (blk_cell BKgm.out 0).trans rfl; have hz273 : w268.cell? ⟨gm, 1, none⟩ = some (.int .i64 (b : Int)) := (blk_cell BKgm.out 1).trans rfl; have hz274 : w268.cell? ⟨gm, 2, none⟩ = some (.int .i64 1) := (blk_cell BKgm.out 2).trans rfl; have hz275 : w268.cell? ⟨gm, 3, none⟩ = some (.slice A0_3 l0_3.length c0_3) := (blk_cell BKgm.out 3).trans rfl; have hf276 := blk_frozen BKgm.out 0; have hf277 := blk_frozen BKgm.out 1; have hf278 := blk_frozen BKgm.out 2; have hf279 := blk_frozen BKgm.out 3; have hz280 : w268.cell? ⟨gr, 0, none⟩ = some (.int .i64 0) := (blk_cell BKgr.out 0).trans rfl; have hz281 : w268.cell? ⟨gr, 1, none⟩ = some (.int .i64 0) := (blk_cell BKgr.out 1).trans rfl; have hz282 : w268.cell? ⟨gr, 2, none⟩ = some (.int .i64 0) := (blk_cell BKgr.out 2).trans rfl; have hz283 : w268.cell? ⟨gr, 3, none⟩ = some (.slice none 0 0) := (blk_cell BKgr.out 3).trans rfl; have hf284 := blk_frozen BKgr.out 0; have hf285 := blk_frozen BKgr.out 1; have hf286 := blk_frozen BKgr.out 2; have hf287 := blk_frozen BKgr.out 3) | ((with_reducible refine gate_dst (N := 6) rfl ?_); (try (refine gate_guard (by rfl) ?_; dsimp only)); refine bxE (N := 6) (cs := #[.int .i64 0, .int .i64 0, .int .i64 0, .slice none 0 0]) (t := 27) ?_; intro go hg w288 hbox hb; have n289 := bB BKgm hb; have n290 := bB BKgr hb; have n291 := bS HB hb; have n292 := aM hbox; have n293 := aM ((by rw [hg]; exact (below_size (qW HB.out))) : w.heap.size ≤ go); have n294 := aM ((by rw [hg]; exact Nat.ne_of_lt (blk_lt (g := gm) (o := .cells #[.int .i64 (a : Int), .int .i64 (b : Int), .int .i64 1, .slice A0_3 l0_3.length c0_3] 27 (0, 0)) (qB BKgm.out))) : gm ≠ go); have n295 := aM ((by rw [hg]; exact Nat.ne_of_gt (blk_lt (g := gm) (o := .cells #[.int .i64 (a : Int), .int .i64 (b : Int), .int .i64 1, .slice A0_3 l0_3.length c0_3] 27 (0, 0)) (qB BKgm.out))) : go ≠ gm); have n296 := aM ((by rw [hg]; exact Nat.ne_of_lt (blk_lt (g := gr) (o := .cells #[.int .i64 0, .int .i64 0, .int .i64 0, .slice none 0 0] 27 (0, 0)) (qB BKgr.out))) : gr ≠ go); have n297 := aM ((by rw [hg]; exact Nat.ne_of_gt (blk_lt (g := gr) (o := .cells #[.int .i64 0, .int .i64 0, .int .i64 0, .slice none 0 0] 27 (0, 0)) (qB BKgr.out))) : go ≠ gr); have r_ := aM (Kd.R_below (Kd.R_elderB (qR HO.out) go (Nat.le_of_eq hg.symm)) hb); clear HO; have HO := r_; clear r_; clear HB BKgm BKgr; have BKgm := n289; have BKgr := n290; have HB := n291; have BKgo := n292; have GEgo := n293; have NBgm_go := n294; have NBgo_gm := n295; have NBgr_go := n296; have NBgo_gr := n297; clear n289 n290 n291 n292 n293 n294 n295 n296 n297; clear hb hbox hg; have hz298 : w288.cell? ⟨gm, 0, none⟩ = some (.int .i64 (a : Int)) := (blk_cell BKgm.out 0).trans rfl; have hz299 : w288.cell? ⟨gm, 1, none⟩ = some (.int .i64 (b : Int)) := (blk_cell BKgm.out 1).trans rfl; have hz300 : w288.cell? ⟨gm, 2, none⟩ = some (.int .i64 1) := (blk_cell BKgm.out 2).trans rfl; have hz301 : w288.cell? ⟨gm, 3, none⟩ = some (.slice A0_3 l0_3.length c0_3) := (blk_cell BKgm.out 3).trans rfl; have hf302 := blk_frozen BKgm.out 0; have hf303 := blk_frozen BKgm.out 1; have hf304 := blk_frozen BKgm.out 2; have hf305 := blk_frozen BKgm.out 3; have hz306 : w288.cell? ⟨gr, 0, none⟩ = some (.int .i64 0) := (blk_cell BKgr.out 0).trans rfl; have hz307 : w288.cell? ⟨gr, 1, none⟩ = some (.int .i64 0) := (blk_cell BKgr.out 1).trans rfl; have hz308 : w288.cell? ⟨gr, 2, none⟩ = some (.int .i64 0) := (blk_cell BKgr.out 2).trans rfl; have hz309 : w288.cell? ⟨gr, 3, none⟩ = some (.slice none 0 0) := (blk_cell BKgr.out 3).trans rfl; have hf310 := blk_frozen BKgr.out 0; have hf311 := blk_frozen BKgr.out 1; have hf312 := blk_frozen BKgr.out 2; have hf313 := blk_frozen BKgr.out 3) | ((with_reducible refine gate_store (t := 27) (p := 6) rfl ?_); have hzs0_ : w288.cell? ⟨go, 0, none⟩ = some (.int .i64 0) := (blk_cell BKgo.out 0).trans rfl; have hfs0_ := blk_frozen BKgo.out 0; have hzs1_ : w288.cell? ⟨go, 1, none⟩ = some (.int .i64 0) := (blk_cell BKgo.out 1).trans rfl; have hfs1_ := blk_frozen BKgo.out 1; have hzs2_ : w288.cell? ⟨go, 2, none⟩ = some (.int .i64 0) := (blk_cell BKgo.out 2).trans rfl; have hfs2_ := blk_frozen BKgo.out 2; have hzs3_ : w288.cell? ⟨go, 3, none⟩ = some (.slice none 0 0) := (blk_cell BKgo.out 3).trans rfl; have hfs3_ := blk_frozen BKgo.out 3; refine store_event (t := 27) (p := 6) (v := ?vo_w322) (w1 := ((((w288.setCell ⟨go, 0, none⟩ (.int .i64 (a : Int))).setCell ⟨go, 1, none⟩ (.int .i64 (b : Int))).setCell ⟨go, 2, none⟩ (.int .i64 1)).setCell ⟨go, 3, none⟩ (.slice (some ⟨g, 0, none⟩) l0_3.length co))) ?hg ?ho ?hn ?hr ?_; (case ho => rfl); (case hg => rfl); (case hn => rfl); (case hr => first | (go_simp; done) | (go_simp; rfl)); intro w322 hw; have r_ := aM (show Kd.R (Kd.int .i64) 3 w322 w.heap.size (fun k_ => True ∧ k_ ≠ go) (.slice (some ⟨g, 0, none⟩) l0_3.length co) l0_3 by rw [hw]; exact Kd.R_far (p := ⟨go, 3, none⟩) (Kd.R_far (p := ⟨go, 2, none⟩) (Kd.R_far (p := ⟨go, 1, none⟩) (Kd.R_far (p := ⟨go, 0, none⟩) (HO.out) (fun _ hk => hk.2) _) (fun _ hk => hk.2) _) (fun _ hk => hk.2) _) (fun _ hk => hk.2) _); clear HO; have HO := r_; clear r_; have n323 := aM (show w322.heap[gm]? = some (.cells #[.int .i64 (a : Int), .int .i64 (b : Int), .int .i64 1, .slice A0_3 l0_3.length c0_3] 27 (0, 0)) by rw [hw]; exact blk_far (blk_far (blk_far (blk_far (BKgm.out) NBgm_go.out _) NBgm_go.out _) NBgm_go.out _) NBgm_go.out _); have n324 := aM (show w322.heap[gr]? = some (.cells #[.int .i64 0, .int .i64 0, .int .i64 0, .slice none 0 0] 27 (0, 0)) by rw [hw]; exact blk_far (blk_far (blk_far (blk_far (BKgr.out) NBgr_go.out _) NBgr_go.out _) NBgr_go.out _) NBgr_go.out _); have n325 := aM (show w322.heap[go]? = some (.cells #[.int .i64 (a : Int), .int .i64 (b : Int), .int .i64 1, .slice (some ⟨g, 0, none⟩) l0_3.length co] 27 (0, 0)) by rw [hw]; refine blk_put (cs := #[.int .i64 (a : Int), .int .i64 (b : Int), .int .i64 1, .slice none 0 0]) ?_ 3 _ rfl; refine blk_put (cs := #[.int .i64 (a : Int), .int .i64 (b : Int), .int .i64 0, .slice none 0 0]) ?_ 2 _ rfl; refine blk_put (cs := #[.int .i64 (a : Int), .int .i64 0, .int .i64 0, .slice none 0 0]) ?_ 1 _ rfl; refine blk_put (cs := #[.int .i64 0, .int .i64 0, .int .i64 0, .slice none 0 0]) ?_ 0 _ rfl; exact BKgo.out); have n326 := aM (show Below w.heap.size w w322 by rw [hw]; exact below_set (below_set (below_set (below_set (HB.out) GEgo.out) GEgo.out) GEgo.out) GEgo.out); clear hzs0_ hfs0_ hzs1_ hfs1_ hzs2_ hfs2_ hzs3_ hfs3_; clear HB BKgm BKgr BKgo hw; have BKgm := n323; have BKgr := n324; have BKgo := n325; have HB := n326; clear n323 n324 n325 n326; have hz327 : w322.cell? ⟨gm, 0, none⟩ = some (.int .i64 (a : Int)) := (blk_cell BKgm.out 0).trans rfl; have hz328 : w322.cell? ⟨gm, 1, none⟩ = some (.int .i64 (b : Int)) := (blk_cell BKgm.out 1).trans rfl; have hz329 : w322.cell? ⟨gm, 2, none⟩ = some (.int .i64 1) := (blk_cell BKgm.out 2).trans rfl; have hz330 : w322.cell? ⟨gm, 3, none⟩ = some (.slice A0_3 l0_3.length c0_3) := (blk_cell BKgm.out 3).trans rfl; have hf331 := blk_frozen BKgm.out 0; have hf332 := blk_frozen BKgm.out 1; have hf333 := blk_frozen BKgm.out 2; have hf334 := blk_frozen BKgm.out 3; have hz335 : w322.cell? ⟨gr, 0, none⟩ = some (.int .i64 0) := (blk_cell BKgr.out 0).trans rfl; have hz336 : w322.cell? ⟨gr, 1, none⟩ = some (.int .i64 0) := (blk_cell BKgr.out 1).trans rfl; have hz337 : w322.cell? ⟨gr, 2, none⟩ = some (.int .i64 0) := (blk_cell BKgr.out 2).trans rfl; have hz338 : w322.cell? ⟨gr, 3, none⟩ = some (.slice none 0 0) := (blk_cell BKgr.out 3).trans rfl; have hf339 := blk_frozen BKgr.out 0; have hf340 := blk_frozen BKgr.out 1; have hf341 := blk_frozen BKgr.out 2; have hf342 := blk_frozen BKgr.out 3; have hz343 : w322.cell? ⟨go, 0, none⟩ = some (.int .i64 (a : Int)) := (blk_cell BKgo.out 0).trans rfl; have hz344 : w322.cell? ⟨go, 1, none⟩ = some (.int .i64 (b : Int)) := (blk_cell BKgo.out 1).trans rfl; have hz345 : w322.cell? ⟨go, 2, none⟩ = some (.int .i64 1) := (blk_cell BKgo.out 2).trans rfl; have hz346 : w322.cell? ⟨go, 3, none⟩ = some (.slice (some ⟨g, 0, none⟩) l0_3.length co) := (blk_cell BKgo.out 3).trans rfl; have hf347 := blk_frozen BKgo.out 0; have hf348 := blk_frozen BKgo.out 1; have hf349 := blk_frozen BKgo.out 2; have hf350 := blk_frozen BKgo.out 3))
   go_loopg [35] b (fun gg s35 w' => ∃ (y : Nat) (d : List Int), y ≤ b ∧ b - y ≤ gg ∧ s35 = .int .i64 y ∧ Aside0 (dfAll k a b a1 l0_3 y = some d) ∧ Aside0 (Kd.R (Kd.int .i64) 3 w' w.heap.size (fun _ => True) (.slice (some ⟨g, 0, none⟩) l0_3.length co) d) ∧ Aside0 (w'.heap[gm]? = some (.cells #[.int .i64 (a : Int), .int .i64 (b : Int), .int .i64 1, .slice A0_3 l0_3.length c0_3] 27 (0, 0))) ∧ Aside0 (w'.heap[gr]? = some (.cells #[.int .i64 0, .int .i64 0, .int .i64 0, .slice none 0 0] 27 (0, 0))) ∧ Aside0 (w'.heap[go]? = some (.cells #[.int .i64 (a : Int), .int .i64 (b : Int), .int .i64 1, .slice (some ⟨g, 0, none⟩) l0_3.length co] 27 (0, 0))) ∧ Aside0 (Below w.heap.size w w'))
   case atStart => exact ⟨0, l0_3, Nat.zero_le _, by omega, rfl, ⟨rfl⟩, ⟨by refine qR ?_; exact Kd.R_mono HO.out (fun _ _ => trivial)⟩, ⟨by refine qB ?_; exact BKgm.out⟩, ⟨by refine qB ?_; exact BKgr.out⟩, ⟨by refine qB ?_; exact BKgo.out⟩, ⟨by exact qW HB.out⟩⟩
   case round =>
    clear HO HB BKgm BKgr BKgo
    obtain ⟨y, d, hy, hg, rfl, HY, HO, BKgm, BKgr, BKgo, HB⟩ := hrel
    obtain ⟨wo, ewo⟩ : ∃ wo : World, wo = wr := ⟨_, rfl⟩
    subst ewo
    have hz351 : wo.cell? ⟨gm, 0, none⟩ = some (.int .i64 (a : Int)) := (blk_cell BKgm.out 0).trans rfl
    have hz352 : wo.cell? ⟨gm, 1, none⟩ = some (.int .i64 (b : Int)) := (blk_cell BKgm.out 1).trans rfl
    have hz353 : wo.cell? ⟨gm, 2, none⟩ = some (.int .i64 1) := (blk_cell BKgm.out 2).trans rfl
    have hz354 : wo.cell? ⟨gm, 3, none⟩ = some (.slice A0_3 l0_3.length c0_3) := (blk_cell BKgm.out 3).trans rfl
    have hf355 := blk_frozen BKgm.out 0
    have hf356 := blk_frozen BKgm.out 1
    have hf357 := blk_frozen BKgm.out 2
    have hf358 := blk_frozen BKgm.out 3
    have hz359 : wo.cell? ⟨gr, 0, none⟩ = some (.int .i64 0) := (blk_cell BKgr.out 0).trans rfl
    have hz360 : wo.cell? ⟨gr, 1, none⟩ = some (.int .i64 0) := (blk_cell BKgr.out 1).trans rfl
    have hz361 : wo.cell? ⟨gr, 2, none⟩ = some (.int .i64 0) := (blk_cell BKgr.out 2).trans rfl
    have hz362 : wo.cell? ⟨gr, 3, none⟩ = some (.slice none 0 0) := (blk_cell BKgr.out 3).trans rfl
    have hf363 := blk_frozen BKgr.out 0
    have hf364 := blk_frozen BKgr.out 1
    have hf365 := blk_frozen BKgr.out 2
    have hf366 := blk_frozen BKgr.out 3
    have hz367 : wo.cell? ⟨go, 0, none⟩ = some (.int .i64 (a : Int)) := (blk_cell BKgo.out 0).trans rfl
    have hz368 : wo.cell? ⟨go, 1, none⟩ = some (.int .i64 (b : Int)) := (blk_cell BKgo.out 1).trans rfl
    have hz369 : wo.cell? ⟨go, 2, none⟩ = some (.int .i64 1) := (blk_cell BKgo.out 2).trans rfl
    have hz370 : wo.cell? ⟨go, 3, none⟩ = some (.slice (some ⟨g, 0, none⟩) l0_3.length co) := (blk_cell BKgo.out 3).trans rfl
    have hf371 := blk_frozen BKgo.out 0
    have hf372 := blk_frozen BKgo.out 1
    have hf373 := blk_frozen BKgo.out 2
    have hf374 := blk_frozen BKgo.out 3
    by_cases hlt : y < b
    case neg =>
     have hltz : ¬ (y : Int) < (b : Int) := by omega
     have ek : y = b := by omega
     have hd := HY.out
     rw [ek, HD.out] at hd
     obtain rfl := Option.some.inj hd
     clear ek hd
     go_wp2
     refine bodyPost_ret (results_ct rfl _ _ gr 27 #[.int .i64 (a : Int), .int .i64 (b : Int), .int .i64 1, .slice (some ⟨g, 0, none⟩) l0_3.length co] (0, 0) _ rfl (by exact bP BKgr.out) Try.underlying27 rfl (by kernel_rfl)) rfl ?_
     exact ⟨(.slice (some ⟨g, 0, none⟩) l0_3.length co), by first | rfl | (simp; done), by refine qR ?_; exact Kd.R_mono (Kd.R_far (p := ⟨gr, 3, none⟩) (Kd.R_far (p := ⟨gr, 2, none⟩) (Kd.R_far (p := ⟨gr, 1, none⟩) (Kd.R_far (p := ⟨gr, 0, none⟩) (Kd.R_types HO.out BKgr.out (by decide)) (fun _ hk => hk.2) _) (fun _ hk => hk.2) _) (fun _ hk => hk.2) _) (fun _ hk => hk.2) _) (fun _ hk => trivial), by exact qW HB.out⟩
    case pos =>
     have hltz : (y : Int) < (b : Int) := by omega
     obtain ⟨d1, hd1⟩ := dfAll_le b (y + 1) D HD.out hlt
     rw [dfAll, HY.out, Option.bind_some, Int.toNat_natCast] at hd1
     have HD1 := aM hd1
     have HLD := aM (dfAll_len _ _ HY.out)
     clear hd1
     go_wp2
     obtain ⟨d0, hd0⟩ : ∃ z, z = d := ⟨_, rfl⟩
     rw [← hd0] at HY HD1 HLD
     go_loopg [40] a (fun gg2 s40 w' => ∃ (x : Nat) (d : List Int), x ≤ a ∧ a - x ≤ gg2 ∧ s40 = .int .i64 x ∧ Aside0 (dfRow k a b a1 y d0 x = some d) ∧ Aside0 (Kd.R (Kd.int .i64) 3 w' w.heap.size (fun _ => True) (.slice (some ⟨g, 0, none⟩) l0_3.length co) d) ∧ Aside0 (w'.heap[gm]? = some (.cells #[.int .i64 (a : Int), .int .i64 (b : Int), .int .i64 1, .slice A0_3 l0_3.length c0_3] 27 (0, 0))) ∧ Aside0 (w'.heap[gr]? = some (.cells #[.int .i64 0, .int .i64 0, .int .i64 0, .slice none 0 0] 27 (0, 0))) ∧ Aside0 (w'.heap[go]? = some (.cells #[.int .i64 (a : Int), .int .i64 (b : Int), .int .i64 1, .slice (some ⟨g, 0, none⟩) l0_3.length co] 27 (0, 0))) ∧ Aside0 (Below w.heap.size w w'))
     case atStart => exact ⟨0, d, Nat.zero_le _, by omega, rfl, ⟨by rw [hd0]; rfl⟩, ⟨by refine qR ?_; exact Kd.R_mono HO.out (fun _ _ => trivial)⟩, ⟨by refine qB ?_; exact BKgm.out⟩, ⟨by refine qB ?_; exact BKgr.out⟩, ⟨by refine qB ?_; exact BKgo.out⟩, ⟨by exact qW HB.out⟩⟩
     case round =>
      clear HO HB BKgm BKgr BKgo hd0
      obtain ⟨x, d2, hx, hg2, rfl, HX, HO, BKgm, BKgr, BKgo, HB⟩ := hrel
      have hz375 : wr.cell? ⟨gm, 0, none⟩ = some (.int .i64 (a : Int)) := (blk_cell BKgm.out 0).trans rfl
      have hz376 : wr.cell? ⟨gm, 1, none⟩ = some (.int .i64 (b : Int)) := (blk_cell BKgm.out 1).trans rfl
      have hz377 : wr.cell? ⟨gm, 2, none⟩ = some (.int .i64 1) := (blk_cell BKgm.out 2).trans rfl
      have hz378 : wr.cell? ⟨gm, 3, none⟩ = some (.slice A0_3 l0_3.length c0_3) := (blk_cell BKgm.out 3).trans rfl
      have hf379 := blk_frozen BKgm.out 0
      have hf380 := blk_frozen BKgm.out 1
      have hf381 := blk_frozen BKgm.out 2
      have hf382 := blk_frozen BKgm.out 3
      have hz383 : wr.cell? ⟨gr, 0, none⟩ = some (.int .i64 0) := (blk_cell BKgr.out 0).trans rfl
      have hz384 : wr.cell? ⟨gr, 1, none⟩ = some (.int .i64 0) := (blk_cell BKgr.out 1).trans rfl
      have hz385 : wr.cell? ⟨gr, 2, none⟩ = some (.int .i64 0) := (blk_cell BKgr.out 2).trans rfl
      have hz386 : wr.cell? ⟨gr, 3, none⟩ = some (.slice none 0 0) := (blk_cell BKgr.out 3).trans rfl
      have hf387 := blk_frozen BKgr.out 0
      have hf388 := blk_frozen BKgr.out 1
      have hf389 := blk_frozen BKgr.out 2
      have hf390 := blk_frozen BKgr.out 3
      have hz391 : wr.cell? ⟨go, 0, none⟩ = some (.int .i64 (a : Int)) := (blk_cell BKgo.out 0).trans rfl
      have hz392 : wr.cell? ⟨go, 1, none⟩ = some (.int .i64 (b : Int)) := (blk_cell BKgo.out 1).trans rfl
      have hz393 : wr.cell? ⟨go, 2, none⟩ = some (.int .i64 1) := (blk_cell BKgo.out 2).trans rfl
      have hz394 : wr.cell? ⟨go, 3, none⟩ = some (.slice (some ⟨g, 0, none⟩) l0_3.length co) := (blk_cell BKgo.out 3).trans rfl
      have hf395 := blk_frozen BKgo.out 0
      have hf396 := blk_frozen BKgo.out 1
      have hf397 := blk_frozen BKgo.out 2
      have hf398 := blk_frozen BKgo.out 3
      by_cases hlx : x < a
      case neg =>
       have hlxz : ¬ (x : Int) < (a : Int) := by omega
       have ek : x = a := by omega
       subst ek
       go_wp2
       go_roundg (b - (y + 1))
       case measure => omega
       case rel => exact ⟨y + 1, d2, by omega, by omega, by go_num, ⟨by rw [dfAll, HY.out, Option.bind_some, Int.toNat_natCast]; exact HX.out⟩, ⟨by refine qR ?_; exact Kd.R_mono HO.out (fun _ _ => trivial)⟩, ⟨by refine qB ?_; exact BKgm.out⟩, ⟨by refine qB ?_; exact BKgr.out⟩, ⟨by refine qB ?_; exact BKgo.out⟩, ⟨by exact qW HB.out⟩⟩
      case pos =>
       have hlxz : (x : Int) < (a : Int) := by omega
       have hx0 : 0 ≤ (x : Int) := by omega
       have hy0 : 0 ≤ (y : Int) := by omega
       obtain ⟨d3, hd3⟩ := dfRow_le a (x + 1) d1 HD1.out hlx
       have HX2 := aM hd3
       rw [dfRow, HX.out, Option.bind_some, dfPix] at hd3
       have hi : (y : Int) * (a : Int) + (x : Int) = ((y * a + x : Nat) : Int) := by rw [Int.natCast_add, Int.natCast_mul]
       have hin : y * a + x < l0_3.length := by
        have h1 : (y + 1) * a ≤ b * a := Nat.mul_le_mul_right a hlt
        have h2 := HLN.out
        rw [← Int.natCast_mul] at h2
        rw [Nat.succ_mul] at h1
        omega
       rw [hi, Int.toNat_natCast] at hd3
       have hcm : l0_3.length ≤ co ∧ co ≤ 9223372036854775807 := by
        obtain ⟨_, inner, hown, _⟩ := HO.out
        refine ⟨(Kd.R_reads' HO.out).2.1, ?_⟩
        rcases hown.2 with ⟨hv, _⟩ | ⟨g', cap', cur, hv, hb, hh, hl, hcm, hcs, htake⟩
        ·cases hv
        injection hv with _ _ hc
        subst hc
        exact hcm
       have HAT := aM (fun W : World => impl_at.calls3 (a : Int) (b : Int) g l0_3.length co (x : Int) (y : Int) (y * a + x) W (by omega) v0b hx0 (by omega) hy0 (by omega) hi hin hcm.1 hcm.2)
       clear hi hcm
       generalize y * a + x = i at hd3 hin HAT
       have HIN := aM hin
       clear hin
       obtain ⟨lev, q1, hd3⟩ := Option.bind_eq_some_iff.mp hd3
       obtain ⟨v, q2, hd3⟩ := Option.bind_eq_some_iff.mp hd3
       obtain ⟨p, q3, hd3⟩ := Option.bind_eq_some_iff.mp hd3
       obtain ⟨q, q4, hd3⟩ := Option.bind_eq_some_iff.mp hd3
       obtain ⟨s, q5, hd3⟩ := Option.bind_eq_some_iff.mp hd3
       have AL := aM q1
       have AV := aM q2
       have AP := aM q3
       have AQ := aM q4
       have AS := aM q5
       clear q1 q2 q3 q4 q5
       generalize hA : d2.set i v = dA at hd3
       generalize hB_ : dfGive (a : Int) (b : Int) ((x : Int) + 1) (y : Int) p dA = dB at hd3
       generalize hC_ : dfGive (a : Int) (b : Int) ((x : Int) - 1) ((y : Int) + 1) q dB = dC at hd3
       generalize hD_ : dfGive (a : Int) (b : Int) (x : Int) ((y : Int) + 1) s dC = dD at hd3
       have EA := aM hA
       have EB := aM hB_
       have EC := aM hC_
       have ED := aM hD_
       have EE := aM (Option.some.inj hd3)
       clear hA hB_ hC_ hD_ hd3
       have X16 := aM (show x ≤ 1000 ∧ y ≤ 1000 by omega)
       have B1 := aM (show (-1 ≤ (x : Int) + 1 ∧ (x : Int) + 1 ≤ 16) ∧ (-1 ≤ (x : Int) - 1 ∧ (x : Int) - 1 ≤ 16) ∧ (-1 ≤ (x : Int) ∧ (x : Int) ≤ 16) by omega)
       have B2 := aM (show (0 ≤ (y : Int) ∧ (y : Int) ≤ 16) ∧ (0 ≤ (y : Int) + 1 ∧ (y : Int) + 1 ≤ 16) by omega)
       have GX1 := aM (wrap_succ x X16.out.1)
       have GX2 := aM (wrap_pred x X16.out.1)
       have GY1 := aM (wrap_succ y X16.out.2)
       go_wp2_with (first | (go_at_call 50; refine (HAT.out _).mono ?_; rintro e w399 ⟨rfl, hb⟩; have r_ := aM (Kd.R_below (qR HO.out) hb); clear HO; have HO := r_; clear r_; have n402 := bB BKgm hb; have n403 := bB BKgr hb; have n404 := bB BKgo hb; have n405 := bS HB hb; clear HB BKgm BKgr BKgo; have BKgm := n402; have BKgr := n403; have BKgo := n404; have HB := n405; clear n402 n403 n404 n405 hb; have hz406 : w399.cell? ⟨gm, 0, none⟩ = some (.int .i64 (a : Int)) := (blk_cell BKgm.out 0).trans rfl; have hz407 : w399.cell? ⟨gm, 1, none⟩ = some (.int .i64 (b : Int)) := (blk_cell BKgm.out 1).trans rfl; have hz408 : w399.cell? ⟨gm, 2, none⟩ = some (.int .i64 1) := (blk_cell BKgm.out 2).trans rfl; have hz409 : w399.cell? ⟨gm, 3, none⟩ = some (.slice A0_3 l0_3.length c0_3) := (blk_cell BKgm.out 3).trans rfl; have hf410 := blk_frozen BKgm.out 0; have hf411 := blk_frozen BKgm.out 1; have hf412 := blk_frozen BKgm.out 2; have hf413 := blk_frozen BKgm.out 3; have hz414 : w399.cell? ⟨gr, 0, none⟩ = some (.int .i64 0) := (blk_cell BKgr.out 0).trans rfl; have hz415 : w399.cell? ⟨gr, 1, none⟩ = some (.int .i64 0) := (blk_cell BKgr.out 1).trans rfl; have hz416 : w399.cell? ⟨gr, 2, none⟩ = some (.int .i64 0) := (blk_cell BKgr.out 2).trans rfl; have hz417 : w399.cell? ⟨gr, 3, none⟩ = some (.slice none 0 0) := (blk_cell BKgr.out 3).trans rfl; have hf418 := blk_frozen BKgr.out 0; have hf419 := blk_frozen BKgr.out 1; have hf420 := blk_frozen BKgr.out 2; have hf421 := blk_frozen BKgr.out 3; have hz422 : w399.cell? ⟨go, 0, none⟩ = some (.int .i64 (a : Int)) := (blk_cell BKgo.out 0).trans rfl; have hz423 : w399.cell? ⟨go, 1, none⟩ = some (.int .i64 (b : Int)) := (blk_cell BKgo.out 1).trans rfl; have hz424 : w399.cell? ⟨go, 2, none⟩ = some (.int .i64 1) := (blk_cell BKgo.out 2).trans rfl; have hz425 : w399.cell? ⟨go, 3, none⟩ = some (.slice (some ⟨g, 0, none⟩) l0_3.length co) := (blk_cell BKgo.out 3).trans rfl; have hf426 := blk_frozen BKgo.out 0; have hf427 := blk_frozen BKgo.out 1; have hf428 := blk_frozen BKgo.out 2; have hf429 := blk_frozen BKgo.out 3; have hcx := (R_cellOwn HO.out i HIN.out).1; have hcf := (R_cellOwn HO.out i HIN.out).2) | (go_at_call 68; (with_reducible refine (impl_levelOf.calls k _ _ lev _ AL.out).mono ?_); rintro e w400 ⟨rfl, hb⟩; have r_ := aM (Kd.R_below (qR HO.out) hb); clear HO; have HO := r_; clear r_; have n430 := bB BKgm hb; have n431 := bB BKgr hb; have n432 := bB BKgo hb; have n433 := bS HB hb; clear HB BKgm BKgr BKgo; have BKgm := n430; have BKgr := n431; have BKgo := n432; have HB := n433; clear n430 n431 n432 n433 hb; have hz434 : w400.cell? ⟨gm, 0, none⟩ = some (.int .i64 (a : Int)) := (blk_cell BKgm.out 0).trans rfl; have hz435 : w400.cell? ⟨gm, 1, none⟩ = some (.int .i64 (b : Int)) := (blk_cell BKgm.out 1).trans rfl; have hz436 : w400.cell? ⟨gm, 2, none⟩ = some (.int .i64 1) := (blk_cell BKgm.out 2).trans rfl; have hz437 : w400.cell? ⟨gm, 3, none⟩ = some (.slice A0_3 l0_3.length c0_3) := (blk_cell BKgm.out 3).trans rfl; have hf438 := blk_frozen BKgm.out 0; have hf439 := blk_frozen BKgm.out 1; have hf440 := blk_frozen BKgm.out 2; have hf441 := blk_frozen BKgm.out 3; have hz442 : w400.cell? ⟨gr, 0, none⟩ = some (.int .i64 0) := (blk_cell BKgr.out 0).trans rfl; have hz443 : w400.cell? ⟨gr, 1, none⟩ = some (.int .i64 0) := (blk_cell BKgr.out 1).trans rfl; have hz444 : w400.cell? ⟨gr, 2, none⟩ = some (.int .i64 0) := (blk_cell BKgr.out 2).trans rfl; have hz445 : w400.cell? ⟨gr, 3, none⟩ = some (.slice none 0 0) := (blk_cell BKgr.out 3).trans rfl; have hf446 := blk_frozen BKgr.out 0; have hf447 := blk_frozen BKgr.out 1; have hf448 := blk_frozen BKgr.out 2; have hf449 := blk_frozen BKgr.out 3; have hz450 : w400.cell? ⟨go, 0, none⟩ = some (.int .i64 (a : Int)) := (blk_cell BKgo.out 0).trans rfl; have hz451 : w400.cell? ⟨go, 1, none⟩ = some (.int .i64 (b : Int)) := (blk_cell BKgo.out 1).trans rfl; have hz452 : w400.cell? ⟨go, 2, none⟩ = some (.int .i64 1) := (blk_cell BKgo.out 2).trans rfl; have hz453 : w400.cell? ⟨go, 3, none⟩ = some (.slice (some ⟨g, 0, none⟩) l0_3.length co) := (blk_cell BKgo.out 3).trans rfl; have hf454 := blk_frozen BKgo.out 0; have hf455 := blk_frozen BKgo.out 1; have hf456 := blk_frozen BKgo.out 2; have hf457 := blk_frozen BKgo.out 3) | (go_at_call 64; (with_reducible refine (impl_valueOf.calls _ _ v _ AV.out).mono ?_); rintro e w' ⟨rfl, ⟨nd, rfl⟩⟩) | ((with_reducible refine gate_store (t := 3) (p := 59) rfl ?_); refine store_event (t := 3) (p := 59) (v := ?vo_di) (w1 := (w399.setCell ⟨g, i, none⟩ (.int .i64 v))) ?hg ?ho ?hn ?hr ?_; (case ho => rfl); (case hg => rfl); (case hn => rfl); (case hr => first | (go_simp; done) | (go_simp; rfl)); intro w401 hw; have h2 := (Kd.R_putg (enc := Value.int .i64) (h1 := fun _ => rfl) HO.out (i : Int) v).1; rw [Int.toNat_natCast, ← hw, EA.out] at h2; have hgb := Kd.R_base HO.out g (by simp [Value.ownBlock]); have e1_ := Kd.R_ne HO.out BKgm.out (by decide); have e2_ := Kd.R_ne HO.out BKgr.out (by decide); have e3_ := Kd.R_ne HO.out BKgo.out (by decide); have b1_ := aM (show w401.heap[gm]? = some (.cells #[.int .i64 (a : Int), .int .i64 (b : Int), .int .i64 1, .slice A0_3 l0_3.length c0_3] 27 (0, 0)) by rw [hw]; exact blk_far BKgm.out (fun e => e1_ (by rw [e]; simp [Value.ownBlock])) _); have b2_ := aM (show w401.heap[gr]? = some (.cells #[.int .i64 0, .int .i64 0, .int .i64 0, .slice none 0 0] 27 (0, 0)) by rw [hw]; exact blk_far BKgr.out (fun e => e2_ (by rw [e]; simp [Value.ownBlock])) _); have b3_ := aM (show w401.heap[go]? = some (.cells #[.int .i64 (a : Int), .int .i64 (b : Int), .int .i64 1, .slice (some ⟨g, 0, none⟩) l0_3.length co] 27 (0, 0)) by rw [hw]; exact blk_far BKgo.out (fun e => e3_ (by rw [e]; simp [Value.ownBlock])) _); have b4_ := aM (show Below w.heap.size w w401 by rw [hw]; exact below_set HB.out hgb); have b5_ := aM h2; clear HO HB BKgm BKgr BKgo e1_ e2_ e3_ h2 hgb hw hcx hcf; have HO := b5_; have HB := b4_; have BKgm := b1_; have BKgr := b2_; have BKgo := b3_; clear b1_ b2_ b3_ b4_ b5_; have hz458 : w401.cell? ⟨gm, 0, none⟩ = some (.int .i64 (a : Int)) := (blk_cell BKgm.out 0).trans rfl; have hz459 : w401.cell? ⟨gm, 1, none⟩ = some (.int .i64 (b : Int)) := (blk_cell BKgm.out 1).trans rfl; have hz460 : w401.cell? ⟨gm, 2, none⟩ = some (.int .i64 1) := (blk_cell BKgm.out 2).trans rfl; have hz461 : w401.cell? ⟨gm, 3, none⟩ = some (.slice A0_3 l0_3.length c0_3) := (blk_cell BKgm.out 3).trans rfl; have hf462 := blk_frozen BKgm.out 0; have hf463 := blk_frozen BKgm.out 1; have hf464 := blk_frozen BKgm.out 2; have hf465 := blk_frozen BKgm.out 3; have hz466 : w401.cell? ⟨gr, 0, none⟩ = some (.int .i64 0) := (blk_cell BKgr.out 0).trans rfl; have hz467 : w401.cell? ⟨gr, 1, none⟩ = some (.int .i64 0) := (blk_cell BKgr.out 1).trans rfl; have hz468 : w401.cell? ⟨gr, 2, none⟩ = some (.int .i64 0) := (blk_cell BKgr.out 2).trans rfl; have hz469 : w401.cell? ⟨gr, 3, none⟩ = some (.slice none 0 0) := (blk_cell BKgr.out 3).trans rfl; have hf470 := blk_frozen BKgr.out 0; have hf471 := blk_frozen BKgr.out 1; have hf472 := blk_frozen BKgr.out 2; have hf473 := blk_frozen BKgr.out 3; have hz474 : w401.cell? ⟨go, 0, none⟩ = some (.int .i64 (a : Int)) := (blk_cell BKgo.out 0).trans rfl; have hz475 : w401.cell? ⟨go, 1, none⟩ = some (.int .i64 (b : Int)) := (blk_cell BKgo.out 1).trans rfl; have hz476 : w401.cell? ⟨go, 2, none⟩ = some (.int .i64 1) := (blk_cell BKgo.out 2).trans rfl; have hz477 : w401.cell? ⟨go, 3, none⟩ = some (.slice (some ⟨g, 0, none⟩) l0_3.length co) := (blk_cell BKgo.out 3).trans rfl; have hf478 := blk_frozen BKgo.out 0; have hf479 := blk_frozen BKgo.out 1; have hf480 := blk_frozen BKgo.out 2; have hf481 := blk_frozen BKgo.out 3) | (go_at_call 74; (with_reducible refine (impl_floorDiv.calls _ _ p _ AP.out).mono ?_); rintro e w' ⟨rfl, ⟨nd, rfl⟩⟩) | (go_at_call 74; (with_reducible refine (impl_floorDiv.calls _ _ q _ AQ.out).mono ?_); rintro e w' ⟨rfl, ⟨nd, rfl⟩⟩) | (go_at_call 74; (with_reducible refine (impl_floorDiv.calls _ _ s _ AS.out).mono ?_); rintro e w' ⟨rfl, ⟨nd, rfl⟩⟩) | ((with_reducible refine gate_value (t := 72) rfl ?_); refine goesV_ (some 77) rfl rfl 72 Try.func73 (by kernel_rfl) rfl #[.int .i64 ((x : Int) + 1), .int .i64 (y : Int), .int .i64 p] #[.pointer (some ⟨gm, 0, none⟩), .pointer (some ⟨go, 0, none⟩)] #[.int .i64 ((x : Int) + 1), .int .i64 (y : Int), .int .i64 p, .pointer (some ⟨gm, 0, none⟩), .pointer (some ⟨go, 0, none⟩)] rfl rfl (by (try simp only [List.map_toArray, List.map_cons, List.map_nil]); first | done | rfl) (by simp) ?_; refine (diffGive w _ _ gm go (fun _ => True) (a : Int) (b : Int) A0_3 c0_3 l0_3 g l0_3.length co dA ((x : Int) + 1) (y : Int) p ?side1 ?side2 ?side3 ?side4 rfl HV0.out HV1.out HLN.out B1.out.1.1 B1.out.1.2 B2.out.1.1 B2.out.1.2).mono ?_; (case side1 => refine qB ?_; exact BKgm.out); (case side2 => refine qB ?_; exact BKgo.out); (case side3 => refine qR ?_; exact HO.out); (case side4 => exact (qW HB.out)); rintro e w482 ⟨rfl, hO, hB2, hbm, hbo, hk⟩; refine ⟨_, rfl, ?_⟩; rw [EB.out] at hO; have hk2_ := fun hb_ => blk_kept (g := gr) (o := .cells #[.int .i64 0, .int .i64 0, .int .i64 0, .slice none 0 0] 27 (0, 0)) hb_ hk (fun (e : gr = g) => Kd.R_ne HO.out BKgr.out (by decide) (by rw [e]; simp [Value.ownBlock])); have b2_ := aM (hk2_ (qB BKgr.out)); clear hk2_; have b1_ := aM hbm; have b3_ := aM hbo; have b4_ := aM hB2; have b5_ := aM hO; clear HO HB BKgm BKgr BKgo hO hB2 hbm hbo hk; have HO := b5_; have HB := b4_; have BKgm := b1_; have BKgr := b2_; have BKgo := b3_; clear b1_ b2_ b3_ b4_ b5_; have hz483 : w482.cell? ⟨gm, 0, none⟩ = some (.int .i64 (a : Int)) := (blk_cell BKgm.out 0).trans rfl; have hz484 : w482.cell? ⟨gm, 1, none⟩ = some (.int .i64 (b : Int)) := (blk_cell BKgm.out 1).trans rfl; have hz485 : w482.cell? ⟨gm, 2, none⟩ = some (.int .i64 1) := (blk_cell BKgm.out 2).trans rfl; have hz486 : w482.cell? ⟨gm, 3, none⟩ = some (.slice A0_3 l0_3.length c0_3) := (blk_cell BKgm.out 3).trans rfl; have hf487 := blk_frozen BKgm.out 0; have hf488 := blk_frozen BKgm.out 1; have hf489 := blk_frozen BKgm.out 2; have hf490 := blk_frozen BKgm.out 3; have hz491 : w482.cell? ⟨gr, 0, none⟩ = some (.int .i64 0) := (blk_cell BKgr.out 0).trans rfl; have hz492 : w482.cell? ⟨gr, 1, none⟩ = some (.int .i64 0) := (blk_cell BKgr.out 1).trans rfl; have hz493 : w482.cell? ⟨gr, 2, none⟩ = some (.int .i64 0) := (blk_cell BKgr.out 2).trans rfl; have hz494 : w482.cell? ⟨gr, 3, none⟩ = some (.slice none 0 0) := (blk_cell BKgr.out 3).trans rfl; have hf495 := blk_frozen BKgr.out 0; have hf496 := blk_frozen BKgr.out 1; have hf497 := blk_frozen BKgr.out 2; have hf498 := blk_frozen BKgr.out 3; have hz499 : w482.cell? ⟨go, 0, none⟩ = some (.int .i64 (a : Int)) := (blk_cell BKgo.out 0).trans rfl; have hz500 : w482.cell? ⟨go, 1, none⟩ = some (.int .i64 (b : Int)) := (blk_cell BKgo.out 1).trans rfl; have hz501 : w482.cell? ⟨go, 2, none⟩ = some (.int .i64 1) := (blk_cell BKgo.out 2).trans rfl; have hz502 : w482.cell? ⟨go, 3, none⟩ = some (.slice (some ⟨g, 0, none⟩) l0_3.length co) := (blk_cell BKgo.out 3).trans rfl; have hf503 := blk_frozen BKgo.out 0; have hf504 := blk_frozen BKgo.out 1; have hf505 := blk_frozen BKgo.out 2; have hf506 := blk_frozen BKgo.out 3) | ((with_reducible refine gate_value (t := 78) rfl ?_); refine goesV_ (some 84) rfl rfl 78 Try.func73 (by kernel_rfl) rfl #[.int .i64 ((x : Int) - 1), .int .i64 ((y : Int) + 1), .int .i64 q] #[.pointer (some ⟨gm, 0, none⟩), .pointer (some ⟨go, 0, none⟩)] #[.int .i64 ((x : Int) - 1), .int .i64 ((y : Int) + 1), .int .i64 q, .pointer (some ⟨gm, 0, none⟩), .pointer (some ⟨go, 0, none⟩)] rfl rfl (by (try simp only [List.map_toArray, List.map_cons, List.map_nil]); first | done | rfl) (by simp) ?_; refine (diffGive w _ _ gm go (fun _ => True) (a : Int) (b : Int) A0_3 c0_3 l0_3 g l0_3.length co dB ((x : Int) - 1) ((y : Int) + 1) q ?side1 ?side2 ?side3 ?side4 rfl HV0.out HV1.out HLN.out B1.out.2.1.1 B1.out.2.1.2 B2.out.2.1 B2.out.2.2).mono ?_; (case side1 => refine qB ?_; exact BKgm.out); (case side2 => refine qB ?_; exact BKgo.out); (case side3 => refine qR ?_; exact HO.out); (case side4 => exact (qW HB.out)); rintro e w507 ⟨rfl, hO, hB2, hbm, hbo, hk⟩; refine ⟨_, rfl, ?_⟩; rw [EC.out] at hO; have hk2_ := fun hb_ => blk_kept (g := gr) (o := .cells #[.int .i64 0, .int .i64 0, .int .i64 0, .slice none 0 0] 27 (0, 0)) hb_ hk (fun (e : gr = g) => Kd.R_ne HO.out BKgr.out (by decide) (by rw [e]; simp [Value.ownBlock])); have b2_ := aM (hk2_ (qB BKgr.out)); clear hk2_; have b1_ := aM hbm; have b3_ := aM hbo; have b4_ := aM hB2; have b5_ := aM hO; clear HO HB BKgm BKgr BKgo hO hB2 hbm hbo hk; have HO := b5_; have HB := b4_; have BKgm := b1_; have BKgr := b2_; have BKgo := b3_; clear b1_ b2_ b3_ b4_ b5_; have hz508 : w507.cell? ⟨gm, 0, none⟩ = some (.int .i64 (a : Int)) := (blk_cell BKgm.out 0).trans rfl; have hz509 : w507.cell? ⟨gm, 1, none⟩ = some (.int .i64 (b : Int)) := (blk_cell BKgm.out 1).trans rfl; have hz510 : w507.cell? ⟨gm, 2, none⟩ = some (.int .i64 1) := (blk_cell BKgm.out 2).trans rfl; have hz511 : w507.cell? ⟨gm, 3, none⟩ = some (.slice A0_3 l0_3.length c0_3) := (blk_cell BKgm.out 3).trans rfl; have hf512 := blk_frozen BKgm.out 0; have hf513 := blk_frozen BKgm.out 1; have hf514 := blk_frozen BKgm.out 2; have hf515 := blk_frozen BKgm.out 3; have hz516 : w507.cell? ⟨gr, 0, none⟩ = some (.int .i64 0) := (blk_cell BKgr.out 0).trans rfl; have hz517 : w507.cell? ⟨gr, 1, none⟩ = some (.int .i64 0) := (blk_cell BKgr.out 1).trans rfl; have hz518 : w507.cell? ⟨gr, 2, none⟩ = some (.int .i64 0) := (blk_cell BKgr.out 2).trans rfl; have hz519 : w507.cell? ⟨gr, 3, none⟩ = some (.slice none 0 0) := (blk_cell BKgr.out 3).trans rfl; have hf520 := blk_frozen BKgr.out 0; have hf521 := blk_frozen BKgr.out 1; have hf522 := blk_frozen BKgr.out 2; have hf523 := blk_frozen BKgr.out 3; have hz524 : w507.cell? ⟨go, 0, none⟩ = some (.int .i64 (a : Int)) := (blk_cell BKgo.out 0).trans rfl; have hz525 : w507.cell? ⟨go, 1, none⟩ = some (.int .i64 (b : Int)) := (blk_cell BKgo.out 1).trans rfl; have hz526 : w507.cell? ⟨go, 2, none⟩ = some (.int .i64 1) := (blk_cell BKgo.out 2).trans rfl; have hz527 : w507.cell? ⟨go, 3, none⟩ = some (.slice (some ⟨g, 0, none⟩) l0_3.length co) := (blk_cell BKgo.out 3).trans rfl; have hf528 := blk_frozen BKgo.out 0; have hf529 := blk_frozen BKgo.out 1; have hf530 := blk_frozen BKgo.out 2; have hf531 := blk_frozen BKgo.out 3) | ((with_reducible refine gate_value (t := 85) rfl ?_); refine goesV_ (some 90) rfl rfl 85 Try.func73 (by kernel_rfl) rfl #[.int .i64 (x : Int), .int .i64 ((y : Int) + 1), .int .i64 s] #[.pointer (some ⟨gm, 0, none⟩), .pointer (some ⟨go, 0, none⟩)] #[.int .i64 (x : Int), .int .i64 ((y : Int) + 1), .int .i64 s, .pointer (some ⟨gm, 0, none⟩), .pointer (some ⟨go, 0, none⟩)] rfl rfl (by (try simp only [List.map_toArray, List.map_cons, List.map_nil]); first | done | rfl) (by simp) ?_; refine (diffGive w _ _ gm go (fun _ => True) (a : Int) (b : Int) A0_3 c0_3 l0_3 g l0_3.length co dC (x : Int) ((y : Int) + 1) s ?side1 ?side2 ?side3 ?side4 rfl HV0.out HV1.out HLN.out B1.out.2.2.1 B1.out.2.2.2 B2.out.2.1 B2.out.2.2).mono ?_; (case side1 => refine qB ?_; exact BKgm.out); (case side2 => refine qB ?_; exact BKgo.out); (case side3 => refine qR ?_; exact HO.out); (case side4 => exact (qW HB.out)); rintro e w532 ⟨rfl, hO, hB2, hbm, hbo, hk⟩; refine ⟨_, rfl, ?_⟩; rw [ED.out] at hO; have hk2_ := fun hb_ => blk_kept (g := gr) (o := .cells #[.int .i64 0, .int .i64 0, .int .i64 0, .slice none 0 0] 27 (0, 0)) hb_ hk (fun (e : gr = g) => Kd.R_ne HO.out BKgr.out (by decide) (by rw [e]; simp [Value.ownBlock])); have b2_ := aM (hk2_ (qB BKgr.out)); clear hk2_; have b1_ := aM hbm; have b3_ := aM hbo; have b4_ := aM hB2; have b5_ := aM hO; clear HO HB BKgm BKgr BKgo hO hB2 hbm hbo hk; have HO := b5_; have HB := b4_; have BKgm := b1_; have BKgr := b2_; have BKgo := b3_; clear b1_ b2_ b3_ b4_ b5_; have hz533 : w532.cell? ⟨gm, 0, none⟩ = some (.int .i64 (a : Int)) := (blk_cell BKgm.out 0).trans rfl; have hz534 : w532.cell? ⟨gm, 1, none⟩ = some (.int .i64 (b : Int)) := (blk_cell BKgm.out 1).trans rfl; have hz535 : w532.cell? ⟨gm, 2, none⟩ = some (.int .i64 1) := (blk_cell BKgm.out 2).trans rfl; have hz536 : w532.cell? ⟨gm, 3, none⟩ = some (.slice A0_3 l0_3.length c0_3) := (blk_cell BKgm.out 3).trans rfl; have hf537 := blk_frozen BKgm.out 0; have hf538 := blk_frozen BKgm.out 1; have hf539 := blk_frozen BKgm.out 2; have hf540 := blk_frozen BKgm.out 3; have hz541 : w532.cell? ⟨gr, 0, none⟩ = some (.int .i64 0) := (blk_cell BKgr.out 0).trans rfl; have hz542 : w532.cell? ⟨gr, 1, none⟩ = some (.int .i64 0) := (blk_cell BKgr.out 1).trans rfl; have hz543 : w532.cell? ⟨gr, 2, none⟩ = some (.int .i64 0) := (blk_cell BKgr.out 2).trans rfl; have hz544 : w532.cell? ⟨gr, 3, none⟩ = some (.slice none 0 0) := (blk_cell BKgr.out 3).trans rfl; have hf545 := blk_frozen BKgr.out 0; have hf546 := blk_frozen BKgr.out 1; have hf547 := blk_frozen BKgr.out 2; have hf548 := blk_frozen BKgr.out 3; have hz549 : w532.cell? ⟨go, 0, none⟩ = some (.int .i64 (a : Int)) := (blk_cell BKgo.out 0).trans rfl; have hz550 : w532.cell? ⟨go, 1, none⟩ = some (.int .i64 (b : Int)) := (blk_cell BKgo.out 1).trans rfl; have hz551 : w532.cell? ⟨go, 2, none⟩ = some (.int .i64 1) := (blk_cell BKgo.out 2).trans rfl; have hz552 : w532.cell? ⟨go, 3, none⟩ = some (.slice (some ⟨g, 0, none⟩) l0_3.length co) := (blk_cell BKgo.out 3).trans rfl; have hf553 := blk_frozen BKgo.out 0; have hf554 := blk_frozen BKgo.out 1; have hf555 := blk_frozen BKgo.out 2; have hf556 := blk_frozen BKgo.out 3) | ((with_reducible refine gate_value (t := 91) rfl ?_); refine goesV_ (some 103) rfl rfl 91 Try.func73 (by kernel_rfl) rfl #[.int .i64 ((x : Int) + 1), .int .i64 ((y : Int) + 1), .int .i64 (wrap64 (wrap64 (wrap64 (wrap64 (rd d2 (i : Int) - v) - p) - q) - s))] #[.pointer (some ⟨gm, 0, none⟩), .pointer (some ⟨go, 0, none⟩)] #[.int .i64 ((x : Int) + 1), .int .i64 ((y : Int) + 1), .int .i64 (wrap64 (wrap64 (wrap64 (wrap64 (rd d2 (i : Int) - v) - p) - q) - s)), .pointer (some ⟨gm, 0, none⟩), .pointer (some ⟨go, 0, none⟩)] rfl rfl (by (try simp only [List.map_toArray, List.map_cons, List.map_nil]); first | done | rfl) (by simp) ?_; refine (diffGive w _ _ gm go (fun _ => True) (a : Int) (b : Int) A0_3 c0_3 l0_3 g l0_3.length co dD ((x : Int) + 1) ((y : Int) + 1) (wrap64 (wrap64 (wrap64 (wrap64 (rd d2 (i : Int) - v) - p) - q) - s)) ?side1 ?side2 ?side3 ?side4 rfl HV0.out HV1.out HLN.out B1.out.1.1 B1.out.1.2 B2.out.2.1 B2.out.2.2).mono ?_; (case side1 => refine qB ?_; exact BKgm.out); (case side2 => refine qB ?_; exact BKgo.out); (case side3 => refine qR ?_; exact HO.out); (case side4 => exact (qW HB.out)); rintro e w557 ⟨rfl, hO, hB2, hbm, hbo, hk⟩; refine ⟨_, rfl, ?_⟩; rw [EE.out] at hO; have hk2_ := fun hb_ => blk_kept (g := gr) (o := .cells #[.int .i64 0, .int .i64 0, .int .i64 0, .slice none 0 0] 27 (0, 0)) hb_ hk (fun (e : gr = g) => Kd.R_ne HO.out BKgr.out (by decide) (by rw [e]; simp [Value.ownBlock])); have b2_ := aM (hk2_ (qB BKgr.out)); clear hk2_; have b1_ := aM hbm; have b3_ := aM hbo; have b4_ := aM hB2; have b5_ := aM hO; clear HO HB BKgm BKgr BKgo hO hB2 hbm hbo hk; have HO := b5_; have HB := b4_; have BKgm := b1_; have BKgr := b2_; have BKgo := b3_; clear b1_ b2_ b3_ b4_ b5_; have hz558 : w557.cell? ⟨gm, 0, none⟩ = some (.int .i64 (a : Int)) := (blk_cell BKgm.out 0).trans rfl; have hz559 : w557.cell? ⟨gm, 1, none⟩ = some (.int .i64 (b : Int)) := (blk_cell BKgm.out 1).trans rfl; have hz560 : w557.cell? ⟨gm, 2, none⟩ = some (.int .i64 1) := (blk_cell BKgm.out 2).trans rfl; have hz561 : w557.cell? ⟨gm, 3, none⟩ = some (.slice A0_3 l0_3.length c0_3) := (blk_cell BKgm.out 3).trans rfl; have hf562 := blk_frozen BKgm.out 0; have hf563 := blk_frozen BKgm.out 1; have hf564 := blk_frozen BKgm.out 2; have hf565 := blk_frozen BKgm.out 3; have hz566 : w557.cell? ⟨gr, 0, none⟩ = some (.int .i64 0) := (blk_cell BKgr.out 0).trans rfl; have hz567 : w557.cell? ⟨gr, 1, none⟩ = some (.int .i64 0) := (blk_cell BKgr.out 1).trans rfl; have hz568 : w557.cell? ⟨gr, 2, none⟩ = some (.int .i64 0) := (blk_cell BKgr.out 2).trans rfl; have hz569 : w557.cell? ⟨gr, 3, none⟩ = some (.slice none 0 0) := (blk_cell BKgr.out 3).trans rfl; have hf570 := blk_frozen BKgr.out 0; have hf571 := blk_frozen BKgr.out 1; have hf572 := blk_frozen BKgr.out 2; have hf573 := blk_frozen BKgr.out 3; have hz574 : w557.cell? ⟨go, 0, none⟩ = some (.int .i64 (a : Int)) := (blk_cell BKgo.out 0).trans rfl; have hz575 : w557.cell? ⟨go, 1, none⟩ = some (.int .i64 (b : Int)) := (blk_cell BKgo.out 1).trans rfl; have hz576 : w557.cell? ⟨go, 2, none⟩ = some (.int .i64 1) := (blk_cell BKgo.out 2).trans rfl; have hz577 : w557.cell? ⟨go, 3, none⟩ = some (.slice (some ⟨g, 0, none⟩) l0_3.length co) := (blk_cell BKgo.out 3).trans rfl; have hf578 := blk_frozen BKgo.out 0; have hf579 := blk_frozen BKgo.out 1; have hf580 := blk_frozen BKgo.out 2; have hf581 := blk_frozen BKgo.out 3))
       go_roundg (a - (x + 1))
       case measure => omega
       case rel => exact ⟨x + 1, d3, by omega, by omega, by go_num, HX2, ⟨by refine qR ?_; exact Kd.R_mono HO.out (fun _ _ => trivial)⟩, ⟨by refine qB ?_; exact BKgm.out⟩, ⟨by refine qB ?_; exact BKgr.out⟩, ⟨by refine qB ?_; exact BKgo.out⟩, ⟨by exact qW HB.out⟩⟩
def spec_bayer.f (a0 : Int) (a1 : Int) : Option (Int) := (some (([0, 8, 2, 10, 12, 4, 14, 6, 3, 11, 1, 9, 15, 7, 13, 5] : List Int) : List Int)).bind fun y338 => (if 0 ≤ (wrap64 ((wrap64 ((Int.tmod a1 4) * 4)) + (Int.tmod a0 4))) then (if (wrap64 ((wrap64 ((Int.tmod a1 4) * 4)) + (Int.tmod a0 4))) < (y338.length : Int) then (some (rd y338 (wrap64 ((wrap64 ((Int.tmod a1 4) * 4)) + (Int.tmod a0 4))))) else (none)) else (none))
set_option maxHeartbeats 8000000 in
set_option maxRecDepth 100000 in
theorem spec_bayer.calls (a0 : Int) (a1 : Int) (r : Int) (w : World) (h : spec_bayer.f a0 a1 = some r) :
  Calls Try.prog 60 #[.int .i64 a0, .int .i64 a1] w fun e w' => e = .returned (.int .i64 r) ∧ Below w.heap.size w w' := by
 have HB := aM (Below.refl w.heap.size w)
 unfold spec_bayer.f at h
 have H := h
 clear h
 obtain ⟨y338, hy338⟩ : ∃ y_ : List Int, y_ = (([0, 8, 2, 10, 12, 4, 14, 6, 3, 11, 1, 9, 15, 7, 13, 5] : List Int)) := ⟨_, rfl⟩
 replace H : (if 0 ≤ (wrap64 ((wrap64 ((Int.tmod a1 4) * 4)) + (Int.tmod a0 4))) then (if (wrap64 ((wrap64 ((Int.tmod a1 4) * 4)) + (Int.tmod a0 4))) < (y338.length : Int) then (some (rd y338 (wrap64 ((wrap64 ((Int.tmod a1 4) * 4)) + (Int.tmod a0 4))))) else (none)) else (none)) = some r := rY hy338 H
 have Ny338 := aM hy338
 clear hy338
 obtain ⟨ji3, hji3⟩ : ∃ j_ : Int, (wrap64 ((wrap64 ((Int.tmod a1 4) * 4)) + (Int.tmod a0 4))) = j_ := ⟨_, rfl⟩
 replace H : (if 0 ≤ (ji3) then (if (ji3) < (y338.length : Int) then (some (rd y338 (ji3))) else (none)) else (none)) = some r := by first | (rw [hji3] at H; exact H) | (simp only [hji3] at H ⊢; exact H)
 have hji3w : (IntKind.i64.wrap ((wrap64 ((Int.tmod a1 4) * 4)) + (Int.tmod a0 4))) = ji3 := (i64_w _).trans hji3
 replace H := iD H
 obtain ⟨c4b0, H⟩ := H
 replace H := iD H
 obtain ⟨c5b0, H⟩ := H
 obtain rfl := Option.some.inj H
 go_enter Try.func60, Try.ntmps60
 go_wp2_with (first | ((with_reducible refine gate_dst (N := 5) rfl ?_); refine iL ([0, 8, 2, 10, 12, 4, 14, 6, 3, 11, 1, 9, 15, 7, 13, 5] : List Int) [.int .i64 0, .int .i64 8, .int .i64 2, .int .i64 10, .int .i64 12, .int .i64 4, .int .i64 14, .int .i64 6, .int .i64 3, .int .i64 11, .int .i64 1, .int .i64 9, .int .i64 15, .int .i64 7, .int .i64 13, .int .i64 5] ?_; intro v339 w6 ho7 hb hg_ hnew_; clear hg_ hnew_; (first | rw [← Ny338.out] at ho7 | (simp only [Int.reduceToNat] at ho7; rw [← Ny338.out] at ho7)); have HO340 := oR ho7 HB; replace HB := bS HB hb; clear hb ho7; obtain ⟨Ao8, co8, rfl⟩ := sL HO340; have p341 : 0 ≤ ((ji3) : Int) := oD; have q341 : (ji3) < (y338.length : Int) := oD; obtain ⟨ad341, e341, hx341_0⟩ := Kd.at_int (Kd.R_reads' HO340.out).2.2 (ji3) p341 q341; cases e341; replace p341 := eq_true p341; replace q341 := eq_true q341))
 go_ret
 exact ⟨by first | rfl | (simp [errW_none, errW_some] <;> rfl) | (simp only [← hji3]; first | rfl | (simp [errW_none, errW_some] <;> rfl)) | (simp [*, errW_none, errW_some] <;> rfl), by exact qW HB.out⟩
mutual
def spec_OrderImage.j0 : Nat → Int → Bool → Int → Int → Int → List Int → Option (Int × Int × Int × List Int × Bool)
 | 0, _, _, _, _, _, _ => none
 | k + 1, x1, x22, x343000, x343001, x343002, x343003 => if x22 = true then (some (0, 0, 0, ([] : List Int), false)) else ((spec_copyImage.f x343000 x343001 x343002 x343003).bind fun bt346 => (spec_OrderImage.l0 k x1 0 x343000 x343001 x343002 x343003 bt346.1 bt346.2.1 bt346.2.2.1 bt346.2.2.2))
def spec_OrderImage.l0 : Nat → Int → Int → Int → Int → Int → List Int → Int → Int → Int → List Int → Option (Int × Int × Int × List Int × Bool)
 | 0, _, _, _, _, _, _, _, _, _, _ => none
 | k + 1, x1, x7, x343000, x343001, x343002, x343003, x353000, x353001, x353002, x353003 => if x7 < x343001 then (spec_OrderImage.l1 k x1 x7 0 x343000 x343001 x343002 x343003 x353000 x353001 x353002 x353003) else (some (x353000, x353001, x353002, x353003, true))
def spec_OrderImage.l1 : Nat → Int → Int → Int → Int → Int → Int → List Int → Int → Int → Int → List Int → Option (Int × Int × Int × List Int × Bool)
 | 0, _, _, _, _, _, _, _, _, _, _, _ => none
 | k + 1, x1, x7, x8, x343000, x343001, x343002, x343003, x353000, x353001, x353002, x353003 => if x8 < x343000 then (if 0 ≤ (wrap64 ((wrap64 (x7 * x343000)) + x8)) then (if (wrap64 ((wrap64 (x7 * x343000)) + x8)) < (x343003.length : Int) then ((spec_bayer.f x8 x7).bind fun t354 => ((spec_levelValue.f (wrap64 (Int.tdiv (wrap64 ((wrap64 ((wrap64 (16 * (rd x343003 (wrap64 ((wrap64 (x7 * x343000)) + x8))))) * (wrap64 (x1 - 1)))) + (wrap64 (255 * t354)))) 4080)) x1).bind fun t355 => (if (wrap64 ((wrap64 (x7 * x343000)) + x8)) < (x353003.length : Int) then (spec_OrderImage.l1 k x1 x7 (wrap64 (x8 + 1)) x343000 x343001 x343002 x343003 x353000 x353001 x353002 (x353003.set ((wrap64 ((wrap64 (x7 * x343000)) + x8)) : Int).toNat t355)) else (none)))) else (none)) else (none)) else (spec_OrderImage.l0 k x1 (wrap64 (x7 + 1)) x343000 x343001 x343002 x343003 x353000 x353001 x353002 x353003)
end
def spec_OrderImage.f (k : Nat) (a0_0 : Int) (a0_1 : Int) (a0_2 : Int) (l0_3 : List Int) (a1 : Int) : Option (Int × Int × Int × List Int × Bool) := (spec_validImage.f k a0_0 a0_1 a0_2 l0_3).bind fun t344 => (if t344 = true then (if a0_2 = 1 then ((spec_validLevels.f a1).bind fun t345 => (spec_OrderImage.j0 k a1 (!t345) a0_0 a0_1 a0_2 l0_3)) else (spec_OrderImage.j0 k a1 true a0_0 a0_1 a0_2 l0_3)) else (spec_OrderImage.j0 k a1 true a0_0 a0_1 a0_2 l0_3))
theorem spec_OrderImage.mono_l : ∀ k, (∀ y0 y1 y2 y3 y4 y5, LeO (spec_OrderImage.j0 k y0 y1 y2 y3 y4 y5) (spec_OrderImage.j0 (k + 1) y0 y1 y2 y3 y4 y5)) ∧ (∀ y0 y1 y2 y3 y4 y5 y6 y7 y8 y9, LeO (spec_OrderImage.l0 k y0 y1 y2 y3 y4 y5 y6 y7 y8 y9) (spec_OrderImage.l0 (k + 1) y0 y1 y2 y3 y4 y5 y6 y7 y8 y9)) ∧ (∀ y0 y1 y2 y3 y4 y5 y6 y7 y8 y9 y10, LeO (spec_OrderImage.l1 k y0 y1 y2 y3 y4 y5 y6 y7 y8 y9 y10) (spec_OrderImage.l1 (k + 1) y0 y1 y2 y3 y4 y5 y6 y7 y8 y9 y10))
 | 0 => ⟨fun _ _ _ _ _ _ r h => by simp [spec_OrderImage.j0] at h, fun _ _ _ _ _ _ _ _ _ _ r h => by simp [spec_OrderImage.l0] at h, fun _ _ _ _ _ _ _ _ _ _ _ r h => by simp [spec_OrderImage.l1] at h⟩
 | k + 1 => by
  obtain ⟨ih0, ih1, ih2⟩ := spec_OrderImage.mono_l k
  refine ⟨?_, ?_, ?_⟩
  all_goals intros
  all_goals first | unfold spec_OrderImage.j0 | unfold spec_OrderImage.l0 | unfold spec_OrderImage.l1
  all_goals repeat' first | (with_reducible first | exact ih0 _ _ _ _ _ _ | exact ih1 _ _ _ _ _ _ _ _ _ _ | exact ih2 _ _ _ _ _ _ _ _ _ _ _ | exact spec_validImage.mono _ _ _ _ _ | exact lR | exact lN | refine lI ?_ ?_ | refine lB ?_ fun _ => ?_) | exact ih0 _ _ _ _ _ _ | exact ih1 _ _ _ _ _ _ _ _ _ _ | exact ih2 _ _ _ _ _ _ _ _ _ _ _ | exact spec_validImage.mono _ _ _ _ _ | exact lN | refine lI ?_ ?_ | refine lB ?_ fun _ => ?_
theorem spec_OrderImage.mono : ∀ a0 a1 a2 a3 a4 k, LeO (spec_OrderImage.f k a0 a1 a2 a3 a4) (spec_OrderImage.f (k + 1) a0 a1 a2 a3 a4) := by
 intro a0 a1 a2 a3 a4 k
 obtain ⟨ih0, ih1, ih2⟩ := spec_OrderImage.mono_l k
 unfold spec_OrderImage.f
 repeat' first | (with_reducible first | exact ih0 _ _ _ _ _ _ | exact ih1 _ _ _ _ _ _ _ _ _ _ | exact ih2 _ _ _ _ _ _ _ _ _ _ _ | exact spec_validImage.mono _ _ _ _ _ | exact lR | exact lN | refine lI ?_ ?_ | refine lB ?_ fun _ => ?_) | exact ih0 _ _ _ _ _ _ | exact ih1 _ _ _ _ _ _ _ _ _ _ | exact ih2 _ _ _ _ _ _ _ _ _ _ _ | exact spec_validImage.mono _ _ _ _ _ | exact lN | refine lI ?_ ?_ | refine lB ?_ fun _ => ?_
def spec_OrderImage.T11 : Bool × List (List Nat × List Nat) := (true, [([], []), ([0], [0]), ([], []), ([], []), ([3], [3]), ([2, 4], [2, 4]), ([], []), ([5, 6], [5, 6]), ([], []), ([8], [8]), ([], []), ([10], [10]), ([9, 11], [9, 11]), ([], []), ([], []), ([13, 14], [13, 14]), ([15], [15]), ([12, 16], [12, 16]), ([17], [17]), ([], []), ([18, 19, 15], [18, 19]), ([1, 7, 0, 1, 2, 3, 4, 5, 6, 7, 8, 9, 10, 11, 12, 13, 14, 15, 16, 17, 18, 19, 20], [1, 7]), ([21, 20, 20, 0, 1, 2, 3, 4, 5, 6, 7, 8, 9, 10, 11, 12, 13, 14, 15, 16, 17, 18, 19, 20], [20, 21])])
def spec_OrderImage.B11 : List Nat := [0, 1, 0, 0, 8, 28, 0, 124, 0, 256, 0, 1024, 3840, 0, 0, 24576, 57344, 130816, 261888, 0, 1048320, 2097151, 4194303]
theorem spec_OrderImage.tab11 : rtab .any (opsOf Try.f19 11) = spec_OrderImage.T11 := by kernel_rfl
theorem spec_OrderImage.bits11 : waitsOk spec_OrderImage.T11.2 spec_OrderImage.B11 = true := by kernel_rfl
set_option maxHeartbeats 8000000 in
set_option maxRecDepth 100000 in
theorem spec_OrderImage.calls (k : Nat) (a0_0 : Int) (a0_1 : Int) (a0_2 : Int) (A0_3 : Option Addr) (c0_3 : Nat) (l0_3 : List Int) (a1 : Int) (r1 : Int) (r2 : Int) (r3 : Int) (r4 : List Int) (r5 : Bool) (w : World) (hr0_3 : Kd.C (Kd.int .i64) w A0_3 l0_3.length l0_3) (hc0_3 : l0_3.length ≤ c0_3) (h : spec_OrderImage.f k a0_0 a0_1 a0_2 l0_3 a1 = some (r1, r2, r3, r4, r5)) :
  Calls Try.prog 19 #[.agg #[.int .i64 a0_0, .int .i64 a0_1, .int .i64 a0_2, .slice A0_3 l0_3.length c0_3], .int .i64 a1] w fun e w' => ∃ v3_ : Value, e = .returned (.tuple #[.agg #[.int .i64 r1, .int .i64 r2, .int .i64 r3, v3_], .bool r5]) ∧ Kd.R (Kd.int .i64) 3 w' w.heap.size (fun _ => True) v3_ r4 ∧ Below w.heap.size w w' := by
 have hu27 := Try.underlying27
 have HR0_3 := aM hr0_3
 have HC0_3 := aM hc0_3
 clear hr0_3 hc0_3
 have HB := aM (Below.refl w.heap.size w)
 unfold spec_OrderImage.f at h
 have H := h
 clear h
 have HC3 := aM H
 clear H
 go_enter Try.func19, Try.ntmps19
 go_upto_region 1 with (first | ((with_reducible refine gate_dst (N := 2) rfl ?_); refine bxE (N := 2) (cs := #[.int .i64 a0_0, .int .i64 a0_1, .int .i64 a0_2, .slice A0_3 l0_3.length c0_3]) (t := 27) ?_; intro gb342 hg w4 hbox hb; have BK342 := aM (hbox); have GW342 := gW hg HB; have GE342 := gW hg HB; replace HB := bS HB hb; clear hb hbox hg) | ((with_reducible refine gate_dst (N := 4) rfl ?_); refine bxE (N := 4) (cs := #[.int .i64 0, .int .i64 0, .int .i64 0, .slice none 0 0]) (t := 27) ?_; intro gb343 hg w5 hbox hb; have BK343 := aM (hbox); have GW343 := gW hg HB; have GE343 := gW hg HB; replace HB := bS HB hb; have NB342_343 := nL hg BK342; have NB343_342 := nG hg BK342; replace BK342 := bB BK342 hb; clear hb hbox hg))
 (try simp only [Act.put, List.setIfInBounds_toArray, List.set_cons_zero, List.set_cons_succ])
 go_cut [22] (fun v22 wc => ∃ (kq : Nat) (x22_2 : Bool), v22 = .bool x22_2 ∧ Aside0 (spec_OrderImage.j0 kq a1 x22_2 a0_0 a0_1 a0_2 l0_3 = some (r1, r2, r3, r4, r5)) ∧ Aside0 (kq ≤ k) ∧ Aside0 (wc.heap[gb342]? = some (.cells #[.int .i64 a0_0, .int .i64 a0_1, .int .i64 a0_2, (.slice A0_3 l0_3.length c0_3)] 27 (0, 0))) ∧ Aside0 (wc.heap[gb343]? = some (.cells #[.int .i64 0, .int .i64 0, .int .i64 0, (.slice none 0 0)] 27 (0, 0))) ∧ Aside0 (Below w.heap.size w wc))
 case first =>
  have H := HC3.out
  clear HC3
  replace H := Option.bind_eq_some_iff.mp H
  obtain ⟨t344, A60, H⟩ := H
  replace H : (if t344 = true then (if a0_2 = 1 then ((spec_validLevels.f a1).bind fun t345 => (spec_OrderImage.j0 k a1 (!t345) a0_0 a0_1 a0_2 l0_3)) else (spec_OrderImage.j0 k a1 true a0_0 a0_1 a0_2 l0_3)) else (spec_OrderImage.j0 k a1 true a0_0 a0_1 a0_2 l0_3)) = some (r1, r2, r3, r4, r5) := H
  have A6 := aM A60
  clear A60
  by_cases c7 : t344 = true
  rotate_left
  ·replace c7 := Bool.eq_false_iff.mpr c7
   subst c7
   have H1 : (spec_OrderImage.j0 k a1 true a0_0 a0_1 a0_2 l0_3) = some (r1, r2, r3, r4, r5) := by rw [if_neg (show ¬ (false = true) by decide)] at H; exact H
   clear H
   have H := H1
   clear H1
   have H' := aM H
   clear H
   have hnb18 := NB342_343.out
   have hnc18 := NB343_342.out
   obtain ⟨⟨hcz19_0, hcz19_1, hcz19_2, hcz19_3⟩, hfz19_0, hfz19_1, hfz19_2, hfz19_3⟩ := cf4 BK342
   go_wp2_with (first | ((with_reducible refine gate_callee (f := 52) rfl ?_); refine gL (some 11) Try.func52 #[.agg #[.int .i64 a0_0, .int .i64 a0_1, .int .i64 a0_2, .slice A0_3 l0_3.length c0_3]] ?_; (with_reducible refine (spec_validImage.calls k a0_0 a0_1 a0_2 _ _ l0_3 false _ ?side1 ?side2 A6.out).mono ?_); (case side1 => exact qC (Kd.C_below HR0_3.out HB.out)); (case side2 => exact HC0_3.out); rintro e w20 ⟨rfl, hb⟩; refine ⟨_, rfl, ?_⟩; replace BK342 := bB BK342 hb; replace BK343 := bB BK343 hb; replace HB := bS HB hb; clear hb))
   go_meet
   case rel => exact ⟨_, (true), qE, H', ⟨by first | omega | exact Nat.le_refl _⟩, ⟨by refine qB ?_; exact BK342.out⟩, ⟨by refine qB ?_; exact BK343.out⟩, ⟨by exact qW HB.out⟩⟩
  subst c7
  have H1 : (if a0_2 = 1 then ((spec_validLevels.f a1).bind fun t345 => (spec_OrderImage.j0 k a1 (!t345) a0_0 a0_1 a0_2 l0_3)) else (spec_OrderImage.j0 k a1 true a0_0 a0_1 a0_2 l0_3)) = some (r1, r2, r3, r4, r5) := by rw [if_pos rfl] at H; exact H
  clear H
  have H := H1
  clear H1
  by_cases c8 : a0_2 = 1
  rotate_left
  ·rw [if_neg c8] at H
   have c8b0 : (a0_2 == 1) = false := beq_eq_false_iff_ne.mpr c8
   have c8b1 : (a0_2 != 1) = true := bne_iff_ne.mpr c8
   (first | rw [c8b0] | (simp only [i64_w, i32_w]; rw [c8b0]) | skip)
   have H' := aM H
   clear H
   have hnb14 := NB342_343.out
   have hnc14 := NB343_342.out
   obtain ⟨⟨hcz15_0, hcz15_1, hcz15_2, hcz15_3⟩, hfz15_0, hfz15_1, hfz15_2, hfz15_3⟩ := cf4 BK342
   go_wp2_with (first | ((with_reducible refine gate_callee (f := 52) rfl ?_); refine gL (some 11) Try.func52 #[.agg #[.int .i64 a0_0, .int .i64 a0_1, .int .i64 a0_2, .slice A0_3 l0_3.length c0_3]] ?_; (with_reducible refine (spec_validImage.calls k a0_0 a0_1 a0_2 _ _ l0_3 true _ ?side1 ?side2 A6.out).mono ?_); (case side1 => exact qC (Kd.C_below HR0_3.out HB.out)); (case side2 => exact HC0_3.out); rintro e w16 ⟨rfl, hb⟩; refine ⟨_, rfl, ?_⟩; replace BK342 := bB BK342 hb; replace BK343 := bB BK343 hb; replace HB := bS HB hb; clear hb; obtain ⟨⟨hcz17_0, hcz17_1, hcz17_2, hcz17_3⟩, hfz17_0, hfz17_1, hfz17_2, hfz17_3⟩ := cf4 BK342))
   go_meet
   case rel => exact ⟨_, (true), qE, H', ⟨by first | omega | exact Nat.le_refl _⟩, ⟨by refine qB ?_; exact BK342.out⟩, ⟨by refine qB ?_; exact BK343.out⟩, ⟨by exact qW HB.out⟩⟩
  rw [if_pos c8] at H
  have c8b0 : (a0_2 == 1) = true := beq_iff_eq.mpr c8
  have c8b1 : (a0_2 != 1) = false := bne_eq_false_iff_eq.mpr c8
  clear c8
  (first | rw [c8b0] | (simp only [i64_w, i32_w]; rw [c8b0]) | skip)
  replace H := Option.bind_eq_some_iff.mp H
  obtain ⟨t345, A90, H⟩ := H
  replace H : (spec_OrderImage.j0 k a1 (!t345) a0_0 a0_1 a0_2 l0_3) = some (r1, r2, r3, r4, r5) := H
  have A9 := aM A90
  clear A90
  have H' := aM H
  clear H
  have hnb10 := NB342_343.out
  have hnc10 := NB343_342.out
  obtain ⟨⟨hcz11_0, hcz11_1, hcz11_2, hcz11_3⟩, hfz11_0, hfz11_1, hfz11_2, hfz11_3⟩ := cf4 BK342
  go_wp2_with (first | ((with_reducible refine gate_callee (f := 52) rfl ?_); refine gL (some 11) Try.func52 #[.agg #[.int .i64 a0_0, .int .i64 a0_1, .int .i64 a0_2, .slice A0_3 l0_3.length c0_3]] ?_; (with_reducible refine (spec_validImage.calls k a0_0 a0_1 a0_2 _ _ l0_3 true _ ?side1 ?side2 A6.out).mono ?_); (case side1 => exact qC (Kd.C_below HR0_3.out HB.out)); (case side2 => exact HC0_3.out); rintro e w12 ⟨rfl, hb⟩; refine ⟨_, rfl, ?_⟩; replace BK342 := bB BK342 hb; replace BK343 := bB BK343 hb; replace HB := bS HB hb; clear hb; obtain ⟨⟨hcz13_0, hcz13_1, hcz13_2, hcz13_3⟩, hfz13_0, hfz13_1, hfz13_2, hfz13_3⟩ := cf4 BK342) | (go_at_call 57; (with_reducible refine (spec_validLevels.calls a1 t345 _ A9.out).mono ?_); rintro e w' ⟨rfl, ⟨nd, rfl⟩⟩))
  go_meet
  case rel => exact ⟨_, (!t345), qE, H', ⟨by first | omega | exact Nat.le_refl _⟩, ⟨by refine qB ?_; exact BK342.out⟩, ⟨by refine qB ?_; exact BK343.out⟩, ⟨by exact qW HB.out⟩⟩
 case rest =>
  clear HC3
  try clear c7
  try clear c8
  try clear c8b0
  try clear c8b1
  try clear hcz11_0 hcz11_1 hcz11_2 hcz11_3 hfz11_0 hfz11_1 hfz11_2 hfz11_3
  try clear hcz13_0 hcz13_1 hcz13_2 hcz13_3 hfz13_0 hfz13_1 hfz13_2 hfz13_3
  try clear hcz15_0 hcz15_1 hcz15_2 hcz15_3 hfz15_0 hfz15_1 hfz15_2 hfz15_3
  try clear hcz17_0 hcz17_1 hcz17_2 hcz17_3 hfz17_0 hfz17_1 hfz17_2 hfz17_3
  try clear hcz19_0 hcz19_1 hcz19_2 hcz19_3 hfz19_0 hfz19_1 hfz19_2 hfz19_3
  obtain ⟨kq, x22_2, rfl, HA, HJ2, BK342, BK343, HB⟩ := hcut
  cases kq with
  | zero => exact absurd HA.out (by simp [spec_OrderImage.j0])
  | succ kj2 =>
   have H := HA.out
   clear HA
   simp only [spec_OrderImage.j0] at H
   by_cases c21 : x22_2 = true
   ·subst c21
    have H1 : (some (0, 0, 0, ([] : List Int), false)) = some (r1, r2, r3, r4, r5) := by rw [if_pos rfl] at H; exact H
    clear H
    have H := H1
    clear H1
    simp only [Option.some.injEq, Prod.mk.injEq] at H
    obtain ⟨rfl, rfl, rfl, rfl, rfl⟩ := H
    have hnb22 := NB343_342.out
    have hnc22 := NB342_343.out
    obtain ⟨⟨hcz23_0, hcz23_1, hcz23_2, hcz23_3⟩, hfz23_0, hfz23_1, hfz23_2, hfz23_3⟩ := cf4 BK343
    go_wp2
    refine bodyPost_ret (results_ct rfl _ _ gb343 27 #[.int .i64 0, .int .i64 0, .int .i64 0, .slice none 0 0] (0, 0) _ rfl (by exact bP BK343.out) Try.underlying27 rfl (by kernel_rfl)) rfl ?_
    exact ⟨_, qX, qN, by exact qW HB.out⟩
   replace c21 := Bool.eq_false_iff.mpr c21
   subst c21
   have H1 : ((spec_copyImage.f a0_0 a0_1 a0_2 l0_3).bind fun bt346 => (spec_OrderImage.l0 kj2 a1 0 a0_0 a0_1 a0_2 l0_3 bt346.1 bt346.2.1 bt346.2.2.1 bt346.2.2.2)) = some (r1, r2, r3, r4, r5) := by rw [if_neg (show ¬ (false = true) by decide)] at H; exact H
   clear H
   have H := H1
   clear H1
   replace H := Option.bind_eq_some_iff.mp H
   obtain ⟨⟨t346, t347, t348, t349⟩, A240, H⟩ := H
   replace H : (spec_OrderImage.l0 kj2 a1 0 a0_0 a0_1 a0_2 l0_3 t346 t347 t348 t349) = some (r1, r2, r3, r4, r5) := H
   have A24 := aM A240
   clear A240
   have H' := aM H
   clear H
   have hnb25 := NB342_343.out
   have hnc25 := NB343_342.out
   obtain ⟨⟨hcz26_0, hcz26_1, hcz26_2, hcz26_3⟩, hfz26_0, hfz26_1, hfz26_2, hfz26_3⟩ := cf4 BK342
   go_wp2_with (first | ((with_reducible refine gate_callee (f := 58) rfl ?_); refine gL (some 25) Try.func58 #[.agg #[.int .i64 a0_0, .int .i64 a0_1, .int .i64 a0_2, .slice A0_3 l0_3.length c0_3]] ?_; (with_reducible refine (spec_copyImage.calls a0_0 a0_1 a0_2 _ _ l0_3 t346 t347 t348 t349 _ ?side1 ?side2 A24.out).mono ?_); (case side1 => exact qC (Kd.C_below HR0_3.out HB.out)); (case side2 => exact HC0_3.out); rintro e w27 ⟨v350, rfl, ho0, hb⟩; refine ⟨_, rfl, ?_⟩; have HO351 := oR ho0 HB; replace BK342 := bB BK342 hb; replace BK343 := bB BK343 hb; replace HB := bS HB hb; clear hb ho0) | ((with_reducible refine gate_dst (N := 6) rfl ?_); refine bxE (N := 6) (cs := #[.int .i64 0, .int .i64 0, .int .i64 0, .slice none 0 0]) (t := 27) ?_; intro gb352 hg w28 hbox hb; replace HO351 := aM (Kd.R_below (qR HO351.out) hb); have BK352 := aM (hbox); have GW352 := gW hg HB; have GE352 := gW hg HB; replace HB := bS HB hb; have NB342_352 := nL hg BK342; have NB352_342 := nG hg BK342; replace BK342 := bB BK342 hb; have NB343_352 := nL hg BK343; have NB352_343 := nG hg BK343; replace BK343 := bB BK343 hb; clear hb hbox hg; have hnb29 := NB352_342.out; have hnc29 := NB342_352.out; have hnb30 := NB352_343.out; have hnc30 := NB343_352.out; obtain ⟨⟨hcz31_0, hcz31_1, hcz31_2, hcz31_3⟩, hfz31_0, hfz31_1, hfz31_2, hfz31_3⟩ := cf4 BK352; obtain ⟨Ao32, co32, rfl⟩ := sL HO351))
   go_loopg [7] kj2 (fun kq v7 w' => ∃ (x7_2 : Int) (x353003_2 : List Int) (u353003 : Value), v7 = .int .i64 x7_2 ∧ Aside0 (spec_OrderImage.l0 kq a1 x7_2 a0_0 a0_1 a0_2 l0_3 t346 t347 t348 x353003_2 = some (r1, r2, r3, r4, r5)) ∧ Aside0 (kq ≤ kj2) ∧ Aside0 (Kd.R (Kd.int .i64) 3 w' w.heap.size (fun _ => True) u353003 x353003_2) ∧ Aside0 (w'.heap[gb342]? = some (.cells #[.int .i64 a0_0, .int .i64 a0_1, .int .i64 a0_2, (.slice A0_3 l0_3.length c0_3)] 27 (0, 0))) ∧ Aside0 (w'.heap[gb343]? = some (.cells #[.int .i64 0, .int .i64 0, .int .i64 0, (.slice none 0 0)] 27 (0, 0))) ∧ Aside0 (w'.heap[gb352]? = some (.cells #[.int .i64 t346, .int .i64 t347, .int .i64 t348, u353003] 27 (0, 0))) ∧ Aside0 (Below w.heap.size w w'))
   case atStart => exact ⟨(0), (t349), (.slice Ao32 t349.length co32), qE, H', ⟨Nat.le_refl _⟩, ⟨by refine qR ?_; exact Kd.R_mono (rT HO351 BK352) (fun _ hk => trivial)⟩, ⟨by refine qB ?_; refine blk_far ?_ NB342_352.out _; refine qB ?_; refine blk_far ?_ NB342_352.out _; refine qB ?_; refine blk_far ?_ NB342_352.out _; refine qB ?_; refine blk_far ?_ NB342_352.out _; refine qB ?_; exact BK342.out⟩, ⟨by refine qB ?_; refine blk_far ?_ NB343_352.out _; refine qB ?_; refine blk_far ?_ NB343_352.out _; refine qB ?_; refine blk_far ?_ NB343_352.out _; refine qB ?_; refine blk_far ?_ NB343_352.out _; refine qB ?_; exact BK343.out⟩, ⟨by exact bP BK352.out⟩, ⟨by exact qW HB.out⟩⟩
   case round =>
    clear H'
    try clear c7
    try clear c8
    try clear c8b0
    try clear c8b1
    try clear c21
    try clear hcz11_0 hcz11_1 hcz11_2 hcz11_3 hfz11_0 hfz11_1 hfz11_2 hfz11_3
    try clear hcz13_0 hcz13_1 hcz13_2 hcz13_3 hfz13_0 hfz13_1 hfz13_2 hfz13_3
    try clear hcz15_0 hcz15_1 hcz15_2 hcz15_3 hfz15_0 hfz15_1 hfz15_2 hfz15_3
    try clear hcz17_0 hcz17_1 hcz17_2 hcz17_3 hfz17_0 hfz17_1 hfz17_2 hfz17_3
    try clear hcz19_0 hcz19_1 hcz19_2 hcz19_3 hfz19_0 hfz19_1 hfz19_2 hfz19_3
    try clear hcz23_0 hcz23_1 hcz23_2 hcz23_3 hfz23_0 hfz23_1 hfz23_2 hfz23_3
    try clear hcz26_0 hcz26_1 hcz26_2 hcz26_3 hfz26_0 hfz26_1 hfz26_2 hfz26_3
    try clear hcz31_0 hcz31_1 hcz31_2 hcz31_3 hfz31_0 hfz31_1 hfz31_2 hfz31_3
    obtain ⟨x7_2, x353003_2, u353003, rfl, HA, HK2, HO_353003, BK342, BK343, BK352, HB⟩ := hrel
    cases gk with
    | zero => exact absurd HA.out (by simp [spec_OrderImage.l0])
    | succ k2 =>
     have H := HA.out
     clear HA
     simp only [spec_OrderImage.l0] at H
     by_cases c33 : x7_2 < a0_1
     rotate_left
     ·rw [if_neg c33] at H
      have c33b0 : decide (x7_2 < a0_1) = false := decide_eq_false c33
      clear c33
      simp only [Option.some.injEq, Prod.mk.injEq] at H
      obtain ⟨rfl, rfl, rfl, rfl, rfl⟩ := H
      have hnb54 := NB342_343.out
      have hnc54 := NB343_342.out
      have hnb55 := NB342_352.out
      have hnc55 := NB352_342.out
      obtain ⟨⟨hcz56_0, hcz56_1, hcz56_2, hcz56_3⟩, hfz56_0, hfz56_1, hfz56_2, hfz56_3⟩ := cf4 BK342
      have hnb57 := NB352_343.out
      have hnc57 := NB343_352.out
      obtain ⟨⟨hcz58_0, hcz58_1, hcz58_2, hcz58_3⟩, hfz58_0, hfz58_1, hfz58_2, hfz58_3⟩ := cf4 BK352
      obtain ⟨⟨hcz59_0, hcz59_1, hcz59_2, hcz59_3⟩, hfz59_0, hfz59_1, hfz59_2, hfz59_3⟩ := cf4 BK343
      obtain ⟨Ao60, co60, rfl⟩ := sL HO_353003
      go_wp2
      refine bodyPost_ret (results_ct rfl _ _ gb343 27 #[.int .i64 t346, .int .i64 t347, .int .i64 t348, .slice Ao60 x353003_2.length co60] (0, 0) _ rfl (by exact bP BK343.out) Try.underlying27 rfl (by kernel_rfl)) rfl ?_
      exact ⟨_, qX, by refine qR ?_; exact Kd.R_mono (rT HO_353003 BK343) (fun _ hk => trivial), by exact qW HB.out⟩
     rw [if_pos c33] at H
     have c33b0 : decide (x7_2 < a0_1) = true := decide_eq_true c33
     clear c33
     have H' := aM H
     clear H
     have hnb34 := NB342_343.out
     have hnc34 := NB343_342.out
     have hnb35 := NB342_352.out
     have hnc35 := NB352_342.out
     obtain ⟨⟨hcz36_0, hcz36_1, hcz36_2, hcz36_3⟩, hfz36_0, hfz36_1, hfz36_2, hfz36_3⟩ := cf4 BK342
     go_wp2
     go_loopg [8] k2 (fun kq v8 w' => ∃ (x8_3 : Int) (x353003_3 : List Int) (u353003 : Value), v8 = .int .i64 x8_3 ∧ Aside0 (spec_OrderImage.l1 kq a1 x7_2 x8_3 a0_0 a0_1 a0_2 l0_3 t346 t347 t348 x353003_3 = some (r1, r2, r3, r4, r5)) ∧ Aside0 (kq ≤ k2) ∧ Aside0 (Kd.R (Kd.int .i64) 3 w' w.heap.size (fun _ => True) u353003 x353003_3) ∧ Aside0 (w'.heap[gb342]? = some (.cells #[.int .i64 a0_0, .int .i64 a0_1, .int .i64 a0_2, (.slice A0_3 l0_3.length c0_3)] 27 (0, 0))) ∧ Aside0 (w'.heap[gb343]? = some (.cells #[.int .i64 0, .int .i64 0, .int .i64 0, (.slice none 0 0)] 27 (0, 0))) ∧ Aside0 (w'.heap[gb352]? = some (.cells #[.int .i64 t346, .int .i64 t347, .int .i64 t348, u353003] 27 (0, 0))) ∧ Aside0 (Below w.heap.size w w'))
     case atStart => exact ⟨(0), (x353003_2), (u353003), qE, H', ⟨Nat.le_refl _⟩, ⟨by refine qR ?_; exact HO_353003.out⟩, ⟨by refine qB ?_; exact BK342.out⟩, ⟨by refine qB ?_; exact BK343.out⟩, ⟨by refine qB ?_; exact BK352.out⟩, ⟨by exact qW HB.out⟩⟩
     case round =>
      clear H'
      try clear c7
      try clear c8
      try clear c8b0
      try clear c8b1
      try clear c21
      try clear c33
      try clear c33b0
      try clear hcz11_0 hcz11_1 hcz11_2 hcz11_3 hfz11_0 hfz11_1 hfz11_2 hfz11_3
      try clear hcz13_0 hcz13_1 hcz13_2 hcz13_3 hfz13_0 hfz13_1 hfz13_2 hfz13_3
      try clear hcz15_0 hcz15_1 hcz15_2 hcz15_3 hfz15_0 hfz15_1 hfz15_2 hfz15_3
      try clear hcz17_0 hcz17_1 hcz17_2 hcz17_3 hfz17_0 hfz17_1 hfz17_2 hfz17_3
      try clear hcz19_0 hcz19_1 hcz19_2 hcz19_3 hfz19_0 hfz19_1 hfz19_2 hfz19_3
      try clear hcz23_0 hcz23_1 hcz23_2 hcz23_3 hfz23_0 hfz23_1 hfz23_2 hfz23_3
      try clear hcz26_0 hcz26_1 hcz26_2 hcz26_3 hfz26_0 hfz26_1 hfz26_2 hfz26_3
      try clear hcz31_0 hcz31_1 hcz31_2 hcz31_3 hfz31_0 hfz31_1 hfz31_2 hfz31_3
      try clear hcz36_0 hcz36_1 hcz36_2 hcz36_3 hfz36_0 hfz36_1 hfz36_2 hfz36_3
      obtain ⟨x8_3, x353003_3, u353003, rfl, HA, HK3, HO_353003, BK342, BK343, BK352, HB⟩ := hrel
      cases gk with
      | zero => exact absurd HA.out (by simp [spec_OrderImage.l1])
      | succ k3 =>
       have H := HA.out
       clear HA
       simp only [spec_OrderImage.l1] at H
       by_cases c37 : x8_3 < a0_0
       rotate_left
       ·rw [if_neg c37] at H
        have c37b0 : decide (x8_3 < a0_0) = false := decide_eq_false c37
        clear c37
        have H' := aM H
        clear H
        have hnb51 := NB342_343.out
        have hnc51 := NB343_342.out
        have hnb52 := NB342_352.out
        have hnc52 := NB352_342.out
        obtain ⟨⟨hcz53_0, hcz53_1, hcz53_2, hcz53_3⟩, hfz53_0, hfz53_1, hfz53_2, hfz53_3⟩ := cf4 BK342
        go_wp2
        go_roundg k3
        case measure => have := HJ2.out; have := HK2.out; have := HK3.out; omega
        case rel => exact ⟨(wrap64 (x7_2 + 1)), (x353003_3), (u353003), qE, H', ⟨by have := HJ2.out; have := HK2.out; have := HK3.out; omega⟩, ⟨by refine qR ?_; exact HO_353003.out⟩, ⟨by refine qB ?_; exact BK342.out⟩, ⟨by refine qB ?_; exact BK343.out⟩, ⟨by refine qB ?_; exact BK352.out⟩, ⟨by exact qW HB.out⟩⟩
       rw [if_pos c37] at H
       have c37b0 : decide (x8_3 < a0_0) = true := decide_eq_true c37
       clear c37
       obtain ⟨ji38, hji38⟩ : ∃ j_ : Int, (wrap64 ((wrap64 (x7_2 * a0_0)) + x8_3)) = j_ := ⟨_, rfl⟩
       replace H : (if 0 ≤ (ji38) then (if (ji38) < (l0_3.length : Int) then ((spec_bayer.f x8_3 x7_2).bind fun t354 => ((spec_levelValue.f (wrap64 (Int.tdiv (wrap64 ((wrap64 ((wrap64 (16 * (rd l0_3 (ji38)))) * (wrap64 (a1 - 1)))) + (wrap64 (255 * t354)))) 4080)) a1).bind fun t355 => (if (ji38) < (x353003_3.length : Int) then (spec_OrderImage.l1 k3 a1 x7_2 (wrap64 (x8_3 + 1)) a0_0 a0_1 a0_2 l0_3 t346 t347 t348 (x353003_3.set ((ji38) : Int).toNat t355)) else (none)))) else (none)) else (none)) = some (r1, r2, r3, r4, r5) := by first | (rw [hji38] at H; exact H) | (simp only [hji38] at H ⊢; exact H)
       have hji38w : (IntKind.i64.wrap ((wrap64 (x7_2 * a0_0)) + x8_3)) = ji38 := (i64_w _).trans hji38
       replace H := iD H
       obtain ⟨c39b0, H⟩ := H
       replace H := iD H
       obtain ⟨c40b0, H⟩ := H
       replace H := Option.bind_eq_some_iff.mp H
       obtain ⟨t354, A410, H⟩ := H
       replace H : ((spec_levelValue.f (wrap64 (Int.tdiv (wrap64 ((wrap64 ((wrap64 (16 * (rd l0_3 (ji38)))) * (wrap64 (a1 - 1)))) + (wrap64 (255 * t354)))) 4080)) a1).bind fun t355 => (if (ji38) < (x353003_3.length : Int) then (spec_OrderImage.l1 k3 a1 x7_2 (wrap64 (x8_3 + 1)) a0_0 a0_1 a0_2 l0_3 t346 t347 t348 (x353003_3.set ((ji38) : Int).toNat t355)) else (none))) = some (r1, r2, r3, r4, r5) := H
       have A41 := aM A410
       clear A410
       replace H := Option.bind_eq_some_iff.mp H
       obtain ⟨t355, A420, H⟩ := H
       replace H : (if (ji38) < (x353003_3.length : Int) then (spec_OrderImage.l1 k3 a1 x7_2 (wrap64 (x8_3 + 1)) a0_0 a0_1 a0_2 l0_3 t346 t347 t348 (x353003_3.set ((ji38) : Int).toNat t355)) else (none)) = some (r1, r2, r3, r4, r5) := H
       have A42 := aM A420
       clear A420
       replace H := iD H
       obtain ⟨c43b0, H⟩ := H
       obtain ⟨y356, hy356⟩ : ∃ y_ : List Int, y_ = (x353003_3.set ((ji38) : Int).toNat t355) := ⟨_, rfl⟩
       replace H : (spec_OrderImage.l1 k3 a1 x7_2 (wrap64 (x8_3 + 1)) a0_0 a0_1 a0_2 l0_3 t346 t347 t348 y356) = some (r1, r2, r3, r4, r5) := rY hy356 H
       have Ny356 := aM hy356
       clear hy356
       have H' := aM H
       clear H
       have hnb45 := NB342_343.out
       have hnc45 := NB343_342.out
       have hnb46 := NB342_352.out
       have hnc46 := NB352_342.out
       obtain ⟨⟨hcz47_0, hcz47_1, hcz47_2, hcz47_3⟩, hfz47_0, hfz47_1, hfz47_2, hfz47_3⟩ := cf4 BK342
       obtain ⟨ad353, e353, hx353_0⟩ := Kd.at_int HR0_3.out (ji38) oD oD
       cases e353
       replace hx353_0 := bD HB hx353_0
       have p353 := eq_true (oD : 0 ≤ ((ji38) : Int))
       have q353 := eq_true (oD : (ji38) < (l0_3.length : Int))
       try go_wp2
       replace HO_353003 := aM (Kd.R_drew HO_353003.out)
       replace BK342 := aM (blk_drew BK342.out)
       replace BK343 := aM (blk_drew BK343.out)
       replace BK352 := aM (blk_drew BK352.out)
       replace HB := aM (below_drew1 HB.out)
       refine start_ (n := 23) (S := fun w' => w'.cell? ⟨gb352, 0, none⟩ = some (.int .i64 t346) ∧ w'.cell? ⟨gb352, 1, none⟩ = some (.int .i64 t347) ∧ w'.cell? ⟨gb352, 2, none⟩ = some (.int .i64 t348) ∧ w'.cell? ⟨gb352, 3, none⟩ = some (u353003) ∧ w'.cell? ⟨gb342, 0, none⟩ = some (.int .i64 a0_0) ∧ w'.cell? ⟨gb342, 1, none⟩ = some (.int .i64 a0_1) ∧ w'.cell? ⟨gb342, 2, none⟩ = some (.int .i64 a0_2) ∧ w'.cell? ⟨gb342, 3, none⟩ = some (.slice (some ad353) l0_3.length c0_3)) (ds := [22]) (bA 23 0) (by kernel_rfl) rfl rfl ⟨(blk_cell BK352.out 0).trans rfl, (blk_cell BK352.out 1).trans rfl, (blk_cell BK352.out 2).trans rfl, (blk_cell BK352.out 3).trans rfl, (blk_cell BK342.out 0).trans rfl, (blk_cell BK342.out 1).trans rfl, (blk_cell BK342.out 2).trans rfl, (blk_cell BK342.out 3).trans rfl⟩ (fun hHeld => ?_); refine with_tabW spec_OrderImage.tab11 spec_OrderImage.bits11 (fun HT_ HW_ => ?_)
       generalize wr.drew = w48 at HO_353003 BK342 BK343 BK352 HB hHeld ⊢
       refine pQ 0 48 HT_ (bA 23 1) ?_
       refine pQ 2 50 HT_ (bA 23 5) ?_
       refine pQ 3 51 HT_ (bA 23 13) ?_
       refine pQ 6 54 HT_ (bA 23 77) ?_
       refine pQ 8 56 HT_ (bA 23 333) ?_
       refine pQ 9 57 HT_ (bA 23 845) ?_
       refine pQ 10 58 HT_ (bA 23 1869) ?_
       refine pQ 11 59 HT_ (bA 23 3917) ?_
       refine pQ 12 60 HT_ (bA 23 8013) ?_
       refine pQ 13 61 HT_ (bA 23 16205) ?_
       refine pQ 14 62 HT_ (bA 23 32589) ?_
       refine pQ 19 67 HT_ (bA 23 556877) ?_
       refine take_ (i := 1) (N := some 49) (v := ?_) (a' := ?_) (bA 23 556879) rfl rfl (take_ofW HT_.out HW_.out (by kernel_rfl)) (fun _ _ _ h => h) (Or.inl ⟨by rfl, ?_⟩) hHeld ?_ ?_
       rotate_left
       ·rintro w' ⟨s0, s1, s2, s3, s4, s5, s6, s7⟩
        go_simp
        with_reducible rfl
       rotate_left
       ·refine pZ ?_
        rfl
       refine take_ (i := 4) (N := some 52) (v := ?_) (a' := ?_) (bA 23 556895) rfl rfl (take_ofW HT_.out HW_.out (by kernel_rfl)) (fun _ _ _ h => h) (Or.inl ⟨by rfl, ?_⟩) hHeld ?_ ?_
       rotate_left
       ·rintro w' ⟨s0, s1, s2, s3, s4, s5, s6, s7⟩
        go_simp
        with_reducible rfl
       rotate_left
       ·refine pZ ?_
        rfl
       refine pQ 5 53 HT_ (bA 23 556927) ?_
       refine pQ 7 55 HT_ (bA 23 557055) ?_
       refine one_ (i := 15) (N := some 63) (bA 23 589823) rfl rfl (one_of HT_.out (by kernel_rfl)) (by decide) (fun K hK => ?_)
       refine goes_ Try.func60 (by kernel_rfl) rfl #[.int .i64 x8_3, .int .i64 x7_2] (by rfl) rfl rfl qM ?_
       with_reducible refine (spec_bayer.calls x8_3 x7_2 t354 _ A41.out).mono ?_
       rintro e w49 ⟨rfl, hb⟩
       refine ⟨_, rfl, ?_⟩
       replace HO_353003 := aM (Kd.R_below (qR HO_353003.out) hb)
       replace BK342 := bB BK342 hb
       replace BK343 := bB BK343 hb
       replace BK352 := bB BK352 hb
       replace HB := bS HB hb
       (try clear hb)
       (try clear hb2)
       (try clear hk)
       (try clear hi)
       refine hK.out _ _ ⟨(blk_cell BK352.out 0).trans rfl, (blk_cell BK352.out 1).trans rfl, (blk_cell BK352.out 2).trans rfl, (blk_cell BK352.out 3).trans rfl, (blk_cell BK342.out 0).trans rfl, (blk_cell BK342.out 1).trans rfl, (blk_cell BK342.out 2).trans rfl, (blk_cell BK342.out 3).trans rfl⟩ (fun hHeld => ?_)
       clear hK K
       refine norm_ (a' := ?_) ?_ ?_
       rotate_left
       ·show Act.put _ (some 63) _ = _
        refine pZ ?_
        rfl
       refine pQ 16 64 HT_ (bA 23 655359) ?_
       refine pQ 17 65 HT_ (bA 23 786431) ?_
       refine pQ 18 66 HT_ (bA 23 1048575) ?_
       refine one_ (i := 20) (N := some 68) (bA 23 2097151) rfl rfl (one_of HT_.out (by kernel_rfl)) (by decide) (fun K hK => ?_)
       refine goes_ Try.func59 (by kernel_rfl) rfl #[.int .i64 (wrap64 (Int.tdiv (wrap64 ((wrap64 ((wrap64 (16 * (rd l0_3 (ji38)))) * (wrap64 (a1 - 1)))) + (wrap64 (255 * t354)))) 4080)), .int .i64 a1] (by rfl) rfl rfl (by (try simp only [List.map_toArray, List.map_cons, List.map_nil]); first | done | (simp only [hji38]; rfl) | rfl | (simp only [List.length_drop, List.length_take]; rfl)) ?_
       with_reducible refine (spec_levelValue.calls (wrap64 (Int.tdiv (wrap64 ((wrap64 ((wrap64 (16 * (rd l0_3 (ji38)))) * (wrap64 (a1 - 1)))) + (wrap64 (255 * t354)))) 4080)) a1 t355 _ A42.out).mono ?_
       rintro e w' ⟨rfl, ⟨nd, rfl⟩⟩
       refine ⟨_, rfl, ?_⟩
       have p44 : 0 ≤ ((ji38) : Int) := oD
       have q44 : ((ji38) : Int) < ((x353003_3.length : Int) : Int) := oD
       obtain ⟨go44, co44, eo44, gb44, gl44, cl44, HG44⟩ := Kd.R_form HO_353003.out (by omega)
       (first | cases eo44 | (injection eo44 with ea_ en_ ec_; (first | subst ea_ | (injection ea_ with ea_; subst ea_)); subst ec_; clear en_))
       have GB44 := aM gb44
       have GG44 := aM HG44
       clear gb44 gl44 HG44
       obtain ⟨hx44_0, hf44_0⟩ := Kd.R_celln 0 HO_353003.out ((ji38) : Int) p44 q44
       replace p44 := eq_true p44
       replace q44 := eq_true q44
       have HP50 := Kd.R_putn HO_353003.out ((ji38) : Int) t355
       rw [← Ny356.out] at HP50
       have HQ50 := aM HP50
       clear HP50
       refine hK.out _ _ ⟨(blk_cell BK352.out 0).trans rfl, (blk_cell BK352.out 1).trans rfl, (blk_cell BK352.out 2).trans rfl, (blk_cell BK352.out 3).trans rfl, (blk_cell BK342.out 0).trans rfl, (blk_cell BK342.out 1).trans rfl, (blk_cell BK342.out 2).trans rfl, (blk_cell BK342.out 3).trans rfl⟩ (fun hHeld => ?_)
       clear hK K
       refine norm_ (a' := ?_) ?_ ?_
       rotate_left
       ·show Act.put _ (some 68) _ = _
        refine pZ ?_
        rfl
       refine pQ 21 69 HT_ (bA 23 4194303) ?_
       refine last_ (i := 22) (N := none) (bA 23 8388607) rfl rfl (one_of HT_.out (by kernel_rfl)) (by decide) (fun K hK => ?_)
       refine skip_ (w1 := ?_) (by rfl) rfl ?_ ?_
       rotate_left
       ·go_simp
        rfl
       refine hK.out _ _ ?_
       clear hK K
       refine done_ (done_of HT_.out (by kernel_rfl)) ?_
       try go_wp2
       go_roundg k3
       case measure => have := HJ2.out; have := HK2.out; have := HK3.out; omega
       case rel => exact ⟨(wrap64 (x8_3 + 1)), (y356), (.slice (some ⟨go44, 0, none⟩) x353003_3.length co44), qE, H', ⟨by have := HJ2.out; have := HK2.out; have := HK3.out; omega⟩, ⟨by refine qR ?_; exact HQ50.out⟩, ⟨by refine qB ?_; refine blk_far ?_ (by have h_ := Kd.R_ne HO_353003.out BK342.out (by decide); intro e_; exact h_ (by rw [e_]; rfl)) _; refine qB ?_; exact BK342.out⟩, ⟨by refine qB ?_; refine blk_far ?_ (by have h_ := Kd.R_ne HO_353003.out BK343.out (by decide); intro e_; exact h_ (by rw [e_]; rfl)) _; refine qB ?_; exact BK343.out⟩, ⟨by refine qB ?_; refine blk_far ?_ (by have h_ := Kd.R_ne HO_353003.out BK352.out (by decide); intro e_; exact h_ (by rw [e_]; rfl)) _; refine qB ?_; exact BK352.out⟩, ⟨by exact qW HB.out⟩⟩
end Go.Proofs.Yteeeedmmcdlhjaa.P
