/- Contracts and row, written by a program of this place out of the translation: the call answers true and its argument reads as before, for every input; no condition. -/
import Derived.Test.YteeeedmmcdlhjaaK0
import Derived.Test.YteeeedmmcdlhjaaK1
import Derived.Test.YteeeedmmcdlhjaaK2
namespace Go.Proofs.Yteeeedmmcdlhjaa.P
open Go.RowKit Go.Proofs.YteeeedmmcdlhjaaW.PrintWords Go.Proofs.YteeeedmmcdlhjaaW.PrintLast Go.Proofs.YteeeedmmcdlhjaaW.PrintMore
attribute [local go_sem] max2_int min2_int max_two min_two max_three min_three max_four min_four   -- for this text's walks alone
set_option linter.unusedVariables false
set_option linter.unusedSimpArgs false
def dfPix (k : Nat) (a b lv : Int) (x y : Nat) (d : List Int) : Option (List Int) := (impl_levelOf.f k (rd d ((y : Int) * a + x)) lv).bind fun t => (impl_valueOf.f t lv).bind fun v => (impl_floorDiv.f (wrap64 (7 * wrap64 (rd d ((y : Int) * a + x) - v))) 16).bind fun p => (impl_floorDiv.f (wrap64 (3 * wrap64 (rd d ((y : Int) * a + x) - v))) 16).bind fun q => (impl_floorDiv.f (wrap64 (5 * wrap64 (rd d ((y : Int) * a + x) - v))) 16).bind fun s =>
 some (dfGive a b ((x : Int) + 1) ((y : Int) + 1) (wrap64 (wrap64 (wrap64 (wrap64 (rd d ((y : Int) * a + x) - v) - p) - q) - s)) (dfGive a b (x : Int) ((y : Int) + 1) s (dfGive a b ((x : Int) - 1) ((y : Int) + 1) q (dfGive a b ((x : Int) + 1) (y : Int) p (d.set ((y : Int) * a + x).toNat v)))))
theorem dfPix_mono (k : Nat) (a b lv : Int) (x y : Nat) (d : List Int) : LeO (dfPix k a b lv x y d) (dfPix (k + 1) a b lv x y d) := LeO.bind (impl_levelOf.mono _ _ _) (fun _ => LeO.refl _)
theorem dfPix_len {k : Nat} {a b lv : Int} {x y : Nat} {d e : List Int} (h : dfPix k a b lv x y d = some e) : e.length = d.length := by
 unfold dfPix at h
 obtain ⟨t, _, h⟩ := Option.bind_eq_some_iff.mp h
 obtain ⟨v, _, h⟩ := Option.bind_eq_some_iff.mp h
 obtain ⟨p, _, h⟩ := Option.bind_eq_some_iff.mp h
 obtain ⟨q, _, h⟩ := Option.bind_eq_some_iff.mp h
 obtain ⟨s, _, h⟩ := Option.bind_eq_some_iff.mp h
 cases h
 rw [dfGive_len, dfGive_len, dfGive_len, dfGive_len, List.length_set]
def dfRow (k : Nat) (a b lv : Int) (y : Nat) (d : List Int) : Nat → Option (List Int)
 | 0 => some d
 | x + 1 => (dfRow k a b lv y d x).bind (dfPix k a b lv x y)
def dfAll (k : Nat) (a b lv : Int) (d : List Int) : Nat → Option (List Int)
 | 0 => some d
 | y + 1 => (dfAll k a b lv d y).bind fun e => dfRow k a b lv y e a.toNat
theorem dfRow_mono (k : Nat) (a b lv : Int) (y : Nat) (d : List Int) : ∀ x, LeO (dfRow k a b lv y d x) (dfRow (k + 1) a b lv y d x)
 | 0 => LeO.refl _
 | x + 1 => LeO.bind (dfRow_mono k a b lv y d x) (fun e => dfPix_mono k a b lv x y e)
theorem dfAll_mono (k : Nat) (a b lv : Int) (d : List Int) : ∀ y, LeO (dfAll k a b lv d y) (dfAll (k + 1) a b lv d y)
 | 0 => LeO.refl _
 | y + 1 => LeO.bind (dfAll_mono k a b lv d y) (fun e => dfRow_mono k a b lv y e a.toNat)
theorem dfRow_le {k : Nat} {a b lv : Int} {y : Nat} {d : List Int} : ∀ (n x : Nat) (e : List Int), dfRow k a b lv y d n = some e → x ≤ n → ∃ f, dfRow k a b lv y d x = some f
 | 0, x, e, h, hx => ⟨e, by rw [show x = 0 by omega]; exact h⟩
 | n + 1, x, e, h, hx => by
  by_cases ex : x = n + 1
  ·exact ⟨e, by rw [ex]; exact h⟩
  ·rw [dfRow] at h
   obtain ⟨f, hf, _⟩ := Option.bind_eq_some_iff.mp h
   exact dfRow_le n x f hf (by omega)
theorem dfAll_le {k : Nat} {a b lv : Int} {d : List Int} : ∀ (n y : Nat) (e : List Int), dfAll k a b lv d n = some e → y ≤ n → ∃ f, dfAll k a b lv d y = some f
 | 0, y, e, h, hy => ⟨e, by rw [show y = 0 by omega]; exact h⟩
 | n + 1, y, e, h, hy => by
  by_cases ey : y = n + 1
  ·exact ⟨e, by rw [ey]; exact h⟩
  ·rw [dfAll] at h
   obtain ⟨f, hf, _⟩ := Option.bind_eq_some_iff.mp h
   exact dfAll_le n y f hf (by omega)
theorem dfRow_len {k : Nat} {a b lv : Int} {y : Nat} {d : List Int} : ∀ (n : Nat) (e : List Int), dfRow k a b lv y d n = some e → e.length = d.length
 | 0, e, h => by cases h; rfl
 | n + 1, e, h => by
  rw [dfRow] at h
  obtain ⟨f, hf, h⟩ := Option.bind_eq_some_iff.mp h
  rw [dfPix_len h, dfRow_len n f hf]
theorem dfAll_len {k : Nat} {a b lv : Int} {d : List Int} : ∀ (n : Nat) (e : List Int), dfAll k a b lv d n = some e → e.length = d.length
 | 0, e, h => by cases h; rfl
 | n + 1, e, h => by
  rw [dfAll] at h
  obtain ⟨f, hf, h⟩ := Option.bind_eq_some_iff.mp h
  rw [dfRow_len _ _ h, dfAll_len n f hf]
def impl_DiffuseImage.f (k : Nat) (a0_0 : Int) (a0_1 : Int) (a0_2 : Int) (l0_3 : List Int) (a1 : Int) : Option (Int × Int × Int × List Int × Bool) := (impl_isImage.f a0_0 a0_1 a0_2 l0_3).bind fun t0 => (if t0 = true then (if a0_2 = 1 then ((impl_isLevels.f a1).bind fun t2 => (if t2 = true then ((dfAll k a0_0 a0_1 a1 l0_3 a0_1.toNat).bind fun d => some (a0_0, a0_1, a0_2, d, true)) else (some (0, 0, 0, ([] : List Int), false)))) else (some (0, 0, 0, ([] : List Int), false))) else (some (0, 0, 0, ([] : List Int), false)))
theorem impl_DiffuseImage.mono : ∀ a0 a1 a2 a3 a4 k, LeO (impl_DiffuseImage.f k a0 a1 a2 a3 a4) (impl_DiffuseImage.f (k + 1) a0 a1 a2 a3 a4) := fun a0 a1 a2 a3 a4 k =>
 LeO.bind (LeO.refl _) (fun _ => LeO.ite (LeO.ite (LeO.bind (LeO.refl _) (fun _ => LeO.ite (LeO.bind (dfAll_mono k _ _ _ _ _) (fun _ => LeO.refl _)) (LeO.refl _))) (LeO.refl _)) (LeO.refl _))
set_option maxHeartbeats 8000000 in
set_option maxRecDepth 100000 in
theorem impl_DiffuseImage.calls (k : Nat) (a0_0 : Int) (a0_1 : Int) (a0_2 : Int) (A0_3 : Option Addr) (c0_3 : Nat) (l0_3 : List Int) (a1 : Int) (r1 : Int) (r2 : Int) (r3 : Int) (r4 : List Int) (r5 : Bool) (w : World) (hr0_3 : Kd.C (Kd.int .i64) w A0_3 l0_3.length l0_3) (hc0_3 : l0_3.length ≤ c0_3) (h : impl_DiffuseImage.f k a0_0 a0_1 a0_2 l0_3 a1 = some (r1, r2, r3, r4, r5)) :
  Calls Try.prog 28 #[.agg #[.int .i64 a0_0, .int .i64 a0_1, .int .i64 a0_2, .slice A0_3 l0_3.length c0_3], .int .i64 a1] w fun e w' => ∃ v3_ : Value, e = .returned (.tuple #[.agg #[.int .i64 r1, .int .i64 r2, .int .i64 r3, v3_], .bool r5]) ∧ Kd.R (Kd.int .i64) 3 w' w.heap.size (fun _ => True) v3_ r4 ∧ Below w.heap.size w w' := by
 have hu26 := Try.underlying27
 have HR0 := aM hr0_3
 have HC0 := aM hc0_3
 clear hr0_3 hc0_3
 have HB := aM (Below.refl w.heap.size w)
 unfold impl_DiffuseImage.f at h
 obtain ⟨t0, q0, H⟩ := Option.bind_eq_some_iff.mp h
 clear h
 have A0 := aM q0
 clear q0
 cases t0 with
 | false =>
  rw [if_neg (show ¬ (false = true) by decide)] at H
  simp only [Option.some.injEq, Prod.mk.injEq] at H
  obtain ⟨rfl, rfl, rfl, rfl, rfl⟩ := H
  go_enter Try.func28, Try.ntmps28
  go_wp2_with (first | ((with_reducible refine gate_dst (N := 2) rfl ?_); (try (refine gate_guard (by rfl) ?_; dsimp only)); refine bxE (N := 2) (cs := #[.int .i64 a0_0, .int .i64 a0_1, .int .i64 a0_2, .slice A0_3 l0_3.length c0_3]) (t := 27) ?_; intro gm hg w48 hbox hb; have n49 := bS HB hb; have n50 := aM hbox; have n51 := aM ((by rw [hg]; exact (below_size (qW HB.out))) : w.heap.size ≤ gm); clear HB; have HB := n49; have BKgm := n50; have GEgm := n51; clear n49 n50 n51; clear hb hbox hg; have hz52 : w48.cell? ⟨gm, 0, none⟩ = some (.int .i64 a0_0) := (blk_cell BKgm.out 0).trans rfl; have hz53 : w48.cell? ⟨gm, 1, none⟩ = some (.int .i64 a0_1) := (blk_cell BKgm.out 1).trans rfl; have hz54 : w48.cell? ⟨gm, 2, none⟩ = some (.int .i64 a0_2) := (blk_cell BKgm.out 2).trans rfl; have hz55 : w48.cell? ⟨gm, 3, none⟩ = some (.slice A0_3 l0_3.length c0_3) := (blk_cell BKgm.out 3).trans rfl; have hf56 := blk_frozen BKgm.out 0; have hf57 := blk_frozen BKgm.out 1; have hf58 := blk_frozen BKgm.out 2; have hf59 := blk_frozen BKgm.out 3) | ((with_reducible refine gate_dst (N := 4) rfl ?_); (try (refine gate_guard (by rfl) ?_; dsimp only)); refine bxE (N := 4) (cs := #[.int .i64 0, .int .i64 0, .int .i64 0, .slice none 0 0]) (t := 27) ?_; intro gr hg w60 hbox hb; have n61 := bB BKgm hb; have n62 := bS HB hb; have n63 := aM hbox; have n64 := aM ((by rw [hg]; exact (below_size (qW HB.out))) : w.heap.size ≤ gr); have n65 := aM ((by rw [hg]; exact Nat.ne_of_lt (blk_lt (g := gm) (o := .cells #[.int .i64 a0_0, .int .i64 a0_1, .int .i64 a0_2, .slice A0_3 l0_3.length c0_3] 27 (0, 0)) (qB BKgm.out))) : gm ≠ gr); have n66 := aM ((by rw [hg]; exact Nat.ne_of_gt (blk_lt (g := gm) (o := .cells #[.int .i64 a0_0, .int .i64 a0_1, .int .i64 a0_2, .slice A0_3 l0_3.length c0_3] 27 (0, 0)) (qB BKgm.out))) : gr ≠ gm); clear HB BKgm; have BKgm := n61; have HB := n62; have BKgr := n63; have GEgr := n64; have NBgm_gr := n65; have NBgr_gm := n66; clear n61 n62 n63 n64 n65 n66; clear hb hbox hg; have hz67 : w60.cell? ⟨gm, 0, none⟩ = some (.int .i64 a0_0) := (blk_cell BKgm.out 0).trans rfl; have hz68 : w60.cell? ⟨gm, 1, none⟩ = some (.int .i64 a0_1) := (blk_cell BKgm.out 1).trans rfl; have hz69 : w60.cell? ⟨gm, 2, none⟩ = some (.int .i64 a0_2) := (blk_cell BKgm.out 2).trans rfl; have hz70 : w60.cell? ⟨gm, 3, none⟩ = some (.slice A0_3 l0_3.length c0_3) := (blk_cell BKgm.out 3).trans rfl; have hf71 := blk_frozen BKgm.out 0; have hf72 := blk_frozen BKgm.out 1; have hf73 := blk_frozen BKgm.out 2; have hf74 := blk_frozen BKgm.out 3; have hz75 : w60.cell? ⟨gr, 0, none⟩ = some (.int .i64 0) := (blk_cell BKgr.out 0).trans rfl; have hz76 : w60.cell? ⟨gr, 1, none⟩ = some (.int .i64 0) := (blk_cell BKgr.out 1).trans rfl; have hz77 : w60.cell? ⟨gr, 2, none⟩ = some (.int .i64 0) := (blk_cell BKgr.out 2).trans rfl; have hz78 : w60.cell? ⟨gr, 3, none⟩ = some (.slice none 0 0) := (blk_cell BKgr.out 3).trans rfl; have hf79 := blk_frozen BKgr.out 0; have hf80 := blk_frozen BKgr.out 1; have hf81 := blk_frozen BKgr.out 2; have hf82 := blk_frozen BKgr.out 3) | (go_at_call 47; (with_reducible refine (impl_isImage.calls a0_0 a0_1 a0_2 _ _ l0_3 false _ ?side1 ?side2 A0.out).mono ?_); (case side1 => exact (Kd.C_below HR0.out (qW HB.out))); (case side2 => exact HC0.out); rintro e w83 ⟨rfl, hb⟩; have n84 := bB BKgm hb; have n85 := bB BKgr hb; have n86 := bS HB hb; clear HB BKgm BKgr; have BKgm := n84; have BKgr := n85; have HB := n86; clear n84 n85 n86 hb; have hz87 : w83.cell? ⟨gm, 0, none⟩ = some (.int .i64 a0_0) := (blk_cell BKgm.out 0).trans rfl; have hz88 : w83.cell? ⟨gm, 1, none⟩ = some (.int .i64 a0_1) := (blk_cell BKgm.out 1).trans rfl; have hz89 : w83.cell? ⟨gm, 2, none⟩ = some (.int .i64 a0_2) := (blk_cell BKgm.out 2).trans rfl; have hz90 : w83.cell? ⟨gm, 3, none⟩ = some (.slice A0_3 l0_3.length c0_3) := (blk_cell BKgm.out 3).trans rfl; have hf91 := blk_frozen BKgm.out 0; have hf92 := blk_frozen BKgm.out 1; have hf93 := blk_frozen BKgm.out 2; have hf94 := blk_frozen BKgm.out 3; have hz95 : w83.cell? ⟨gr, 0, none⟩ = some (.int .i64 0) := (blk_cell BKgr.out 0).trans rfl; have hz96 : w83.cell? ⟨gr, 1, none⟩ = some (.int .i64 0) := (blk_cell BKgr.out 1).trans rfl; have hz97 : w83.cell? ⟨gr, 2, none⟩ = some (.int .i64 0) := (blk_cell BKgr.out 2).trans rfl; have hz98 : w83.cell? ⟨gr, 3, none⟩ = some (.slice none 0 0) := (blk_cell BKgr.out 3).trans rfl; have hf99 := blk_frozen BKgr.out 0; have hf100 := blk_frozen BKgr.out 1; have hf101 := blk_frozen BKgr.out 2; have hf102 := blk_frozen BKgr.out 3))
  refine bodyPost_ret (results_ct rfl _ _ gr 27 #[.int .i64 0, .int .i64 0, .int .i64 0, .slice none 0 0] (0, 0) _ rfl (by exact bP BKgr.out) Try.underlying27 rfl (by kernel_rfl)) rfl ?_
  exact ⟨_, by first | rfl | (simp; done), Kd.R_nil _ _ _ _ _, by exact qW HB.out⟩
 | true =>
  rw [if_pos rfl] at H
  have V := aM (isImage_true A0.out)
  by_cases k1 : a0_2 = 1
  case neg =>
   rw [if_neg k1] at H
   have k1a : (a0_2 == 1) = false := beq_eq_false_iff_ne.mpr k1
   have k1b : (a0_2 != 1) = true := bne_iff_ne.mpr k1
   clear k1
   simp only [Option.some.injEq, Prod.mk.injEq] at H
   obtain ⟨rfl, rfl, rfl, rfl, rfl⟩ := H
   go_enter Try.func28, Try.ntmps28
   go_wp2_with (first | ((with_reducible refine gate_dst (N := 2) rfl ?_); (try (refine gate_guard (by rfl) ?_; dsimp only)); refine bxE (N := 2) (cs := #[.int .i64 a0_0, .int .i64 a0_1, .int .i64 a0_2, .slice A0_3 l0_3.length c0_3]) (t := 27) ?_; intro gm hg w103 hbox hb; have n104 := bS HB hb; have n105 := aM hbox; have n106 := aM ((by rw [hg]; exact (below_size (qW HB.out))) : w.heap.size ≤ gm); clear HB; have HB := n104; have BKgm := n105; have GEgm := n106; clear n104 n105 n106; clear hb hbox hg; have hz107 : w103.cell? ⟨gm, 0, none⟩ = some (.int .i64 a0_0) := (blk_cell BKgm.out 0).trans rfl; have hz108 : w103.cell? ⟨gm, 1, none⟩ = some (.int .i64 a0_1) := (blk_cell BKgm.out 1).trans rfl; have hz109 : w103.cell? ⟨gm, 2, none⟩ = some (.int .i64 a0_2) := (blk_cell BKgm.out 2).trans rfl; have hz110 : w103.cell? ⟨gm, 3, none⟩ = some (.slice A0_3 l0_3.length c0_3) := (blk_cell BKgm.out 3).trans rfl; have hf111 := blk_frozen BKgm.out 0; have hf112 := blk_frozen BKgm.out 1; have hf113 := blk_frozen BKgm.out 2; have hf114 := blk_frozen BKgm.out 3) | ((with_reducible refine gate_dst (N := 4) rfl ?_); (try (refine gate_guard (by rfl) ?_; dsimp only)); refine bxE (N := 4) (cs := #[.int .i64 0, .int .i64 0, .int .i64 0, .slice none 0 0]) (t := 27) ?_; intro gr hg w115 hbox hb; have n116 := bB BKgm hb; have n117 := bS HB hb; have n118 := aM hbox; have n119 := aM ((by rw [hg]; exact (below_size (qW HB.out))) : w.heap.size ≤ gr); have n120 := aM ((by rw [hg]; exact Nat.ne_of_lt (blk_lt (g := gm) (o := .cells #[.int .i64 a0_0, .int .i64 a0_1, .int .i64 a0_2, .slice A0_3 l0_3.length c0_3] 27 (0, 0)) (qB BKgm.out))) : gm ≠ gr); have n121 := aM ((by rw [hg]; exact Nat.ne_of_gt (blk_lt (g := gm) (o := .cells #[.int .i64 a0_0, .int .i64 a0_1, .int .i64 a0_2, .slice A0_3 l0_3.length c0_3] 27 (0, 0)) (qB BKgm.out))) : gr ≠ gm); clear HB BKgm; have BKgm := n116; have HB := n117; have BKgr := n118; have GEgr := n119; have NBgm_gr := n120; have NBgr_gm := n121; clear n116 n117 n118 n119 n120 n121; clear hb hbox hg; have hz122 : w115.cell? ⟨gm, 0, none⟩ = some (.int .i64 a0_0) := (blk_cell BKgm.out 0).trans rfl; have hz123 : w115.cell? ⟨gm, 1, none⟩ = some (.int .i64 a0_1) := (blk_cell BKgm.out 1).trans rfl; have hz124 : w115.cell? ⟨gm, 2, none⟩ = some (.int .i64 a0_2) := (blk_cell BKgm.out 2).trans rfl; have hz125 : w115.cell? ⟨gm, 3, none⟩ = some (.slice A0_3 l0_3.length c0_3) := (blk_cell BKgm.out 3).trans rfl; have hf126 := blk_frozen BKgm.out 0; have hf127 := blk_frozen BKgm.out 1; have hf128 := blk_frozen BKgm.out 2; have hf129 := blk_frozen BKgm.out 3; have hz130 : w115.cell? ⟨gr, 0, none⟩ = some (.int .i64 0) := (blk_cell BKgr.out 0).trans rfl; have hz131 : w115.cell? ⟨gr, 1, none⟩ = some (.int .i64 0) := (blk_cell BKgr.out 1).trans rfl; have hz132 : w115.cell? ⟨gr, 2, none⟩ = some (.int .i64 0) := (blk_cell BKgr.out 2).trans rfl; have hz133 : w115.cell? ⟨gr, 3, none⟩ = some (.slice none 0 0) := (blk_cell BKgr.out 3).trans rfl; have hf134 := blk_frozen BKgr.out 0; have hf135 := blk_frozen BKgr.out 1; have hf136 := blk_frozen BKgr.out 2; have hf137 := blk_frozen BKgr.out 3) | (go_at_call 47; (with_reducible refine (impl_isImage.calls a0_0 a0_1 a0_2 _ _ l0_3 true _ ?side1 ?side2 A0.out).mono ?_); (case side1 => exact (Kd.C_below HR0.out (qW HB.out))); (case side2 => exact HC0.out); rintro e w138 ⟨rfl, hb⟩; have n139 := bB BKgm hb; have n140 := bB BKgr hb; have n141 := bS HB hb; clear HB BKgm BKgr; have BKgm := n139; have BKgr := n140; have HB := n141; clear n139 n140 n141 hb; have hz142 : w138.cell? ⟨gm, 0, none⟩ = some (.int .i64 a0_0) := (blk_cell BKgm.out 0).trans rfl; have hz143 : w138.cell? ⟨gm, 1, none⟩ = some (.int .i64 a0_1) := (blk_cell BKgm.out 1).trans rfl; have hz144 : w138.cell? ⟨gm, 2, none⟩ = some (.int .i64 a0_2) := (blk_cell BKgm.out 2).trans rfl; have hz145 : w138.cell? ⟨gm, 3, none⟩ = some (.slice A0_3 l0_3.length c0_3) := (blk_cell BKgm.out 3).trans rfl; have hf146 := blk_frozen BKgm.out 0; have hf147 := blk_frozen BKgm.out 1; have hf148 := blk_frozen BKgm.out 2; have hf149 := blk_frozen BKgm.out 3; have hz150 : w138.cell? ⟨gr, 0, none⟩ = some (.int .i64 0) := (blk_cell BKgr.out 0).trans rfl; have hz151 : w138.cell? ⟨gr, 1, none⟩ = some (.int .i64 0) := (blk_cell BKgr.out 1).trans rfl; have hz152 : w138.cell? ⟨gr, 2, none⟩ = some (.int .i64 0) := (blk_cell BKgr.out 2).trans rfl; have hz153 : w138.cell? ⟨gr, 3, none⟩ = some (.slice none 0 0) := (blk_cell BKgr.out 3).trans rfl; have hf154 := blk_frozen BKgr.out 0; have hf155 := blk_frozen BKgr.out 1; have hf156 := blk_frozen BKgr.out 2; have hf157 := blk_frozen BKgr.out 3))
   refine bodyPost_ret (results_ct rfl _ _ gr 27 #[.int .i64 0, .int .i64 0, .int .i64 0, .slice none 0 0] (0, 0) _ rfl (by exact bP BKgr.out) Try.underlying27 rfl (by kernel_rfl)) rfl ?_
   exact ⟨_, by first | rfl | (simp; done), Kd.R_nil _ _ _ _ _, by exact qW HB.out⟩
  rw [if_pos k1] at H
  subst k1
  obtain ⟨t2, q2, H⟩ := Option.bind_eq_some_iff.mp H
  have A2 := aM q2
  clear q2
  cases t2 with
  | false =>
   rw [if_neg (show ¬ (false = true) by decide)] at H
   simp only [Option.some.injEq, Prod.mk.injEq] at H
   obtain ⟨rfl, rfl, rfl, rfl, rfl⟩ := H
   go_enter Try.func28, Try.ntmps28
   go_wp2_with (first | ((with_reducible refine gate_dst (N := 2) rfl ?_); (try (refine gate_guard (by rfl) ?_; dsimp only)); refine bxE (N := 2) (cs := #[.int .i64 a0_0, .int .i64 a0_1, .int .i64 1, .slice A0_3 l0_3.length c0_3]) (t := 27) ?_; intro gm hg w158 hbox hb; have n159 := bS HB hb; have n160 := aM hbox; have n161 := aM ((by rw [hg]; exact (below_size (qW HB.out))) : w.heap.size ≤ gm); clear HB; have HB := n159; have BKgm := n160; have GEgm := n161; clear n159 n160 n161; clear hb hbox hg; have hz162 : w158.cell? ⟨gm, 0, none⟩ = some (.int .i64 a0_0) := (blk_cell BKgm.out 0).trans rfl; have hz163 : w158.cell? ⟨gm, 1, none⟩ = some (.int .i64 a0_1) := (blk_cell BKgm.out 1).trans rfl; have hz164 : w158.cell? ⟨gm, 2, none⟩ = some (.int .i64 1) := (blk_cell BKgm.out 2).trans rfl; have hz165 : w158.cell? ⟨gm, 3, none⟩ = some (.slice A0_3 l0_3.length c0_3) := (blk_cell BKgm.out 3).trans rfl; have hf166 := blk_frozen BKgm.out 0; have hf167 := blk_frozen BKgm.out 1; have hf168 := blk_frozen BKgm.out 2; have hf169 := blk_frozen BKgm.out 3) | ((with_reducible refine gate_dst (N := 4) rfl ?_); (try (refine gate_guard (by rfl) ?_; dsimp only)); refine bxE (N := 4) (cs := #[.int .i64 0, .int .i64 0, .int .i64 0, .slice none 0 0]) (t := 27) ?_; intro gr hg w170 hbox hb; have n171 := bB BKgm hb; have n172 := bS HB hb; have n173 := aM hbox; have n174 := aM ((by rw [hg]; exact (below_size (qW HB.out))) : w.heap.size ≤ gr); have n175 := aM ((by rw [hg]; exact Nat.ne_of_lt (blk_lt (g := gm) (o := .cells #[.int .i64 a0_0, .int .i64 a0_1, .int .i64 1, .slice A0_3 l0_3.length c0_3] 27 (0, 0)) (qB BKgm.out))) : gm ≠ gr); have n176 := aM ((by rw [hg]; exact Nat.ne_of_gt (blk_lt (g := gm) (o := .cells #[.int .i64 a0_0, .int .i64 a0_1, .int .i64 1, .slice A0_3 l0_3.length c0_3] 27 (0, 0)) (qB BKgm.out))) : gr ≠ gm); clear HB BKgm; have BKgm := n171; have HB := n172; have BKgr := n173; have GEgr := n174; have NBgm_gr := n175; have NBgr_gm := n176; clear n171 n172 n173 n174 n175 n176; clear hb hbox hg; have hz177 : w170.cell? ⟨gm, 0, none⟩ = some (.int .i64 a0_0) := (blk_cell BKgm.out 0).trans rfl; have hz178 : w170.cell? ⟨gm, 1, none⟩ = some (.int .i64 a0_1) := (blk_cell BKgm.out 1).trans rfl; have hz179 : w170.cell? ⟨gm, 2, none⟩ = some (.int .i64 1) := (blk_cell BKgm.out 2).trans rfl; have hz180 : w170.cell? ⟨gm, 3, none⟩ = some (.slice A0_3 l0_3.length c0_3) := (blk_cell BKgm.out 3).trans rfl; have hf181 := blk_frozen BKgm.out 0; have hf182 := blk_frozen BKgm.out 1; have hf183 := blk_frozen BKgm.out 2; have hf184 := blk_frozen BKgm.out 3; have hz185 : w170.cell? ⟨gr, 0, none⟩ = some (.int .i64 0) := (blk_cell BKgr.out 0).trans rfl; have hz186 : w170.cell? ⟨gr, 1, none⟩ = some (.int .i64 0) := (blk_cell BKgr.out 1).trans rfl; have hz187 : w170.cell? ⟨gr, 2, none⟩ = some (.int .i64 0) := (blk_cell BKgr.out 2).trans rfl; have hz188 : w170.cell? ⟨gr, 3, none⟩ = some (.slice none 0 0) := (blk_cell BKgr.out 3).trans rfl; have hf189 := blk_frozen BKgr.out 0; have hf190 := blk_frozen BKgr.out 1; have hf191 := blk_frozen BKgr.out 2; have hf192 := blk_frozen BKgr.out 3) | (go_at_call 47; (with_reducible refine (impl_isImage.calls a0_0 a0_1 1 _ _ l0_3 true _ ?side1 ?side2 A0.out).mono ?_); (case side1 => exact (Kd.C_below HR0.out (qW HB.out))); (case side2 => exact HC0.out); rintro e w193 ⟨rfl, hb⟩; have n194 := bB BKgm hb; have n195 := bB BKgr hb; have n196 := bS HB hb; clear HB BKgm BKgr; have BKgm := n194; have BKgr := n195; have HB := n196; clear n194 n195 n196 hb; have hz197 : w193.cell? ⟨gm, 0, none⟩ = some (.int .i64 a0_0) := (blk_cell BKgm.out 0).trans rfl; have hz198 : w193.cell? ⟨gm, 1, none⟩ = some (.int .i64 a0_1) := (blk_cell BKgm.out 1).trans rfl; have hz199 : w193.cell? ⟨gm, 2, none⟩ = some (.int .i64 1) := (blk_cell BKgm.out 2).trans rfl; have hz200 : w193.cell? ⟨gm, 3, none⟩ = some (.slice A0_3 l0_3.length c0_3) := (blk_cell BKgm.out 3).trans rfl; have hf201 := blk_frozen BKgm.out 0; have hf202 := blk_frozen BKgm.out 1; have hf203 := blk_frozen BKgm.out 2; have hf204 := blk_frozen BKgm.out 3; have hz205 : w193.cell? ⟨gr, 0, none⟩ = some (.int .i64 0) := (blk_cell BKgr.out 0).trans rfl; have hz206 : w193.cell? ⟨gr, 1, none⟩ = some (.int .i64 0) := (blk_cell BKgr.out 1).trans rfl; have hz207 : w193.cell? ⟨gr, 2, none⟩ = some (.int .i64 0) := (blk_cell BKgr.out 2).trans rfl; have hz208 : w193.cell? ⟨gr, 3, none⟩ = some (.slice none 0 0) := (blk_cell BKgr.out 3).trans rfl; have hf209 := blk_frozen BKgr.out 0; have hf210 := blk_frozen BKgr.out 1; have hf211 := blk_frozen BKgr.out 2; have hf212 := blk_frozen BKgr.out 3) | (go_at_call 62; (with_reducible refine (impl_isLevels.calls a1 false _ A2.out).mono ?_); rintro e w' ⟨rfl, ⟨nd, rfl⟩⟩))
   refine bodyPost_ret (results_ct rfl _ _ gr 27 #[.int .i64 0, .int .i64 0, .int .i64 0, .slice none 0 0] (0, 0) _ rfl (by exact bP BKgr.out) Try.underlying27 rfl (by kernel_rfl)) rfl ?_
   exact ⟨_, by first | rfl | (simp; done), Kd.R_nil _ _ _ _ _, by exact qW HB.out⟩
  | true =>
   rw [if_pos rfl] at H
   obtain ⟨D, hD, H⟩ := Option.bind_eq_some_iff.mp H
   simp only [Option.some.injEq, Prod.mk.injEq] at H
   obtain ⟨rfl, rfl, rfl, rfl, rfl⟩ := H
   have b_ := V.out
   obtain ⟨v0, v1, _, hlen, _⟩ := b_
   obtain ⟨a, rfl⟩ := Int.eq_ofNat_of_zero_le (show 0 ≤ a0_0 by omega)
   obtain ⟨b, rfl⟩ := Int.eq_ofNat_of_zero_le (show 0 ≤ a0_1 by omega)
   rw [Int.toNat_natCast] at hD
   have HD := aM hD
   have HLN := aM (show (l0_3.length : Int) = (b : Int) * (a : Int) by rw [hlen, Int.mul_one, Int.mul_comm])
   have HLP := aM (show 0 < l0_3.length ∧ l0_3.length < 17592186044416 by
    have h1 : (1 : Int) * 1 ≤ (b : Int) * (a : Int) := Int.mul_le_mul (by omega) (by omega) (by omega) (by omega)
    have h2 : (b : Int) * (a : Int) ≤ 16 * 16 := Int.mul_le_mul (by omega) (by omega) (by omega) (by omega)
    have := HLN.out
    omega)
   have HV0 := aM v0
   have HV1 := aM v1
   obtain ⟨v0a, v0b⟩ := v0
   obtain ⟨v1a, v1b⟩ := v1
   have HCP : Aside0 (impl_copyImage.f (a : Int) (b : Int) 1 l0_3 = some ((a : Int), (b : Int), 1, l0_3)) := ⟨by unfold impl_copyImage.f; rw [Option.bind_some, if_pos (by have := HLP.out.2; simpa using this)]; rfl⟩
   clear hlen hD
   go_enter Try.func28, Try.ntmps28
   go_wp2_with (first | ((with_reducible refine gate_dst (N := 2) rfl ?_); (try (refine gate_guard (by rfl) ?_; dsimp only)); refine bxE (N := 2) (cs := #[.int .i64 (a : Int), .int .i64 (b : Int), .int .i64 1, .slice A0_3 l0_3.length c0_3]) (t := 27) ?_; intro gm hg w213 hbox hb; have n214 := bS HB hb; have n215 := aM hbox; have n216 := aM ((by rw [hg]; exact (below_size (qW HB.out))) : w.heap.size ≤ gm); clear HB; have HB := n214; have BKgm := n215; have GEgm := n216; clear n214 n215 n216; clear hb hbox hg; have hz217 : w213.cell? ⟨gm, 0, none⟩ = some (.int .i64 (a : Int)) := (blk_cell BKgm.out 0).trans rfl; have hz218 : w213.cell? ⟨gm, 1, none⟩ = some (.int .i64 (b : Int)) := (blk_cell BKgm.out 1).trans rfl; have hz219 : w213.cell? ⟨gm, 2, none⟩ = some (.int .i64 1) := (blk_cell BKgm.out 2).trans rfl; have hz220 : w213.cell? ⟨gm, 3, none⟩ = some (.slice A0_3 l0_3.length c0_3) := (blk_cell BKgm.out 3).trans rfl; have hf221 := blk_frozen BKgm.out 0; have hf222 := blk_frozen BKgm.out 1; have hf223 := blk_frozen BKgm.out 2; have hf224 := blk_frozen BKgm.out 3) | ((with_reducible refine gate_dst (N := 4) rfl ?_); (try (refine gate_guard (by rfl) ?_; dsimp only)); refine bxE (N := 4) (cs := #[.int .i64 0, .int .i64 0, .int .i64 0, .slice none 0 0]) (t := 27) ?_; intro gr hg w225 hbox hb; have n226 := bB BKgm hb; have n227 := bS HB hb; have n228 := aM hbox; have n229 := aM ((by rw [hg]; exact (below_size (qW HB.out))) : w.heap.size ≤ gr); have n230 := aM ((by rw [hg]; exact Nat.ne_of_lt (blk_lt (g := gm) (o := .cells #[.int .i64 (a : Int), .int .i64 (b : Int), .int .i64 1, .slice A0_3 l0_3.length c0_3] 27 (0, 0)) (qB BKgm.out))) : gm ≠ gr); have n231 := aM ((by rw [hg]; exact Nat.ne_of_gt (blk_lt (g := gm) (o := .cells #[.int .i64 (a : Int), .int .i64 (b : Int), .int .i64 1, .slice A0_3 l0_3.length c0_3] 27 (0, 0)) (qB BKgm.out))) : gr ≠ gm); clear HB BKgm; have BKgm := n226; have HB := n227; have BKgr := n228; have GEgr := n229; have NBgm_gr := n230; have NBgr_gm := n231; clear n226 n227 n228 n229 n230 n231; clear hb hbox hg; have hz232 : w225.cell? ⟨gm, 0, none⟩ = some (.int .i64 (a : Int)) := (blk_cell BKgm.out 0).trans rfl; have hz233 : w225.cell? ⟨gm, 1, none⟩ = some (.int .i64 (b : Int)) := (blk_cell BKgm.out 1).trans rfl; have hz234 : w225.cell? ⟨gm, 2, none⟩ = some (.int .i64 1) := (blk_cell BKgm.out 2).trans rfl; have hz235 : w225.cell? ⟨gm, 3, none⟩ = some (.slice A0_3 l0_3.length c0_3) := (blk_cell BKgm.out 3).trans rfl; have hf236 := blk_frozen BKgm.out 0; have hf237 := blk_frozen BKgm.out 1; have hf238 := blk_frozen BKgm.out 2; have hf239 := blk_frozen BKgm.out 3; have hz240 : w225.cell? ⟨gr, 0, none⟩ = some (.int .i64 0) := (blk_cell BKgr.out 0).trans rfl; have hz241 : w225.cell? ⟨gr, 1, none⟩ = some (.int .i64 0) := (blk_cell BKgr.out 1).trans rfl; have hz242 : w225.cell? ⟨gr, 2, none⟩ = some (.int .i64 0) := (blk_cell BKgr.out 2).trans rfl; have hz243 : w225.cell? ⟨gr, 3, none⟩ = some (.slice none 0 0) := (blk_cell BKgr.out 3).trans rfl; have hf244 := blk_frozen BKgr.out 0; have hf245 := blk_frozen BKgr.out 1; have hf246 := blk_frozen BKgr.out 2; have hf247 := blk_frozen BKgr.out 3) | (go_at_call 47; (with_reducible refine (impl_isImage.calls (a : Int) (b : Int) 1 _ _ l0_3 true _ ?side1 ?side2 A0.out).mono ?_); (case side1 => exact (Kd.C_below HR0.out (qW HB.out))); (case side2 => exact HC0.out); rintro e w248 ⟨rfl, hb⟩; have n249 := bB BKgm hb; have n250 := bB BKgr hb; have n251 := bS HB hb; clear HB BKgm BKgr; have BKgm := n249; have BKgr := n250; have HB := n251; clear n249 n250 n251 hb; have hz252 : w248.cell? ⟨gm, 0, none⟩ = some (.int .i64 (a : Int)) := (blk_cell BKgm.out 0).trans rfl; have hz253 : w248.cell? ⟨gm, 1, none⟩ = some (.int .i64 (b : Int)) := (blk_cell BKgm.out 1).trans rfl; have hz254 : w248.cell? ⟨gm, 2, none⟩ = some (.int .i64 1) := (blk_cell BKgm.out 2).trans rfl; have hz255 : w248.cell? ⟨gm, 3, none⟩ = some (.slice A0_3 l0_3.length c0_3) := (blk_cell BKgm.out 3).trans rfl; have hf256 := blk_frozen BKgm.out 0; have hf257 := blk_frozen BKgm.out 1; have hf258 := blk_frozen BKgm.out 2; have hf259 := blk_frozen BKgm.out 3; have hz260 : w248.cell? ⟨gr, 0, none⟩ = some (.int .i64 0) := (blk_cell BKgr.out 0).trans rfl; have hz261 : w248.cell? ⟨gr, 1, none⟩ = some (.int .i64 0) := (blk_cell BKgr.out 1).trans rfl; have hz262 : w248.cell? ⟨gr, 2, none⟩ = some (.int .i64 0) := (blk_cell BKgr.out 2).trans rfl; have hz263 : w248.cell? ⟨gr, 3, none⟩ = some (.slice none 0 0) := (blk_cell BKgr.out 3).trans rfl; have hf264 := blk_frozen BKgr.out 0; have hf265 := blk_frozen BKgr.out 1; have hf266 := blk_frozen BKgr.out 2; have hf267 := blk_frozen BKgr.out 3) | (go_at_call 62; (with_reducible refine (impl_isLevels.calls a1 true _ A2.out).mono ?_); rintro e w' ⟨rfl, ⟨nd, rfl⟩⟩) | (go_at_call 72; (with_reducible refine (impl_copyImage.calls (a : Int) (b : Int) 1 _ _ l0_3 (a : Int) (b : Int) 1 l0_3 _ ?side1 ?side2 HCP.out).mono ?_); (case side1 => exact (Kd.C_below HR0.out (qW HB.out))); (case side2 => exact HC0.out); rintro e w268 ⟨v3, rfl, ho, hb⟩; have ho := Kd.R_lower ho (below_size (qW HB.out)); obtain ⟨Ao, co, eo⟩ := Kd.R_slice ho; subst eo; obtain ⟨g, cg, eg, _⟩ := Kd.R_form ho (by have := HLP.out.1; omega); injection eg with ea el ec; clear el; subst ec; subst ea; have HO := aM ho; clear ho; have n269 := bB BKgm hb; have n270 := bB BKgr hb; have n271 := bS HB hb; clear HB BKgm BKgr; have BKgm := n269; have BKgr := n270; have HB := n271; clear n269 n270 n271 hb; have hz272 : w268.cell? ⟨gm, 0, none⟩ = some (.int .i64 (a : Int)) := (blk_cell BKgm.out 0).trans rfl; have hz273 : w268.cell? ⟨gm, 1, none⟩ = some (.int .i64 (b : Int)) := (blk_cell BKgm.out 1).trans rfl; have hz274 : w268.cell? ⟨gm, 2, none⟩ = some (.int .i64 1) := (blk_cell BKgm.out 2).trans rfl; have hz275 : w268.cell? ⟨gm, 3, none⟩ = some (.slice A0_3 l0_3.length c0_3) := (blk_cell BKgm.out 3).trans rfl; have hf276 := blk_frozen BKgm.out 0; have hf277 := blk_frozen BKgm.out 1; have hf278 := blk_frozen BKgm.out 2; have hf279 := blk_frozen BKgm.out 3; have hz280 : w268.cell? ⟨gr, 0, none⟩ = some (.int .i64 0) := (blk_cell BKgr.out 0).trans rfl; have hz281 : w268.cell? ⟨gr, 1, none⟩ = some (.int .i64 0) := (blk_cell BKgr.out 1).trans rfl; have hz282 : w268.cell? ⟨gr, 2, none⟩ = some (.int .i64 0) := (blk_cell BKgr.out 2).trans rfl; have hz283 : w268.cell? ⟨gr, 3, none⟩ = some (.slice none 0 0) := (blk_cell BKgr.out 3).trans rfl; have hf284 := blk_frozen BKgr.out 0; have hf285 := blk_frozen BKgr.out 1; have hf286 := blk_frozen BKgr.out 2; have hf287 := blk_frozen BKgr.out 3) | ((with_reducible refine gate_dst (N := 6) rfl ?_); (try (refine gate_guard (by rfl) ?_; dsimp only)); refine bxE (N := 6) (cs := #[.int .i64 0, .int .i64 0, .int .i64 0, .slice none 0 0]) (t := 27) ?_; intro go hg w288 hbox hb; have n289 := bB BKgm hb; have n290 := bB BKgr hb; have n291 := bS HB hb; have n292 := aM hbox; have n293 := aM ((by rw [hg]; exact (below_size (qW HB.out))) : w.heap.size ≤ go); have n294 := aM ((by rw [hg]; exact Nat.ne_of_lt (blk_lt (g := gm) (o := .cells #[.int .i64 (a : Int), .int .i64 (b : Int), .int .i64 1, .slice A0_3 l0_3.length c0_3] 27 (0, 0)) (qB BKgm.out))) : gm ≠ go); have n295 := aM ((by rw [hg]; exact Nat.ne_of_gt (blk_lt (g := gm) (o := .cells #[.int .i64 (a : Int), .int .i64 (b : Int), .int .i64 1, .slice A0_3 l0_3.length c0_3] 27 (0, 0)) (qB BKgm.out))) : go ≠ gm); have n296 := aM ((by rw [hg]; exact Nat.ne_of_lt (blk_lt (g := gr) (o := .cells #[.int .i64 0, .int .i64 0, .int .i64 0, .slice none 0 0] 27 (0, 0)) (qB BKgr.out))) : gr ≠ go); have n297 := aM ((by rw [hg]; exact Nat.ne_of_gt (blk_lt (g := gr) (o := .cells #[.int .i64 0, .int .i64 0, .int .i64 0, .slice none 0 0] 27 (0, 0)) (qB BKgr.out))) : go ≠ gr); have r_ := aM (Kd.R_below (Kd.R_elderB (qR HO.out) go (Nat.le_of_eq hg.symm)) hb); clear HO; have HO := r_; clear r_; clear HB BKgm BKgr; have BKgm := n289; have BKgr := n290; have HB := n291; have BKgo := n292; have GEgo := n293; have NBgm_go := n294; have NBgo_gm := n295; have NBgr_go := n296; have NBgo_gr := n297; clear n289 n290 n291 n292 n293 n294 n295 n296 n297; clear hb hbox hg; have hz298 : w288.cell? ⟨gm, 0, none⟩ = some (.int .i64 (a : Int)) := (blk_cell BKgm.out 0).trans rfl; have hz299 : w288.cell? ⟨gm, 1, none⟩ = some (.int .i64 (b : Int)) := (blk_cell BKgm.out 1).trans rfl; have hz300 : w288.cell? ⟨gm, 2, none⟩ = some (.int .i64 1) := (blk_cell BKgm.out 2).trans rfl; have hz301 : w288.cell? ⟨gm, 3, none⟩ = some (.slice A0_3 l0_3.length c0_3) := (blk_cell BKgm.out 3).trans rfl; have hf302 := blk_frozen BKgm.out 0; have hf303 := blk_frozen BKgm.out 1; have hf304 := blk_frozen BKgm.out 2; have hf305 := blk_frozen BKgm.out 3; have hz306 : w288.cell? ⟨gr, 0, none⟩ = some (.int .i64 0) := (blk_cell BKgr.out 0).trans rfl; have hz307 : w288.cell? ⟨gr, 1, none⟩ = some (.int .i64 0) := (blk_cell BKgr.out 1).trans rfl; have hz308 : w288.cell? ⟨gr, 2, none⟩ = some (.int .i64 0) := (blk_cell BKgr.out 2).trans rfl; have hz309 : w288.cell? ⟨gr, 3, none⟩ = some (.slice none 0 0) := (blk_cell BKgr.out 3).trans rfl; have hf310 := blk_frozen BKgr.out 0; have hf311 := blk_frozen BKgr.out 1; have hf312 := blk_frozen BKgr.out 2; have hf313 := blk_frozen BKgr.out 3) | ((with_reducible refine gate_store (t := 27) (p := 6) rfl ?_); have hzs0_ : w288.cell? ⟨go, 0, none⟩ = some (.int .i64 0) := (blk_cell BKgo.out 0).trans rfl; have hfs0_ := blk_frozen BKgo.out 0; have hzs1_ : w288.cell? ⟨go, 1, none⟩ = some (.int .i64 0) := (blk_cell BKgo.out 1).trans rfl; have hfs1_ := blk_frozen BKgo.out 1; have hzs2_ : w288.cell? ⟨go, 2, none⟩ = some (.int .i64 0) := (blk_cell BKgo.out 2).trans rfl; have hfs2_ := blk_frozen BKgo.out 2; have hzs3_ : w288.cell? ⟨go, 3, none⟩ = some (.slice none 0 0) := (blk_cell BKgo.out 3).trans rfl; have hfs3_ := blk_frozen BKgo.out 3; refine store_event (t := 27) (p := 6) (v := ?vo_w322) (w1 := ((((w288.setCell ⟨go, 0, none⟩ (.int .i64 (a : Int))).setCell ⟨go, 1, none⟩ (.int .i64 (b : Int))).setCell ⟨go, 2, none⟩ (.int .i64 1)).setCell ⟨go, 3, none⟩ (.slice (some ⟨g, 0, none⟩) l0_3.length co))) ?hg ?ho ?hn ?hr ?_; (case ho => rfl); (case hg => rfl); (case hn => rfl); (case hr => first | (go_simp; done) | (go_simp; rfl)); intro w322 hw; have r_ := aM (show Kd.R (Kd.int .i64) 3 w322 w.heap.size (fun k_ => True ∧ k_ ≠ go) (.slice (some ⟨g, 0, none⟩) l0_3.length co) l0_3 by rw [hw]; exact Kd.R_far (p := ⟨go, 3, none⟩) (Kd.R_far (p := ⟨go, 2, none⟩) (Kd.R_far (p := ⟨go, 1, none⟩) (Kd.R_far (p := ⟨go, 0, none⟩) (HO.out) (fun _ hk => hk.2) _) (fun _ hk => hk.2) _) (fun _ hk => hk.2) _) (fun _ hk => hk.2) _); clear HO; have HO := r_; clear r_; have n323 := aM (show w322.heap[gm]? = some (.cells #[.int .i64 (a : Int), .int .i64 (b : Int), .int .i64 1, .slice A0_3 l0_3.length c0_3] 27 (0, 0)) by rw [hw]; exact blk_far (blk_far (blk_far (blk_far (BKgm.out) NBgm_go.out _) NBgm_go.out _) NBgm_go.out _) NBgm_go.out _); have n324 := aM (show w322.heap[gr]? = some (.cells #[.int .i64 0, .int .i64 0, .int .i64 0, .slice none 0 0] 27 (0, 0)) by rw [hw]; exact blk_far (blk_far (blk_far (blk_far (BKgr.out) NBgr_go.out _) NBgr_go.out _) NBgr_go.out _) NBgr_go.out _); have n325 := aM (show w322.heap[go]? = some (.cells #[.int .i64 (a : Int), .int .i64 (b : Int), .int .i64 1, .slice (some ⟨g, 0, none⟩) l0_3.length co] 27 (0, 0)) by rw [hw]; refine blk_put (cs := #[.int .i64 (a : Int), .int .i64 (b : Int), .int .i64 1, .slice none 0 0]) ?_ 3 _ rfl; refine blk_put (cs := #[.int .i64 (a : Int), .int .i64 (b : Int), .int .i64 0, .slice none 0 0]) ?_ 2 _ rfl; refine blk_put (cs := #[.int .i64 (a : Int), .int .i64 0, .int .i64 0, .slice none 0 0]) ?_ 1 _ rfl; refine blk_put (cs := #[.int .i64 0, .int .i64 0, .int .i64 0, .slice none 0 0]) ?_ 0 _ rfl; exact BKgo.out); have n326 := aM (show Below w.heap.size w w322 by rw [hw]; exact below_set (below_set (below_set (below_set (HB.out) GEgo.out) GEgo.out) GEgo.out) GEgo.out); clear hzs0_ hfs0_ hzs1_ hfs1_ hzs2_ hfs2_ hzs3_ hfs3_; clear HB BKgm BKgr BKgo hw; have BKgm := n323; have BKgr := n324; have BKgo := n325; have HB := n326; clear n323 n324 n325 n326; have hz327 : w322.cell? ⟨gm, 0, none⟩ = some (.int .i64 (a : Int)) := (blk_cell BKgm.out 0).trans rfl; have hz328 : w322.cell? ⟨gm, 1, none⟩ = some (.int .i64 (b : Int)) := (blk_cell BKgm.out 1).trans rfl; have hz329 : w322.cell? ⟨gm, 2, none⟩ = some (.int .i64 1) := (blk_cell BKgm.out 2).trans rfl; have hz330 : w322.cell? ⟨gm, 3, none⟩ = some (.slice A0_3 l0_3.length c0_3) := (blk_cell BKgm.out 3).trans rfl; have hf331 := blk_frozen BKgm.out 0; have hf332 := blk_frozen BKgm.out 1; have hf333 := blk_frozen BKgm.out 2; have hf334 := blk_frozen BKgm.out 3; have hz335 : w322.cell? ⟨gr, 0, none⟩ = some (.int .i64 0) := (blk_cell BKgr.out 0).trans rfl; have hz336 : w322.cell? ⟨gr, 1, none⟩ = some (.int .i64 0) := (blk_cell BKgr.out 1).trans rfl; have hz337 : w322.cell? ⟨gr, 2, none⟩ = some (.int .i64 0) := (blk_cell BKgr.out 2).trans rfl; have hz338 : w322.cell? ⟨gr, 3, none⟩ = some (.slice none 0 0) := (blk_cell BKgr.out 3).trans rfl; have hf339 := blk_frozen BKgr.out 0; have hf340 := blk_frozen BKgr.out 1; have hf341 := blk_frozen BKgr.out 2; have hf342 := blk_frozen BKgr.out 3; have hz343 : w322.cell? ⟨go, 0, none⟩ = some (.int .i64 (a : Int)) := (blk_cell BKgo.out 0).trans rfl; have hz344 : w322.cell? ⟨go, 1, none⟩ = some (.int .i64 (b : Int)) := (blk_cell BKgo.out 1).trans rfl; have hz345 : w322.cell? ⟨go, 2, none⟩ = some (.int .i64 1) := (blk_cell BKgo.out 2).trans rfl; have hz346 : w322.cell? ⟨go, 3, none⟩ = some (.slice (some ⟨g, 0, none⟩) l0_3.length co) := (blk_cell BKgo.out 3).trans rfl; have hf347 := blk_frozen BKgo.out 0; have hf348 := blk_frozen BKgo.out 1; have hf349 := blk_frozen BKgo.out 2; have hf350 := blk_frozen BKgo.out 3))
   go_loopg [35] b (fun gg s35 w' => ∃ (y : Nat) (d : List Int), y ≤ b ∧ b - y ≤ gg ∧ s35 = .int .i64 y ∧ Aside0 (dfAll k a b a1 l0_3 y = some d) ∧ Aside0 (Kd.R (Kd.int .i64) 3 w' w.heap.size (fun _ => True) (.slice (some ⟨g, 0, none⟩) l0_3.length co) d) ∧ Aside0 (w'.heap[gm]? = some (.cells #[.int .i64 (a : Int), .int .i64 (b : Int), .int .i64 1, .slice A0_3 l0_3.length c0_3] 27 (0, 0))) ∧ Aside0 (w'.heap[gr]? = some (.cells #[.int .i64 0, .int .i64 0, .int .i64 0, .slice none 0 0] 27 (0, 0))) ∧ Aside0 (w'.heap[go]? = some (.cells #[.int .i64 (a : Int), .int .i64 (b : Int), .int .i64 1, .slice (some ⟨g, 0, none⟩) l0_3.length co] 27 (0, 0))) ∧ Aside0 (Below w.heap.size w w'))
   case atStart => exact ⟨0, l0_3, Nat.zero_le _, by omega, rfl, ⟨rfl⟩, ⟨by refine qR ?_; exact Kd.R_mono HO.out (fun _ _ => trivial)⟩, ⟨by refine qB ?_; exact BKgm.out⟩, ⟨by refine qB ?_; exact BKgr.out⟩, ⟨by refine qB ?_; exact BKgo.out⟩, ⟨by exact qW HB.out⟩⟩
   case round =>
    clear HO HB BKgm BKgr BKgo
    obtain ⟨y, d, hy, hg, rfl, HY, HO, BKgm, BKgr, BKgo, HB⟩ := hrel
    obtain ⟨wo, ewo⟩ : ∃ wo : World, wo = wr := ⟨_, rfl⟩
    subst ewo
    have hz351 : wo.cell? ⟨gm, 0, none⟩ = some (.int .i64 (a : Int)) := (blk_cell BKgm.out 0).trans rfl
    have hz352 : wo.cell? ⟨gm, 1, none⟩ = some (.int .i64 (b : Int)) := (blk_cell BKgm.out 1).trans rfl
    have hz353 : wo.cell? ⟨gm, 2, none⟩ = some (.int .i64 1) := (blk_cell BKgm.out 2).trans rfl
    have hz354 : wo.cell? ⟨gm, 3, none⟩ = some (.slice A0_3 l0_3.length c0_3) := (blk_cell BKgm.out 3).trans rfl
    have hf355 := blk_frozen BKgm.out 0
    have hf356 := blk_frozen BKgm.out 1
    have hf357 := blk_frozen BKgm.out 2
    have hf358 := blk_frozen BKgm.out 3
    have hz359 : wo.cell? ⟨gr, 0, none⟩ = some (.int .i64 0) := (blk_cell BKgr.out 0).trans rfl
    have hz360 : wo.cell? ⟨gr, 1, none⟩ = some (.int .i64 0) := (blk_cell BKgr.out 1).trans rfl
    have hz361 : wo.cell? ⟨gr, 2, none⟩ = some (.int .i64 0) := (blk_cell BKgr.out 2).trans rfl
    have hz362 : wo.cell? ⟨gr, 3, none⟩ = some (.slice none 0 0) := (blk_cell BKgr.out 3).trans rfl
    have hf363 := blk_frozen BKgr.out 0
    have hf364 := blk_frozen BKgr.out 1
    have hf365 := blk_frozen BKgr.out 2
    have hf366 := blk_frozen BKgr.out 3
    have hz367 : wo.cell? ⟨go, 0, none⟩ = some (.int .i64 (a : Int)) := (blk_cell BKgo.out 0).trans rfl
    have hz368 : wo.cell? ⟨go, 1, none⟩ = some (.int .i64 (b : Int)) := (blk_cell BKgo.out 1).trans rfl
    have hz369 : wo.cell? ⟨go, 2, none⟩ = some (.int .i64 1) := (blk_cell BKgo.out 2).trans rfl
    have hz370 : wo.cell? ⟨go, 3, none⟩ = some (.slice (some ⟨g, 0, none⟩) l0_3.length co) := (blk_cell BKgo.out 3).trans rfl
    have hf371 := blk_frozen BKgo.out 0
    have hf372 := blk_frozen BKgo.out 1
    have hf373 := blk_frozen BKgo.out 2
    have hf374 := blk_frozen BKgo.out 3
    by_cases hlt : y < b
    case neg =>
     have hltz : ¬ (y : Int) < (b : Int) := by omega
     have ek : y = b := by omega
     have hd := HY.out
     rw [ek, HD.out] at hd
     obtain rfl := Option.some.inj hd
     clear ek hd
     go_wp2
     refine bodyPost_ret (results_ct rfl _ _ gr 27 #[.int .i64 (a : Int), .int .i64 (b : Int), .int .i64 1, .slice (some ⟨g, 0, none⟩) l0_3.length co] (0, 0) _ rfl (by exact bP BKgr.out) Try.underlying27 rfl (by kernel_rfl)) rfl ?_
     exact ⟨(.slice (some ⟨g, 0, none⟩) l0_3.length co), by first | rfl | (simp; done), by refine qR ?_; exact Kd.R_mono (Kd.R_far (p := ⟨gr, 3, none⟩) (Kd.R_far (p := ⟨gr, 2, none⟩) (Kd.R_far (p := ⟨gr, 1, none⟩) (Kd.R_far (p := ⟨gr, 0, none⟩) (Kd.R_types HO.out BKgr.out (by decide)) (fun _ hk => hk.2) _) (fun _ hk => hk.2) _) (fun _ hk => hk.2) _) (fun _ hk => hk.2) _) (fun _ hk => trivial), by exact qW HB.out⟩
    case pos =>
     have hltz : (y : Int) < (b : Int) := by omega
     obtain ⟨d1, hd1⟩ := dfAll_le b (y + 1) D HD.out hlt
     rw [dfAll, HY.out, Option.bind_some, Int.toNat_natCast] at hd1
     have HD1 := aM hd1
     have HLD := aM (dfAll_len _ _ HY.out)
     clear hd1
     go_wp2
     obtain ⟨d0, hd0⟩ : ∃ z, z = d := ⟨_, rfl⟩
     rw [← hd0] at HY HD1 HLD
     go_loopg [40] a (fun gg2 s40 w' => ∃ (x : Nat) (d : List Int), x ≤ a ∧ a - x ≤ gg2 ∧ s40 = .int .i64 x ∧ Aside0 (dfRow k a b a1 y d0 x = some d) ∧ Aside0 (Kd.R (Kd.int .i64) 3 w' w.heap.size (fun _ => True) (.slice (some ⟨g, 0, none⟩) l0_3.length co) d) ∧ Aside0 (w'.heap[gm]? = some (.cells #[.int .i64 (a : Int), .int .i64 (b : Int), .int .i64 1, .slice A0_3 l0_3.length c0_3] 27 (0, 0))) ∧ Aside0 (w'.heap[gr]? = some (.cells #[.int .i64 0, .int .i64 0, .int .i64 0, .slice none 0 0] 27 (0, 0))) ∧ Aside0 (w'.heap[go]? = some (.cells #[.int .i64 (a : Int), .int .i64 (b : Int), .int .i64 1, .slice (some ⟨g, 0, none⟩) l0_3.length co] 27 (0, 0))) ∧ Aside0 (Below w.heap.size w w'))
     case atStart => exact ⟨0, d, Nat.zero_le _, by omega, rfl, ⟨by rw [hd0]; rfl⟩, ⟨by refine qR ?_; exact Kd.R_mono HO.out (fun _ _ => trivial)⟩, ⟨by refine qB ?_; exact BKgm.out⟩, ⟨by refine qB ?_; exact BKgr.out⟩, ⟨by refine qB ?_; exact BKgo.out⟩, ⟨by exact qW HB.out⟩⟩
     case round =>
      clear HO HB BKgm BKgr BKgo hd0
      obtain ⟨x, d2, hx, hg2, rfl, HX, HO, BKgm, BKgr, BKgo, HB⟩ := hrel
      have hz375 : wr.cell? ⟨gm, 0, none⟩ = some (.int .i64 (a : Int)) := (blk_cell BKgm.out 0).trans rfl
      have hz376 : wr.cell? ⟨gm, 1, none⟩ = some (.int .i64 (b : Int)) := (blk_cell BKgm.out 1).trans rfl
      have hz377 : wr.cell? ⟨gm, 2, none⟩ = some (.int .i64 1) := (blk_cell BKgm.out 2).trans rfl
      have hz378 : wr.cell? ⟨gm, 3, none⟩ = some (.slice A0_3 l0_3.length c0_3) := (blk_cell BKgm.out 3).trans rfl
      have hf379 := blk_frozen BKgm.out 0
      have hf380 := blk_frozen BKgm.out 1
      have hf381 := blk_frozen BKgm.out 2
      have hf382 := blk_frozen BKgm.out 3
      have hz383 : wr.cell? ⟨gr, 0, none⟩ = some (.int .i64 0) := (blk_cell BKgr.out 0).trans rfl
      have hz384 : wr.cell? ⟨gr, 1, none⟩ = some (.int .i64 0) := (blk_cell BKgr.out 1).trans rfl
      have hz385 : wr.cell? ⟨gr, 2, none⟩ = some (.int .i64 0) := (blk_cell BKgr.out 2).trans rfl
      have hz386 : wr.cell? ⟨gr, 3, none⟩ = some (.slice none 0 0) := (blk_cell BKgr.out 3).trans rfl
      have hf387 := blk_frozen BKgr.out 0
      have hf388 := blk_frozen BKgr.out 1
      have hf389 := blk_frozen BKgr.out 2
      have hf390 := blk_frozen BKgr.out 3
      have hz391 : wr.cell? ⟨go, 0, none⟩ = some (.int .i64 (a : Int)) := (blk_cell BKgo.out 0).trans rfl
      have hz392 : wr.cell? ⟨go, 1, none⟩ = some (.int .i64 (b : Int)) := (blk_cell BKgo.out 1).trans rfl
      have hz393 : wr.cell? ⟨go, 2, none⟩ = some (.int .i64 1) := (blk_cell BKgo.out 2).trans rfl
      have hz394 : wr.cell? ⟨go, 3, none⟩ = some (.slice (some ⟨g, 0, none⟩) l0_3.length co) := (blk_cell BKgo.out 3).trans rfl
      have hf395 := blk_frozen BKgo.out 0
      have hf396 := blk_frozen BKgo.out 1
      have hf397 := blk_frozen BKgo.out 2
      have hf398 := blk_frozen BKgo.out 3
      by_cases hlx : x < a
      case neg =>
       have hlxz : ¬ (x : Int) < (a : Int) := by omega
       have ek : x = a := by omega
       subst ek
       go_wp2
       go_roundg (b - (y + 1))
       case measure => omega
       case rel => exact ⟨y + 1, d2, by omega, by omega, by go_num, ⟨by rw [dfAll, HY.out, Option.bind_some, Int.toNat_natCast]; exact HX.out⟩, ⟨by refine qR ?_; exact Kd.R_mono HO.out (fun _ _ => trivial)⟩, ⟨by refine qB ?_; exact BKgm.out⟩, ⟨by refine qB ?_; exact BKgr.out⟩, ⟨by refine qB ?_; exact BKgo.out⟩, ⟨by exact qW HB.out⟩⟩
      case pos =>
       have hlxz : (x : Int) < (a : Int) := by omega
       have hx0 : 0 ≤ (x : Int) := by omega
       have hy0 : 0 ≤ (y : Int) := by omega
       obtain ⟨d3, hd3⟩ := dfRow_le a (x + 1) d1 HD1.out hlx
       have HX2 := aM hd3
       rw [dfRow, HX.out, Option.bind_some, dfPix] at hd3
       have hi : (y : Int) * (a : Int) + (x : Int) = ((y * a + x : Nat) : Int) := by rw [Int.natCast_add, Int.natCast_mul]
       have hin : y * a + x < l0_3.length := by
        have h1 : (y + 1) * a ≤ b * a := Nat.mul_le_mul_right a hlt
        have h2 := HLN.out
        rw [← Int.natCast_mul] at h2
        rw [Nat.succ_mul] at h1
        omega
       rw [hi, Int.toNat_natCast] at hd3
       have hcm : l0_3.length ≤ co ∧ co ≤ 9223372036854775807 := by
        obtain ⟨_, inner, hown, _⟩ := HO.out
        refine ⟨(Kd.R_reads' HO.out).2.1, ?_⟩
        rcases hown.2 with ⟨hv, _⟩ | ⟨g', cap', cur, hv, hb, hh, hl, hcm, hcs, htake⟩
        ·cases hv
        injection hv with _ _ hc
        subst hc
        exact hcm
       have HAT := aM (fun W : World => impl_at.calls3 (a : Int) (b : Int) g l0_3.length co (x : Int) (y : Int) (y * a + x) W (by omega) v0b hx0 (by omega) hy0 (by omega) hi hin hcm.1 hcm.2)
       clear hi hcm
       generalize y * a + x = i at hd3 hin HAT
       have HIN := aM hin
       clear hin
       obtain ⟨lev, q1, hd3⟩ := Option.bind_eq_some_iff.mp hd3
       obtain ⟨v, q2, hd3⟩ := Option.bind_eq_some_iff.mp hd3
       obtain ⟨p, q3, hd3⟩ := Option.bind_eq_some_iff.mp hd3
       obtain ⟨q, q4, hd3⟩ := Option.bind_eq_some_iff.mp hd3
       obtain ⟨s, q5, hd3⟩ := Option.bind_eq_some_iff.mp hd3
       have AL := aM q1
       have AV := aM q2
       have AP := aM q3
       have AQ := aM q4
       have AS := aM q5
       clear q1 q2 q3 q4 q5
       generalize hA : d2.set i v = dA at hd3
       generalize hB_ : dfGive (a : Int) (b : Int) ((x : Int) + 1) (y : Int) p dA = dB at hd3
       generalize hC_ : dfGive (a : Int) (b : Int) ((x : Int) - 1) ((y : Int) + 1) q dB = dC at hd3
       generalize hD_ : dfGive (a : Int) (b : Int) (x : Int) ((y : Int) + 1) s dC = dD at hd3
       have EA := aM hA
       have EB := aM hB_
       have EC := aM hC_
       have ED := aM hD_
       have EE := aM (Option.some.inj hd3)
       clear hA hB_ hC_ hD_ hd3
       have X16 := aM (show x ≤ 1000 ∧ y ≤ 1000 by omega)
       have B1 := aM (show (-1 ≤ (x : Int) + 1 ∧ (x : Int) + 1 ≤ 16) ∧ (-1 ≤ (x : Int) - 1 ∧ (x : Int) - 1 ≤ 16) ∧ (-1 ≤ (x : Int) ∧ (x : Int) ≤ 16) by omega)
       have B2 := aM (show (0 ≤ (y : Int) ∧ (y : Int) ≤ 16) ∧ (0 ≤ (y : Int) + 1 ∧ (y : Int) + 1 ≤ 16) by omega)
       have GX1 := aM (wrap_succ x X16.out.1)
       have GX2 := aM (wrap_pred x X16.out.1)
       have GY1 := aM (wrap_succ y X16.out.2)
       go_wp2_with (first | (go_at_call 50; refine (HAT.out _).mono ?_; rintro e w399 ⟨rfl, hb⟩; have r_ := aM (Kd.R_below (qR HO.out) hb); clear HO; have HO := r_; clear r_; have n402 := bB BKgm hb; have n403 := bB BKgr hb; have n404 := bB BKgo hb; have n405 := bS HB hb; clear HB BKgm BKgr BKgo; have BKgm := n402; have BKgr := n403; have BKgo := n404; have HB := n405; clear n402 n403 n404 n405 hb; have hz406 : w399.cell? ⟨gm, 0, none⟩ = some (.int .i64 (a : Int)) := (blk_cell BKgm.out 0).trans rfl; have hz407 : w399.cell? ⟨gm, 1, none⟩ = some (.int .i64 (b : Int)) := (blk_cell BKgm.out 1).trans rfl; have hz408 : w399.cell? ⟨gm, 2, none⟩ = some (.int .i64 1) := (blk_cell BKgm.out 2).trans rfl; have hz409 : w399.cell? ⟨gm, 3, none⟩ = some (.slice A0_3 l0_3.length c0_3) := (blk_cell BKgm.out 3).trans rfl; have hf410 := blk_frozen BKgm.out 0; have hf411 := blk_frozen BKgm.out 1; have hf412 := blk_frozen BKgm.out 2; have hf413 := blk_frozen BKgm.out 3; have hz414 : w399.cell? ⟨gr, 0, none⟩ = some (.int .i64 0) := (blk_cell BKgr.out 0).trans rfl; have hz415 : w399.cell? ⟨gr, 1, none⟩ = some (.int .i64 0) := (blk_cell BKgr.out 1).trans rfl; have hz416 : w399.cell? ⟨gr, 2, none⟩ = some (.int .i64 0) := (blk_cell BKgr.out 2).trans rfl; have hz417 : w399.cell? ⟨gr, 3, none⟩ = some (.slice none 0 0) := (blk_cell BKgr.out 3).trans rfl; have hf418 := blk_frozen BKgr.out 0; have hf419 := blk_frozen BKgr.out 1; have hf420 := blk_frozen BKgr.out 2; have hf421 := blk_frozen BKgr.out 3; have hz422 : w399.cell? ⟨go, 0, none⟩ = some (.int .i64 (a : Int)) := (blk_cell BKgo.out 0).trans rfl; have hz423 : w399.cell? ⟨go, 1, none⟩ = some (.int .i64 (b : Int)) := (blk_cell BKgo.out 1).trans rfl; have hz424 : w399.cell? ⟨go, 2, none⟩ = some (.int .i64 1) := (blk_cell BKgo.out 2).trans rfl; have hz425 : w399.cell? ⟨go, 3, none⟩ = some (.slice (some ⟨g, 0, none⟩) l0_3.length co) := (blk_cell BKgo.out 3).trans rfl; have hf426 := blk_frozen BKgo.out 0; have hf427 := blk_frozen BKgo.out 1; have hf428 := blk_frozen BKgo.out 2; have hf429 := blk_frozen BKgo.out 3; have hcx := (R_cellOwn HO.out i HIN.out).1; have hcf := (R_cellOwn HO.out i HIN.out).2) | (go_at_call 68; (with_reducible refine (impl_levelOf.calls k _ _ lev _ AL.out).mono ?_); rintro e w400 ⟨rfl, hb⟩; have r_ := aM (Kd.R_below (qR HO.out) hb); clear HO; have HO := r_; clear r_; have n430 := bB BKgm hb; have n431 := bB BKgr hb; have n432 := bB BKgo hb; have n433 := bS HB hb; clear HB BKgm BKgr BKgo; have BKgm := n430; have BKgr := n431; have BKgo := n432; have HB := n433; clear n430 n431 n432 n433 hb; have hz434 : w400.cell? ⟨gm, 0, none⟩ = some (.int .i64 (a : Int)) := (blk_cell BKgm.out 0).trans rfl; have hz435 : w400.cell? ⟨gm, 1, none⟩ = some (.int .i64 (b : Int)) := (blk_cell BKgm.out 1).trans rfl; have hz436 : w400.cell? ⟨gm, 2, none⟩ = some (.int .i64 1) := (blk_cell BKgm.out 2).trans rfl; have hz437 : w400.cell? ⟨gm, 3, none⟩ = some (.slice A0_3 l0_3.length c0_3) := (blk_cell BKgm.out 3).trans rfl; have hf438 := blk_frozen BKgm.out 0; have hf439 := blk_frozen BKgm.out 1; have hf440 := blk_frozen BKgm.out 2; have hf441 := blk_frozen BKgm.out 3; have hz442 : w400.cell? ⟨gr, 0, none⟩ = some (.int .i64 0) := (blk_cell BKgr.out 0).trans rfl; have hz443 : w400.cell? ⟨gr, 1, none⟩ = some (.int .i64 0) := (blk_cell BKgr.out 1).trans rfl; have hz444 : w400.cell? ⟨gr, 2, none⟩ = some (.int .i64 0) := (blk_cell BKgr.out 2).trans rfl; have hz445 : w400.cell? ⟨gr, 3, none⟩ = some (.slice none 0 0) := (blk_cell BKgr.out 3).trans rfl; have hf446 := blk_frozen BKgr.out 0; have hf447 := blk_frozen BKgr.out 1; have hf448 := blk_frozen BKgr.out 2; have hf449 := blk_frozen BKgr.out 3; have hz450 : w400.cell? ⟨go, 0, none⟩ = some (.int .i64 (a : Int)) := (blk_cell BKgo.out 0).trans rfl; have hz451 : w400.cell? ⟨go, 1, none⟩ = some (.int .i64 (b : Int)) := (blk_cell BKgo.out 1).trans rfl; have hz452 : w400.cell? ⟨go, 2, none⟩ = some (.int .i64 1) := (blk_cell BKgo.out 2).trans rfl; have hz453 : w400.cell? ⟨go, 3, none⟩ = some (.slice (some ⟨g, 0, none⟩) l0_3.length co) := (blk_cell BKgo.out 3).trans rfl; have hf454 := blk_frozen BKgo.out 0; have hf455 := blk_frozen BKgo.out 1; have hf456 := blk_frozen BKgo.out 2; have hf457 := blk_frozen BKgo.out 3) | (go_at_call 64; (with_reducible refine (impl_valueOf.calls _ _ v _ AV.out).mono ?_); rintro e w' ⟨rfl, ⟨nd, rfl⟩⟩) | ((with_reducible refine gate_store (t := 3) (p := 59) rfl ?_); refine store_event (t := 3) (p := 59) (v := ?vo_di) (w1 := (w399.setCell ⟨g, i, none⟩ (.int .i64 v))) ?hg ?ho ?hn ?hr ?_; (case ho => rfl); (case hg => rfl); (case hn => rfl); (case hr => first | (go_simp; done) | (go_simp; rfl)); intro w401 hw; have h2 := (Kd.R_putg (enc := Value.int .i64) (h1 := fun _ => rfl) HO.out (i : Int) v).1; rw [Int.toNat_natCast, ← hw, EA.out] at h2; have hgb := Kd.R_base HO.out g (by simp [Value.ownBlock]); have e1_ := Kd.R_ne HO.out BKgm.out (by decide); have e2_ := Kd.R_ne HO.out BKgr.out (by decide); have e3_ := Kd.R_ne HO.out BKgo.out (by decide); have b1_ := aM (show w401.heap[gm]? = some (.cells #[.int .i64 (a : Int), .int .i64 (b : Int), .int .i64 1, .slice A0_3 l0_3.length c0_3] 27 (0, 0)) by rw [hw]; exact blk_far BKgm.out (fun e => e1_ (by rw [e]; simp [Value.ownBlock])) _); have b2_ := aM (show w401.heap[gr]? = some (.cells #[.int .i64 0, .int .i64 0, .int .i64 0, .slice none 0 0] 27 (0, 0)) by rw [hw]; exact blk_far BKgr.out (fun e => e2_ (by rw [e]; simp [Value.ownBlock])) _); have b3_ := aM (show w401.heap[go]? = some (.cells #[.int .i64 (a : Int), .int .i64 (b : Int), .int .i64 1, .slice (some ⟨g, 0, none⟩) l0_3.length co] 27 (0, 0)) by rw [hw]; exact blk_far BKgo.out (fun e => e3_ (by rw [e]; simp [Value.ownBlock])) _); have b4_ := aM (show Below w.heap.size w w401 by rw [hw]; exact below_set HB.out hgb); have b5_ := aM h2; clear HO HB BKgm BKgr BKgo e1_ e2_ e3_ h2 hgb hw hcx hcf; have HO := b5_; have HB := b4_; have BKgm := b1_; have BKgr := b2_; have BKgo := b3_; clear b1_ b2_ b3_ b4_ b5_; have hz458 : w401.cell? ⟨gm, 0, none⟩ = some (.int .i64 (a : Int)) := (blk_cell BKgm.out 0).trans rfl; have hz459 : w401.cell? ⟨gm, 1, none⟩ = some (.int .i64 (b : Int)) := (blk_cell BKgm.out 1).trans rfl; have hz460 : w401.cell? ⟨gm, 2, none⟩ = some (.int .i64 1) := (blk_cell BKgm.out 2).trans rfl; have hz461 : w401.cell? ⟨gm, 3, none⟩ = some (.slice A0_3 l0_3.length c0_3) := (blk_cell BKgm.out 3).trans rfl; have hf462 := blk_frozen BKgm.out 0; have hf463 := blk_frozen BKgm.out 1; have hf464 := blk_frozen BKgm.out 2; have hf465 := blk_frozen BKgm.out 3; have hz466 : w401.cell? ⟨gr, 0, none⟩ = some (.int .i64 0) := (blk_cell BKgr.out 0).trans rfl; have hz467 : w401.cell? ⟨gr, 1, none⟩ = some (.int .i64 0) := (blk_cell BKgr.out 1).trans rfl; have hz468 : w401.cell? ⟨gr, 2, none⟩ = some (.int .i64 0) := (blk_cell BKgr.out 2).trans rfl; have hz469 : w401.cell? ⟨gr, 3, none⟩ = some (.slice none 0 0) := (blk_cell BKgr.out 3).trans rfl; have hf470 := blk_frozen BKgr.out 0; have hf471 := blk_frozen BKgr.out 1; have hf472 := blk_frozen BKgr.out 2; have hf473 := blk_frozen BKgr.out 3; have hz474 : w401.cell? ⟨go, 0, none⟩ = some (.int .i64 (a : Int)) := (blk_cell BKgo.out 0).trans rfl; have hz475 : w401.cell? ⟨go, 1, none⟩ = some (.int .i64 (b : Int)) := (blk_cell BKgo.out 1).trans rfl; have hz476 : w401.cell? ⟨go, 2, none⟩ = some (.int .i64 1) := (blk_cell BKgo.out 2).trans rfl; have hz477 : w401.cell? ⟨go, 3, none⟩ = some (.slice (some ⟨g, 0, none⟩) l0_3.length co) := (blk_cell BKgo.out 3).trans rfl; have hf478 := blk_frozen BKgo.out 0; have hf479 := blk_frozen BKgo.out 1; have hf480 := blk_frozen BKgo.out 2; have hf481 := blk_frozen BKgo.out 3) | (go_at_call 74; (with_reducible refine (impl_floorDiv.calls _ _ p _ AP.out).mono ?_); rintro e w' ⟨rfl, ⟨nd, rfl⟩⟩) | (go_at_call 74; (with_reducible refine (impl_floorDiv.calls _ _ q _ AQ.out).mono ?_); rintro e w' ⟨rfl, ⟨nd, rfl⟩⟩) | (go_at_call 74; (with_reducible refine (impl_floorDiv.calls _ _ s _ AS.out).mono ?_); rintro e w' ⟨rfl, ⟨nd, rfl⟩⟩) | ((with_reducible refine gate_value (t := 72) rfl ?_); refine goesV_ (some 77) rfl rfl 72 Try.func73 (by kernel_rfl) rfl #[.int .i64 ((x : Int) + 1), .int .i64 (y : Int), .int .i64 p] #[.pointer (some ⟨gm, 0, none⟩), .pointer (some ⟨go, 0, none⟩)] #[.int .i64 ((x : Int) + 1), .int .i64 (y : Int), .int .i64 p, .pointer (some ⟨gm, 0, none⟩), .pointer (some ⟨go, 0, none⟩)] rfl rfl (by (try simp only [List.map_toArray, List.map_cons, List.map_nil]); first | done | rfl) (by simp) ?_; refine (diffGive w _ _ gm go (fun _ => True) (a : Int) (b : Int) A0_3 c0_3 l0_3 g l0_3.length co dA ((x : Int) + 1) (y : Int) p ?side1 ?side2 ?side3 ?side4 rfl HV0.out HV1.out HLN.out B1.out.1.1 B1.out.1.2 B2.out.1.1 B2.out.1.2).mono ?_; (case side1 => refine qB ?_; exact BKgm.out); (case side2 => refine qB ?_; exact BKgo.out); (case side3 => refine qR ?_; exact HO.out); (case side4 => exact (qW HB.out)); rintro e w482 ⟨rfl, hO, hB2, hbm, hbo, hk⟩; refine ⟨_, rfl, ?_⟩; rw [EB.out] at hO; have hk2_ := fun hb_ => blk_kept (g := gr) (o := .cells #[.int .i64 0, .int .i64 0, .int .i64 0, .slice none 0 0] 27 (0, 0)) hb_ hk (fun (e : gr = g) => Kd.R_ne HO.out BKgr.out (by decide) (by rw [e]; simp [Value.ownBlock])); have b2_ := aM (hk2_ (qB BKgr.out)); clear hk2_; have b1_ := aM hbm; have b3_ := aM hbo; have b4_ := aM hB2; have b5_ := aM hO; clear HO HB BKgm BKgr BKgo hO hB2 hbm hbo hk; have HO := b5_; have HB := b4_; have BKgm := b1_; have BKgr := b2_; have BKgo := b3_; clear b1_ b2_ b3_ b4_ b5_; have hz483 : w482.cell? ⟨gm, 0, none⟩ = some (.int .i64 (a : Int)) := (blk_cell BKgm.out 0).trans rfl; have hz484 : w482.cell? ⟨gm, 1, none⟩ = some (.int .i64 (b : Int)) := (blk_cell BKgm.out 1).trans rfl; have hz485 : w482.cell? ⟨gm, 2, none⟩ = some (.int .i64 1) := (blk_cell BKgm.out 2).trans rfl; have hz486 : w482.cell? ⟨gm, 3, none⟩ = some (.slice A0_3 l0_3.length c0_3) := (blk_cell BKgm.out 3).trans rfl; have hf487 := blk_frozen BKgm.out 0; have hf488 := blk_frozen BKgm.out 1; have hf489 := blk_frozen BKgm.out 2; have hf490 := blk_frozen BKgm.out 3; have hz491 : w482.cell? ⟨gr, 0, none⟩ = some (.int .i64 0) := (blk_cell BKgr.out 0).trans rfl; have hz492 : w482.cell? ⟨gr, 1, none⟩ = some (.int .i64 0) := (blk_cell BKgr.out 1).trans rfl; have hz493 : w482.cell? ⟨gr, 2, none⟩ = some (.int .i64 0) := (blk_cell BKgr.out 2).trans rfl; have hz494 : w482.cell? ⟨gr, 3, none⟩ = some (.slice none 0 0) := (blk_cell BKgr.out 3).trans rfl; have hf495 := blk_frozen BKgr.out 0; have hf496 := blk_frozen BKgr.out 1; have hf497 := blk_frozen BKgr.out 2; have hf498 := blk_frozen BKgr.out 3; have hz499 : w482.cell? ⟨go, 0, none⟩ = some (.int .i64 (a : Int)) := (blk_cell BKgo.out 0).trans rfl; have hz500 : w482.cell? ⟨go, 1, none⟩ = some (.int .i64 (b : Int)) := (blk_cell BKgo.out 1).trans rfl; have hz501 : w482.cell? ⟨go, 2, none⟩ = some (.int .i64 1) := (blk_cell BKgo.out 2).trans rfl; have hz502 : w482.cell? ⟨go, 3, none⟩ = some (.slice (some ⟨g, 0, none⟩) l0_3.length co) := (blk_cell BKgo.out 3).trans rfl; have hf503 := blk_frozen BKgo.out 0; have hf504 := blk_frozen BKgo.out 1; have hf505 := blk_frozen BKgo.out 2; have hf506 := blk_frozen BKgo.out 3) | ((with_reducible refine gate_value (t := 78) rfl ?_); refine goesV_ (some 84) rfl rfl 78 Try.func73 (by kernel_rfl) rfl #[.int .i64 ((x : Int) - 1), .int .i64 ((y : Int) + 1), .int .i64 q] #[.pointer (some ⟨gm, 0, none⟩), .pointer (some ⟨go, 0, none⟩)] #[.int .i64 ((x : Int) - 1), .int .i64 ((y : Int) + 1), .int .i64 q, .pointer (some ⟨gm, 0, none⟩), .pointer (some ⟨go, 0, none⟩)] rfl rfl (by (try simp only [List.map_toArray, List.map_cons, List.map_nil]); first | done | rfl) (by simp) ?_; refine (diffGive w _ _ gm go (fun _ => True) (a : Int) (b : Int) A0_3 c0_3 l0_3 g l0_3.length co dB ((x : Int) - 1) ((y : Int) + 1) q ?side1 ?side2 ?side3 ?side4 rfl HV0.out HV1.out HLN.out B1.out.2.1.1 B1.out.2.1.2 B2.out.2.1 B2.out.2.2).mono ?_; (case side1 => refine qB ?_; exact BKgm.out); (case side2 => refine qB ?_; exact BKgo.out); (case side3 => refine qR ?_; exact HO.out); (case side4 => exact (qW HB.out)); rintro e w507 ⟨rfl, hO, hB2, hbm, hbo, hk⟩; refine ⟨_, rfl, ?_⟩; rw [EC.out] at hO; have hk2_ := fun hb_ => blk_kept (g := gr) (o := .cells #[.int .i64 0, .int .i64 0, .int .i64 0, .slice none 0 0] 27 (0, 0)) hb_ hk (fun (e : gr = g) => Kd.R_ne HO.out BKgr.out (by decide) (by rw [e]; simp [Value.ownBlock])); have b2_ := aM (hk2_ (qB BKgr.out)); clear hk2_; have b1_ := aM hbm; have b3_ := aM hbo; have b4_ := aM hB2; have b5_ := aM hO; clear HO HB BKgm BKgr BKgo hO hB2 hbm hbo hk; have HO := b5_; have HB := b4_; have BKgm := b1_; have BKgr := b2_; have BKgo := b3_; clear b1_ b2_ b3_ b4_ b5_; have hz508 : w507.cell? ⟨gm, 0, none⟩ = some (.int .i64 (a : Int)) := (blk_cell BKgm.out 0).trans rfl; have hz509 : w507.cell? ⟨gm, 1, none⟩ = some (.int .i64 (b : Int)) := (blk_cell BKgm.out 1).trans rfl; have hz510 : w507.cell? ⟨gm, 2, none⟩ = some (.int .i64 1) := (blk_cell BKgm.out 2).trans rfl; have hz511 : w507.cell? ⟨gm, 3, none⟩ = some (.slice A0_3 l0_3.length c0_3) := (blk_cell BKgm.out 3).trans rfl; have hf512 := blk_frozen BKgm.out 0; have hf513 := blk_frozen BKgm.out 1; have hf514 := blk_frozen BKgm.out 2; have hf515 := blk_frozen BKgm.out 3; have hz516 : w507.cell? ⟨gr, 0, none⟩ = some (.int .i64 0) := (blk_cell BKgr.out 0).trans rfl; have hz517 : w507.cell? ⟨gr, 1, none⟩ = some (.int .i64 0) := (blk_cell BKgr.out 1).trans rfl; have hz518 : w507.cell? ⟨gr, 2, none⟩ = some (.int .i64 0) := (blk_cell BKgr.out 2).trans rfl; have hz519 : w507.cell? ⟨gr, 3, none⟩ = some (.slice none 0 0) := (blk_cell BKgr.out 3).trans rfl; have hf520 := blk_frozen BKgr.out 0; have hf521 := blk_frozen BKgr.out 1; have hf522 := blk_frozen BKgr.out 2; have hf523 := blk_frozen BKgr.out 3; have hz524 : w507.cell? ⟨go, 0, none⟩ = some (.int .i64 (a : Int)) := (blk_cell BKgo.out 0).trans rfl; have hz525 : w507.cell? ⟨go, 1, none⟩ = some (.int .i64 (b : Int)) := (blk_cell BKgo.out 1).trans rfl; have hz526 : w507.cell? ⟨go, 2, none⟩ = some (.int .i64 1) := (blk_cell BKgo.out 2).trans rfl; have hz527 : w507.cell? ⟨go, 3, none⟩ = some (.slice (some ⟨g, 0, none⟩) l0_3.length co) := (blk_cell BKgo.out 3).trans rfl; have hf528 := blk_frozen BKgo.out 0; have hf529 := blk_frozen BKgo.out 1; have hf530 := blk_frozen BKgo.out 2; have hf531 := blk_frozen BKgo.out 3) | ((with_reducible refine gate_value (t := 85) rfl ?_); refine goesV_ (some 90) rfl rfl 85 Try.func73 (by kernel_rfl) rfl #[.int .i64 (x : Int), .int .i64 ((y : Int) + 1), .int .i64 s] #[.pointer (some ⟨gm, 0, none⟩), .pointer (some ⟨go, 0, none⟩)] #[.int .i64 (x : Int), .int .i64 ((y : Int) + 1), .int .i64 s, .pointer (some ⟨gm, 0, none⟩), .pointer (some ⟨go, 0, none⟩)] rfl rfl (by (try simp only [List.map_toArray, List.map_cons, List.map_nil]); first | done | rfl) (by simp) ?_; refine (diffGive w _ _ gm go (fun _ => True) (a : Int) (b : Int) A0_3 c0_3 l0_3 g l0_3.length co dC (x : Int) ((y : Int) + 1) s ?side1 ?side2 ?side3 ?side4 rfl HV0.out HV1.out HLN.out B1.out.2.2.1 B1.out.2.2.2 B2.out.2.1 B2.out.2.2).mono ?_; (case side1 => refine qB ?_; exact BKgm.out); (case side2 => refine qB ?_; exact BKgo.out); (case side3 => refine qR ?_; exact HO.out); (case side4 => exact (qW HB.out)); rintro e w532 ⟨rfl, hO, hB2, hbm, hbo, hk⟩; refine ⟨_, rfl, ?_⟩; rw [ED.out] at hO; have hk2_ := fun hb_ => blk_kept (g := gr) (o := .cells #[.int .i64 0, .int .i64 0, .int .i64 0, .slice none 0 0] 27 (0, 0)) hb_ hk (fun (e : gr = g) => Kd.R_ne HO.out BKgr.out (by decide) (by rw [e]; simp [Value.ownBlock])); have b2_ := aM (hk2_ (qB BKgr.out)); clear hk2_; have b1_ := aM hbm; have b3_ := aM hbo; have b4_ := aM hB2; have b5_ := aM hO; clear HO HB BKgm BKgr BKgo hO hB2 hbm hbo hk; have HO := b5_; have HB := b4_; have BKgm := b1_; have BKgr := b2_; have BKgo := b3_; clear b1_ b2_ b3_ b4_ b5_; have hz533 : w532.cell? ⟨gm, 0, none⟩ = some (.int .i64 (a : Int)) := (blk_cell BKgm.out 0).trans rfl; have hz534 : w532.cell? ⟨gm, 1, none⟩ = some (.int .i64 (b : Int)) := (blk_cell BKgm.out 1).trans rfl; have hz535 : w532.cell? ⟨gm, 2, none⟩ = some (.int .i64 1) := (blk_cell BKgm.out 2).trans rfl; have hz536 : w532.cell? ⟨gm, 3, none⟩ = some (.slice A0_3 l0_3.length c0_3) := (blk_cell BKgm.out 3).trans rfl; have hf537 := blk_frozen BKgm.out 0; have hf538 := blk_frozen BKgm.out 1; have hf539 := blk_frozen BKgm.out 2; have hf540 := blk_frozen BKgm.out 3; have hz541 : w532.cell? ⟨gr, 0, none⟩ = some (.int .i64 0) := (blk_cell BKgr.out 0).trans rfl; have hz542 : w532.cell? ⟨gr, 1, none⟩ = some (.int .i64 0) := (blk_cell BKgr.out 1).trans rfl; have hz543 : w532.cell? ⟨gr, 2, none⟩ = some (.int .i64 0) := (blk_cell BKgr.out 2).trans rfl; have hz544 : w532.cell? ⟨gr, 3, none⟩ = some (.slice none 0 0) := (blk_cell BKgr.out 3).trans rfl; have hf545 := blk_frozen BKgr.out 0; have hf546 := blk_frozen BKgr.out 1; have hf547 := blk_frozen BKgr.out 2; have hf548 := blk_frozen BKgr.out 3; have hz549 : w532.cell? ⟨go, 0, none⟩ = some (.int .i64 (a : Int)) := (blk_cell BKgo.out 0).trans rfl; have hz550 : w532.cell? ⟨go, 1, none⟩ = some (.int .i64 (b : Int)) := (blk_cell BKgo.out 1).trans rfl; have hz551 : w532.cell? ⟨go, 2, none⟩ = some (.int .i64 1) := (blk_cell BKgo.out 2).trans rfl; have hz552 : w532.cell? ⟨go, 3, none⟩ = some (.slice (some ⟨g, 0, none⟩) l0_3.length co) := (blk_cell BKgo.out 3).trans rfl; have hf553 := blk_frozen BKgo.out 0; have hf554 := blk_frozen BKgo.out 1; have hf555 := blk_frozen BKgo.out 2; have hf556 := blk_frozen BKgo.out 3) | ((with_reducible refine gate_value (t := 91) rfl ?_); refine goesV_ (some 103) rfl rfl 91 Try.func73 (by kernel_rfl) rfl #[.int .i64 ((x : Int) + 1), .int .i64 ((y : Int) + 1), .int .i64 (wrap64 (wrap64 (wrap64 (wrap64 (rd d2 (i : Int) - v) - p) - q) - s))] #[.pointer (some ⟨gm, 0, none⟩), .pointer (some ⟨go, 0, none⟩)] #[.int .i64 ((x : Int) + 1), .int .i64 ((y : Int) + 1), .int .i64 (wrap64 (wrap64 (wrap64 (wrap64 (rd d2 (i : Int) - v) - p) - q) - s)), .pointer (some ⟨gm, 0, none⟩), .pointer (some ⟨go, 0, none⟩)] rfl rfl (by (try simp only [List.map_toArray, List.map_cons, List.map_nil]); first | done | rfl) (by simp) ?_; refine (diffGive w _ _ gm go (fun _ => True) (a : Int) (b : Int) A0_3 c0_3 l0_3 g l0_3.length co dD ((x : Int) + 1) ((y : Int) + 1) (wrap64 (wrap64 (wrap64 (wrap64 (rd d2 (i : Int) - v) - p) - q) - s)) ?side1 ?side2 ?side3 ?side4 rfl HV0.out HV1.out HLN.out B1.out.1.1 B1.out.1.2 B2.out.2.1 B2.out.2.2).mono ?_; (case side1 => refine qB ?_; exact BKgm.out); (case side2 => refine qB ?_; exact BKgo.out); (case side3 => refine qR ?_; exact HO.out); (case side4 => exact (qW HB.out)); rintro e w557 ⟨rfl, hO, hB2, hbm, hbo, hk⟩; refine ⟨_, rfl, ?_⟩; rw [EE.out] at hO; have hk2_ := fun hb_ => blk_kept (g := gr) (o := .cells #[.int .i64 0, .int .i64 0, .int .i64 0, .slice none 0 0] 27 (0, 0)) hb_ hk (fun (e : gr = g) => Kd.R_ne HO.out BKgr.out (by decide) (by rw [e]; simp [Value.ownBlock])); have b2_ := aM (hk2_ (qB BKgr.out)); clear hk2_; have b1_ := aM hbm; have b3_ := aM hbo; have b4_ := aM hB2; have b5_ := aM hO; clear HO HB BKgm BKgr BKgo hO hB2 hbm hbo hk; have HO := b5_; have HB := b4_; have BKgm := b1_; have BKgr := b2_; have BKgo := b3_; clear b1_ b2_ b3_ b4_ b5_; have hz558 : w557.cell? ⟨gm, 0, none⟩ = some (.int .i64 (a : Int)) := (blk_cell BKgm.out 0).trans rfl; have hz559 : w557.cell? ⟨gm, 1, none⟩ = some (.int .i64 (b : Int)) := (blk_cell BKgm.out 1).trans rfl; have hz560 : w557.cell? ⟨gm, 2, none⟩ = some (.int .i64 1) := (blk_cell BKgm.out 2).trans rfl; have hz561 : w557.cell? ⟨gm, 3, none⟩ = some (.slice A0_3 l0_3.length c0_3) := (blk_cell BKgm.out 3).trans rfl; have hf562 := blk_frozen BKgm.out 0; have hf563 := blk_frozen BKgm.out 1; have hf564 := blk_frozen BKgm.out 2; have hf565 := blk_frozen BKgm.out 3; have hz566 : w557.cell? ⟨gr, 0, none⟩ = some (.int .i64 0) := (blk_cell BKgr.out 0).trans rfl; have hz567 : w557.cell? ⟨gr, 1, none⟩ = some (.int .i64 0) := (blk_cell BKgr.out 1).trans rfl; have hz568 : w557.cell? ⟨gr, 2, none⟩ = some (.int .i64 0) := (blk_cell BKgr.out 2).trans rfl; have hz569 : w557.cell? ⟨gr, 3, none⟩ = some (.slice none 0 0) := (blk_cell BKgr.out 3).trans rfl; have hf570 := blk_frozen BKgr.out 0; have hf571 := blk_frozen BKgr.out 1; have hf572 := blk_frozen BKgr.out 2; have hf573 := blk_frozen BKgr.out 3; have hz574 : w557.cell? ⟨go, 0, none⟩ = some (.int .i64 (a : Int)) := (blk_cell BKgo.out 0).trans rfl; have hz575 : w557.cell? ⟨go, 1, none⟩ = some (.int .i64 (b : Int)) := (blk_cell BKgo.out 1).trans rfl; have hz576 : w557.cell? ⟨go, 2, none⟩ = some (.int .i64 1) := (blk_cell BKgo.out 2).trans rfl; have hz577 : w557.cell? ⟨go, 3, none⟩ = some (.slice (some ⟨g, 0, none⟩) l0_3.length co) := (blk_cell BKgo.out 3).trans rfl; have hf578 := blk_frozen BKgo.out 0; have hf579 := blk_frozen BKgo.out 1; have hf580 := blk_frozen BKgo.out 2; have hf581 := blk_frozen BKgo.out 3))
       go_roundg (a - (x + 1))
       case measure => omega
       case rel => exact ⟨x + 1, d3, by omega, by omega, by go_num, HX2, ⟨by refine qR ?_; exact Kd.R_mono HO.out (fun _ _ => trivial)⟩, ⟨by refine qB ?_; exact BKgm.out⟩, ⟨by refine qB ?_; exact BKgr.out⟩, ⟨by refine qB ?_; exact BKgo.out⟩, ⟨by exact qW HB.out⟩⟩
def IsS85 (w0 W : World) (g : Nat) (f0 : List Int) (f1 : Int) : Prop := ∃ A0 c0, W.heap[g]? = some (.cells #[.slice A0 f0.length c0, .int .i64 f1] 85 (0, 0)) ∧ w0.heap.size ≤ g ∧ Kd.C (Kd.int .u8) w0 A0 f0.length f0
theorem IsS85.grown {w0 W : World} {g : Nat} {f0 : List Int} {f1 : Int} {W1 : World} {row : Option Nat} (h : IsS85 w0 W g f0 f1) (hw : W.grownBy W1 row) (hne : some g ≠ row) : IsS85 w0 W1 g f0 f1 := by
 obtain ⟨A0, c0, hb, hg, hr0⟩ := h
 exact ⟨A0, c0, blk_grown hb hw hne, hg, hr0⟩
theorem IsS85.own_neN {w0 W : World} {g : Nat} {f0 : List Int} {f1 : Int} {α : Type} {d : Kd α} {e : Nat} {base : Nat} {ok : Nat → Prop} {v : Value} {xs : List α} (h : IsS85 w0 W g f0 f1) (ho : Kd.N d e W base ok v xs) (ht : e ≠ 85) : some g ≠ v.ownBlock := by
 obtain ⟨A0, c0, hb, hg, hr0⟩ := h
 exact Kd.N_ne ho hb ht
theorem IsS85.fresh {w0 W : World} {g : Nat} {f0 : List Int} {f1 : Int} (h : IsS85 w0 W g f0 f1) : ∀ k, W.heap.size ≤ k → k ≠ g := by
 obtain ⟨A0, c0, hb, hg, hr0⟩ := h
 exact Kd.freshB hb
theorem IsS85.kept {w0 W : World} {g : Nat} {f0 : List Int} {f1 : Int} {W1 : World} {S : Nat → Prop} (h : IsS85 w0 W g f0 f1) (hk : Kept W W1 S) (hne : ¬ S g) : IsS85 w0 W1 g f0 f1 := by
 obtain ⟨A0, c0, hb, hg, hr0⟩ := h
 exact ⟨A0, c0, blk_kept hb hk hne, hg, hr0⟩
theorem IsS85.below {w0 W : World} {g : Nat} {f0 : List Int} {f1 : Int} {W1 : World} (h : IsS85 w0 W g f0 f1) (hw : Below W.heap.size W W1) : IsS85 w0 W1 g f0 f1 := h.grown (grown_of_below hw none) (by simp)
theorem IsS85.alloc {w0 W : World} {g : Nat} {f0 : List Int} {f1 : Int} (h : IsS85 w0 W g f0 f1) (o : Obj) : IsS85 w0 (W.alloc o) g f0 f1 := h.below (below_alloc (Below.refl _ _) o)
theorem IsS85.drewN {w0 W : World} {g : Nat} {f0 : List Int} {f1 : Int} (h : IsS85 w0 W g f0 f1) (m : Nat) : IsS85 w0 (W.drewN m) g f0 f1 := h
theorem IsS85.drew {w0 W : World} {g : Nat} {f0 : List Int} {f1 : Int} (h : IsS85 w0 W g f0 f1) : IsS85 w0 W.drew g f0 f1 := h
theorem IsS85.at_ {w0 W : World} {g : Nat} {f0 : List Int} {f1 : Int} {w' : World} {m : Nat} (hq : W.drewN m = w') (h : IsS85 w0 W g f0 f1) : IsS85 w0 w' g f0 f1 := by subst hq; exact IsS85.drewN h m
theorem IsS85.apart {w0 W : World} {g : Nat} {f0 : List Int} {f1 : Int} {α : Type} {d : Kd α} {e : Nat} {base : Nat} {ok : Nat → Prop} {v : Value} {xs : List α} (h : IsS85 w0 W g f0 f1) (ho : d.R e W base ok v xs) (ht : ∀ q, q ∈ e :: d.E → q ≠ 85) : d.R e W base (fun k => ok k ∧ k ≠ g) v xs := by
 obtain ⟨A0, c0, hb, hg, hr0⟩ := h
 exact Kd.R_types ho hb ht
theorem IsS85.own_ne {w0 W : World} {g : Nat} {f0 : List Int} {f1 : Int} {α : Type} {d : Kd α} {e : Nat} {base : Nat} {ok : Nat → Prop} {v : Value} {xs : List α} (h : IsS85 w0 W g f0 f1) (ho : d.R e W base ok v xs) (ht : e ≠ 85) : some g ≠ v.ownBlock := by
 obtain ⟨A0, c0, hb, hg, hr0⟩ := h
 exact Kd.R_ne ho hb ht
theorem IsS85.apartQ {w0 W : World} {g : Nat} {f0 : List Int} {f1 : Int} {α : Type} {d : Kd α} {e : Nat} {base : Nat} {ok : Nat → Prop} {v : Value} {xs : List α} (h : IsS85 w0 W g f0 f1) (ho : d.Q e W base ok v xs) (ht : ∀ q, q ∈ e :: d.E → q ≠ 85) : d.Q e W base (fun k => ok k ∧ k ≠ g) v xs := by
 obtain ⟨A0, c0, hb, hg, hr0⟩ := h
 exact Kd.Q_types ho hb ht
theorem IsS85.own_neQ {w0 W : World} {g : Nat} {f0 : List Int} {f1 : Int} {α : Type} {d : Kd α} {e : Nat} {base : Nat} {ok : Nat → Prop} {v : Value} {xs : List α} (h : IsS85 w0 W g f0 f1) (ho : d.Q e W base ok v xs) (ht : e ≠ 85) : some g ≠ v.ownBlock := by
 obtain ⟨A0, c0, hb, hg, hr0⟩ := h
 exact Kd.Q_ne ho hb ht
theorem IsS85.apartS {w0 W : World} {g : Nat} {f0 : List Int} {f1 : Int} {α : Type} {d : Kd α} {e : Nat} {base : Nat} {ok : Nat → Prop} {v : Value} {xs : List α} (h : IsS85 w0 W g f0 f1) (ho : d.S e W base ok v xs) (ht : ∀ q, q ∈ e :: d.E → q ≠ 85) : d.S e W base (fun k => ok k ∧ k ≠ g) v xs := by
 obtain ⟨A0, c0, hb, hg, hr0⟩ := h
 exact Kd.S_types ho hb ht
theorem IsS85.own_neS {w0 W : World} {g : Nat} {f0 : List Int} {f1 : Int} {α : Type} {d : Kd α} {e : Nat} {base : Nat} {ok : Nat → Prop} {v : Value} {xs : List α} (h : IsS85 w0 W g f0 f1) (ho : d.S e W base ok v xs) (ht : e ≠ 85) : some g ≠ v.ownBlock := by
 obtain ⟨A0, c0, hb, hg, hr0⟩ := h
 exact Kd.S_ne ho hb ht
theorem IsS85.lt {w0 W : World} {g : Nat} {f0 : List Int} {f1 : Int} (h : IsS85 w0 W g f0 f1) : g < W.heap.size := by
 obtain ⟨A0, c0, hb, hg, hr0⟩ := h
 exact blk_lt hb
theorem IsS85.ge {w0 W : World} {g : Nat} {f0 : List Int} {f1 : Int} (h : IsS85 w0 W g f0 f1) : w0.heap.size ≤ g := by
 obtain ⟨A0, c0, hb, hg, hr0⟩ := h
 exact hg
theorem IsS85.ne_blk {w0 W : World} {g : Nat} {f0 : List Int} {f1 : Int} {a : Nat} {cs : Array Value} {t : TypeId} {fr : Nat × Nat} (h : IsS85 w0 W g f0 f1) (hb2 : W.heap[a]? = some (.cells cs t fr)) (ht : t ≠ 85) : g ≠ a := by
 obtain ⟨A0, c0, hb, hg, hr0⟩ := h
 rintro rfl
 rw [hb] at hb2
 injection hb2 with hb2
 injection hb2 with _ ht2
 exact ht ht2.symm
theorem IsS85.far {w0 W : World} {g : Nat} {f0 : List Int} {f1 : Int} {p : Addr} (h : IsS85 w0 W g f0 f1) (hne : g ≠ p.block) (u : Value) : IsS85 w0 (W.setCell p u) g f0 f1 := by
 obtain ⟨A0, c0, hb, hg, hr0⟩ := h
 exact ⟨A0, c0, blk_far hb hne u, hg, hr0⟩
theorem cellS85_0 {W : World} {g : Nat} {A0 : Option Addr} {c0 : Nat} {f0 : List Int} {f1 : Int} (h : W.heap[g]? = some (.cells #[.slice A0 f0.length c0, .int .i64 f1] 85 (0, 0))) : W.cell? ⟨g, 0, none⟩ = some (.slice A0 f0.length c0) := (blk_cell h 0).trans rfl
theorem cellS85_1 {W : World} {g : Nat} {A0 : Option Addr} {c0 : Nat} {f0 : List Int} {f1 : Int} (h : W.heap[g]? = some (.cells #[.slice A0 f0.length c0, .int .i64 f1] 85 (0, 0))) : W.cell? ⟨g, 1, none⟩ = some (.int .i64 f1) := (blk_cell h 1).trans rfl
theorem IsS85.set_1 {w0 W : World} {g : Nat} {f0 : List Int} {f1 : Int} (h : IsS85 w0 W g f0 f1) (x : Int) : IsS85 w0 (W.setCell ⟨g, 1, none⟩ (.int .i64 x)) g f0 x := by
 obtain ⟨A0, c0, hb, hg, hr0⟩ := h
 exact ⟨A0, c0, by simpa using blk_set hb 1 (.int .i64 x), hg, hr0⟩
theorem IsS85.new (w0 W : World) (A0 : Option Addr) (c0 : Nat) (f0 : List Int) (f1 : Int) (hB : Below w0.heap.size w0 W) (hr0 : Kd.C (Kd.int .u8) w0 A0 f0.length f0) : IsS85 w0 (W.alloc (.cells #[.slice A0 f0.length c0, .int .i64 f1] 85)) W.heap.size f0 f1 := ⟨A0, c0, by simpa using heap_alloc_new W _, hB.size, hr0⟩
theorem farA85 {w0 W : World} {g : Nat} {f0 : List Int} {f1 : Int} {g2 j : Nat} {u : Value} (h : IsS85 w0 W g f0 f1) (hn : Aside0 (g ≠ g2)) : IsS85 w0 (W.setCell ⟨g2, j, none⟩ u) g f0 f1 := IsS85.far h hn.out u
theorem iS85 {w0 W W2 : World} {g : Nat} {f0 : List Int} {f1 : Int} {f0' : List Int} {f1' : Int} (a : IsS85 w0 W g f0 f1) (f : IsS85 w0 W g f0 f1 → IsS85 w0 W2 g f0' f1' := by intro h_; repeat (first | (with_reducible first | exact h_ | apply IsS85.alloc | apply IsS85.drewN | apply IsS85.drew | apply IsS85.set_1 | (refine farA85 ?_ ?_; rotate_left; assumption)) | exact h_)) : IsS85 w0 W2 g f0' f1' := f a
theorem wS85 {n : Nat} {w w' W : World} (a : Below n w w') (f : Below n w w' → Below n w W := by intro h_; repeat (first | (with_reducible first | exact h_ | apply below_alloc | apply pw_below_drewN | apply below_drew1 | (refine below_set ?_ ?_; rotate_left; exact IsS85.ge (Aside0.out (by assumption))) | (refine below_setA ?_ ?_; rotate_left; assumption)) | exact h_)) : Below n w W := f a
def spec_newReader.f (l0 : List Int) : Option (List Int × Int) := if (l0.length : Int) > 2000 then (if 2000 ≤ (l0.length : Int) then (some (l0.take 2000, 0)) else (none)) else (some (l0, 0))
set_option maxHeartbeats 8000000 in
set_option maxRecDepth 100000 in
theorem spec_newReader.calls (A0 : Option Addr) (c0 : Nat) (l0 : List Int) (r1 : List Int) (r2 : Int) (w0 w : World) (hB : Below w0.heap.size w0 w) (hr0 : Kd.C (Kd.int .u8) w0 A0 l0.length l0) (hc0 : l0.length ≤ c0) (h : spec_newReader.f l0 = some (r1, r2)) :
  Calls Try.prog 42 #[.slice A0 l0.length c0] w fun e w' => ∃ g_ : Nat, e = .returned (.pointer (some ⟨g_, 0, none⟩)) ∧ IsS85 w0 w' g_ r1 r2 ∧ Below w0.heap.size w0 w' ∧ Below w.heap.size w w' := by
 have hu85 := Try.underlying85
 have HR0 := aM hr0
 have HC0 := aM hc0
 clear hr0 hc0
 have HBW := aM (Below.refl w.heap.size w)
 have HW0 := aM hB.size
 have HB := aM hB
 clear hB
 unfold spec_newReader.f at h
 have H := h
 clear h
 by_cases c2 : (l0.length : Int) > 2000
 rotate_left
 ·rw [if_neg c2] at H
  have c2b0 : decide (2000 < (l0.length : Int)) = false := decide_eq_false c2
  have c2b1 : decide (2000 < l0.length) = false := decide_eq_false (by omega)
  clear c2
  simp only [Option.some.injEq, Prod.mk.injEq] at H
  obtain ⟨rfl, rfl⟩ := H
  go_enter Try.func42, Try.ntmps42
  go_wp2_with (first | ((with_reducible refine gate_dst (N := 10) rfl ?_); refine bxE (N := 10) (cs := #[.slice A0 l0.length c0, .int .i64 0]) (t := 85) ?_; intro gb103 hg w6 hbox hb; replace HB := bS HB hb; have BK103 := aM (hbox); have GW103 := aM ((by rw [hg]; exact (below_size (qW HBW.out)) : w.heap.size ≤ gb103)); have GE103 := aM ((Nat.le_trans HW0.out (by rw [hg]; exact (below_size (qW HBW.out)) : w.heap.size ≤ gb103) : w0.heap.size ≤ gb103)); replace HBW := aM (below_step HBW.out hb); clear hb hbox hg))
  go_ret
  exact ⟨_, rfl, (show IsS85 w0 _ gb103 l0 0 from ⟨_, _, by refine qB ?_; exact BK103.out, GE103.out, HR0.out⟩), by exact qW HB.out, by exact qW HBW.out⟩
 rw [if_pos c2] at H
 have c2b0 : decide (2000 < (l0.length : Int)) = true := decide_eq_true c2
 have c2b1 : decide (2000 < l0.length) = true := decide_eq_true (by omega)
 clear c2
 replace H := iS H
 obtain ⟨c3, H⟩ := H
 have c3b0 := eq_true c3
 have c3b1 : decide (2000 ≤ (l0.length : Int)) = true := decide_eq_true c3
 clear c3
 simp only [Option.some.injEq, Prod.mk.injEq] at H
 obtain ⟨rfl, rfl⟩ := H
 obtain ⟨i04, hi04, _, hsz4, _⟩ := info_parts info5
 obtain ⟨hcut4, hA4, hC4⟩ := print_take_of (P := Try.prog) (Value.int .u8) 0 22 5 .i64 Try.underlying22 hi04 hsz4 A0 c0 l0 2000 (by omega) oD HC0.out
 have HR101 := aM (Kd.C_of_reads (h1 := fun _ => rfl) (hA4 _ (Kd.reads_of_C HR0.out)))
 have HC101 := aM hC4
 clear hA4 hC4 hi04 hsz4
 go_enter Try.func42, Try.ntmps42
 go_wp2_with (first | ((with_reducible refine gate_dst (N := 10) rfl ?_); refine bxE (N := 10) (cs := #[.slice A0 (l0.take 2000).length c0, .int .i64 0]) (t := 85) ?_; intro gb102 hg w5 hbox hb; replace HB := bS HB hb; have BK102 := aM (hbox); have GW102 := aM ((by rw [hg]; exact (below_size (qW HBW.out)) : w.heap.size ≤ gb102)); have GE102 := aM ((Nat.le_trans HW0.out (by rw [hg]; exact (below_size (qW HBW.out)) : w.heap.size ≤ gb102) : w0.heap.size ≤ gb102)); replace HBW := aM (below_step HBW.out hb); clear hb hbox hg))
 go_ret
 exact ⟨_, rfl, (show IsS85 w0 _ gb102 (l0.take 2000) 0 from ⟨_, _, by refine qB ?_; exact BK102.out, GE102.out, HR101.out⟩), by exact qW HB.out, by exact qW HBW.out⟩
def spec_reader_pick.j0 : Nat → Int → Bool → List Int → Int → Option (Int × Int)
 | 0, _, _, _, _ => none
 | k + 1, x1, x24, x1000, x1001 => if x24 = true then (some (0, x1001)) else (if (wrap64 (x1001 - 1)) < (x1000.length : Int) then (if 0 ≤ (wrap64 (x1001 - 1)) then (if x1 = 0 then (none) else (some (Int.tmod (wrap64 (rd x1000 (wrap64 (x1001 - 1)))) x1, x1001))) else (none)) else (if (x1000.length : Int) = 0 then (none) else (if 0 ≤ (Int.tmod (wrap64 (x1001 - 1)) (x1000.length : Int)) then (if (Int.tmod (wrap64 (x1001 - 1)) (x1000.length : Int)) < (x1000.length : Int) then (if 0 ≤ (Int.tmod (wrap64 ((wrap64 ((wrap64 (x1001 - 1)) * 7)) + 3)) (x1000.length : Int)) then (if (Int.tmod (wrap64 ((wrap64 ((wrap64 (x1001 - 1)) * 7)) + 3)) (x1000.length : Int)) < (x1000.length : Int) then (if x1 = 0 then (none) else (some (Int.tmod (Go.bits .xor .i64 (wrap64 ((wrap64 ((wrap64 ((wrap64 ((wrap64 (rd x1000 (Int.tmod (wrap64 (x1001 - 1)) (x1000.length : Int)))) * 131)) + (wrap64 ((wrap64 (rd x1000 (Int.tmod (wrap64 ((wrap64 ((wrap64 (x1001 - 1)) * 7)) + 3)) (x1000.length : Int)))) * 1117)))) + (wrap64 ((wrap64 (x1001 - 1)) * 29)))) + (wrap64 ((wrap64 (Int.tdiv (wrap64 (x1001 - 1)) (x1000.length : Int))) * 53)))) (wrap64 (Int.tdiv (wrap64 ((wrap64 ((wrap64 ((wrap64 ((wrap64 (rd x1000 (Int.tmod (wrap64 (x1001 - 1)) (x1000.length : Int)))) * 131)) + (wrap64 ((wrap64 (rd x1000 (Int.tmod (wrap64 ((wrap64 ((wrap64 (x1001 - 1)) * 7)) + 3)) (x1000.length : Int)))) * 1117)))) + (wrap64 ((wrap64 (x1001 - 1)) * 29)))) + (wrap64 ((wrap64 (Int.tdiv (wrap64 (x1001 - 1)) (x1000.length : Int))) * 53)))) 64))) x1, x1001))) else (none)) else (none)) else (none)) else (none))))
def spec_reader_pick.f (k : Nat) (s0_0 : List Int) (s0_1 : Int) (a1 : Int) : Option (Int × Int) := if a1 < 1 then (spec_reader_pick.j0 k a1 true s0_0 (wrap64 (s0_1 + 1))) else (spec_reader_pick.j0 k a1 ((s0_0.length : Int) == 0) s0_0 (wrap64 (s0_1 + 1)))
theorem spec_reader_pick.mono_l : ∀ k, (∀ y0 y1 y2 y3, LeO (spec_reader_pick.j0 k y0 y1 y2 y3) (spec_reader_pick.j0 (k + 1) y0 y1 y2 y3))
 | 0 => fun _ _ _ _ r h => by simp [spec_reader_pick.j0] at h
 | k + 1 => by
  have ih0 := spec_reader_pick.mono_l k
  ·intro y0 y1 y2 y3
   unfold spec_reader_pick.j0
   repeat' first | (with_reducible first | exact ih0 _ _ _ _ | exact lR | exact lN | refine lI ?_ ?_ | refine lB ?_ fun _ => ?_) | exact ih0 _ _ _ _ | exact lN | refine lI ?_ ?_ | refine lB ?_ fun _ => ?_
theorem spec_reader_pick.mono : ∀ a0 a1 a2 k, LeO (spec_reader_pick.f k a0 a1 a2) (spec_reader_pick.f (k + 1) a0 a1 a2) := by
 intro a0 a1 a2 k
 have ih0 := spec_reader_pick.mono_l k
 unfold spec_reader_pick.f
 repeat' first | (with_reducible first | exact ih0 _ _ _ _ | exact lR | exact lN | refine lI ?_ ?_ | refine lB ?_ fun _ => ?_) | exact ih0 _ _ _ _ | exact lN | refine lI ?_ ?_ | refine lB ?_ fun _ => ?_
set_option maxHeartbeats 8000000 in
set_option maxRecDepth 100000 in
theorem spec_reader_pick.calls (k : Nat) (g : Nat) (s0_0 : List Int) (s0_1 : Int) (a1 : Int) (r1 : Int) (r2 : Int) (w0 w : World) (hI : IsS85 w0 w g s0_0 s0_1) (hB : Below w0.heap.size w0 w) (h : spec_reader_pick.f k s0_0 s0_1 a1 = some (r1, r2)) :
  Calls Try.prog 45 #[.pointer (some ⟨g, 0, none⟩), .int .i64 a1] w fun e w' => e = .returned (.int .i64 r1) ∧ IsS85 w0 w' g s0_0 r2 ∧ Below w0.heap.size w0 w' ∧ KeepBut w w' g none := by
 have HI0 := aM hI
 have HK := aM (KeepBut.refl w g none)
 have HL := aM hB.size
 clear hI
 have HW0 := aM hB.size
 have HB := aM hB
 clear hB
 unfold spec_reader_pick.f at h
 have H := h
 clear h
 have HC3 := aM H
 clear H
 obtain ⟨ASz4_0, cSz4_0, HGz4, hgz4, HSz4_0⟩ := HI0.out
 have hcz4_0 := cellS85_0 HGz4
 have hcz4_1 := cellS85_1 HGz4
 have hfz4_1 := blk_frozen HGz4 1
 clear HGz4 hgz4
 go_enter Try.func45, Try.ntmps45
 go_upto_region 2 with (fail)
 repeat (go_quiet (fail); go_upto_region 2 with (fail))
 go_cut [24] (fun v24 wc => ∃ (kq : Nat) (x24_2 : Bool), v24 = .bool x24_2 ∧ Aside0 (spec_reader_pick.j0 kq a1 x24_2 s0_0 (wrap64 (s0_1 + 1)) = some (r1, r2)) ∧ Aside0 (kq ≤ k) ∧ Aside0 (IsS85 w0 wc g s0_0 (wrap64 (s0_1 + 1))) ∧ Aside0 (KeepBut w wc g none) ∧ Aside0 (Below w0.heap.size w0 wc))
 case first =>
  have H := HC3.out
  clear HC3
  by_cases c5 : a1 < 1
  ·rw [if_pos c5] at H
   have c5b0 : decide (a1 < 1) = true := decide_eq_true c5
   clear c5
   (first | rw [c5b0] | (simp only [i64_w, i32_w]; rw [c5b0]) | skip)
   have H' := aM H
   clear H
   go_wp2
   repeat (go_quiet (fail); try go_wp2)
   go_meet
   case rel => exact ⟨_, (true), qE, H', ⟨by first | omega | exact Nat.le_refl _⟩, ⟨iS85 HI0.out⟩, ⟨kB HK.out⟩, ⟨wS85 HB.out⟩⟩
  rw [if_neg c5] at H
  have c5b0 : decide (a1 < 1) = false := decide_eq_false c5
  clear c5
  (first | rw [c5b0] | (simp only [i64_w, i32_w]; rw [c5b0]) | skip)
  have H' := aM H
  clear H
  obtain ⟨ASz6_0, cSz6_0, HGz6, hgz6, HSz6_0⟩ := HI0.out
  have hcz6_0 := cellS85_0 HGz6
  have hcz6_1 := cellS85_1 HGz6
  have hfz6_1 := blk_frozen HGz6 1
  clear HGz6 hgz6
  go_wp2
  repeat (go_quiet (fail); try go_wp2)
  go_meet
  case rel => exact ⟨_, (((s0_0.length : Int) == 0)), qE, H', ⟨by first | omega | exact Nat.le_refl _⟩, ⟨iS85 HI0.out⟩, ⟨kB HK.out⟩, ⟨wS85 HB.out⟩⟩
 case rest =>
  clear HC3
  try clear c5
  try clear c5b0
  try clear hcz4_0 hcz4_1 hfz4_1
  try clear hcz6_0 hcz6_1 hfz6_1
  obtain ⟨kq, x24_2, rfl, HA, HJ2, HI0, HK, HB⟩ := hcut
  cases kq with
  | zero => exact absurd HA.out (by simp [spec_reader_pick.j0])
  | succ kj2 =>
   have H := HA.out
   clear HA
   simp only [spec_reader_pick.j0] at H
   by_cases c7 : x24_2 = true
   ·subst c7
    have H1 : (some (0, (wrap64 (s0_1 + 1)))) = some (r1, r2) := by rw [if_pos rfl] at H; exact H
    clear H
    have H := H1
    clear H1
    simp only [Option.some.injEq, Prod.mk.injEq] at H
    obtain ⟨rfl, rfl⟩ := H
    go_wp2
    repeat (go_quiet (fail); try go_wp2)
    go_ret
    exact ⟨qX, iS85 HI0.out, wS85 HB.out, kB HK.out⟩
   replace c7 := Bool.eq_false_iff.mpr c7
   subst c7
   have H1 : (if (wrap64 ((wrap64 (s0_1 + 1)) - 1)) < (s0_0.length : Int) then (if 0 ≤ (wrap64 ((wrap64 (s0_1 + 1)) - 1)) then (if a1 = 0 then (none) else (some (Int.tmod (wrap64 (rd s0_0 (wrap64 ((wrap64 (s0_1 + 1)) - 1)))) a1, (wrap64 (s0_1 + 1))))) else (none)) else (if (s0_0.length : Int) = 0 then (none) else (if 0 ≤ (Int.tmod (wrap64 ((wrap64 (s0_1 + 1)) - 1)) (s0_0.length : Int)) then (if (Int.tmod (wrap64 ((wrap64 (s0_1 + 1)) - 1)) (s0_0.length : Int)) < (s0_0.length : Int) then (if 0 ≤ (Int.tmod (wrap64 ((wrap64 ((wrap64 ((wrap64 (s0_1 + 1)) - 1)) * 7)) + 3)) (s0_0.length : Int)) then (if (Int.tmod (wrap64 ((wrap64 ((wrap64 ((wrap64 (s0_1 + 1)) - 1)) * 7)) + 3)) (s0_0.length : Int)) < (s0_0.length : Int) then (if a1 = 0 then (none) else (some (Int.tmod (Go.bits .xor .i64 (wrap64 ((wrap64 ((wrap64 ((wrap64 ((wrap64 (rd s0_0 (Int.tmod (wrap64 ((wrap64 (s0_1 + 1)) - 1)) (s0_0.length : Int)))) * 131)) + (wrap64 ((wrap64 (rd s0_0 (Int.tmod (wrap64 ((wrap64 ((wrap64 ((wrap64 (s0_1 + 1)) - 1)) * 7)) + 3)) (s0_0.length : Int)))) * 1117)))) + (wrap64 ((wrap64 ((wrap64 (s0_1 + 1)) - 1)) * 29)))) + (wrap64 ((wrap64 (Int.tdiv (wrap64 ((wrap64 (s0_1 + 1)) - 1)) (s0_0.length : Int))) * 53)))) (wrap64 (Int.tdiv (wrap64 ((wrap64 ((wrap64 ((wrap64 ((wrap64 (rd s0_0 (Int.tmod (wrap64 ((wrap64 (s0_1 + 1)) - 1)) (s0_0.length : Int)))) * 131)) + (wrap64 ((wrap64 (rd s0_0 (Int.tmod (wrap64 ((wrap64 ((wrap64 ((wrap64 (s0_1 + 1)) - 1)) * 7)) + 3)) (s0_0.length : Int)))) * 1117)))) + (wrap64 ((wrap64 ((wrap64 (s0_1 + 1)) - 1)) * 29)))) + (wrap64 ((wrap64 (Int.tdiv (wrap64 ((wrap64 (s0_1 + 1)) - 1)) (s0_0.length : Int))) * 53)))) 64))) a1, (wrap64 (s0_1 + 1))))) else (none)) else (none)) else (none)) else (none)))) = some (r1, r2) := by rw [if_neg (show ¬ (false = true) by decide)] at H; exact H
   clear H
   have H := H1
   clear H1
   by_cases c8 : (wrap64 ((wrap64 (s0_1 + 1)) - 1)) < (s0_0.length : Int)
   ·rw [if_pos c8] at H
    have c8b0 : decide ((wrap64 ((wrap64 (s0_1 + 1)) - 1)) < (s0_0.length : Int)) = true := decide_eq_true c8
    clear c8
    obtain ⟨ji9, hji9⟩ : ∃ j_ : Int, (wrap64 ((wrap64 (s0_1 + 1)) - 1)) = j_ := ⟨_, rfl⟩
    replace H : (if 0 ≤ (ji9) then (if a1 = 0 then (none) else (some (Int.tmod (wrap64 (rd s0_0 (ji9))) a1, (wrap64 (s0_1 + 1))))) else (none)) = some (r1, r2) := by first | (rw [hji9] at H; exact H) | (simp only [hji9] at H ⊢; exact H)
    (try rw [hji9] at c8b0)
    have hji9w : (IntKind.i64.wrap ((wrap64 (s0_1 + 1)) - 1)) = ji9 := (i64_w _).trans hji9
    replace H := iD H
    obtain ⟨c10b0, H⟩ := H
    by_cases c11 : a1 = 0
    ·rw [if_pos c11] at H
     exact absurd H (by simp)
    rw [if_neg c11] at H
    have c11b0 : (a1 == 0) = false := beq_eq_false_iff_ne.mpr c11
    have c11b1 : (a1 != 0) = true := bne_iff_ne.mpr c11
    simp only [Option.some.injEq, Prod.mk.injEq] at H
    obtain ⟨rfl, rfl⟩ := H
    obtain ⟨ASz12_0, cSz12_0, HGz12, hgz12, HSz12_0⟩ := HI0.out
    have hcz12_0 := cellS85_0 HGz12
    have hcz12_1 := cellS85_1 HGz12
    have hfz12_1 := blk_frozen HGz12 1
    clear HGz12 hgz12
    obtain ⟨ad133, e133, hx133_0⟩ := Kd.at_int HSz12_0 (ji9) oD oD
    cases e133
    replace hx133_0 := pw_cell_below HB.out hx133_0
    have p133 := eq_true (oD : 0 ≤ ((ji9) : Int))
    have q133 := eq_true (oD : (ji9) < (s0_0.length : Int))
    go_wp2
    repeat (go_quiet (fail); try go_wp2)
    go_ret
    exact ⟨by first | rfl | (simp [errW_none, errW_some] <;> rfl) | (simp only [← hji9]; first | rfl | (simp [errW_none, errW_some] <;> rfl)) | (simp [*, errW_none, errW_some] <;> rfl), iS85 HI0.out, wS85 HB.out, kB HK.out⟩
   rw [if_neg c8] at H
   have c8b0 : decide ((wrap64 ((wrap64 (s0_1 + 1)) - 1)) < (s0_0.length : Int)) = false := decide_eq_false c8
   clear c8
   by_cases c13 : (s0_0.length : Int) = 0
   ·rw [if_pos c13] at H
    exact absurd H (by simp)
   rw [if_neg c13] at H
   have c13b0 : ((s0_0.length : Int) == 0) = false := beq_eq_false_iff_ne.mpr c13
   have c13b1 : ((s0_0.length : Int) != 0) = true := bne_iff_ne.mpr c13
   have c13b2 : ¬ (s0_0 = []) := fun h_ => c13 (by rw [h_]; rfl)
   obtain ⟨ji14, hji14⟩ : ∃ j_ : Int, (Int.tmod (wrap64 ((wrap64 (s0_1 + 1)) - 1)) (s0_0.length : Int)) = j_ := ⟨_, rfl⟩
   replace H : (if 0 ≤ (ji14) then (if (ji14) < (s0_0.length : Int) then (if 0 ≤ (Int.tmod (wrap64 ((wrap64 ((wrap64 ((wrap64 (s0_1 + 1)) - 1)) * 7)) + 3)) (s0_0.length : Int)) then (if (Int.tmod (wrap64 ((wrap64 ((wrap64 ((wrap64 (s0_1 + 1)) - 1)) * 7)) + 3)) (s0_0.length : Int)) < (s0_0.length : Int) then (if a1 = 0 then (none) else (some (Int.tmod (Go.bits .xor .i64 (wrap64 ((wrap64 ((wrap64 ((wrap64 ((wrap64 (rd s0_0 (ji14))) * 131)) + (wrap64 ((wrap64 (rd s0_0 (Int.tmod (wrap64 ((wrap64 ((wrap64 ((wrap64 (s0_1 + 1)) - 1)) * 7)) + 3)) (s0_0.length : Int)))) * 1117)))) + (wrap64 ((wrap64 ((wrap64 (s0_1 + 1)) - 1)) * 29)))) + (wrap64 ((wrap64 (Int.tdiv (wrap64 ((wrap64 (s0_1 + 1)) - 1)) (s0_0.length : Int))) * 53)))) (wrap64 (Int.tdiv (wrap64 ((wrap64 ((wrap64 ((wrap64 ((wrap64 (rd s0_0 (ji14))) * 131)) + (wrap64 ((wrap64 (rd s0_0 (Int.tmod (wrap64 ((wrap64 ((wrap64 ((wrap64 (s0_1 + 1)) - 1)) * 7)) + 3)) (s0_0.length : Int)))) * 1117)))) + (wrap64 ((wrap64 ((wrap64 (s0_1 + 1)) - 1)) * 29)))) + (wrap64 ((wrap64 (Int.tdiv (wrap64 ((wrap64 (s0_1 + 1)) - 1)) (s0_0.length : Int))) * 53)))) 64))) a1, (wrap64 (s0_1 + 1))))) else (none)) else (none)) else (none)) else (none)) = some (r1, r2) := by first | (rw [hji14] at H; exact H) | (simp only [hji14] at H ⊢; exact H)
   replace H := iD H
   obtain ⟨c15b0, H⟩ := H
   replace H := iD H
   obtain ⟨c16b0, H⟩ := H
   obtain ⟨ji17, hji17⟩ : ∃ j_ : Int, (Int.tmod (wrap64 ((wrap64 ((wrap64 ((wrap64 (s0_1 + 1)) - 1)) * 7)) + 3)) (s0_0.length : Int)) = j_ := ⟨_, rfl⟩
   replace H : (if 0 ≤ (ji17) then (if (ji17) < (s0_0.length : Int) then (if a1 = 0 then (none) else (some (Int.tmod (Go.bits .xor .i64 (wrap64 ((wrap64 ((wrap64 ((wrap64 ((wrap64 (rd s0_0 (ji14))) * 131)) + (wrap64 ((wrap64 (rd s0_0 (ji17))) * 1117)))) + (wrap64 ((wrap64 ((wrap64 (s0_1 + 1)) - 1)) * 29)))) + (wrap64 ((wrap64 (Int.tdiv (wrap64 ((wrap64 (s0_1 + 1)) - 1)) (s0_0.length : Int))) * 53)))) (wrap64 (Int.tdiv (wrap64 ((wrap64 ((wrap64 ((wrap64 ((wrap64 (rd s0_0 (ji14))) * 131)) + (wrap64 ((wrap64 (rd s0_0 (ji17))) * 1117)))) + (wrap64 ((wrap64 ((wrap64 (s0_1 + 1)) - 1)) * 29)))) + (wrap64 ((wrap64 (Int.tdiv (wrap64 ((wrap64 (s0_1 + 1)) - 1)) (s0_0.length : Int))) * 53)))) 64))) a1, (wrap64 (s0_1 + 1))))) else (none)) else (none)) = some (r1, r2) := by first | (rw [hji17] at H; exact H) | (simp only [hji17] at H ⊢; exact H)
   replace H := iD H
   obtain ⟨c18b0, H⟩ := H
   replace H := iD H
   obtain ⟨c19b0, H⟩ := H
   by_cases c20 : a1 = 0
   ·rw [if_pos c20] at H
    exact absurd H (by simp)
   rw [if_neg c20] at H
   have c20b0 : (a1 == 0) = false := beq_eq_false_iff_ne.mpr c20
   have c20b1 : (a1 != 0) = true := bne_iff_ne.mpr c20
   simp only [Option.some.injEq, Prod.mk.injEq] at H
   obtain ⟨rfl, rfl⟩ := H
   obtain ⟨ASz21_0, cSz21_0, HGz21, hgz21, HSz21_0⟩ := HI0.out
   have hcz21_0 := cellS85_0 HGz21
   have hcz21_1 := cellS85_1 HGz21
   have hfz21_1 := blk_frozen HGz21 1
   clear HGz21 hgz21
   obtain ⟨ad134, e134, hx134_0⟩ := Kd.at_int HSz21_0 (ji14) oD oD
   cases e134
   replace hx134_0 := pw_cell_below HB.out hx134_0
   have p134 := eq_true (oD : 0 ≤ ((ji14) : Int))
   have q134 := eq_true (oD : (ji14) < (s0_0.length : Int))
   obtain ⟨ad135, e135, hx135_0⟩ := Kd.at_int HSz21_0 (ji17) oD oD
   obtain rfl : ad134 = ad135 := (by injection e135)
   replace hx135_0 := pw_cell_below HB.out hx135_0
   have p135 := eq_true (oD : 0 ≤ ((ji17) : Int))
   have q135 := eq_true (oD : (ji17) < (s0_0.length : Int))
   go_wp2
   repeat (go_quiet (fail); try go_wp2)
   go_ret
   exact ⟨by first | rfl | (simp [errW_none, errW_some] <;> rfl) | (simp only [← hji14, ← hji17]; first | rfl | (simp [errW_none, errW_some] <;> rfl)) | (simp [*, errW_none, errW_some] <;> rfl), iS85 HI0.out, wS85 HB.out, kB HK.out⟩
def spec_reader_one.f (k : Nat) (s0_0 : List Int) (s0_1 : Int) (l1 : List Int) : Option (Int × Int) := (spec_reader_pick.f k s0_0 s0_1 (l1.length : Int)).bind fun bt136 => (if 0 ≤ bt136.1 then (if bt136.1 < (l1.length : Int) then (some (rd l1 bt136.1, bt136.2)) else (none)) else (none))
theorem spec_reader_one.mono : ∀ a0 a1 a2 k, LeO (spec_reader_one.f k a0 a1 a2) (spec_reader_one.f (k + 1) a0 a1 a2) := by
 intro a0 a1 a2 k
 unfold spec_reader_one.f
 repeat' first | (with_reducible first | exact spec_reader_pick.mono _ _ _ _ | exact lR | exact lN | refine lI ?_ ?_ | refine lB ?_ fun _ => ?_) | exact spec_reader_pick.mono _ _ _ _ | exact lN | refine lI ?_ ?_ | refine lB ?_ fun _ => ?_
set_option maxHeartbeats 8000000 in
set_option maxRecDepth 100000 in
theorem spec_reader_one.calls (k : Nat) (g : Nat) (s0_0 : List Int) (s0_1 : Int) (A1 : Option Addr) (c1 : Nat) (l1 : List Int) (r1 : Int) (r2 : Int) (w0 w : World) (hI : IsS85 w0 w g s0_0 s0_1) (hB : Below w0.heap.size w0 w) (hr1 : Kd.C (Kd.int .i64) w A1 l1.length l1) (hc1 : l1.length ≤ c1) (hf1 : ∀ ad, A1 = some ad → 0 < l1.length → ad.block ≠ g) (h : spec_reader_one.f k s0_0 s0_1 l1 = some (r1, r2)) :
  Calls Try.prog 98 #[.pointer (some ⟨g, 0, none⟩), .slice A1 l1.length c1] w fun e w' => e = .returned (.int .i64 r1) ∧ IsS85 w0 w' g s0_0 r2 ∧ Below w0.heap.size w0 w' ∧ KeepBut w w' g none := by
 have HR1 := aM hr1
 have HC1 := aM hc1
 clear hr1 hc1
 have HI0 := aM hI
 have HK := aM (KeepBut.refl w g none)
 have HL := aM hB.size
 clear hI
 have HW0 := aM hB.size
 have HB := aM hB
 clear hB
 unfold spec_reader_one.f at h
 have H := h
 clear h
 replace H := Option.bind_eq_some_iff.mp H
 obtain ⟨⟨t136, t137⟩, A30, H⟩ := H
 replace H : (if 0 ≤ t136 then (if t136 < (l1.length : Int) then (some (rd l1 t136, t137)) else (none)) else (none)) = some (r1, r2) := H
 have A3 := aM A30
 clear A30
 replace H := iD H
 obtain ⟨c4b0, H⟩ := H
 replace H := iD H
 obtain ⟨c5b0, H⟩ := H
 simp only [Option.some.injEq, Prod.mk.injEq] at H
 obtain ⟨rfl, rfl⟩ := H
 go_enter Try.func98, Try.ntmps98
 go_wp2_with (first | ((with_reducible refine gate_callee (f := 45) rfl ?_); refine gL (some 9) Try.func45 #[.pointer (some ⟨g, 0, none⟩), .int .i64 (l1.length : Int)] ?_; (with_reducible refine (spec_reader_pick.calls k g s0_0 s0_1 (l1.length : Int) t136 t137 w0 _ ?side1 ?side2 A3.out).mono ?_); (case side1 => exact iS85 HI0.out); (case side2 => exact wS85 HB.out); rintro e w6 ⟨rfl, hi, hb, hk⟩; refine ⟨_, rfl, ?_⟩; replace HK := aM (KeepBut.trans (kB HK.out) hk (.inl rfl)); replace HB := aM (hb); replace HI0 := aM (hi); clear hb hk hi; have p138 : 0 ≤ (t136 : Int) := oD; have q138 : t136 < (l1.length : Int) := oD; obtain ⟨ad138, e138, hx138_0⟩ := Kd.at_int HR1.out t136 p138 q138; cases e138; replace hx138_0 := keep_cell HK.out hx138_0 (by first | (rw [add_block]; exact hf1 _ rfl (by omega)) | exact hf1 _ rfl (by omega) | exact hf1 ad138 rfl (by omega)); replace p138 := eq_true p138; replace q138 := eq_true q138))
 go_ret
 exact ⟨qX, iS85 HI0.out, wS85 HB.out, kB HK.out⟩
end Go.Proofs.Yteeeedmmcdlhjaa.P
