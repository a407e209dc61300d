/- Contracts and row, written by a program of this place out of the translation: the call answers true and its argument reads as before, for every input; no condition. -/
import Derived.Test.YtnamhlcdlbjcfaaK0
import Derived.Test.YtnamhlcdlbjcfaaK1
import Derived.Test.YtnamhlcdlbjcfaaK2
import Derived.Test.YtnamhlcdlbjcfaaK3
import Derived.Test.YtnamhlcdlbjcfaaK4
namespace Go.Proofs.Ytnamhlcdlbjcfaa.P
open Go.RowKit Go.Proofs.YtnamhlcdlbjcfaaW.PrintWords Go.Proofs.YtnamhlcdlbjcfaaW.PrintLast Go.Proofs.YtnamhlcdlbjcfaaW.PrintMore
attribute [local go_sem] max2_int min2_int max_two min_two max_three min_three max_four min_four   -- for this text's walks alone
set_option linter.unusedVariables false
set_option linter.unusedSimpArgs false
def spec_anyPlanes.f (k : Nat) (s0_0 : List Int) (s0_1 : Int) : Option (Int × Int) := (spec_reader_one.f k s0_0 s0_1 (([1, 3, 1, 4, 2] : List Int))).bind fun bt285 => (some (bt285.1, bt285.2))
theorem spec_anyPlanes.mono : ∀ a0 a1 k, LeO (spec_anyPlanes.f k a0 a1) (spec_anyPlanes.f (k + 1) a0 a1) := by
 intro a0 a1 k
 unfold spec_anyPlanes.f
 repeat' first | (with_reducible first | exact spec_reader_one.mono _ _ _ _ | exact lR | exact lN | refine lI ?_ ?_ | refine lB ?_ fun _ => ?_) | exact spec_reader_one.mono _ _ _ _ | exact lN | refine lI ?_ ?_ | refine lB ?_ fun _ => ?_
set_option maxHeartbeats 8000000 in
set_option maxRecDepth 100000 in
theorem spec_anyPlanes.calls (k : Nat) (g : Nat) (s0_0 : List Int) (s0_1 : Int) (r1 : Int) (r2 : Int) (w0 w : World) (hI : IsS72 w0 w g s0_0 s0_1) (hB : Below w0.heap.size w0 w) (h : spec_anyPlanes.f k s0_0 s0_1 = some (r1, r2)) :
  Calls Try.prog 80 #[.pointer (some ⟨g, 0, none⟩)] w fun e w' => e = .returned (.int .i64 r1) ∧ IsS72 w0 w' g s0_0 r2 ∧ Below w0.heap.size w0 w' ∧ KeepBut w w' g none := by
 have HI0 := aM hI
 have HK := aM (KeepBut.refl w g none)
 have HL := aM hB.size
 clear hI
 have HW0 := aM hB.size
 have HB := aM hB
 clear hB
 unfold spec_anyPlanes.f at h
 have H := h
 clear h
 obtain ⟨y282, hy282⟩ : ∃ y_ : List Int, y_ = (([1, 3, 1, 4, 2] : List Int)) := ⟨_, rfl⟩
 replace H : ((spec_reader_one.f k s0_0 s0_1 y282).bind fun bt285 => (some (bt285.1, bt285.2))) = some (r1, r2) := rY hy282 H
 have Ny282 := aM hy282
 clear hy282
 replace H := Option.bind_eq_some_iff.mp H
 obtain ⟨⟨t285, t286⟩, A20, H⟩ := H
 replace H : (some (t285, t286)) = some (r1, r2) := H
 have A2 := aM A20
 clear A20
 simp only [Option.some.injEq, Prod.mk.injEq] at H
 obtain ⟨rfl, rfl⟩ := H
 go_enter Try.func80, Try.ntmps80
 go_wp2_with (first | ((with_reducible refine gate_dst (N := 4) rfl ?_); refine iL ([1, 3, 1, 4, 2] : List Int) [.int .i64 1, .int .i64 3, .int .i64 1, .int .i64 4, .int .i64 2] ?_; intro v283 w3 ho4 hb hg_ hnew_; clear hg_ hnew_; (first | rw [← Ny282.out] at ho4 | (simp only [Int.reduceToNat] at ho4; rw [← Ny282.out] at ho4)); have HO284 := lK ho4 HK; replace HK := aM (KeepBut.trans (kB HK.out) (KeepBut.of_below hb g none) (.inl rfl)); replace HB := aM (below_step (wS72 HB.out) hb); replace HI0 := aM (IsS72.below (iS72 HI0.out) hb); clear hb ho4; obtain ⟨Ao5, co5, rfl⟩ := sL HO284) | ((with_reducible refine gate_callee (f := 81) rfl ?_); refine gL (some 5) Try.func81 #[.pointer (some ⟨g, 0, none⟩), .slice Ao5 y282.length co5] ?_; (with_reducible refine (spec_reader_one.calls k g s0_0 s0_1 _ _ y282 t285 t286 w0 _ ?side1 ?side2 ?side3 ?side4 ?side5 A2.out).mono ?_); (case side1 => exact iS72 HI0.out); (case side2 => exact wS72 HB.out); (case side3 => exact qC (Kd.R_reads' HO284.out).2.2); (case side4 => exact (Kd.R_reads' HO284.out).2.1); (case side5 => exact far_slice (IsS72.own_ne HI0.out HO284.out (by decide))); rintro e w6 ⟨rfl, hi, hb, hk⟩; refine ⟨_, rfl, ?_⟩; replace HO284 := aM (Kd.R_mono (Kd.R_keep (IsS72.apart (show IsS72 w0 _ g s0_0 s0_1 from iS72 HI0.out) (qR HO284.out) (by decide)) hk (fun _ h => h.2)) (fun _ h => h.1)); replace HK := aM (KeepBut.trans (kB HK.out) hk (.inl rfl)); replace HB := aM (hb); replace HI0 := aM (hi); clear hb hk hi))
 go_ret
 exact ⟨qX, iS72 HI0.out, wS72 HB.out, kB HK.out⟩
def spec_anyImage.f (k : Nat) (s0_0 : List Int) (s0_1 : Int) : Option (Int × Int × Int × List Int × Int) := (spec_anyPlanes.f k s0_0 s0_1).bind fun bt288 => ((spec_randomImage.f k s0_0 bt288.2 bt288.1).bind fun bt290 => ((spec_spoilImage.f k s0_0 bt290.2.2.2.2 bt290.1 bt290.2.1 bt290.2.2.1 bt290.2.2.2.1).bind fun bt297 => (some (bt297.1, bt297.2.1, bt297.2.2.1, bt297.2.2.2.1, bt297.2.2.2.2))))
theorem spec_anyImage.mono : ∀ a0 a1 k, LeO (spec_anyImage.f k a0 a1) (spec_anyImage.f (k + 1) a0 a1) := by
 intro a0 a1 k
 unfold spec_anyImage.f
 repeat' first | (with_reducible first | exact spec_anyPlanes.mono _ _ _ | exact spec_randomImage.mono _ _ _ _ | exact spec_spoilImage.mono _ _ _ _ _ _ _ | exact lR | exact lN | refine lI ?_ ?_ | refine lB ?_ fun _ => ?_) | exact spec_anyPlanes.mono _ _ _ | exact spec_randomImage.mono _ _ _ _ | exact spec_spoilImage.mono _ _ _ _ _ _ _ | exact lN | refine lI ?_ ?_ | refine lB ?_ fun _ => ?_
set_option maxHeartbeats 8000000 in
set_option maxRecDepth 100000 in
theorem spec_anyImage.calls (k : Nat) (g : Nat) (s0_0 : List Int) (s0_1 : Int) (r1 : Int) (r2 : Int) (r3 : Int) (r4 : List Int) (r5 : Int) (w0 w : World) (hI : IsS72 w0 w g s0_0 s0_1) (hB : Below w0.heap.size w0 w) (h : spec_anyImage.f k s0_0 s0_1 = some (r1, r2, r3, r4, r5)) :
  Calls Try.prog 58 #[.pointer (some ⟨g, 0, none⟩)] w fun e w' => ∃ v3_ : Value, e = .returned (.agg #[.int .i64 r1, .int .i64 r2, .int .i64 r3, v3_]) ∧ Kd.Q (Kd.int .i64) 3 w' w.heap.size (fun _ => True) v3_ r4 ∧ IsS72 w0 w' g s0_0 r5 ∧ Below w0.heap.size w0 w' ∧ KeepBut w w' g none := by
 have hu26 := Try.underlying26
 have HI0 := aM hI
 have HK := aM (KeepBut.refl w g none)
 have HL := aM hB.size
 clear hI
 have HW0 := aM hB.size
 have HB := aM hB
 clear hB
 unfold spec_anyImage.f at h
 have H := h
 clear h
 replace H := Option.bind_eq_some_iff.mp H
 obtain ⟨⟨t288, t289⟩, A20, H⟩ := H
 replace H : ((spec_randomImage.f k s0_0 t289 t288).bind fun bt290 => ((spec_spoilImage.f k s0_0 bt290.2.2.2.2 bt290.1 bt290.2.1 bt290.2.2.1 bt290.2.2.2.1).bind fun bt297 => (some (bt297.1, bt297.2.1, bt297.2.2.1, bt297.2.2.2.1, bt297.2.2.2.2)))) = some (r1, r2, r3, r4, r5) := H
 have A2 := aM A20
 clear A20
 replace H := Option.bind_eq_some_iff.mp H
 obtain ⟨⟨t290, t291, t292, t293, t296⟩, A30, H⟩ := H
 replace H : ((spec_spoilImage.f k s0_0 t296 t290 t291 t292 t293).bind fun bt297 => (some (bt297.1, bt297.2.1, bt297.2.2.1, bt297.2.2.2.1, bt297.2.2.2.2))) = some (r1, r2, r3, r4, r5) := H
 have A3 := aM A30
 clear A30
 replace H := Option.bind_eq_some_iff.mp H
 obtain ⟨⟨t297, t298, t299, t300, t303⟩, A40, H⟩ := H
 replace H : (some (t297, t298, t299, t300, t303)) = some (r1, r2, r3, r4, r5) := H
 have A4 := aM A40
 clear A40
 simp only [Option.some.injEq, Prod.mk.injEq] at H
 obtain ⟨rfl, rfl, rfl, rfl, rfl⟩ := H
 go_enter Try.func58, Try.ntmps58
 go_wp2_with (first | ((with_reducible refine gate_dst (N := 2) rfl ?_); refine bxE (N := 2) (cs := #[.int .i64 0, .int .i64 0, .int .i64 0, .slice none 0 0]) (t := 26) ?_; intro gb287 hg w5 hbox hb; replace HB := aM (below_step (wS72 HB.out) hb); have BK287 := aM (hbox); have GW287 := aM ((by rw [hg]; exact (keep_size (w := w) (g := g) (row := none) (kB HK.out)) : w.heap.size ≤ gb287)); have GE287 := aM ((Nat.le_trans HW0.out (by rw [hg]; exact (keep_size (w := w) (g := g) (row := none) (kB HK.out)) : w.heap.size ≤ gb287) : w0.heap.size ≤ gb287)); replace HK := aM (KeepBut.trans (kB HK.out) (KeepBut.of_below hb g none) (.inl rfl)); have NB0_287 := aM ((by rw [hg]; exact Nat.ne_of_lt (IsS72.lt (show IsS72 w0 _ g s0_0 s0_1 from iS72 HI0.out)) : g ≠ gb287)); have NB287_0 := aM ((by rw [hg]; exact Nat.ne_of_gt (IsS72.lt (show IsS72 w0 _ g s0_0 s0_1 from iS72 HI0.out)) : gb287 ≠ g)); replace HI0 := aM (IsS72.below (iS72 HI0.out) hb); clear hb hbox hg) | ((with_reducible refine gate_callee (f := 80) rfl ?_); refine gL (some 6) Try.func80 #[.pointer (some ⟨g, 0, none⟩)] ?_; (with_reducible refine (spec_anyPlanes.calls k g s0_0 s0_1 t288 t289 w0 _ ?side1 ?side2 A2.out).mono ?_); (case side1 => exact iS72 HI0.out); (case side2 => exact wS72 HB.out); rintro e w6 ⟨rfl, hi, hb, hk⟩; refine ⟨_, rfl, ?_⟩; replace BK287 := bK hk BK287 NB287_0; replace HK := aM (KeepBut.trans (kB HK.out) hk (.inl rfl)); replace HB := aM (hb); replace HI0 := aM (hi); clear hb hk hi) | ((with_reducible refine gate_callee (f := 60) rfl ?_); refine gL (some 7) Try.func60 #[.pointer (some ⟨g, 0, none⟩), .int .i64 t288] ?_; (with_reducible refine (spec_randomImage.calls k g s0_0 t289 t288 t290 t291 t292 t293 t296 w0 _ ?side1 ?side2 A3.out).mono ?_); (case side1 => exact iS72 HI0.out); (case side2 => exact wS72 HB.out); rintro e w7 ⟨v294, rfl, ho0, hi, hb, hk⟩; refine ⟨_, rfl, ?_⟩; replace BK287 := bK hk BK287 NB287_0; have HO295 := lK ho0 HK; replace HK := aM (KeepBut.trans (kB HK.out) hk (.inl rfl)); replace HB := aM (hb); replace HI0 := aM (hi); clear hb hk hi ho0; obtain ⟨Ao8, co8, rfl⟩ := sL HO295) | ((with_reducible refine gate_callee (f := 59) rfl ?_); refine gL (some 8) Try.func59 #[.pointer (some ⟨g, 0, none⟩), .agg #[.int .i64 t290, .int .i64 t291, .int .i64 t292, .slice Ao8 t293.length co8]] ?_; (with_reducible refine (spec_spoilImage.calls k g s0_0 t296 t290 t291 t292 (fun k_ => some k_ = (.slice Ao8 t293.length co8 : Value).ownBlock) (.slice Ao8 t293.length co8) t293 t297 t298 t299 t300 t303 w0 _ ?side1 ?side2 ?side3 A4.out).mono ?_); (case side1 => exact iS72 HI0.out); (case side2 => exact wS72 HB.out); (case side3 => exact Kd.R_lower (Kd.R_tight rfl HO295.out) HL.out); rintro e w9 ⟨v301, rfl, ho0, hi, hb, hkp⟩; refine ⟨_, rfl, ?_⟩; replace HI0 := aM (hi); replace BK287 := aM (blk_kept (qB BK287.out) hkp (fun hs_ => Or.elim hs_ (fun hs_ => (fun e_ => (Kd.R_ne HO295.out BK287.out (by decide)) e_) hs_) (fun e_ => NB287_0.out e_))); have HO302 := aM (Kd.Q_mono (ok' := fun k_ => True) (Kd.Q_raise (d := (Kd.int .i64)) (b := w0.heap.size) (b' := w.heap.size) (fun _ _ _ _ h_ => h_) ho0 (fun k_ e_ => Or.elim (ho0.1 k_ e_) (fun hs_ => (fun e_ => Kd.R_base HO295.out k_ e_.symm) hs_) (fun hn_ => Nat.le_trans (keep_size (w := w) (g := g) (row := none) (kB HK.out)) hn_))) (fun k_ hk_ => trivial)); replace HK := aM (Kept.keepG (kB HK.out) hkp (fun k_ hs_ => Or.elim hs_ (fun hs_ => (fun e_ => .inr (Kd.R_base HO295.out k_ e_.symm)) hs_) (fun e_ => .inl e_))); replace HB := aM (hb); clear HO295; clear hb hkp ho0; have hnb10 := NB287_0.out; have hnc10 := NB0_287.out; obtain ⟨⟨hcz11_0, hcz11_1, hcz11_2, hcz11_3⟩, hfz11_0, hfz11_1, hfz11_2, hfz11_3⟩ := cf4 BK287; obtain ⟨Ao12, co12, eo12, _⟩ := Kd.Q_slice HO302.out; subst eo12))
 refine bodyPost_ret (results_cell_row rfl _ _ gb287 26 #[.int .i64 t297, .int .i64 t298, .int .i64 t299, .slice Ao12 t300.length co12] (0, 0) _ rfl (by exact bP BK287.out) Try.underlying26 rfl (by kernel_rfl)) rfl ?_
 exact ⟨_, qX, by (with_reducible repeat (first | apply Kd.Q_alloc | apply Kd.Q_drewN | apply Kd.Q_drew)); exact Kd.Q_mono (qT HO302 BK287) (fun _ hk => trivial), iS72 HI0.out, wS72 HB.out, kB HK.out⟩
def spec_DrawSplitPlanes.f (k : Nat) (l0 : List Int) : Option (Int × Int × Int × List Int) := (spec_newReader.f l0).bind fun bt928 => ((spec_anyImage.f k bt928.1 bt928.2).bind fun bt931 => (some (bt931.1, bt931.2.1, bt931.2.2.1, bt931.2.2.2.1)))
theorem spec_DrawSplitPlanes.mono : ∀ a0 k, LeO (spec_DrawSplitPlanes.f k a0) (spec_DrawSplitPlanes.f (k + 1) a0) := by
 intro a0 k
 unfold spec_DrawSplitPlanes.f
 repeat' first | (with_reducible first | exact spec_anyImage.mono _ _ _ | exact lR | exact lN | refine lI ?_ ?_ | refine lB ?_ fun _ => ?_) | exact spec_anyImage.mono _ _ _ | exact lN | refine lI ?_ ?_ | refine lB ?_ fun _ => ?_
set_option maxHeartbeats 8000000 in
set_option maxRecDepth 100000 in
theorem spec_DrawSplitPlanes.calls (k : Nat) (A0 : Option Addr) (c0 : Nat) (l0 : List Int) (r1 : Int) (r2 : Int) (r3 : Int) (r4 : List Int) (w : World) (hr0 : Kd.C (Kd.int .u8) w A0 l0.length l0) (hc0 : l0.length ≤ c0) (h : spec_DrawSplitPlanes.f k l0 = some (r1, r2, r3, r4)) :
  Calls Try.prog 39 #[.slice A0 l0.length c0] w fun e w' => ∃ v3_ : Value, e = .returned (.agg #[.int .i64 r1, .int .i64 r2, .int .i64 r3, v3_]) ∧ Kd.Q (Kd.int .i64) 3 w' w.heap.size (fun _ => True) v3_ r4 ∧ Below w.heap.size w w' := by
 have hu26 := Try.underlying26
 have HR0 := aM hr0
 have HC0 := aM hc0
 clear hr0 hc0
 have HB := aM (Below.refl w.heap.size w)
 unfold spec_DrawSplitPlanes.f at h
 have H := h
 clear h
 replace H := Option.bind_eq_some_iff.mp H
 obtain ⟨⟨t928, t929⟩, A20, H⟩ := H
 replace H : ((spec_anyImage.f k t928 t929).bind fun bt931 => (some (bt931.1, bt931.2.1, bt931.2.2.1, bt931.2.2.2.1))) = some (r1, r2, r3, r4) := H
 have A2 := aM A20
 clear A20
 replace H := Option.bind_eq_some_iff.mp H
 obtain ⟨⟨t931, t932, t933, t934, t937⟩, A30, H⟩ := H
 replace H : (some (t931, t932, t933, t934)) = some (r1, r2, r3, r4) := H
 have A3 := aM A30
 clear A30
 simp only [Option.some.injEq, Prod.mk.injEq] at H
 obtain ⟨rfl, rfl, rfl, rfl⟩ := H
 go_enter Try.func39, Try.ntmps39
 go_wp2_with (first | ((with_reducible refine gate_dst (N := 2) rfl ?_); refine bxE (N := 2) (cs := #[.int .i64 0, .int .i64 0, .int .i64 0, .slice none 0 0]) (t := 26) ?_; intro gb927 hg w4 hbox hb; have BK927 := aM (hbox); have GW927 := gW hg HB; have GE927 := gW hg HB; replace HB := bS HB hb; clear hb hbox hg) | ((with_reducible refine gate_callee (f := 56) rfl ?_); refine gL (some 4) Try.func56 #[.slice A0 l0.length c0] ?_; (with_reducible refine (spec_newReader.calls _ _ l0 t928 t929 w _ ?side1 ?side2 ?side3 A2.out).mono ?_); (case side1 => exact qW HB.out); (case side2 => exact HR0.out); (case side3 => exact HC0.out); rintro e w5 ⟨g930, rfl, hi, hb, hb2⟩; refine ⟨_, rfl, ?_⟩; replace HB := aM (hb); have HI930 := aM (hi); have NB930_927 := aM (IsS72.ne_blk hi (blk_below (g := gb927) (o := .cells #[.int .i64 0, .int .i64 0, .int .i64 0, .slice none 0 0] 26 (0, 0)) (qB BK927.out) hb2) (by decide)); have NB927_930 := aM (Ne.symm (IsS72.ne_blk hi (blk_below (g := gb927) (o := .cells #[.int .i64 0, .int .i64 0, .int .i64 0, .slice none 0 0] 26 (0, 0)) (qB BK927.out) hb2) (by decide))); replace BK927 := bB BK927 hb2; clear hb hb2 hi) | ((with_reducible refine gate_callee (f := 58) rfl ?_); refine gL (some 5) Try.func58 #[.pointer (some ⟨g930, 0, none⟩)] ?_; (with_reducible refine (spec_anyImage.calls k g930 t928 t929 t931 t932 t933 t934 t937 w _ ?side1 ?side2 A3.out).mono ?_); (case side1 => exact iS72 HI930.out); (case side2 => exact wS72 HB.out); rintro e w6 ⟨v935, rfl, ho0, hi, hb, hk⟩; refine ⟨_, rfl, ?_⟩; replace BK927 := bK hk BK927 NB927_930; have HO936 := aM (Kd.Q_lower ho0 (below_size (wS72 HB.out))); replace HB := aM (hb); replace HI930 := aM (hi); clear hb hk hi ho0; have hnb7 := NB927_930.out; have hnc7 := NB930_927.out; obtain ⟨⟨hcz8_0, hcz8_1, hcz8_2, hcz8_3⟩, hfz8_0, hfz8_1, hfz8_2, hfz8_3⟩ := cf4 BK927; obtain ⟨Ao9, co9, eo9, _⟩ := Kd.Q_slice HO936.out; subst eo9))
 refine bodyPost_ret (results_cell_row rfl _ _ gb927 26 #[.int .i64 t931, .int .i64 t932, .int .i64 t933, .slice Ao9 t934.length co9] (0, 0) _ rfl (by exact bP BK927.out) Try.underlying26 rfl (by kernel_rfl)) rfl ?_
 exact ⟨_, qX, by (with_reducible repeat (first | apply Kd.Q_alloc | apply Kd.Q_drewN | apply Kd.Q_drew)); exact Kd.Q_mono (qT HO936 BK927) (fun _ hk => trivial), wS72 HB.out⟩
def laws_FnSplitPlanes.j0 : Nat → List (S26) → Bool → Int → Int → Int → List Int → Option (Bool)
 | 0, _, _, _, _, _, _ => none
 | k + 1, x4, x23, x948000, x948001, x948002, x948003 => if x23 = true then ((spec_SplitPlanes.f k x948000 x948001 x948002 x948003).bind fun t955 => ((laws_equalImages.f k x4 t955).bind fun t958 => (some t958))) else ((impl_MergePlanes.f x4).bind fun bt959 => (if bt959.2.2.2.2 = true then ((laws_equalImage.f k bt959.1 bt959.2.1 bt959.2.2.1 bt959.2.2.2.1 x948000 x948001 x948002 x948003).bind fun t967 => (if t967 = true then (some ((x4.length : Int) == x948002)) else (some false))) else (some false)))
def laws_FnSplitPlanes.f (k : Nat) (l0 : List Int) : Option (Bool) := if (l0.length : Int) > 1048576 then (some true) else ((spec_DrawSplitPlanes.f k l0).bind fun bt941 => ((impl_SplitPlanes.f bt941.1 bt941.2.1 bt941.2.2.1 bt941.2.2.2).bind fun t948 => ((spec_SplitPlanes.f k bt941.1 bt941.2.1 bt941.2.2.1 bt941.2.2.2).bind fun t951 => ((laws_equalImages.f k t948 t951).bind fun t954 => (if t954 = true then (laws_FnSplitPlanes.j0 k t948 ((t948.length : Int) == 0) bt941.1 bt941.2.1 bt941.2.2.1 bt941.2.2.2) else (laws_FnSplitPlanes.j0 k t948 true bt941.1 bt941.2.1 bt941.2.2.1 bt941.2.2.2))))))
theorem laws_FnSplitPlanes.mono_l : ∀ k, (∀ y0 y1 y2 y3 y4 y5, LeO (laws_FnSplitPlanes.j0 k y0 y1 y2 y3 y4 y5) (laws_FnSplitPlanes.j0 (k + 1) y0 y1 y2 y3 y4 y5))
 | 0 => fun _ _ _ _ _ _ r h => by simp [laws_FnSplitPlanes.j0] at h
 | k + 1 => by
  have ih0 := laws_FnSplitPlanes.mono_l k
  ·intro y0 y1 y2 y3 y4 y5
   unfold laws_FnSplitPlanes.j0
   repeat' first | (with_reducible first | exact ih0 _ _ _ _ _ _ | exact laws_equalImage.mono _ _ _ _ _ _ _ _ _ | exact laws_equalImages.mono _ _ _ | exact spec_DrawSplitPlanes.mono _ _ | exact spec_SplitPlanes.mono _ _ _ _ _ | exact lR | exact lN | refine lI ?_ ?_ | refine lB ?_ fun _ => ?_) | exact ih0 _ _ _ _ _ _ | exact laws_equalImage.mono _ _ _ _ _ _ _ _ _ | exact laws_equalImages.mono _ _ _ | exact spec_DrawSplitPlanes.mono _ _ | exact spec_SplitPlanes.mono _ _ _ _ _ | exact lN | refine lI ?_ ?_ | refine lB ?_ fun _ => ?_
theorem laws_FnSplitPlanes.mono : ∀ a0 k, LeO (laws_FnSplitPlanes.f k a0) (laws_FnSplitPlanes.f (k + 1) a0) := by
 intro a0 k
 have ih0 := laws_FnSplitPlanes.mono_l k
 unfold laws_FnSplitPlanes.f
 repeat' first | (with_reducible first | exact ih0 _ _ _ _ _ _ | exact laws_equalImage.mono _ _ _ _ _ _ _ _ _ | exact laws_equalImages.mono _ _ _ | exact spec_DrawSplitPlanes.mono _ _ | exact spec_SplitPlanes.mono _ _ _ _ _ | exact lR | exact lN | refine lI ?_ ?_ | refine lB ?_ fun _ => ?_) | exact ih0 _ _ _ _ _ _ | exact laws_equalImage.mono _ _ _ _ _ _ _ _ _ | exact laws_equalImages.mono _ _ _ | exact spec_DrawSplitPlanes.mono _ _ | exact spec_SplitPlanes.mono _ _ _ _ _ | exact lN | refine lI ?_ ?_ | refine lB ?_ fun _ => ?_
set_option maxHeartbeats 8000000 in
set_option maxRecDepth 100000 in
theorem laws_FnSplitPlanes.calls (k : Nat) (A0 : Option Addr) (c0 : Nat) (l0 : List Int) (r : Bool) (w : World) (hr0 : Kd.C (Kd.int .u8) w A0 l0.length l0) (hc0 : l0.length ≤ c0) (h : laws_FnSplitPlanes.f k l0 = some r) (hrt : r = true) :
  Calls Try.prog 13 #[.slice A0 l0.length c0] w fun e w' => e = .returned (.bool r) ∧ Below w.heap.size w w' := by
 have hu26 := Try.underlying26
 have HR0 := aM hr0
 have HC0 := aM hc0
 clear hr0 hc0
 have HB := aM (Below.refl w.heap.size w)
 unfold laws_FnSplitPlanes.f at h
 have H := h
 clear h
 by_cases c2 : (l0.length : Int) > 1048576
 ·rw [if_pos c2] at H
  have c2b0 : decide (1048576 < (l0.length : Int)) = true := decide_eq_true c2
  have c2b1 : decide (1048576 < l0.length) = true := decide_eq_true (by omega)
  clear c2
  obtain rfl := Option.some.inj H
  go_enter Try.func13, Try.ntmps13
  go_wp2
  go_ret
  exact ⟨qX, by exact qW HB.out⟩
 rw [if_neg c2] at H
 have c2b0 : decide (1048576 < (l0.length : Int)) = false := decide_eq_false c2
 have c2b1 : decide (1048576 < l0.length) = false := decide_eq_false (by omega)
 clear c2
 replace H := Option.bind_eq_some_iff.mp H
 obtain ⟨⟨t941, t942, t943, t944⟩, A30, H⟩ := H
 replace H : ((impl_SplitPlanes.f t941 t942 t943 t944).bind fun t948 => ((spec_SplitPlanes.f k t941 t942 t943 t944).bind fun t951 => ((laws_equalImages.f k t948 t951).bind fun t954 => (if t954 = true then (laws_FnSplitPlanes.j0 k t948 ((t948.length : Int) == 0) t941 t942 t943 t944) else (laws_FnSplitPlanes.j0 k t948 true t941 t942 t943 t944))))) = some r := H
 have A3 := aM A30
 clear A30
 replace H := Option.bind_eq_some_iff.mp H
 obtain ⟨t948, A40, H⟩ := H
 replace H : ((spec_SplitPlanes.f k t941 t942 t943 t944).bind fun t951 => ((laws_equalImages.f k t948 t951).bind fun t954 => (if t954 = true then (laws_FnSplitPlanes.j0 k t948 ((t948.length : Int) == 0) t941 t942 t943 t944) else (laws_FnSplitPlanes.j0 k t948 true t941 t942 t943 t944)))) = some r := H
 have A4 := aM A40
 clear A40
 have HC5 := aM H
 clear H
 go_enter Try.func13, Try.ntmps13
 go_upto_region 5 with (first | ((with_reducible refine gate_callee (f := 39) rfl ?_); refine gL (some 11) Try.func39 #[.slice A0 l0.length c0] ?_; (with_reducible refine (spec_DrawSplitPlanes.calls k _ _ l0 t941 t942 t943 t944 _ ?side1 ?side2 A3.out).mono ?_); (case side1 => exact qC HR0.out); (case side2 => exact HC0.out); rintro e w6 ⟨v945, rfl, ho0, hb⟩; refine ⟨_, rfl, ?_⟩; have HO946 := aM (Kd.Q_lower ho0 (below_size (qW HB.out))); replace HB := bS HB hb; clear hb ho0) | ((with_reducible refine gate_dst (N := 3) rfl ?_); (try (refine gate_guard (by rfl) ?_; dsimp only)); refine bxE (N := 3) (cs := #[.int .i64 0, .int .i64 0, .int .i64 0, .slice none 0 0]) (t := 26) ?_; intro gb947 hg w7 hbox hb; replace HO946 := aM (Kd.Q_below (qQ HO946.out) hb); have BK947 := aM (hbox); have GW947 := gW hg HB; have GE947 := gW hg HB; replace HB := bS HB hb; clear hb hbox hg; obtain ⟨⟨hcz8_0, hcz8_1, hcz8_2, hcz8_3⟩, hfz8_0, hfz8_1, hfz8_2, hfz8_3⟩ := cf4 BK947; obtain ⟨Ao9, co9, eo9, _⟩ := Kd.Q_slice HO946.out; subst eo9) | ((with_reducible refine gate_callee (f := 35) rfl ?_); refine gL (some 13) Try.func35 #[.agg #[.int .i64 t941, .int .i64 t942, .int .i64 t943, .slice Ao9 t944.length co9]] ?_; (with_reducible refine (impl_SplitPlanes.calls t941 t942 t943 _ _ t944 t948 _ ?side1 ?side2 A4.out).mono ?_); (case side1 => refine (Kd.Q_reads' (e := 3) (base := w.heap.size) (ok := fun k_ => True) (n := t944.length) (c := co9) ?_).2.2; exact (by (with_reducible repeat (first | apply Kd.Q_alloc | apply Kd.Q_drewN | apply Kd.Q_drew)); exact (Kd.Q_mono (qT HO946 BK947) (fun _ h_ => h_.1)))); (case side2 => exact (Kd.Q_reads' HO946.out).2.1); rintro e w10 ⟨v949, rfl, ho0, hb⟩; refine ⟨_, rfl, ?_⟩; have HO950 := aM (Kd.S_lower (Kd.S_newB (Kd.S_new' ho0 (Kd.Q_lt (by (with_reducible repeat (first | apply Kd.Q_alloc | apply Kd.Q_drewN | apply Kd.Q_drew)); exact (Kd.Q_mono (qT HO946 BK947) (fun _ h_ => h_.1))))) (g := gb947) (o := .cells #[.int .i64 t941, .int .i64 t942, .int .i64 t943, .slice Ao9 t944.length co9] 26 (0, 0)) (by exact bP BK947.out)) (below_size (qW HB.out))); replace HO946 := aM (Kd.Q_below (by (with_reducible repeat (first | apply Kd.Q_alloc | apply Kd.Q_drewN | apply Kd.Q_drew)); exact (Kd.Q_mono (qT HO946 BK947) (fun _ h_ => h_.1))) hb); replace BK947 := aM (blk_below (g := gb947) (o := .cells #[.int .i64 t941, .int .i64 t942, .int .i64 t943, .slice Ao9 t944.length co9] 26 (0, 0)) (by exact bP BK947.out) hb); replace HB := bS HB hb; clear hb ho0))
 (try simp only [Act.put, List.setIfInBounds_toArray, List.set_cons_zero, List.set_cons_succ])
 go_cut [23] (fun v23 wc => ∃ (kq : Nat) (x23_4 : Bool), v23 = .bool x23_4 ∧ Aside0 (laws_FnSplitPlanes.j0 kq t948 x23_4 t941 t942 t943 t944 = some r) ∧ Aside0 (kq ≤ k) ∧ Aside0 (Kd.S k26 26 wc w.heap.size (fun k_ => some k_ ≠ ((.slice Ao9 t944.length co9) : Value).ownBlock ∧ k_ ≠ gb947) v949 t948) ∧ Aside0 (Kd.Q (Kd.int .i64) 3 wc w.heap.size (fun _ => True) (.slice Ao9 t944.length co9) t944) ∧ Aside0 (wc.heap[gb947]? = some (.cells #[.int .i64 t941, .int .i64 t942, .int .i64 t943, (.slice Ao9 t944.length co9)] 26 (0, 0))) ∧ Aside0 (Below w.heap.size w wc))
 case first =>
  have H := HC5.out
  clear HC5
  replace H := Option.bind_eq_some_iff.mp H
  obtain ⟨t951, A110, H⟩ := H
  replace H : ((laws_equalImages.f k t948 t951).bind fun t954 => (if t954 = true then (laws_FnSplitPlanes.j0 k t948 ((t948.length : Int) == 0) t941 t942 t943 t944) else (laws_FnSplitPlanes.j0 k t948 true t941 t942 t943 t944))) = some r := H
  have A11 := aM A110
  clear A110
  replace H := Option.bind_eq_some_iff.mp H
  obtain ⟨t954, A120, H⟩ := H
  replace H : (if t954 = true then (laws_FnSplitPlanes.j0 k t948 ((t948.length : Int) == 0) t941 t942 t943 t944) else (laws_FnSplitPlanes.j0 k t948 true t941 t942 t943 t944)) = some r := H
  have A12 := aM A120
  clear A120
  by_cases c13 : t954 = true
  ·subst c13
   have H1 : (laws_FnSplitPlanes.j0 k t948 ((t948.length : Int) == 0) t941 t942 t943 t944) = some r := by rw [if_pos rfl] at H; exact H
   clear H
   have H := H1
   clear H1
   have H' := aM H
   clear H
   obtain ⟨⟨hcz14_0, hcz14_1, hcz14_2, hcz14_3⟩, hfz14_0, hfz14_1, hfz14_2, hfz14_3⟩ := cf4 BK947
   go_wp2_with (first | ((with_reducible refine gate_callee (f := 34) rfl ?_); refine gL (some 16) Try.func34 #[.agg #[.int .i64 t941, .int .i64 t942, .int .i64 t943, .slice Ao9 t944.length co9]] ?_; (with_reducible refine (spec_SplitPlanes.calls k t941 t942 t943 _ _ t944 t951 _ ?side1 ?side2 A11.out).mono ?_); (case side1 => exact qC (Kd.Q_reads' HO946.out).2.2); (case side2 => exact (Kd.Q_reads' HO946.out).2.1); rintro e w15 ⟨v952, rfl, ho0, hb⟩; refine ⟨_, rfl, ?_⟩; have HO953 := aM (Kd.S_lower (Kd.S_newB (Kd.S_new' (Kd.S_new' ho0 (Kd.Q_lt (qQ HO946.out))) (Kd.S_lt (by (with_reducible repeat (first | apply Kd.S_alloc | apply Kd.S_drewN | apply Kd.S_drew)); exact HO950.out))) (g := gb947) (o := .cells #[.int .i64 t941, .int .i64 t942, .int .i64 t943, .slice Ao9 t944.length co9] 26 (0, 0)) (qB BK947.out)) (below_size (qW HB.out))); replace HO946 := aM (Kd.Q_below (qQ HO946.out) hb); replace HO950 := aM (Kd.S_elder' (by (with_reducible repeat (first | apply Kd.S_alloc | apply Kd.S_drewN | apply Kd.S_drew)); exact HO950.out) (Kd.S_base ho0) hb); replace BK947 := bB BK947 hb; replace HB := bS HB hb; clear hb ho0; obtain ⟨Ao16, co16, eo16⟩ := Kd.S_slice HO950.out; subst eo16; obtain ⟨Ao17, co17, eo17⟩ := Kd.S_slice HO953.out; subst eo17) | ((with_reducible refine gate_callee (f := 40) rfl ?_); refine gL (some 17) Try.func40 #[.slice Ao16 t948.length co16, .slice Ao17 t951.length co17] ?_; (with_reducible refine (laws_equalImages.calls k _ _ t948 _ _ t951 true _ ?side1 ?side2 ?side3 ?side4 A12.out).mono ?_); (case side1 => exact qC (Kd.S_reads' HO950.out).2.2); (case side2 => exact (Kd.S_reads' HO950.out).2.1); (case side3 => exact qC (Kd.S_reads' HO953.out).2.2); (case side4 => exact (Kd.S_reads' HO953.out).2.1); rintro e w18 ⟨rfl, hb⟩; refine ⟨_, rfl, ?_⟩; replace HO946 := aM (Kd.Q_below (qQ HO946.out) hb); replace HO950 := aM (Kd.S_below (by (with_reducible repeat (first | apply Kd.S_alloc | apply Kd.S_drewN | apply Kd.S_drew)); exact HO950.out) hb); replace HO953 := aM (Kd.S_below (by (with_reducible repeat (first | apply Kd.S_alloc | apply Kd.S_drewN | apply Kd.S_drew)); exact HO953.out) hb); replace BK947 := bB BK947 hb; replace HB := bS HB hb; clear hb))
   go_meet
   case rel => exact ⟨_, (((t948.length : Int) == 0)), qE, H', ⟨by first | omega | exact Nat.le_refl _⟩, ⟨by (with_reducible repeat (first | apply Kd.S_alloc | apply Kd.S_drewN | apply Kd.S_drew)); exact Kd.S_mono HO950.out (fun _ hk => by first | exact ⟨hk.1.1.2, hk.1.2⟩ | (revert hk; simp only [and_imp]; intros; and_intros <;> assumption))⟩, ⟨by (with_reducible repeat (first | apply Kd.Q_alloc | apply Kd.Q_drewN | apply Kd.Q_drew)); exact HO946.out⟩, ⟨by refine qB ?_; exact BK947.out⟩, ⟨by exact qW HB.out⟩⟩
  replace c13 := Bool.eq_false_iff.mpr c13
  subst c13
  have H1 : (laws_FnSplitPlanes.j0 k t948 true t941 t942 t943 t944) = some r := by rw [if_neg (show ¬ (false = true) by decide)] at H; exact H
  clear H
  have H := H1
  clear H1
  have H' := aM H
  clear H
  obtain ⟨⟨hcz19_0, hcz19_1, hcz19_2, hcz19_3⟩, hfz19_0, hfz19_1, hfz19_2, hfz19_3⟩ := cf4 BK947
  go_wp2_with (first | ((with_reducible refine gate_callee (f := 34) rfl ?_); refine gL (some 16) Try.func34 #[.agg #[.int .i64 t941, .int .i64 t942, .int .i64 t943, .slice Ao9 t944.length co9]] ?_; (with_reducible refine (spec_SplitPlanes.calls k t941 t942 t943 _ _ t944 t951 _ ?side1 ?side2 A11.out).mono ?_); (case side1 => exact qC (Kd.Q_reads' HO946.out).2.2); (case side2 => exact (Kd.Q_reads' HO946.out).2.1); rintro e w20 ⟨v952, rfl, ho0, hb⟩; refine ⟨_, rfl, ?_⟩; have HO953 := aM (Kd.S_lower (Kd.S_newB (Kd.S_new' (Kd.S_new' ho0 (Kd.Q_lt (qQ HO946.out))) (Kd.S_lt (by (with_reducible repeat (first | apply Kd.S_alloc | apply Kd.S_drewN | apply Kd.S_drew)); exact HO950.out))) (g := gb947) (o := .cells #[.int .i64 t941, .int .i64 t942, .int .i64 t943, .slice Ao9 t944.length co9] 26 (0, 0)) (qB BK947.out)) (below_size (qW HB.out))); replace HO946 := aM (Kd.Q_below (qQ HO946.out) hb); replace HO950 := aM (Kd.S_elder' (by (with_reducible repeat (first | apply Kd.S_alloc | apply Kd.S_drewN | apply Kd.S_drew)); exact HO950.out) (Kd.S_base ho0) hb); replace BK947 := bB BK947 hb; replace HB := bS HB hb; clear hb ho0; obtain ⟨Ao21, co21, eo21⟩ := Kd.S_slice HO950.out; subst eo21; obtain ⟨Ao22, co22, eo22⟩ := Kd.S_slice HO953.out; subst eo22) | ((with_reducible refine gate_callee (f := 40) rfl ?_); refine gL (some 17) Try.func40 #[.slice Ao21 t948.length co21, .slice Ao22 t951.length co22] ?_; (with_reducible refine (laws_equalImages.calls k _ _ t948 _ _ t951 false _ ?side1 ?side2 ?side3 ?side4 A12.out).mono ?_); (case side1 => exact qC (Kd.S_reads' HO950.out).2.2); (case side2 => exact (Kd.S_reads' HO950.out).2.1); (case side3 => exact qC (Kd.S_reads' HO953.out).2.2); (case side4 => exact (Kd.S_reads' HO953.out).2.1); rintro e w23 ⟨rfl, hb⟩; refine ⟨_, rfl, ?_⟩; replace HO946 := aM (Kd.Q_below (qQ HO946.out) hb); replace HO950 := aM (Kd.S_below (by (with_reducible repeat (first | apply Kd.S_alloc | apply Kd.S_drewN | apply Kd.S_drew)); exact HO950.out) hb); replace HO953 := aM (Kd.S_below (by (with_reducible repeat (first | apply Kd.S_alloc | apply Kd.S_drewN | apply Kd.S_drew)); exact HO953.out) hb); replace BK947 := bB BK947 hb; replace HB := bS HB hb; clear hb))
  go_meet
  case rel => exact ⟨_, (true), qE, H', ⟨by first | omega | exact Nat.le_refl _⟩, ⟨by (with_reducible repeat (first | apply Kd.S_alloc | apply Kd.S_drewN | apply Kd.S_drew)); exact Kd.S_mono HO950.out (fun _ hk => by first | exact ⟨hk.1.1.2, hk.1.2⟩ | (revert hk; simp only [and_imp]; intros; and_intros <;> assumption))⟩, ⟨by (with_reducible repeat (first | apply Kd.Q_alloc | apply Kd.Q_drewN | apply Kd.Q_drew)); exact HO946.out⟩, ⟨by refine qB ?_; exact BK947.out⟩, ⟨by exact qW HB.out⟩⟩
 case rest =>
  clear HC5
  try clear c2
  try clear c2b0
  try clear c2b1
  try clear c13
  try clear hcz14_0 hcz14_1 hcz14_2 hcz14_3 hfz14_0 hfz14_1 hfz14_2 hfz14_3
  try clear hcz19_0 hcz19_1 hcz19_2 hcz19_3 hfz19_0 hfz19_1 hfz19_2 hfz19_3
  try clear hcz8_0 hcz8_1 hcz8_2 hcz8_3 hfz8_0 hfz8_1 hfz8_2 hfz8_3
  obtain ⟨kq, x23_4, rfl, HA, HJ4, HO_4, HO_948003, BK947, HB⟩ := hcut
  cases kq with
  | zero => exact absurd HA.out (by simp [laws_FnSplitPlanes.j0])
  | succ kj4 =>
   have H := HA.out
   clear HA
   simp only [laws_FnSplitPlanes.j0] at H
   by_cases c24 : x23_4 = true
   ·subst c24
    have H1 : ((spec_SplitPlanes.f kj4 t941 t942 t943 t944).bind fun t955 => ((laws_equalImages.f kj4 t948 t955).bind fun t958 => (some t958))) = some r := by rw [if_pos rfl] at H; exact H
    clear H
    have H := H1
    clear H1
    replace H := Option.bind_eq_some_iff.mp H
    obtain ⟨t955, A250, H⟩ := H
    replace H : ((laws_equalImages.f kj4 t948 t955).bind fun t958 => (some t958)) = some r := H
    have A25 := aM A250
    clear A250
    replace H := Option.bind_eq_some_iff.mp H
    obtain ⟨t958, A260, H⟩ := H
    replace H : (some t958) = some r := H
    have A26 := aM A260
    clear A260
    obtain rfl := Option.some.inj H
    obtain ⟨⟨hcz27_0, hcz27_1, hcz27_2, hcz27_3⟩, hfz27_0, hfz27_1, hfz27_2, hfz27_3⟩ := cf4 BK947
    go_wp2_with (first | ((with_reducible refine gate_callee (f := 34) rfl ?_); refine gL (some 26) Try.func34 #[.agg #[.int .i64 t941, .int .i64 t942, .int .i64 t943, .slice Ao9 t944.length co9]] ?_; (with_reducible refine (spec_SplitPlanes.calls kj4 t941 t942 t943 _ _ t944 t955 _ ?side1 ?side2 A25.out).mono ?_); (case side1 => exact qC (Kd.Q_reads' HO_948003.out).2.2); (case side2 => exact (Kd.Q_reads' HO_948003.out).2.1); rintro e w28 ⟨v956, rfl, ho0, hb⟩; refine ⟨_, rfl, ?_⟩; have HO957 := aM (Kd.S_lower (Kd.S_newB (Kd.S_new' (Kd.S_new' ho0 (Kd.S_lt (by (with_reducible repeat (first | apply Kd.S_alloc | apply Kd.S_drewN | apply Kd.S_drew)); exact HO_4.out))) (Kd.Q_lt (qQ HO_948003.out))) (g := gb947) (o := .cells #[.int .i64 t941, .int .i64 t942, .int .i64 t943, .slice Ao9 t944.length co9] 26 (0, 0)) (qB BK947.out)) (below_size (qW HB.out))); replace HO_4 := aM (Kd.S_elder' (by (with_reducible repeat (first | apply Kd.S_alloc | apply Kd.S_drewN | apply Kd.S_drew)); exact HO_4.out) (Kd.S_base ho0) hb); replace HO_948003 := aM (Kd.Q_below (qQ HO_948003.out) hb); replace BK947 := bB BK947 hb; replace HB := bS HB hb; clear hb ho0; obtain ⟨Ao29, co29, eo29⟩ := Kd.S_slice HO_4.out; subst eo29; obtain ⟨Ao30, co30, eo30⟩ := Kd.S_slice HO957.out; subst eo30) | ((with_reducible refine gate_callee (f := 40) rfl ?_); refine gL (some 27) Try.func40 #[.slice Ao29 t948.length co29, .slice Ao30 t955.length co30] ?_; (with_reducible refine (laws_equalImages.calls kj4 _ _ t948 _ _ t955 t958 _ ?side1 ?side2 ?side3 ?side4 A26.out).mono ?_); (case side1 => exact qC (Kd.S_reads' HO_4.out).2.2); (case side2 => exact (Kd.S_reads' HO_4.out).2.1); (case side3 => exact qC (Kd.S_reads' HO957.out).2.2); (case side4 => exact (Kd.S_reads' HO957.out).2.1); rintro e w31 ⟨rfl, hb⟩; refine ⟨_, rfl, ?_⟩; replace HO_4 := aM (Kd.S_below (by (with_reducible repeat (first | apply Kd.S_alloc | apply Kd.S_drewN | apply Kd.S_drew)); exact HO_4.out) hb); replace HO_948003 := aM (Kd.Q_below (qQ HO_948003.out) hb); replace HO957 := aM (Kd.S_below (by (with_reducible repeat (first | apply Kd.S_alloc | apply Kd.S_drewN | apply Kd.S_drew)); exact HO957.out) hb); replace BK947 := bB BK947 hb; replace HB := bS HB hb; clear hb))
    go_ret
    exact ⟨qX, by exact qW HB.out⟩
   replace c24 := Bool.eq_false_iff.mpr c24
   subst c24
   have H1 : ((impl_MergePlanes.f t948).bind fun bt959 => (if bt959.2.2.2.2 = true then ((laws_equalImage.f kj4 bt959.1 bt959.2.1 bt959.2.2.1 bt959.2.2.2.1 t941 t942 t943 t944).bind fun t967 => (if t967 = true then (some ((t948.length : Int) == t943)) else (some false))) else (some false))) = some r := by rw [if_neg (show ¬ (false = true) by decide)] at H; exact H
   clear H
   have H := H1
   clear H1
   replace H := Option.bind_eq_some_iff.mp H
   obtain ⟨⟨t959, t960, t961, t962, t965⟩, A320, H⟩ := H
   replace H : (if t965 = true then ((laws_equalImage.f kj4 t959 t960 t961 t962 t941 t942 t943 t944).bind fun t967 => (if t967 = true then (some ((t948.length : Int) == t943)) else (some false))) else (some false)) = some r := H
   have A32 := aM A320
   clear A320
   by_cases c33 : t965 = true
   rotate_left
   ·replace c33 := Bool.eq_false_iff.mpr c33
    subst c33
    have H1 : (some false) = some r := by rw [if_neg (show ¬ (false = true) by decide)] at H; exact H
    clear H
    have H := H1
    clear H1
    obtain rfl := Option.some.inj H
    exact absurd hrt (by decide)
   subst c33
   have H1 : ((laws_equalImage.f kj4 t959 t960 t961 t962 t941 t942 t943 t944).bind fun t967 => (if t967 = true then (some ((t948.length : Int) == t943)) else (some false))) = some r := by rw [if_pos rfl] at H; exact H
   clear H
   have H := H1
   clear H1
   replace H := Option.bind_eq_some_iff.mp H
   obtain ⟨t967, A340, H⟩ := H
   replace H : (if t967 = true then (some ((t948.length : Int) == t943)) else (some false)) = some r := H
   have A34 := aM A340
   clear A340
   by_cases c35 : t967 = true
   rotate_left
   ·replace c35 := Bool.eq_false_iff.mpr c35
    subst c35
    have H1 : (some false) = some r := by rw [if_neg (show ¬ (false = true) by decide)] at H; exact H
    clear H
    have H := H1
    clear H1
    obtain rfl := Option.some.inj H
    exact absurd hrt (by decide)
   subst c35
   have H1 : (some ((t948.length : Int) == t943)) = some r := by rw [if_pos rfl] at H; exact H
   clear H
   have H := H1
   clear H1
   obtain rfl := Option.some.inj H
   obtain ⟨Ao36, co36, eo36⟩ := Kd.S_slice HO_4.out
   subst eo36
   go_wp2_with (first | ((with_reducible refine gate_callee (f := 41) rfl ?_); refine gL (some 30) Try.func41 #[.slice Ao36 t948.length co36] ?_; (with_reducible refine (impl_MergePlanes.calls _ _ t948 t959 t960 t961 t962 true _ ?side1 ?side2 A32.out).mono ?_); (case side1 => exact qC (Kd.S_reads' HO_4.out).2.2); (case side2 => exact (Kd.S_reads' HO_4.out).2.1); rintro e w37 ⟨v963, rfl, ho0, hb⟩; refine ⟨_, rfl, ?_⟩; replace HO_4 := aM (Kd.S_elder' (by (with_reducible repeat (first | apply Kd.S_alloc | apply Kd.S_drewN | apply Kd.S_drew)); exact HO_4.out) (Kd.R_base ho0) hb); have HO964 := aM (Kd.R_lower (Kd.R_new' ho0 (Kd.Q_lt (qQ HO_948003.out))) (below_size (qW HB.out))); replace HO_948003 := aM (Kd.Q_elder' (qQ HO_948003.out) (Kd.R_base ho0) hb); replace BK947 := bB BK947 hb; replace HB := bS HB hb; clear hb ho0) | ((with_reducible refine gate_dst (N := 5) rfl ?_); (try (refine gate_guard (by rfl) ?_; dsimp only)); refine bxE (N := 5) (cs := #[.int .i64 0, .int .i64 0, .int .i64 0, .slice none 0 0]) (t := 26) ?_; intro gb966 hg w38 hbox hb; replace HO_4 := aM (Kd.S_below (Kd.S_elderB (by (with_reducible repeat (first | apply Kd.S_alloc | apply Kd.S_drewN | apply Kd.S_drew)); exact HO_4.out) gb966 (Nat.le_of_eq hg.symm)) hb); replace HO_948003 := aM (Kd.Q_below (qQ HO_948003.out) hb); replace HO964 := aM (Kd.R_below (qR HO964.out) hb); have BK966 := aM (hbox); have GW966 := gW hg HB; have GE966 := gW hg HB; replace HB := bS HB hb; have NB947_966 := nL hg BK947; have NB966_947 := nG hg BK947; replace BK947 := bB BK947 hb; clear hb hbox hg; have hnb39 := NB966_947.out; have hnc39 := NB947_966.out; obtain ⟨⟨hcz40_0, hcz40_1, hcz40_2, hcz40_3⟩, hfz40_0, hfz40_1, hfz40_2, hfz40_3⟩ := cf4 BK966; obtain ⟨Ao41, co41, rfl⟩ := sL HO964; obtain ⟨⟨hcz42_0, hcz42_1, hcz42_2, hcz42_3⟩, hfz42_0, hfz42_1, hfz42_2, hfz42_3⟩ := cf4 BK947) | (go_at_call 23; (with_reducible refine (laws_equalImage.calls kj4 t959 t960 t961 _ _ t962 t941 t942 t943 _ _ t944 true _ ?side1 ?side2 ?side3 ?side4 A34.out).mono ?_); (case side1 => refine (Kd.R_reads' (e := 3) (base := w.heap.size) (ok := fun k_ => (True ∧ some k_ ≠ (.slice Ao9 t944.length co9 : Value).ownBlock)) (n := t962.length) (c := co41) ?_).2.2; exact (by refine qR ?_; exact (fr4 HO964 BK966))); (case side2 => exact (Kd.R_reads' HO964.out).2.1); (case side3 => refine (Kd.Q_reads' (e := 3) (base := w.heap.size) (ok := fun k_ => (True ∧ some k_ ≠ (.slice Ao41 t962.length co41 : Value).ownBlock)) (n := t944.length) (c := co9) ?_).2.2; exact (by (with_reducible repeat (first | apply Kd.Q_alloc | apply Kd.Q_drewN | apply Kd.Q_drew)); exact (Kd.Q_mono (qT HO_948003 BK966) (fun _ h_ => h_.1)))); (case side4 => exact (Kd.Q_reads' HO_948003.out).2.1); rintro e w43 ⟨rfl, hb⟩; replace HO_4 := aM (Kd.S_below (by (with_reducible repeat (first | apply Kd.S_alloc | apply Kd.S_drewN | apply Kd.S_drew)); exact (Kd.S_mono (Kd.S_far (p := ⟨gb966, 3, none⟩) (Kd.S_far (p := ⟨gb966, 2, none⟩) (Kd.S_far (p := ⟨gb966, 1, none⟩) (Kd.S_far (p := ⟨gb966, 0, none⟩) (Kd.S_mono HO_4.out (fun k_ hk => (⟨hk, hk.2⟩ : _ ∧ k_ ≠ gb966))) (fun _ hk => hk.2) (.int .i64 t959)) (fun _ hk => hk.2) (.int .i64 t960)) (fun _ hk => hk.2) (.int .i64 t961)) (fun _ hk => hk.2) (.slice Ao41 t962.length co41)) (fun _ h_ => h_.1))) hb); replace HO_948003 := aM (Kd.Q_below (by (with_reducible repeat (first | apply Kd.Q_alloc | apply Kd.Q_drewN | apply Kd.Q_drew)); exact (Kd.Q_mono (qT HO_948003 BK966) (fun _ h_ => h_.1))) hb); replace HO964 := aM (Kd.R_below (by refine qR ?_; exact (fr4 HO964 BK966)) hb); replace BK947 := aM (blk_below (g := gb947) (o := .cells #[.int .i64 t941, .int .i64 t942, .int .i64 t943, .slice Ao9 t944.length co9] 26 (0, 0)) (by refine qB ?_; refine blk_far ?_ NB947_966.out _; refine qB ?_; refine blk_far ?_ NB947_966.out _; refine qB ?_; refine blk_far ?_ NB947_966.out _; refine qB ?_; refine blk_far ?_ NB947_966.out _; refine qB ?_; exact BK947.out) hb); replace BK966 := aM (blk_below (g := gb966) (o := .cells #[.int .i64 t959, .int .i64 t960, .int .i64 t961, .slice Ao41 t962.length co41] 26 (0, 0)) (by exact bP BK966.out) hb); replace HB := bS HB hb; clear hb; obtain ⟨⟨hcz44_0, hcz44_1, hcz44_2, hcz44_3⟩, hfz44_0, hfz44_1, hfz44_2, hfz44_3⟩ := cf4 BK947))
   go_ret
   exact ⟨qX, by exact qW HB.out⟩
def laws_FnSplitPlanes.Pure : Prop := ∀ (l0 : List Int), l0.length ≤ maxLen → l0.length * 1 ≤ 140737488351232 → (∀ x ∈ l0, (Lit.int .u8 x).wf = true) → ∃ k, laws_FnSplitPlanes.f k l0 = some true
theorem laws_FnSplitPlanes.walk (P : laws_FnSplitPlanes.Pure) (a0 : Option Addr) (len0 cap0 : Nat) (z0 : List Int) (w : World) (w0 : (a0 = none ∧ len0 = 0 ∧ cap0 = 0 ∧ z0 = []) ∨ ∃ x, a0 = some x ∧ len0 ≤ cap0 ∧ cap0 ≤ maxLen ∧ z0.length = cap0 ∧ (∀ i, i < z0.length → w.cell? (x.add i) = some (.int .u8 (z0.getD i 0))) ∧ ∀ n ∈ z0, (Lit.int .u8 n).wf = true) (y0 : len0 * 1 ≤ 140737488351232) :
  Calls Try.prog 13 #[.slice a0 len0 cap0] w fun e w' => e = .returned (.bool true) ∧ Below w.heap.size w w' := by
 obtain ⟨l0, rfl, hr0, hm0, hw0, hc0⟩ := ReadsInt.ofRowC w0
 obtain ⟨k, h⟩ := P l0 hm0 y0 hw0
 refine (laws_FnSplitPlanes.calls k _ _ l0 true w (Kd.C_of_reads (d := (0 : Int)) (h1 := fun _ => rfl) hr0) hc0 h rfl).mono ?_
 rintro e w' ⟨rfl, hd⟩
 exact ⟨rfl, hd⟩
end Go.Proofs.Ytnamhlcdlbjcfaa.P
