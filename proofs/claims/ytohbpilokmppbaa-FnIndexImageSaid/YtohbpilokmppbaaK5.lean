/- Contracts and row, written by a program of this place out of the translation: the call answers true and its argument reads as before, for every input; no condition. -/
import Derived.Test.YtohbpilokmppbaaK0
import Derived.Test.YtohbpilokmppbaaK1
import Derived.Test.YtohbpilokmppbaaK2
import Derived.Test.YtohbpilokmppbaaK4
namespace Go.Proofs.Ytohbpilokmppbaa.P
open Go.RowKit Go.Proofs.YtohbpilokmppbaaW.PrintWords Go.Proofs.YtohbpilokmppbaaW.PrintLast Go.Proofs.YtohbpilokmppbaaW.PrintMore
attribute [local go_sem] max2_int min2_int max_two min_two max_three min_three max_four min_four   -- for this text's walks alone
set_option linter.unusedVariables false
set_option linter.unusedSimpArgs false
def spec_allColors.l0 : Nat → List (List Int) → Int → Int → Int → Int → List Int → Option ((List (List Int)))
 | 0, _, _, _, _, _, _ => none
 | k + 1, x3, x4, x122000, x122001, x122002, x122003 => if x4 < (x122003.length : Int) then (if 0 ≤ x4 then (if x4 ≤ (wrap64 (x4 + x122002)) then (if (wrap64 (x4 + x122002)) ≤ (x122003.length : Int) then ((spec_copyInts.f ((x122003.take ((wrap64 (x4 + x122002)) : Int).toNat).drop (x4 : Int).toNat)).bind fun t126 => ((spec_colorAt.f k x3 t126).bind fun t129 => (if t129 < 0 then (if x3.length < 5864062014805 then (spec_allColors.l0 k (x3 ++ [t126]) (wrap64 (x4 + x122002)) x122000 x122001 x122002 x122003) else (none)) else (spec_allColors.l0 k x3 (wrap64 (x4 + x122002)) x122000 x122001 x122002 x122003)))) else (none)) else (none)) else (none)) else (some x3)
def spec_allColors.f (k : Nat) (a0_0 : Int) (a0_1 : Int) (a0_2 : Int) (l0_3 : List Int) : Option ((List (List Int))) := spec_allColors.l0 k (([] : List (List Int))) 0 a0_0 a0_1 a0_2 l0_3
theorem spec_allColors.mono_l : ∀ k, (∀ y0 y1 y2 y3 y4 y5, LeO (spec_allColors.l0 k y0 y1 y2 y3 y4 y5) (spec_allColors.l0 (k + 1) y0 y1 y2 y3 y4 y5))
 | 0 => fun _ _ _ _ _ _ r h => by simp [spec_allColors.l0] at h
 | k + 1 => by
  have ih0 := spec_allColors.mono_l k
  ·intro y0 y1 y2 y3 y4 y5
   unfold spec_allColors.l0
   repeat' first | (with_reducible first | exact ih0 _ _ _ _ _ _ | exact spec_colorAt.mono _ _ _ | exact lR | exact lN | refine lI ?_ ?_ | refine lB ?_ fun _ => ?_) | exact ih0 _ _ _ _ _ _ | exact spec_colorAt.mono _ _ _ | exact lN | refine lI ?_ ?_ | refine lB ?_ fun _ => ?_
theorem spec_allColors.mono : ∀ a0 a1 a2 a3 k, LeO (spec_allColors.f k a0 a1 a2 a3) (spec_allColors.f (k + 1) a0 a1 a2 a3) := by
 intro a0 a1 a2 a3 k
 have ih0 := spec_allColors.mono_l k
 unfold spec_allColors.f
 repeat' first | (with_reducible first | exact ih0 _ _ _ _ _ _ | exact spec_colorAt.mono _ _ _ | exact lR | exact lN | refine lI ?_ ?_ | refine lB ?_ fun _ => ?_) | exact ih0 _ _ _ _ _ _ | exact spec_colorAt.mono _ _ _ | exact lN | refine lI ?_ ?_ | refine lB ?_ fun _ => ?_
set_option maxHeartbeats 8000000 in
set_option maxRecDepth 100000 in
theorem spec_allColors.calls (k : Nat) (a0_0 : Int) (a0_1 : Int) (a0_2 : Int) (A0_3 : Option Addr) (c0_3 : Nat) (l0_3 : List Int) (r : List (List Int)) (w : World) (hr0_3 : Kd.C (Kd.int .i64) w A0_3 l0_3.length l0_3) (hc0_3 : l0_3.length ≤ c0_3) (h : spec_allColors.f k a0_0 a0_1 a0_2 l0_3 = some r) :
  Calls Try.prog 41 #[.agg #[.int .i64 a0_0, .int .i64 a0_1, .int .i64 a0_2, .slice A0_3 l0_3.length c0_3]] w fun e w' => ∃ v0_ : Value, e = .returned (v0_) ∧ Kd.S (Kd.slice 3 (Kd.int .i64)) 22 w' w.heap.size (fun _ => True) v0_ r ∧ Below w.heap.size w w' := by
 have hu29 := Try.underlying29
 have HR0_3 := aM hr0_3
 have HC0_3 := aM hc0_3
 clear hr0_3 hc0_3
 have HB := aM (Below.refl w.heap.size w)
 unfold spec_allColors.f at h
 have H := h
 clear h
 obtain ⟨y122, hy122⟩ : ∃ y_ : List (List Int), y_ = (([] : List (List Int))) := ⟨_, rfl⟩
 replace H : (spec_allColors.l0 k y122 0 a0_0 a0_1 a0_2 l0_3) = some r := rY hy122 H
 have Ny122 := aM hy122
 clear hy122
 have H' := aM H
 clear H
 go_enter Try.func41, Try.ntmps41
 go_wp2_with (first | ((with_reducible refine gate_dst (N := 1) rfl ?_); refine bxE (N := 1) (cs := #[.int .i64 a0_0, .int .i64 a0_1, .int .i64 a0_2, .slice A0_3 l0_3.length c0_3]) (t := 29) ?_; intro gb121 hg w2 hbox hb; have BK121 := aM (hbox); have GW121 := gW hg HB; have GE121 := gW hg HB; replace HB := bS HB hb; clear hb hbox hg) | ((with_reducible refine gate_dst (N := 6) rfl ?_); refine Kd.S_lit (Kd.slice 3 (Kd.int .i64)) _ 22 ?hg (N := 6) ?hd (xs := ([] : List (List Int))) (inner := []) (ok := fun _ => True) (okp := fun _ => True) ?hr ?hp (fun _ hk => hk) trivial (Below.refl _ _) (Nat.le_refl _) (by simp) ?_; (case hd => rfl); (case hg => rfl); (case hr => first | (go_simp; done) | (go_simp; rfl)); (case hp => exact (Reps.none _ _)); intro v123 w3 ho4 hb hg_ hnew_; clear hg_ hnew_; (first | rw [← Ny122.out] at ho4 | (simp only [Int.reduceToNat] at ho4; rw [← Ny122.out] at ho4)); have HO124 := aM (Kd.S_lower ho4 (below_size (qW HB.out))); replace BK121 := bB BK121 hb; replace HB := bS HB hb; clear hb ho4))
 go_loopg [3, 4] k (fun kq v3 v4 w' => ∃ (x3_1 : List (List Int)) (x4_1 : Int), v4 = .int .i64 x4_1 ∧ Aside0 (spec_allColors.l0 kq x3_1 x4_1 a0_0 a0_1 a0_2 l0_3 = some r) ∧ Aside0 (kq ≤ k) ∧ Aside0 (Kd.S (Kd.slice 3 (Kd.int .i64)) 22 w' w.heap.size (fun _ => True) v3 x3_1) ∧ Aside0 (w'.heap[gb121]? = some (.cells #[.int .i64 a0_0, .int .i64 a0_1, .int .i64 a0_2, (.slice A0_3 l0_3.length c0_3)] 29 (0, 0))) ∧ Aside0 (Below w.heap.size w w'))
 case atStart => exact ⟨(y122), (0), qE, H', ⟨Nat.le_refl _⟩, ⟨by (with_reducible repeat (first | apply Kd.S_alloc | apply Kd.S_drewN | apply Kd.S_drew)); exact HO124.out⟩, ⟨by refine qB ?_; exact BK121.out⟩, ⟨by exact qW HB.out⟩⟩
 case round =>
  clear H'
  obtain ⟨x3_1, x4_1, rfl, HA, HK1, HO_3, BK121, HB⟩ := hrel
  cases gk with
  | zero => exact absurd HA.out (by simp [spec_allColors.l0])
  | succ k1 =>
   have H := HA.out
   clear HA
   simp only [spec_allColors.l0] at H
   by_cases c5 : x4_1 < (l0_3.length : Int)
   rotate_left
   ·rw [if_neg c5] at H
    have c5b0 : decide (x4_1 < (l0_3.length : Int)) = false := decide_eq_false c5
    clear c5
    obtain rfl := Option.some.inj H
    obtain ⟨⟨hcz26_0, hcz26_1, hcz26_2, hcz26_3⟩, hfz26_0, hfz26_1, hfz26_2, hfz26_3⟩ := cf4 BK121
    go_wp2
    go_ret
    exact ⟨_, qX, by (with_reducible repeat (first | apply Kd.S_alloc | apply Kd.S_drewN | apply Kd.S_drew)); exact HO_3.out, by exact qW HB.out⟩
   rw [if_pos c5] at H
   have c5b0 : decide (x4_1 < (l0_3.length : Int)) = true := decide_eq_true c5
   clear c5
   replace H := iS H
   obtain ⟨c6, H⟩ := H
   have c6b0 := eq_true c6
   have c6b1 : decide (0 ≤ x4_1) = true := decide_eq_true c6
   clear c6
   replace H := iS H
   obtain ⟨c7, H⟩ := H
   have c7b0 := eq_true c7
   have c7b1 : decide (x4_1 ≤ (wrap64 (x4_1 + a0_2))) = true := decide_eq_true c7
   replace H := iS H
   obtain ⟨c8, H⟩ := H
   have c8b0 := eq_true c8
   have c8b1 : decide ((wrap64 (x4_1 + a0_2)) ≤ (l0_3.length : Int)) = true := decide_eq_true c8
   replace H := Option.bind_eq_some_iff.mp H
   obtain ⟨t126, A90, H⟩ := H
   replace H : ((spec_colorAt.f k1 x3_1 t126).bind fun t129 => (if t129 < 0 then (if x3_1.length < 5864062014805 then (spec_allColors.l0 k1 (x3_1 ++ [t126]) (wrap64 (x4_1 + a0_2)) a0_0 a0_1 a0_2 l0_3) else (none)) else (spec_allColors.l0 k1 x3_1 (wrap64 (x4_1 + a0_2)) a0_0 a0_1 a0_2 l0_3))) = some r := H
   have A9 := aM A90
   clear A90
   replace H := Option.bind_eq_some_iff.mp H
   obtain ⟨t129, A100, H⟩ := H
   replace H : (if t129 < 0 then (if x3_1.length < 5864062014805 then (spec_allColors.l0 k1 (x3_1 ++ [t126]) (wrap64 (x4_1 + a0_2)) a0_0 a0_1 a0_2 l0_3) else (none)) else (spec_allColors.l0 k1 x3_1 (wrap64 (x4_1 + a0_2)) a0_0 a0_1 a0_2 l0_3)) = some r := H
   have A10 := aM A100
   clear A100
   by_cases c11 : t129 < 0
   rotate_left
   ·rw [if_neg c11] at H
    have c11b0 : decide (t129 < 0) = false := decide_eq_false c11
    clear c11
    have H' := aM H
    clear H
    obtain ⟨⟨hcz20_0, hcz20_1, hcz20_2, hcz20_3⟩, hfz20_0, hfz20_1, hfz20_2, hfz20_3⟩ := cf4 BK121
    obtain ⟨i021, hi021, _, hsz21, _⟩ := info_parts info3
    obtain ⟨A21, hcut21, hA21, hC21⟩ := print_mid_of (P := Try.prog) (Value.int .i64) 0 22 3 .i64 .i64 Try.underlying22 hi021 hsz21 A0_3 c0_3 l0_3 x4_1 (wrap64 (x4_1 + a0_2)) oD (by first | omega | exact oD) oD HC0_3.out
    have HR125 := aM (Kd.C_of_reads (h1 := fun _ => rfl) (hA21 _ (Kd.reads_of_C HR0_3.out)))
    have HC125 := aM hC21
    clear hA21 hC21 hi021 hsz21
    go_wp2_with (first | ((with_reducible refine gate_callee (f := 76) rfl ?_); refine goesL_ (some 24) rfl rfl Try.func76 (by kernel_rfl) rfl #[.slice A21 ((l0_3.take ((wrap64 (x4_1 + a0_2)) : Int).toNat).drop (x4_1 : Int).toNat).length (c0_3 - x4_1.toNat)] rfl (by (try simp only [List.map_toArray, List.map_cons, List.map_nil]); first | done | (rw [show ((l0_3.take ((wrap64 (x4_1 + a0_2)) : Int).toNat).drop (x4_1 : Int).toNat).length = ((wrap64 (x4_1 + a0_2)).toNat - x4_1.toNat) from (by rw [List.length_drop, List.length_take]; have h_ : ((wrap64 (x4_1 + a0_2)) : Int) ≤ (l0_3.length : Int) := oD; omega)] <;> rfl) | rfl | (simp only [List.length_drop, List.length_take]; rfl)) ?_; (with_reducible refine (spec_copyInts.calls _ _ ((l0_3.take ((wrap64 (x4_1 + a0_2)) : Int).toNat).drop (x4_1 : Int).toNat) t126 _ ?side1 ?side2 A9.out).mono ?_); (case side1 => exact qC (Kd.C_below HR125.out HB.out)); (case side2 => exact HC125.out); rintro e w22 ⟨v127, rfl, ho0, hb⟩; refine ⟨_, rfl, ?_⟩; replace HO_3 := aM (Kd.S_elder' (by (with_reducible repeat (first | apply Kd.S_alloc | apply Kd.S_drewN | apply Kd.S_drew)); exact HO_3.out) (Kd.R_base ho0) hb); have HO128 := oR ho0 HB; replace BK121 := bB BK121 hb; replace HB := bS HB hb; clear hb ho0; obtain ⟨Ao23, co23, eo23⟩ := Kd.S_slice HO_3.out; subst eo23; obtain ⟨Ao24, co24, rfl⟩ := sL HO128) | ((with_reducible refine gate_callee (f := 77) rfl ?_); refine gL (some 27) Try.func77 #[.slice Ao23 x3_1.length co23, .slice Ao24 t126.length co24] ?_; (with_reducible refine (spec_colorAt.calls k1 _ _ x3_1 _ _ t126 t129 _ ?side1 ?side2 ?side3 ?side4 A10.out).mono ?_); (case side1 => exact qC (Kd.S_reads' HO_3.out).2.2); (case side2 => exact (Kd.S_reads' HO_3.out).2.1); (case side3 => exact qC (Kd.R_reads' HO128.out).2.2); (case side4 => exact (Kd.R_reads' HO128.out).2.1); rintro e w' ⟨rfl, ⟨nd, rfl⟩⟩; refine ⟨_, rfl, ?_⟩; obtain ⟨⟨hcz25_0, hcz25_1, hcz25_2, hcz25_3⟩, hfz25_0, hfz25_1, hfz25_2, hfz25_3⟩ := cf4 BK121))
    go_roundg k1
    case measure => have := HK1.out; omega
    case rel => exact ⟨(x3_1), (wrap64 (x4_1 + a0_2)), qE, H', ⟨by have := HK1.out; omega⟩, ⟨by (with_reducible repeat (first | apply Kd.S_alloc | apply Kd.S_drewN | apply Kd.S_drew)); exact Kd.S_mono HO_3.out (fun _ hk => trivial)⟩, ⟨by refine qB ?_; exact BK121.out⟩, ⟨by exact qW HB.out⟩⟩
   rw [if_pos c11] at H
   have c11b0 : decide (t129 < 0) = true := decide_eq_true c11
   clear c11
   replace H := iS H
   obtain ⟨c12, H⟩ := H
   have LMc12 := aM c12
   clear c12
   obtain ⟨y130, hy130⟩ : ∃ y_ : List (List Int), y_ = (x3_1 ++ [t126]) := ⟨_, rfl⟩
   replace H : (spec_allColors.l0 k1 y130 (wrap64 (x4_1 + a0_2)) a0_0 a0_1 a0_2 l0_3) = some r := rY hy130 H
   have Ny130 := aM hy130
   clear hy130
   have H' := aM H
   clear H
   obtain ⟨⟨hcz13_0, hcz13_1, hcz13_2, hcz13_3⟩, hfz13_0, hfz13_1, hfz13_2, hfz13_3⟩ := cf4 BK121
   obtain ⟨i014, hi014, _, hsz14, _⟩ := info_parts info3
   obtain ⟨A14, hcut14, hA14, hC14⟩ := print_mid_of (P := Try.prog) (Value.int .i64) 0 22 3 .i64 .i64 Try.underlying22 hi014 hsz14 A0_3 c0_3 l0_3 x4_1 (wrap64 (x4_1 + a0_2)) oD (by first | omega | exact oD) oD HC0_3.out
   have HR125 := aM (Kd.C_of_reads (h1 := fun _ => rfl) (hA14 _ (Kd.reads_of_C HR0_3.out)))
   have HC125 := aM hC14
   clear hA14 hC14 hi014 hsz14
   go_wp2_with (first | ((with_reducible refine gate_callee (f := 76) rfl ?_); refine goesL_ (some 24) rfl rfl Try.func76 (by kernel_rfl) rfl #[.slice A14 ((l0_3.take ((wrap64 (x4_1 + a0_2)) : Int).toNat).drop (x4_1 : Int).toNat).length (c0_3 - x4_1.toNat)] rfl (by (try simp only [List.map_toArray, List.map_cons, List.map_nil]); first | done | (rw [show ((l0_3.take ((wrap64 (x4_1 + a0_2)) : Int).toNat).drop (x4_1 : Int).toNat).length = ((wrap64 (x4_1 + a0_2)).toNat - x4_1.toNat) from (by rw [List.length_drop, List.length_take]; have h_ : ((wrap64 (x4_1 + a0_2)) : Int) ≤ (l0_3.length : Int) := oD; omega)] <;> rfl) | rfl | (simp only [List.length_drop, List.length_take]; rfl)) ?_; (with_reducible refine (spec_copyInts.calls _ _ ((l0_3.take ((wrap64 (x4_1 + a0_2)) : Int).toNat).drop (x4_1 : Int).toNat) t126 _ ?side1 ?side2 A9.out).mono ?_); (case side1 => exact qC (Kd.C_below HR125.out HB.out)); (case side2 => exact HC125.out); rintro e w15 ⟨v127, rfl, ho0, hb⟩; refine ⟨_, rfl, ?_⟩; replace HO_3 := aM (Kd.S_elder' (by (with_reducible repeat (first | apply Kd.S_alloc | apply Kd.S_drewN | apply Kd.S_drew)); exact HO_3.out) (Kd.R_base ho0) hb); have HO128 := oR ho0 HB; replace BK121 := bB BK121 hb; replace HB := bS HB hb; clear hb ho0; obtain ⟨Ao16, co16, eo16⟩ := Kd.S_slice HO_3.out; subst eo16; obtain ⟨Ao17, co17, rfl⟩ := sL HO128) | ((with_reducible refine gate_callee (f := 77) rfl ?_); refine gL (some 27) Try.func77 #[.slice Ao16 x3_1.length co16, .slice Ao17 t126.length co17] ?_; (with_reducible refine (spec_colorAt.calls k1 _ _ x3_1 _ _ t126 t129 _ ?side1 ?side2 ?side3 ?side4 A10.out).mono ?_); (case side1 => exact qC (Kd.S_reads' HO_3.out).2.2); (case side2 => exact (Kd.S_reads' HO_3.out).2.1); (case side3 => exact qC (Kd.R_reads' HO128.out).2.2); (case side4 => exact (Kd.R_reads' HO128.out).2.1); rintro e w' ⟨rfl, ⟨nd, rfl⟩⟩; refine ⟨_, rfl, ?_⟩) | ((with_reducible refine gate_builtin (b := .append) (xs := #[.tmp 29, .tmp 31]) rfl ?_); at_builtin; refine Kd.S_append (Kd.slice 3 (Kd.int .i64)) (w0 := w) w.heap.size rfl (.tmp 29) (.tmp 31) 26 22 (.slice none 0 0) 24 rfl Try.underlying26 info22 rfl (by decide) (by omega) (.slice Ao16 x3_1.length co16) x3_1 t126 [.slice Ao17 t126.length co17] (fun _ => True) (fun k_ => some k_ = (.slice Ao17 t126.length co17 : Value).ownBlock) rfl rfl ?aP (fun k_ hk_ => ((Kd.R_mono (ok' := fun k_ => ((fun _ => True)) k_ ∧ some k_ ≠ (.slice Ao16 x3_1.length co16 : Value).ownBlock) (Kd.R_apart' (HO128.out) (Kd.S_typed HO_3.out) (by decide)) (fun k_ hk => ⟨trivial, hk.2⟩))).1 k_ hk_.symm) ?aF ?aO ?aB ?aS ?aL ?_; (case aP => exact Kd.M_row (Kd.R_mono (Kd.R_tight rfl (Kd.R_mono (ok' := fun k_ => ((fun _ => True)) k_ ∧ some k_ ≠ (.slice Ao16 x3_1.length co16 : Value).ownBlock) (Kd.R_apart' (HO128.out) (Kd.S_typed HO_3.out) (by decide)) (fun k_ hk => ⟨trivial, hk.2⟩))) (fun _ h_ => h_))); (case aB => exact (qW HB.out)); (case aF => exact (fun _ _ => trivial)); (case aO => exact (by (with_reducible repeat (first | apply Kd.S_alloc | apply Kd.S_drewN | apply Kd.S_drew)); exact Kd.S_mono HO_3.out (fun k_ hk => ⟨trivial, fun e_ => hk.2 e_⟩))); (case aS => exact (below_size (qW HB.out))); (case aL => have := LMc12.out; omega); intro v131 w18 ho hb hg hat; rw [← Ny130.out] at ho; replace BK121 := aM (blk_grown (g := gb121) (o := .cells #[.int .i64 a0_0, .int .i64 a0_1, .int .i64 a0_2, .slice A0_3 l0_3.length c0_3] 29 (0, 0)) (qB BK121.out) hg (Kd.S_ne HO_3.out BK121.out (by decide))); replace HB := aM (hb); have HO132 := aM (ho); clear HO_3 HO128; clear ho hb hg hat; obtain ⟨⟨hcz19_0, hcz19_1, hcz19_2, hcz19_3⟩, hfz19_0, hfz19_1, hfz19_2, hfz19_3⟩ := cf4 BK121))
   go_roundg k1
   case measure => have := HK1.out; omega
   case rel => exact ⟨(y130), (wrap64 (x4_1 + a0_2)), qE, H', ⟨by have := HK1.out; omega⟩, ⟨by (with_reducible repeat (first | apply Kd.S_alloc | apply Kd.S_drewN | apply Kd.S_drew)); exact HO132.out⟩, ⟨by refine qB ?_; exact BK121.out⟩, ⟨by exact qW HB.out⟩⟩
def spec_PaletteOf.f (k : Nat) (a0_0 : Int) (a0_1 : Int) (a0_2 : Int) (l0_3 : List Int) : Option ((List (List Int)) × Bool) := (spec_validImage.f k a0_0 a0_1 a0_2 l0_3).bind fun t134 => (if t134 = true then ((spec_allColors.f k a0_0 a0_1 a0_2 l0_3).bind fun t135 => (if (t135.length : Int) > 16 then (some (([] : List (List Int)), false)) else ((spec_allColors.f k a0_0 a0_1 a0_2 l0_3).bind fun t138 => (some (t138, true))))) else (some (([] : List (List Int)), false)))
theorem spec_PaletteOf.mono : ∀ a0 a1 a2 a3 k, LeO (spec_PaletteOf.f k a0 a1 a2 a3) (spec_PaletteOf.f (k + 1) a0 a1 a2 a3) := by
 intro a0 a1 a2 a3 k
 unfold spec_PaletteOf.f
 repeat' first | (with_reducible first | exact spec_allColors.mono _ _ _ _ _ | exact spec_validImage.mono _ _ _ _ _ | exact lR | exact lN | refine lI ?_ ?_ | refine lB ?_ fun _ => ?_) | exact spec_allColors.mono _ _ _ _ _ | exact spec_validImage.mono _ _ _ _ _ | exact lN | refine lI ?_ ?_ | refine lB ?_ fun _ => ?_
set_option maxHeartbeats 8000000 in
set_option maxRecDepth 100000 in
theorem spec_PaletteOf.calls (k : Nat) (a0_0 : Int) (a0_1 : Int) (a0_2 : Int) (A0_3 : Option Addr) (c0_3 : Nat) (l0_3 : List Int) (r1 : List (List Int)) (r2 : Bool) (w : World) (hr0_3 : Kd.C (Kd.int .i64) w A0_3 l0_3.length l0_3) (hc0_3 : l0_3.length ≤ c0_3) (h : spec_PaletteOf.f k a0_0 a0_1 a0_2 l0_3 = some (r1, r2)) :
  Calls Try.prog 13 #[.agg #[.int .i64 a0_0, .int .i64 a0_1, .int .i64 a0_2, .slice A0_3 l0_3.length c0_3]] w fun e w' => ∃ v0_ : Value, e = .returned (.tuple #[v0_, .bool r2]) ∧ Kd.S (Kd.slice 3 (Kd.int .i64)) 22 w' w.heap.size (fun _ => True) v0_ r1 ∧ Below w.heap.size w w' := by
 have hu29 := Try.underlying29
 have HR0_3 := aM hr0_3
 have HC0_3 := aM hc0_3
 clear hr0_3 hc0_3
 have HB := aM (Below.refl w.heap.size w)
 unfold spec_PaletteOf.f at h
 have H := h
 clear h
 replace H := Option.bind_eq_some_iff.mp H
 obtain ⟨t134, A20, H⟩ := H
 replace H : (if t134 = true then ((spec_allColors.f k a0_0 a0_1 a0_2 l0_3).bind fun t135 => (if (t135.length : Int) > 16 then (some (([] : List (List Int)), false)) else ((spec_allColors.f k a0_0 a0_1 a0_2 l0_3).bind fun t138 => (some (t138, true))))) else (some (([] : List (List Int)), false))) = some (r1, r2) := H
 have A2 := aM A20
 clear A20
 by_cases c3 : t134 = true
 rotate_left
 ·replace c3 := Bool.eq_false_iff.mpr c3
  subst c3
  have H1 : (some (([] : List (List Int)), false)) = some (r1, r2) := by rw [if_neg (show ¬ (false = true) by decide)] at H; exact H
  clear H
  have H := H1
  clear H1
  simp only [Option.some.injEq, Prod.mk.injEq] at H
  obtain ⟨rfl, rfl⟩ := H
  go_enter Try.func13, Try.ntmps13
  go_wp2_with (first | ((with_reducible refine gate_dst (N := 1) rfl ?_); (try (refine gate_guard (by rfl) ?_; dsimp only)); refine bxE (N := 1) (cs := #[.int .i64 a0_0, .int .i64 a0_1, .int .i64 a0_2, .slice A0_3 l0_3.length c0_3]) (t := 29) ?_; intro gb133 hg w21 hbox hb; have BK133 := aM (hbox); have GW133 := gW hg HB; have GE133 := gW hg HB; replace HB := bS HB hb; clear hb hbox hg; obtain ⟨⟨hcz22_0, hcz22_1, hcz22_2, hcz22_3⟩, hfz22_0, hfz22_1, hfz22_2, hfz22_3⟩ := cf4 BK133) | ((with_reducible refine gate_callee (f := 40) rfl ?_); refine gL (some 5) Try.func40 #[.agg #[.int .i64 a0_0, .int .i64 a0_1, .int .i64 a0_2, .slice A0_3 l0_3.length c0_3]] ?_; (with_reducible refine (spec_validImage.calls k a0_0 a0_1 a0_2 _ _ l0_3 false _ ?side1 ?side2 A2.out).mono ?_); (case side1 => exact qC (Kd.C_below HR0_3.out HB.out)); (case side2 => exact HC0_3.out); rintro e w23 ⟨rfl, hb⟩; refine ⟨_, rfl, ?_⟩; replace BK133 := bB BK133 hb; replace HB := bS HB hb; clear hb))
  go_ret2
  exact ⟨_, qX, by first | exact Kd.S_nil _ _ _ _ _ | exact Kd.N_nil _ _ _ _ _ | exact Kd.V_nil _ _ _ _ _ | exact Kd.Q_nil _ _ _ _ _ | exact Kd.R_nil _ _ _ _ _, by exact qW HB.out⟩
 subst c3
 have H1 : ((spec_allColors.f k a0_0 a0_1 a0_2 l0_3).bind fun t135 => (if (t135.length : Int) > 16 then (some (([] : List (List Int)), false)) else ((spec_allColors.f k a0_0 a0_1 a0_2 l0_3).bind fun t138 => (some (t138, true))))) = some (r1, r2) := by rw [if_pos rfl] at H; exact H
 clear H
 have H := H1
 clear H1
 replace H := Option.bind_eq_some_iff.mp H
 obtain ⟨t135, A40, H⟩ := H
 replace H : (if (t135.length : Int) > 16 then (some (([] : List (List Int)), false)) else ((spec_allColors.f k a0_0 a0_1 a0_2 l0_3).bind fun t138 => (some (t138, true)))) = some (r1, r2) := H
 have A4 := aM A40
 clear A40
 by_cases c5 : (t135.length : Int) > 16
 ·rw [if_pos c5] at H
  have c5b0 : decide (16 < (t135.length : Int)) = true := decide_eq_true c5
  have c5b1 : decide (16 < t135.length) = true := decide_eq_true (by omega)
  clear c5
  simp only [Option.some.injEq, Prod.mk.injEq] at H
  obtain ⟨rfl, rfl⟩ := H
  go_enter Try.func13, Try.ntmps13
  go_wp2_with (first | ((with_reducible refine gate_dst (N := 1) rfl ?_); (try (refine gate_guard (by rfl) ?_; dsimp only)); refine bxE (N := 1) (cs := #[.int .i64 a0_0, .int .i64 a0_1, .int .i64 a0_2, .slice A0_3 l0_3.length c0_3]) (t := 29) ?_; intro gb133 hg w6 hbox hb; have BK133 := aM (hbox); have GW133 := gW hg HB; have GE133 := gW hg HB; replace HB := bS HB hb; clear hb hbox hg; obtain ⟨⟨hcz7_0, hcz7_1, hcz7_2, hcz7_3⟩, hfz7_0, hfz7_1, hfz7_2, hfz7_3⟩ := cf4 BK133) | ((with_reducible refine gate_callee (f := 40) rfl ?_); refine gL (some 5) Try.func40 #[.agg #[.int .i64 a0_0, .int .i64 a0_1, .int .i64 a0_2, .slice A0_3 l0_3.length c0_3]] ?_; (with_reducible refine (spec_validImage.calls k a0_0 a0_1 a0_2 _ _ l0_3 true _ ?side1 ?side2 A2.out).mono ?_); (case side1 => exact qC (Kd.C_below HR0_3.out HB.out)); (case side2 => exact HC0_3.out); rintro e w8 ⟨rfl, hb⟩; refine ⟨_, rfl, ?_⟩; replace BK133 := bB BK133 hb; replace HB := bS HB hb; clear hb; obtain ⟨⟨hcz9_0, hcz9_1, hcz9_2, hcz9_3⟩, hfz9_0, hfz9_1, hfz9_2, hfz9_3⟩ := cf4 BK133) | (go_at_call 41; (with_reducible refine (spec_allColors.calls k a0_0 a0_1 a0_2 _ _ l0_3 t135 _ ?side1 ?side2 A4.out).mono ?_); (case side1 => exact qC (Kd.C_below HR0_3.out HB.out)); (case side2 => exact HC0_3.out); rintro e w10 ⟨v136, rfl, ho0, hb⟩; have HO137 := aM (Kd.S_lower ho0 (below_size (qW HB.out))); replace BK133 := bB BK133 hb; replace HB := bS HB hb; clear hb ho0; obtain ⟨Ao11, co11, eo11⟩ := Kd.S_slice HO137.out; subst eo11))
  go_ret2
  exact ⟨_, qX, by first | exact Kd.S_nil _ _ _ _ _ | exact Kd.N_nil _ _ _ _ _ | exact Kd.V_nil _ _ _ _ _ | exact Kd.Q_nil _ _ _ _ _ | exact Kd.R_nil _ _ _ _ _, by exact qW HB.out⟩
 rw [if_neg c5] at H
 have c5b0 : decide (16 < (t135.length : Int)) = false := decide_eq_false c5
 have c5b1 : decide (16 < t135.length) = false := decide_eq_false (by omega)
 clear c5
 replace H := Option.bind_eq_some_iff.mp H
 obtain ⟨t138, A120, H⟩ := H
 replace H : (some (t138, true)) = some (r1, r2) := H
 have A12 := aM A120
 clear A120
 simp only [Option.some.injEq, Prod.mk.injEq] at H
 obtain ⟨rfl, rfl⟩ := H
 go_enter Try.func13, Try.ntmps13
 go_wp2_with (first | ((with_reducible refine gate_dst (N := 1) rfl ?_); (try (refine gate_guard (by rfl) ?_; dsimp only)); refine bxE (N := 1) (cs := #[.int .i64 a0_0, .int .i64 a0_1, .int .i64 a0_2, .slice A0_3 l0_3.length c0_3]) (t := 29) ?_; intro gb133 hg w13 hbox hb; have BK133 := aM (hbox); have GW133 := gW hg HB; have GE133 := gW hg HB; replace HB := bS HB hb; clear hb hbox hg; obtain ⟨⟨hcz14_0, hcz14_1, hcz14_2, hcz14_3⟩, hfz14_0, hfz14_1, hfz14_2, hfz14_3⟩ := cf4 BK133) | ((with_reducible refine gate_callee (f := 40) rfl ?_); refine gL (some 5) Try.func40 #[.agg #[.int .i64 a0_0, .int .i64 a0_1, .int .i64 a0_2, .slice A0_3 l0_3.length c0_3]] ?_; (with_reducible refine (spec_validImage.calls k a0_0 a0_1 a0_2 _ _ l0_3 true _ ?side1 ?side2 A2.out).mono ?_); (case side1 => exact qC (Kd.C_below HR0_3.out HB.out)); (case side2 => exact HC0_3.out); rintro e w15 ⟨rfl, hb⟩; refine ⟨_, rfl, ?_⟩; replace BK133 := bB BK133 hb; replace HB := bS HB hb; clear hb; obtain ⟨⟨hcz16_0, hcz16_1, hcz16_2, hcz16_3⟩, hfz16_0, hfz16_1, hfz16_2, hfz16_3⟩ := cf4 BK133) | (go_at_call 41; (with_reducible refine (spec_allColors.calls k a0_0 a0_1 a0_2 _ _ l0_3 t135 _ ?side1 ?side2 A4.out).mono ?_); (case side1 => exact qC (Kd.C_below HR0_3.out HB.out)); (case side2 => exact HC0_3.out); rintro e w17 ⟨v136, rfl, ho0, hb⟩; have HO137 := aM (Kd.S_lower ho0 (below_size (qW HB.out))); replace BK133 := bB BK133 hb; replace HB := bS HB hb; clear hb ho0; obtain ⟨Ao18, co18, eo18⟩ := Kd.S_slice HO137.out; subst eo18; obtain ⟨⟨hcz19_0, hcz19_1, hcz19_2, hcz19_3⟩, hfz19_0, hfz19_1, hfz19_2, hfz19_3⟩ := cf4 BK133) | ((with_reducible refine gate_callee (f := 41) rfl ?_); refine gL (some 14) Try.func41 #[.agg #[.int .i64 a0_0, .int .i64 a0_1, .int .i64 a0_2, .slice A0_3 l0_3.length c0_3]] ?_; (with_reducible refine (spec_allColors.calls k a0_0 a0_1 a0_2 _ _ l0_3 t138 _ ?side1 ?side2 A12.out).mono ?_); (case side1 => exact qC (Kd.C_below HR0_3.out HB.out)); (case side2 => exact HC0_3.out); rintro e w20 ⟨v139, rfl, ho0, hb⟩; refine ⟨_, rfl, ?_⟩; have HO140 := aM (Kd.S_lower (Kd.S_new' ho0 (Kd.S_lt (by (with_reducible repeat (first | apply Kd.S_alloc | apply Kd.S_drewN | apply Kd.S_drew)); exact HO137.out))) (below_size (qW HB.out))); replace HO137 := aM (Kd.S_elder' (by (with_reducible repeat (first | apply Kd.S_alloc | apply Kd.S_drewN | apply Kd.S_drew)); exact HO137.out) (Kd.S_base ho0) hb); replace BK133 := bB BK133 hb; replace HB := bS HB hb; clear hb ho0))
 go_ret2
 exact ⟨_, qX, by (with_reducible repeat (first | apply Kd.S_alloc | apply Kd.S_drewN | apply Kd.S_drew)); exact Kd.S_mono HO140.out (fun _ hk => trivial), by exact qW HB.out⟩
mutual
def spec_ColorImage.j0 : Nat → List (List Int) → Int → Bool → Int → Int → Int → List Int → Option (Int × Int × Int × List Int × Bool)
 | 0, _, _, _, _, _, _, _ => none
 | k + 1, x1, x2, x38, x386000, x386001, x386002, x386003 => if x38 = true then (some (0, 0, 0, ([] : List Int), false)) else ((spec_newImage.f x386000 x386001 x2).bind fun bt391 => (spec_ColorImage.l0 k x1 x2 0 x386000 x386001 x386002 x386003 bt391.1 bt391.2.1 bt391.2.2.1 bt391.2.2.2))
def spec_ColorImage.l0 : Nat → List (List Int) → Int → Int → Int → Int → Int → List Int → Int → Int → Int → List Int → Option (Int × Int × Int × List Int × Bool)
 | 0, _, _, _, _, _, _, _, _, _, _, _ => none
 | k + 1, x1, x2, x9, x386000, x386001, x386002, x386003, x398000, x398001, x398002, x398003 => if x9 < (x386003.length : Int) then (spec_ColorImage.l1 k x1 x2 x9 0 x386000 x386001 x386002 x386003 x398000 x398001 x398002 x398003) else (some (x398000, x398001, x398002, x398003, true))
def spec_ColorImage.l1 : Nat → List (List Int) → Int → Int → Int → Int → Int → Int → List Int → Int → Int → Int → List Int → Option (Int × Int × Int × List Int × Bool)
 | 0, _, _, _, _, _, _, _, _, _, _, _, _ => none
 | k + 1, x1, x2, x9, x10, x386000, x386001, x386002, x386003, x398000, x398001, x398002, x398003 => if x10 < x2 then (if 0 ≤ x9 then (if x9 < (x386003.length : Int) then (if 0 ≤ (rd x386003 x9) then (if (rd x386003 x9) < (x1.length : Int) then (if 0 ≤ x10 then (if x10 < ((rd_L1 x1 (rd x386003 x9)).length : Int) then (if 0 ≤ (wrap64 ((wrap64 (x9 * x2)) + x10)) then (if (wrap64 ((wrap64 (x9 * x2)) + x10)) < (x398003.length : Int) then (spec_ColorImage.l1 k x1 x2 x9 (wrap64 (x10 + 1)) x386000 x386001 x386002 x386003 x398000 x398001 x398002 (x398003.set ((wrap64 ((wrap64 (x9 * x2)) + x10)) : Int).toNat (rd (rd_L1 x1 (rd x386003 x9)) x10))) else (none)) else (none)) else (none)) else (none)) else (none)) else (none)) else (none)) else (none)) else (spec_ColorImage.l0 k x1 x2 (wrap64 (x9 + 1)) x386000 x386001 x386002 x386003 x398000 x398001 x398002 x398003)
end
def spec_ColorImage.f (k : Nat) (a0_0 : Int) (a0_1 : Int) (a0_2 : Int) (l0_3 : List Int) (l1 : List (List Int)) (a2 : Int) : Option (Int × Int × Int × List Int × Bool) := (spec_validImage.f k a0_0 a0_1 a0_2 l0_3).bind fun t387 => (if t387 = true then (if a0_2 = 1 then ((spec_inRange.f a2 1 4).bind fun t388 => (if t388 = true then ((spec_validColors.f k l1 a2).bind fun t389 => (if t389 = true then ((spec_allIn.f k l0_3 0 (wrap64 ((l1.length : Int) - 1))).bind fun t390 => (spec_ColorImage.j0 k l1 a2 (!t390) a0_0 a0_1 a0_2 l0_3)) else (spec_ColorImage.j0 k l1 a2 true a0_0 a0_1 a0_2 l0_3))) else (spec_ColorImage.j0 k l1 a2 true a0_0 a0_1 a0_2 l0_3))) else (spec_ColorImage.j0 k l1 a2 true a0_0 a0_1 a0_2 l0_3)) else (spec_ColorImage.j0 k l1 a2 true a0_0 a0_1 a0_2 l0_3))
theorem spec_ColorImage.mono_l : ∀ k, (∀ y0 y1 y2 y3 y4 y5 y6, LeO (spec_ColorImage.j0 k y0 y1 y2 y3 y4 y5 y6) (spec_ColorImage.j0 (k + 1) y0 y1 y2 y3 y4 y5 y6)) ∧ (∀ y0 y1 y2 y3 y4 y5 y6 y7 y8 y9 y10, LeO (spec_ColorImage.l0 k y0 y1 y2 y3 y4 y5 y6 y7 y8 y9 y10) (spec_ColorImage.l0 (k + 1) y0 y1 y2 y3 y4 y5 y6 y7 y8 y9 y10)) ∧ (∀ y0 y1 y2 y3 y4 y5 y6 y7 y8 y9 y10 y11, LeO (spec_ColorImage.l1 k y0 y1 y2 y3 y4 y5 y6 y7 y8 y9 y10 y11) (spec_ColorImage.l1 (k + 1) y0 y1 y2 y3 y4 y5 y6 y7 y8 y9 y10 y11))
 | 0 => ⟨fun _ _ _ _ _ _ _ r h => by simp [spec_ColorImage.j0] at h, fun _ _ _ _ _ _ _ _ _ _ _ r h => by simp [spec_ColorImage.l0] at h, fun _ _ _ _ _ _ _ _ _ _ _ _ r h => by simp [spec_ColorImage.l1] at h⟩
 | k + 1 => by
  obtain ⟨ih0, ih1, ih2⟩ := spec_ColorImage.mono_l k
  refine ⟨?_, ?_, ?_⟩
  all_goals intros
  all_goals first | unfold spec_ColorImage.j0 | unfold spec_ColorImage.l0 | unfold spec_ColorImage.l1
  all_goals repeat' first | (with_reducible first | exact ih0 _ _ _ _ _ _ _ | exact ih1 _ _ _ _ _ _ _ _ _ _ _ | exact ih2 _ _ _ _ _ _ _ _ _ _ _ _ | exact spec_allIn.mono _ _ _ _ | exact spec_validColors.mono _ _ _ | exact spec_validImage.mono _ _ _ _ _ | exact lR | exact lN | refine lI ?_ ?_ | refine lB ?_ fun _ => ?_) | exact ih0 _ _ _ _ _ _ _ | exact ih1 _ _ _ _ _ _ _ _ _ _ _ | exact ih2 _ _ _ _ _ _ _ _ _ _ _ _ | exact spec_allIn.mono _ _ _ _ | exact spec_validColors.mono _ _ _ | exact spec_validImage.mono _ _ _ _ _ | exact lN | refine lI ?_ ?_ | refine lB ?_ fun _ => ?_
theorem spec_ColorImage.mono : ∀ a0 a1 a2 a3 a4 a5 k, LeO (spec_ColorImage.f k a0 a1 a2 a3 a4 a5) (spec_ColorImage.f (k + 1) a0 a1 a2 a3 a4 a5) := by
 intro a0 a1 a2 a3 a4 a5 k
 obtain ⟨ih0, ih1, ih2⟩ := spec_ColorImage.mono_l k
 unfold spec_ColorImage.f
 repeat' first | (with_reducible first | exact ih0 _ _ _ _ _ _ _ | exact ih1 _ _ _ _ _ _ _ _ _ _ _ | exact ih2 _ _ _ _ _ _ _ _ _ _ _ _ | exact spec_allIn.mono _ _ _ _ | exact spec_validColors.mono _ _ _ | exact spec_validImage.mono _ _ _ _ _ | exact lR | exact lN | refine lI ?_ ?_ | refine lB ?_ fun _ => ?_) | exact ih0 _ _ _ _ _ _ _ | exact ih1 _ _ _ _ _ _ _ _ _ _ _ | exact ih2 _ _ _ _ _ _ _ _ _ _ _ _ | exact spec_allIn.mono _ _ _ _ | exact spec_validColors.mono _ _ _ | exact spec_validImage.mono _ _ _ _ _ | exact lN | refine lI ?_ ?_ | refine lB ?_ fun _ => ?_
def spec_ColorImage.T10 : Bool × List (List Nat × List Nat) := (true, [([], []), ([0], [0]), ([], []), ([], []), ([2, 3], [2, 3]), ([], []), ([4, 5], [4, 5]), ([], []), ([], []), ([8], [8]), ([], []), ([9, 10], [9, 10]), ([11], [11]), ([7, 12], [7, 12]), ([13], [13]), ([], []), ([14, 15], [14, 15]), ([16], [16]), ([1, 6, 0, 1, 2, 3, 4, 5, 6, 7, 8, 9, 10, 11, 12, 13, 14, 15, 16, 17], [1, 6]), ([18, 17, 0, 1, 2, 3, 4, 5, 6, 7, 8, 9, 10, 11, 12, 13, 14, 15, 16, 17], [17, 18])])
def spec_ColorImage.B10 : List Nat := [0, 1, 0, 0, 12, 0, 60, 0, 0, 256, 0, 1792, 3840, 8064, 16256, 0, 65408, 130944, 262143, 524287]
theorem spec_ColorImage.tab10 : rtab .any (opsOf Try.f29 10) = spec_ColorImage.T10 := by kernel_rfl
theorem spec_ColorImage.bits10 : waitsOk spec_ColorImage.T10.2 spec_ColorImage.B10 = true := by kernel_rfl
set_option maxHeartbeats 8000000 in
set_option maxRecDepth 100000 in
theorem spec_ColorImage.calls (k : Nat) (a0_0 : Int) (a0_1 : Int) (a0_2 : Int) (A0_3 : Option Addr) (c0_3 : Nat) (l0_3 : List Int) (A1 : Option Addr) (c1 : Nat) (l1 : List (List Int)) (a2 : Int) (r1 : Int) (r2 : Int) (r3 : Int) (r4 : List Int) (r5 : Bool) (w : World) (hr0_3 : Kd.C (Kd.int .i64) w A0_3 l0_3.length l0_3) (hc0_3 : l0_3.length ≤ c0_3) (hr1 : Kd.C (Kd.slice 3 (Kd.int .i64)) w A1 l1.length l1) (hc1 : l1.length ≤ c1) (h : spec_ColorImage.f k a0_0 a0_1 a0_2 l0_3 l1 a2 = some (r1, r2, r3, r4, r5)) :
  Calls Try.prog 29 #[.agg #[.int .i64 a0_0, .int .i64 a0_1, .int .i64 a0_2, .slice A0_3 l0_3.length c0_3], .slice A1 l1.length c1, .int .i64 a2] w fun e w' => ∃ v3_ : Value, e = .returned (.tuple #[.agg #[.int .i64 r1, .int .i64 r2, .int .i64 r3, v3_], .bool r5]) ∧ Kd.R (Kd.int .i64) 3 w' w.heap.size (fun _ => True) v3_ r4 ∧ Below w.heap.size w w' := by
 have hu29 := Try.underlying29
 have HR0_3 := aM hr0_3
 have HC0_3 := aM hc0_3
 clear hr0_3 hc0_3
 have HR1 := aM hr1
 have HC1 := aM hc1
 clear hr1 hc1
 have HB := aM (Below.refl w.heap.size w)
 unfold spec_ColorImage.f at h
 have H := h
 clear h
 have HC4 := aM H
 clear H
 go_enter Try.func29, Try.ntmps29
 go_upto_region 1 with (first | ((with_reducible refine gate_dst (N := 3) rfl ?_); (try (refine gate_guard (by rfl) ?_; dsimp only)); refine bxE (N := 3) (cs := #[.int .i64 a0_0, .int .i64 a0_1, .int .i64 a0_2, .slice A0_3 l0_3.length c0_3]) (t := 29) ?_; intro gb385 hg w5 hbox hb; have BK385 := aM (hbox); have GW385 := gW hg HB; have GE385 := gW hg HB; replace HB := bS HB hb; clear hb hbox hg) | ((with_reducible refine gate_dst (N := 6) rfl ?_); (try (refine gate_guard (by rfl) ?_; dsimp only)); refine bxE (N := 6) (cs := #[.int .i64 0, .int .i64 0, .int .i64 0, .slice none 0 0]) (t := 29) ?_; intro gb386 hg w6 hbox hb; have BK386 := aM (hbox); have GW386 := gW hg HB; have GE386 := gW hg HB; replace HB := bS HB hb; have NB385_386 := nL hg BK385; have NB386_385 := nG hg BK385; replace BK385 := bB BK385 hb; clear hb hbox hg))
 (try simp only [Act.put, List.setIfInBounds_toArray, List.set_cons_zero, List.set_cons_succ])
 go_cut [38] (fun v38 wc => ∃ (kq : Nat) (x38_3 : Bool), v38 = .bool x38_3 ∧ Aside0 (spec_ColorImage.j0 kq l1 a2 x38_3 a0_0 a0_1 a0_2 l0_3 = some (r1, r2, r3, r4, r5)) ∧ Aside0 (kq ≤ k) ∧ Aside0 (wc.heap[gb385]? = some (.cells #[.int .i64 a0_0, .int .i64 a0_1, .int .i64 a0_2, (.slice A0_3 l0_3.length c0_3)] 29 (0, 0))) ∧ Aside0 (wc.heap[gb386]? = some (.cells #[.int .i64 0, .int .i64 0, .int .i64 0, (.slice none 0 0)] 29 (0, 0))) ∧ Aside0 (Below w.heap.size w wc))
 case first =>
  have H := HC4.out
  clear HC4
  replace H := Option.bind_eq_some_iff.mp H
  obtain ⟨t387, A70, H⟩ := H
  replace H : (if t387 = true then (if a0_2 = 1 then ((spec_inRange.f a2 1 4).bind fun t388 => (if t388 = true then ((spec_validColors.f k l1 a2).bind fun t389 => (if t389 = true then ((spec_allIn.f k l0_3 0 (wrap64 ((l1.length : Int) - 1))).bind fun t390 => (spec_ColorImage.j0 k l1 a2 (!t390) a0_0 a0_1 a0_2 l0_3)) else (spec_ColorImage.j0 k l1 a2 true a0_0 a0_1 a0_2 l0_3))) else (spec_ColorImage.j0 k l1 a2 true a0_0 a0_1 a0_2 l0_3))) else (spec_ColorImage.j0 k l1 a2 true a0_0 a0_1 a0_2 l0_3)) else (spec_ColorImage.j0 k l1 a2 true a0_0 a0_1 a0_2 l0_3)) = some (r1, r2, r3, r4, r5) := H
  have A7 := aM A70
  clear A70
  by_cases c8 : t387 = true
  rotate_left
  ·replace c8 := Bool.eq_false_iff.mpr c8
   subst c8
   have H1 : (spec_ColorImage.j0 k l1 a2 true a0_0 a0_1 a0_2 l0_3) = some (r1, r2, r3, r4, r5) := by rw [if_neg (show ¬ (false = true) by decide)] at H; exact H
   clear H
   have H := H1
   clear H1
   have H' := aM H
   clear H
   have hnb31 := NB385_386.out
   have hnc31 := NB386_385.out
   obtain ⟨⟨hcz32_0, hcz32_1, hcz32_2, hcz32_3⟩, hfz32_0, hfz32_1, hfz32_2, hfz32_3⟩ := cf4 BK385
   go_wp2_with (first | ((with_reducible refine gate_callee (f := 40) rfl ?_); refine gL (some 12) Try.func40 #[.agg #[.int .i64 a0_0, .int .i64 a0_1, .int .i64 a0_2, .slice A0_3 l0_3.length c0_3]] ?_; (with_reducible refine (spec_validImage.calls k a0_0 a0_1 a0_2 _ _ l0_3 false _ ?side1 ?side2 A7.out).mono ?_); (case side1 => exact qC (Kd.C_below HR0_3.out HB.out)); (case side2 => exact HC0_3.out); rintro e w33 ⟨rfl, hb⟩; refine ⟨_, rfl, ?_⟩; replace BK385 := bB BK385 hb; replace BK386 := bB BK386 hb; replace HB := bS HB hb; clear hb))
   go_meet
   case rel => exact ⟨_, (true), qE, H', ⟨by first | omega | exact Nat.le_refl _⟩, ⟨by refine qB ?_; exact BK385.out⟩, ⟨by refine qB ?_; exact BK386.out⟩, ⟨by exact qW HB.out⟩⟩
  subst c8
  have H1 : (if a0_2 = 1 then ((spec_inRange.f a2 1 4).bind fun t388 => (if t388 = true then ((spec_validColors.f k l1 a2).bind fun t389 => (if t389 = true then ((spec_allIn.f k l0_3 0 (wrap64 ((l1.length : Int) - 1))).bind fun t390 => (spec_ColorImage.j0 k l1 a2 (!t390) a0_0 a0_1 a0_2 l0_3)) else (spec_ColorImage.j0 k l1 a2 true a0_0 a0_1 a0_2 l0_3))) else (spec_ColorImage.j0 k l1 a2 true a0_0 a0_1 a0_2 l0_3))) else (spec_ColorImage.j0 k l1 a2 true a0_0 a0_1 a0_2 l0_3)) = some (r1, r2, r3, r4, r5) := by rw [if_pos rfl] at H; exact H
  clear H
  have H := H1
  clear H1
  by_cases c9 : a0_2 = 1
  rotate_left
  ·rw [if_neg c9] at H
   have c9b0 : (a0_2 == 1) = false := beq_eq_false_iff_ne.mpr c9
   have c9b1 : (a0_2 != 1) = true := bne_iff_ne.mpr c9
   (first | rw [c9b0] | (simp only [i64_w, i32_w]; rw [c9b0]) | skip)
   have H' := aM H
   clear H
   have hnb27 := NB385_386.out
   have hnc27 := NB386_385.out
   obtain ⟨⟨hcz28_0, hcz28_1, hcz28_2, hcz28_3⟩, hfz28_0, hfz28_1, hfz28_2, hfz28_3⟩ := cf4 BK385
   go_wp2_with (first | ((with_reducible refine gate_callee (f := 40) rfl ?_); refine gL (some 12) Try.func40 #[.agg #[.int .i64 a0_0, .int .i64 a0_1, .int .i64 a0_2, .slice A0_3 l0_3.length c0_3]] ?_; (with_reducible refine (spec_validImage.calls k a0_0 a0_1 a0_2 _ _ l0_3 true _ ?side1 ?side2 A7.out).mono ?_); (case side1 => exact qC (Kd.C_below HR0_3.out HB.out)); (case side2 => exact HC0_3.out); rintro e w29 ⟨rfl, hb⟩; refine ⟨_, rfl, ?_⟩; replace BK385 := bB BK385 hb; replace BK386 := bB BK386 hb; replace HB := bS HB hb; clear hb; obtain ⟨⟨hcz30_0, hcz30_1, hcz30_2, hcz30_3⟩, hfz30_0, hfz30_1, hfz30_2, hfz30_3⟩ := cf4 BK385))
   go_meet
   case rel => exact ⟨_, (true), qE, H', ⟨by first | omega | exact Nat.le_refl _⟩, ⟨by refine qB ?_; exact BK385.out⟩, ⟨by refine qB ?_; exact BK386.out⟩, ⟨by exact qW HB.out⟩⟩
  rw [if_pos c9] at H
  have c9b0 : (a0_2 == 1) = true := beq_iff_eq.mpr c9
  have c9b1 : (a0_2 != 1) = false := bne_eq_false_iff_eq.mpr c9
  clear c9
  (first | rw [c9b0] | (simp only [i64_w, i32_w]; rw [c9b0]) | skip)
  replace H := Option.bind_eq_some_iff.mp H
  obtain ⟨t388, A100, H⟩ := H
  replace H : (if t388 = true then ((spec_validColors.f k l1 a2).bind fun t389 => (if t389 = true then ((spec_allIn.f k l0_3 0 (wrap64 ((l1.length : Int) - 1))).bind fun t390 => (spec_ColorImage.j0 k l1 a2 (!t390) a0_0 a0_1 a0_2 l0_3)) else (spec_ColorImage.j0 k l1 a2 true a0_0 a0_1 a0_2 l0_3))) else (spec_ColorImage.j0 k l1 a2 true a0_0 a0_1 a0_2 l0_3)) = some (r1, r2, r3, r4, r5) := H
  have A10 := aM A100
  clear A100
  by_cases c11 : t388 = true
  rotate_left
  ·replace c11 := Bool.eq_false_iff.mpr c11
   subst c11
   have H1 : (spec_ColorImage.j0 k l1 a2 true a0_0 a0_1 a0_2 l0_3) = some (r1, r2, r3, r4, r5) := by rw [if_neg (show ¬ (false = true) by decide)] at H; exact H
   clear H
   have H := H1
   clear H1
   have H' := aM H
   clear H
   have hnb23 := NB385_386.out
   have hnc23 := NB386_385.out
   obtain ⟨⟨hcz24_0, hcz24_1, hcz24_2, hcz24_3⟩, hfz24_0, hfz24_1, hfz24_2, hfz24_3⟩ := cf4 BK385
   go_wp2_with (first | ((with_reducible refine gate_callee (f := 40) rfl ?_); refine gL (some 12) Try.func40 #[.agg #[.int .i64 a0_0, .int .i64 a0_1, .int .i64 a0_2, .slice A0_3 l0_3.length c0_3]] ?_; (with_reducible refine (spec_validImage.calls k a0_0 a0_1 a0_2 _ _ l0_3 true _ ?side1 ?side2 A7.out).mono ?_); (case side1 => exact qC (Kd.C_below HR0_3.out HB.out)); (case side2 => exact HC0_3.out); rintro e w25 ⟨rfl, hb⟩; refine ⟨_, rfl, ?_⟩; replace BK385 := bB BK385 hb; replace BK386 := bB BK386 hb; replace HB := bS HB hb; clear hb; obtain ⟨⟨hcz26_0, hcz26_1, hcz26_2, hcz26_3⟩, hfz26_0, hfz26_1, hfz26_2, hfz26_3⟩ := cf4 BK385) | (go_at_call 59; (with_reducible refine (spec_inRange.calls a2 1 4 false _ A10.out).mono ?_); rintro e w' ⟨rfl, ⟨nd, rfl⟩⟩))
   go_meet
   case rel => exact ⟨_, (true), qE, H', ⟨by first | omega | exact Nat.le_refl _⟩, ⟨by refine qB ?_; exact BK385.out⟩, ⟨by refine qB ?_; exact BK386.out⟩, ⟨by exact qW HB.out⟩⟩
  subst c11
  have H1 : ((spec_validColors.f k l1 a2).bind fun t389 => (if t389 = true then ((spec_allIn.f k l0_3 0 (wrap64 ((l1.length : Int) - 1))).bind fun t390 => (spec_ColorImage.j0 k l1 a2 (!t390) a0_0 a0_1 a0_2 l0_3)) else (spec_ColorImage.j0 k l1 a2 true a0_0 a0_1 a0_2 l0_3))) = some (r1, r2, r3, r4, r5) := by rw [if_pos rfl] at H; exact H
  clear H
  have H := H1
  clear H1
  replace H := Option.bind_eq_some_iff.mp H
  obtain ⟨t389, A120, H⟩ := H
  replace H : (if t389 = true then ((spec_allIn.f k l0_3 0 (wrap64 ((l1.length : Int) - 1))).bind fun t390 => (spec_ColorImage.j0 k l1 a2 (!t390) a0_0 a0_1 a0_2 l0_3)) else (spec_ColorImage.j0 k l1 a2 true a0_0 a0_1 a0_2 l0_3)) = some (r1, r2, r3, r4, r5) := H
  have A12 := aM A120
  clear A120
  by_cases c13 : t389 = true
  rotate_left
  ·replace c13 := Bool.eq_false_iff.mpr c13
   subst c13
   have H1 : (spec_ColorImage.j0 k l1 a2 true a0_0 a0_1 a0_2 l0_3) = some (r1, r2, r3, r4, r5) := by rw [if_neg (show ¬ (false = true) by decide)] at H; exact H
   clear H
   have H := H1
   clear H1
   have H' := aM H
   clear H
   have hnb19 := NB385_386.out
   have hnc19 := NB386_385.out
   obtain ⟨⟨hcz20_0, hcz20_1, hcz20_2, hcz20_3⟩, hfz20_0, hfz20_1, hfz20_2, hfz20_3⟩ := cf4 BK385
   go_wp2_with (first | ((with_reducible refine gate_callee (f := 40) rfl ?_); refine gL (some 12) Try.func40 #[.agg #[.int .i64 a0_0, .int .i64 a0_1, .int .i64 a0_2, .slice A0_3 l0_3.length c0_3]] ?_; (with_reducible refine (spec_validImage.calls k a0_0 a0_1 a0_2 _ _ l0_3 true _ ?side1 ?side2 A7.out).mono ?_); (case side1 => exact qC (Kd.C_below HR0_3.out HB.out)); (case side2 => exact HC0_3.out); rintro e w21 ⟨rfl, hb⟩; refine ⟨_, rfl, ?_⟩; replace BK385 := bB BK385 hb; replace BK386 := bB BK386 hb; replace HB := bS HB hb; clear hb; obtain ⟨⟨hcz22_0, hcz22_1, hcz22_2, hcz22_3⟩, hfz22_0, hfz22_1, hfz22_2, hfz22_3⟩ := cf4 BK385) | (go_at_call 59; (with_reducible refine (spec_inRange.calls a2 1 4 true _ A10.out).mono ?_); rintro e w' ⟨rfl, ⟨nd, rfl⟩⟩) | (go_at_call 60; (with_reducible refine (spec_validColors.calls k _ _ l1 a2 false _ ?side1 ?side2 A12.out).mono ?_); (case side1 => exact qC (Kd.C_below HR1.out (qW HB.out))); (case side2 => exact HC1.out); rintro e w' ⟨rfl, ⟨nd, rfl⟩⟩))
   go_meet
   case rel => exact ⟨_, (true), qE, H', ⟨by first | omega | exact Nat.le_refl _⟩, ⟨by refine qB ?_; exact BK385.out⟩, ⟨by refine qB ?_; exact BK386.out⟩, ⟨by exact qW HB.out⟩⟩
  subst c13
  have H1 : ((spec_allIn.f k l0_3 0 (wrap64 ((l1.length : Int) - 1))).bind fun t390 => (spec_ColorImage.j0 k l1 a2 (!t390) a0_0 a0_1 a0_2 l0_3)) = some (r1, r2, r3, r4, r5) := by rw [if_pos rfl] at H; exact H
  clear H
  have H := H1
  clear H1
  replace H := Option.bind_eq_some_iff.mp H
  obtain ⟨t390, A140, H⟩ := H
  replace H : (spec_ColorImage.j0 k l1 a2 (!t390) a0_0 a0_1 a0_2 l0_3) = some (r1, r2, r3, r4, r5) := H
  have A14 := aM A140
  clear A140
  have H' := aM H
  clear H
  have hnb15 := NB385_386.out
  have hnc15 := NB386_385.out
  obtain ⟨⟨hcz16_0, hcz16_1, hcz16_2, hcz16_3⟩, hfz16_0, hfz16_1, hfz16_2, hfz16_3⟩ := cf4 BK385
  go_wp2_with (first | ((with_reducible refine gate_callee (f := 40) rfl ?_); refine gL (some 12) Try.func40 #[.agg #[.int .i64 a0_0, .int .i64 a0_1, .int .i64 a0_2, .slice A0_3 l0_3.length c0_3]] ?_; (with_reducible refine (spec_validImage.calls k a0_0 a0_1 a0_2 _ _ l0_3 true _ ?side1 ?side2 A7.out).mono ?_); (case side1 => exact qC (Kd.C_below HR0_3.out HB.out)); (case side2 => exact HC0_3.out); rintro e w17 ⟨rfl, hb⟩; refine ⟨_, rfl, ?_⟩; replace BK385 := bB BK385 hb; replace BK386 := bB BK386 hb; replace HB := bS HB hb; clear hb; obtain ⟨⟨hcz18_0, hcz18_1, hcz18_2, hcz18_3⟩, hfz18_0, hfz18_1, hfz18_2, hfz18_3⟩ := cf4 BK385) | (go_at_call 59; (with_reducible refine (spec_inRange.calls a2 1 4 true _ A10.out).mono ?_); rintro e w' ⟨rfl, ⟨nd, rfl⟩⟩) | (go_at_call 60; (with_reducible refine (spec_validColors.calls k _ _ l1 a2 true _ ?side1 ?side2 A12.out).mono ?_); (case side1 => exact qC (Kd.C_below HR1.out (qW HB.out))); (case side2 => exact HC1.out); rintro e w' ⟨rfl, ⟨nd, rfl⟩⟩) | (go_at_call 61; (with_reducible refine (spec_allIn.calls k _ _ l0_3 0 (wrap64 ((l1.length : Int) - 1)) t390 _ ?side1 ?side2 A14.out).mono ?_); (case side1 => exact qC (Kd.C_below HR0_3.out (qW HB.out))); (case side2 => exact HC0_3.out); rintro e w' ⟨rfl, ⟨nd, rfl⟩⟩))
  go_meet
  case rel => exact ⟨_, (!t390), qE, H', ⟨by first | omega | exact Nat.le_refl _⟩, ⟨by refine qB ?_; exact BK385.out⟩, ⟨by refine qB ?_; exact BK386.out⟩, ⟨by exact qW HB.out⟩⟩
 case rest =>
  clear HC4
  try clear c1
  try clear c8
  try clear c9
  try clear c9b0
  try clear c9b1
  try clear c11
  try clear c13
  try clear hcz16_0 hcz16_1 hcz16_2 hcz16_3 hfz16_0 hfz16_1 hfz16_2 hfz16_3
  try clear hcz18_0 hcz18_1 hcz18_2 hcz18_3 hfz18_0 hfz18_1 hfz18_2 hfz18_3
  try clear hcz20_0 hcz20_1 hcz20_2 hcz20_3 hfz20_0 hfz20_1 hfz20_2 hfz20_3
  try clear hcz22_0 hcz22_1 hcz22_2 hcz22_3 hfz22_0 hfz22_1 hfz22_2 hfz22_3
  try clear hcz24_0 hcz24_1 hcz24_2 hcz24_3 hfz24_0 hfz24_1 hfz24_2 hfz24_3
  try clear hcz26_0 hcz26_1 hcz26_2 hcz26_3 hfz26_0 hfz26_1 hfz26_2 hfz26_3
  try clear hcz28_0 hcz28_1 hcz28_2 hcz28_3 hfz28_0 hfz28_1 hfz28_2 hfz28_3
  try clear hcz30_0 hcz30_1 hcz30_2 hcz30_3 hfz30_0 hfz30_1 hfz30_2 hfz30_3
  try clear hcz32_0 hcz32_1 hcz32_2 hcz32_3 hfz32_0 hfz32_1 hfz32_2 hfz32_3
  obtain ⟨kq, x38_3, rfl, HA, HJ3, BK385, BK386, HB⟩ := hcut
  cases kq with
  | zero => exact absurd HA.out (by simp [spec_ColorImage.j0])
  | succ kj3 =>
   have H := HA.out
   clear HA
   simp only [spec_ColorImage.j0] at H
   by_cases c34 : x38_3 = true
   ·subst c34
    have H1 : (some (0, 0, 0, ([] : List Int), false)) = some (r1, r2, r3, r4, r5) := by rw [if_pos rfl] at H; exact H
    clear H
    have H := H1
    clear H1
    simp only [Option.some.injEq, Prod.mk.injEq] at H
    obtain ⟨rfl, rfl, rfl, rfl, rfl⟩ := H
    have hnb35 := NB386_385.out
    have hnc35 := NB385_386.out
    obtain ⟨⟨hcz36_0, hcz36_1, hcz36_2, hcz36_3⟩, hfz36_0, hfz36_1, hfz36_2, hfz36_3⟩ := cf4 BK386
    go_wp2
    refine bodyPost_ret (results_ct rfl _ _ gb386 29 #[.int .i64 0, .int .i64 0, .int .i64 0, .slice none 0 0] (0, 0) _ rfl (by exact bP BK386.out) Try.underlying29 rfl (by kernel_rfl)) rfl ?_
    exact ⟨_, qX, qN, by exact qW HB.out⟩
   replace c34 := Bool.eq_false_iff.mpr c34
   subst c34
   have H1 : ((spec_newImage.f a0_0 a0_1 a2).bind fun bt391 => (spec_ColorImage.l0 kj3 l1 a2 0 a0_0 a0_1 a0_2 l0_3 bt391.1 bt391.2.1 bt391.2.2.1 bt391.2.2.2)) = some (r1, r2, r3, r4, r5) := by rw [if_neg (show ¬ (false = true) by decide)] at H; exact H
   clear H
   have H := H1
   clear H1
   replace H := Option.bind_eq_some_iff.mp H
   obtain ⟨⟨t391, t392, t393, t394⟩, A370, H⟩ := H
   replace H : (spec_ColorImage.l0 kj3 l1 a2 0 a0_0 a0_1 a0_2 l0_3 t391 t392 t393 t394) = some (r1, r2, r3, r4, r5) := H
   have A37 := aM A370
   clear A370
   have H' := aM H
   clear H
   have hnb38 := NB385_386.out
   have hnc38 := NB386_385.out
   obtain ⟨⟨hcz39_0, hcz39_1, hcz39_2, hcz39_3⟩, hfz39_0, hfz39_1, hfz39_2, hfz39_3⟩ := cf4 BK385
   go_wp2_with (first | ((with_reducible refine gate_callee (f := 62) rfl ?_); refine gL (some 45) Try.func62 #[.int .i64 a0_0, .int .i64 a0_1, .int .i64 a2] ?_; (with_reducible refine (spec_newImage.calls a0_0 a0_1 a2 t391 t392 t393 t394 _ A37.out).mono ?_); rintro e w40 ⟨v395, rfl, ho0, hb⟩; refine ⟨_, rfl, ?_⟩; have HO396 := oR ho0 HB; replace BK385 := bB BK385 hb; replace BK386 := bB BK386 hb; replace HB := bS HB hb; clear hb ho0) | ((with_reducible refine gate_dst (N := 8) rfl ?_); (try (refine gate_guard (by rfl) ?_; dsimp only)); refine bxE (N := 8) (cs := #[.int .i64 0, .int .i64 0, .int .i64 0, .slice none 0 0]) (t := 29) ?_; intro gb397 hg w41 hbox hb; replace HO396 := aM (Kd.R_below (qR HO396.out) hb); have BK397 := aM (hbox); have GW397 := gW hg HB; have GE397 := gW hg HB; replace HB := bS HB hb; have NB385_397 := nL hg BK385; have NB397_385 := nG hg BK385; replace BK385 := bB BK385 hb; have NB386_397 := nL hg BK386; have NB397_386 := nG hg BK386; replace BK386 := bB BK386 hb; clear hb hbox hg; have hnb42 := NB397_385.out; have hnc42 := NB385_397.out; have hnb43 := NB397_386.out; have hnc43 := NB386_397.out; obtain ⟨⟨hcz44_0, hcz44_1, hcz44_2, hcz44_3⟩, hfz44_0, hfz44_1, hfz44_2, hfz44_3⟩ := cf4 BK397; obtain ⟨Ao45, co45, rfl⟩ := sL HO396))
   go_loopg [9] kj3 (fun kq v9 w' => ∃ (x9_2 : Int) (x398003_2 : List Int) (u398003 : Value), v9 = .int .i64 x9_2 ∧ Aside0 (spec_ColorImage.l0 kq l1 a2 x9_2 a0_0 a0_1 a0_2 l0_3 t391 t392 t393 x398003_2 = some (r1, r2, r3, r4, r5)) ∧ Aside0 (kq ≤ kj3) ∧ Aside0 (Kd.R (Kd.int .i64) 3 w' w.heap.size (fun _ => True) u398003 x398003_2) ∧ Aside0 (w'.heap[gb385]? = some (.cells #[.int .i64 a0_0, .int .i64 a0_1, .int .i64 a0_2, (.slice A0_3 l0_3.length c0_3)] 29 (0, 0))) ∧ Aside0 (w'.heap[gb386]? = some (.cells #[.int .i64 0, .int .i64 0, .int .i64 0, (.slice none 0 0)] 29 (0, 0))) ∧ Aside0 (w'.heap[gb397]? = some (.cells #[.int .i64 t391, .int .i64 t392, .int .i64 t393, u398003] 29 (0, 0))) ∧ Aside0 (Below w.heap.size w w'))
   case atStart => exact ⟨(0), (t394), (.slice Ao45 t394.length co45), qE, H', ⟨Nat.le_refl _⟩, ⟨by refine qR ?_; exact Kd.R_mono (rT HO396 BK397) (fun _ hk => trivial)⟩, ⟨by refine qB ?_; refine blk_far ?_ NB385_397.out _; refine qB ?_; refine blk_far ?_ NB385_397.out _; refine qB ?_; refine blk_far ?_ NB385_397.out _; refine qB ?_; refine blk_far ?_ NB385_397.out _; refine qB ?_; exact BK385.out⟩, ⟨by refine qB ?_; refine blk_far ?_ NB386_397.out _; refine qB ?_; refine blk_far ?_ NB386_397.out _; refine qB ?_; refine blk_far ?_ NB386_397.out _; refine qB ?_; refine blk_far ?_ NB386_397.out _; refine qB ?_; exact BK386.out⟩, ⟨by exact bP BK397.out⟩, ⟨by exact qW HB.out⟩⟩
   case round =>
    clear H'
    try clear c1
    try clear c8
    try clear c9
    try clear c9b0
    try clear c9b1
    try clear c11
    try clear c13
    try clear c34
    try clear hcz16_0 hcz16_1 hcz16_2 hcz16_3 hfz16_0 hfz16_1 hfz16_2 hfz16_3
    try clear hcz18_0 hcz18_1 hcz18_2 hcz18_3 hfz18_0 hfz18_1 hfz18_2 hfz18_3
    try clear hcz20_0 hcz20_1 hcz20_2 hcz20_3 hfz20_0 hfz20_1 hfz20_2 hfz20_3
    try clear hcz22_0 hcz22_1 hcz22_2 hcz22_3 hfz22_0 hfz22_1 hfz22_2 hfz22_3
    try clear hcz24_0 hcz24_1 hcz24_2 hcz24_3 hfz24_0 hfz24_1 hfz24_2 hfz24_3
    try clear hcz26_0 hcz26_1 hcz26_2 hcz26_3 hfz26_0 hfz26_1 hfz26_2 hfz26_3
    try clear hcz28_0 hcz28_1 hcz28_2 hcz28_3 hfz28_0 hfz28_1 hfz28_2 hfz28_3
    try clear hcz30_0 hcz30_1 hcz30_2 hcz30_3 hfz30_0 hfz30_1 hfz30_2 hfz30_3
    try clear hcz32_0 hcz32_1 hcz32_2 hcz32_3 hfz32_0 hfz32_1 hfz32_2 hfz32_3
    try clear hcz36_0 hcz36_1 hcz36_2 hcz36_3 hfz36_0 hfz36_1 hfz36_2 hfz36_3
    try clear hcz39_0 hcz39_1 hcz39_2 hcz39_3 hfz39_0 hfz39_1 hfz39_2 hfz39_3
    try clear hcz44_0 hcz44_1 hcz44_2 hcz44_3 hfz44_0 hfz44_1 hfz44_2 hfz44_3
    obtain ⟨x9_2, x398003_2, u398003, rfl, HA, HK2, HO_398003, BK385, BK386, BK397, HB⟩ := hrel
    cases gk with
    | zero => exact absurd HA.out (by simp [spec_ColorImage.l0])
    | succ k2 =>
     have H := HA.out
     clear HA
     simp only [spec_ColorImage.l0] at H
     by_cases c46 : x9_2 < (l0_3.length : Int)
     rotate_left
     ·rw [if_neg c46] at H
      have c46b0 : decide (x9_2 < (l0_3.length : Int)) = false := decide_eq_false c46
      clear c46
      simp only [Option.some.injEq, Prod.mk.injEq] at H
      obtain ⟨rfl, rfl, rfl, rfl, rfl⟩ := H
      have hnb63 := NB385_386.out
      have hnc63 := NB386_385.out
      have hnb64 := NB385_397.out
      have hnc64 := NB397_385.out
      obtain ⟨⟨hcz65_0, hcz65_1, hcz65_2, hcz65_3⟩, hfz65_0, hfz65_1, hfz65_2, hfz65_3⟩ := cf4 BK385
      have hnb66 := NB397_386.out
      have hnc66 := NB386_397.out
      obtain ⟨⟨hcz67_0, hcz67_1, hcz67_2, hcz67_3⟩, hfz67_0, hfz67_1, hfz67_2, hfz67_3⟩ := cf4 BK397
      obtain ⟨⟨hcz68_0, hcz68_1, hcz68_2, hcz68_3⟩, hfz68_0, hfz68_1, hfz68_2, hfz68_3⟩ := cf4 BK386
      obtain ⟨Ao69, co69, rfl⟩ := sL HO_398003
      go_wp2
      refine bodyPost_ret (results_ct rfl _ _ gb386 29 #[.int .i64 t391, .int .i64 t392, .int .i64 t393, .slice Ao69 x398003_2.length co69] (0, 0) _ rfl (by exact bP BK386.out) Try.underlying29 rfl (by kernel_rfl)) rfl ?_
      exact ⟨_, qX, by refine qR ?_; exact Kd.R_mono (rT HO_398003 BK386) (fun _ hk => trivial), by exact qW HB.out⟩
     rw [if_pos c46] at H
     have c46b0 : decide (x9_2 < (l0_3.length : Int)) = true := decide_eq_true c46
     clear c46
     have H' := aM H
     clear H
     have hnb47 := NB385_386.out
     have hnc47 := NB386_385.out
     have hnb48 := NB385_397.out
     have hnc48 := NB397_385.out
     obtain ⟨⟨hcz49_0, hcz49_1, hcz49_2, hcz49_3⟩, hfz49_0, hfz49_1, hfz49_2, hfz49_3⟩ := cf4 BK385
     go_wp2
     go_loopg [10] k2 (fun kq v10 w' => ∃ (x10_3 : Int) (x398003_3 : List Int) (u398003 : Value), v10 = .int .i64 x10_3 ∧ Aside0 (spec_ColorImage.l1 kq l1 a2 x9_2 x10_3 a0_0 a0_1 a0_2 l0_3 t391 t392 t393 x398003_3 = some (r1, r2, r3, r4, r5)) ∧ Aside0 (kq ≤ k2) ∧ Aside0 (Kd.R (Kd.int .i64) 3 w' w.heap.size (fun _ => True) u398003 x398003_3) ∧ Aside0 (w'.heap[gb385]? = some (.cells #[.int .i64 a0_0, .int .i64 a0_1, .int .i64 a0_2, (.slice A0_3 l0_3.length c0_3)] 29 (0, 0))) ∧ Aside0 (w'.heap[gb386]? = some (.cells #[.int .i64 0, .int .i64 0, .int .i64 0, (.slice none 0 0)] 29 (0, 0))) ∧ Aside0 (w'.heap[gb397]? = some (.cells #[.int .i64 t391, .int .i64 t392, .int .i64 t393, u398003] 29 (0, 0))) ∧ Aside0 (Below w.heap.size w w'))
     case atStart => exact ⟨(0), (x398003_2), (u398003), qE, H', ⟨Nat.le_refl _⟩, ⟨by refine qR ?_; exact HO_398003.out⟩, ⟨by refine qB ?_; exact BK385.out⟩, ⟨by refine qB ?_; exact BK386.out⟩, ⟨by refine qB ?_; exact BK397.out⟩, ⟨by exact qW HB.out⟩⟩
     case round =>
      clear H'
      try clear c1
      try clear c8
      try clear c9
      try clear c9b0
      try clear c9b1
      try clear c11
      try clear c13
      try clear c34
      try clear c46
      try clear c46b0
      try clear hcz16_0 hcz16_1 hcz16_2 hcz16_3 hfz16_0 hfz16_1 hfz16_2 hfz16_3
      try clear hcz18_0 hcz18_1 hcz18_2 hcz18_3 hfz18_0 hfz18_1 hfz18_2 hfz18_3
      try clear hcz20_0 hcz20_1 hcz20_2 hcz20_3 hfz20_0 hfz20_1 hfz20_2 hfz20_3
      try clear hcz22_0 hcz22_1 hcz22_2 hcz22_3 hfz22_0 hfz22_1 hfz22_2 hfz22_3
      try clear hcz24_0 hcz24_1 hcz24_2 hcz24_3 hfz24_0 hfz24_1 hfz24_2 hfz24_3
      try clear hcz26_0 hcz26_1 hcz26_2 hcz26_3 hfz26_0 hfz26_1 hfz26_2 hfz26_3
      try clear hcz28_0 hcz28_1 hcz28_2 hcz28_3 hfz28_0 hfz28_1 hfz28_2 hfz28_3
      try clear hcz30_0 hcz30_1 hcz30_2 hcz30_3 hfz30_0 hfz30_1 hfz30_2 hfz30_3
      try clear hcz32_0 hcz32_1 hcz32_2 hcz32_3 hfz32_0 hfz32_1 hfz32_2 hfz32_3
      try clear hcz36_0 hcz36_1 hcz36_2 hcz36_3 hfz36_0 hfz36_1 hfz36_2 hfz36_3
      try clear hcz39_0 hcz39_1 hcz39_2 hcz39_3 hfz39_0 hfz39_1 hfz39_2 hfz39_3
      try clear hcz44_0 hcz44_1 hcz44_2 hcz44_3 hfz44_0 hfz44_1 hfz44_2 hfz44_3
      try clear hcz49_0 hcz49_1 hcz49_2 hcz49_3 hfz49_0 hfz49_1 hfz49_2 hfz49_3
      obtain ⟨x10_3, x398003_3, u398003, rfl, HA, HK3, HO_398003, BK385, BK386, BK397, HB⟩ := hrel
      cases gk with
      | zero => exact absurd HA.out (by simp [spec_ColorImage.l1])
      | succ k3 =>
       have H := HA.out
       clear HA
       simp only [spec_ColorImage.l1] at H
       by_cases c50 : x10_3 < a2
       rotate_left
       ·rw [if_neg c50] at H
        have c50b0 : decide (x10_3 < a2) = false := decide_eq_false c50
        clear c50
        have H' := aM H
        clear H
        go_wp2
        go_roundg k3
        case measure => have := HJ3.out; have := HK2.out; have := HK3.out; omega
        case rel => exact ⟨(wrap64 (x9_2 + 1)), (x398003_3), (u398003), qE, H', ⟨by have := HJ3.out; have := HK2.out; have := HK3.out; omega⟩, ⟨by refine qR ?_; exact HO_398003.out⟩, ⟨by refine qB ?_; exact BK385.out⟩, ⟨by refine qB ?_; exact BK386.out⟩, ⟨by refine qB ?_; exact BK397.out⟩, ⟨by exact qW HB.out⟩⟩
       rw [if_pos c50] at H
       have c50b0 : decide (x10_3 < a2) = true := decide_eq_true c50
       clear c50
       replace H := iD H
       obtain ⟨c51b0, H⟩ := H
       replace H := iD H
       obtain ⟨c52b0, H⟩ := H
       replace H := iD H
       obtain ⟨c53b0, H⟩ := H
       replace H := iD H
       obtain ⟨c54b0, H⟩ := H
       replace H := iD H
       obtain ⟨c55b0, H⟩ := H
       replace H := iD H
       obtain ⟨c56b0, H⟩ := H
       obtain ⟨ji57, hji57⟩ : ∃ j_ : Int, (wrap64 ((wrap64 (x9_2 * a2)) + x10_3)) = j_ := ⟨_, rfl⟩
       replace H : (if 0 ≤ (ji57) then (if (ji57) < (x398003_3.length : Int) then (spec_ColorImage.l1 k3 l1 a2 x9_2 (wrap64 (x10_3 + 1)) a0_0 a0_1 a0_2 l0_3 t391 t392 t393 (x398003_3.set ((ji57) : Int).toNat (rd (rd_L1 l1 (rd l0_3 x9_2)) x10_3))) else (none)) else (none)) = some (r1, r2, r3, r4, r5) := by first | (rw [hji57] at H; exact H) | (simp only [hji57] at H ⊢; exact H)
       have hji57w : (IntKind.i64.wrap ((wrap64 (x9_2 * a2)) + x10_3)) = ji57 := (i64_w _).trans hji57
       replace H := iD H
       obtain ⟨c58b0, H⟩ := H
       replace H := iD H
       obtain ⟨c59b0, H⟩ := H
       obtain ⟨y401, hy401⟩ : ∃ y_ : List Int, y_ = (x398003_3.set ((ji57) : Int).toNat (rd (rd_L1 l1 (rd l0_3 x9_2)) x10_3)) := ⟨_, rfl⟩
       replace H : (spec_ColorImage.l1 k3 l1 a2 x9_2 (wrap64 (x10_3 + 1)) a0_0 a0_1 a0_2 l0_3 t391 t392 t393 y401) = some (r1, r2, r3, r4, r5) := rY hy401 H
       have Ny401 := aM hy401
       clear hy401
       have H' := aM H
       clear H
       try go_wp2
       replace HO_398003 := aM (Kd.R_drew HO_398003.out)
       replace BK385 := aM (blk_drew BK385.out)
       replace BK386 := aM (blk_drew BK386.out)
       replace BK397 := aM (blk_drew BK397.out)
       replace HB := aM (below_drew1 HB.out)
       obtain ⟨ad398, e398, hx398_0⟩ := Kd.at_int HR0_3.out x9_2 oD oD
       have hw398_0 := hx398_0
       cases e398
       replace hx398_0 := bD HB hx398_0
       have p398 := eq_true (oD : 0 ≤ (x9_2 : Int))
       have q398 := eq_true (oD : x9_2 < (l0_3.length : Int))
       have p399 : 0 ≤ ((rd l0_3 x9_2) : Int) := oD
       have q399 : (rd l0_3 x9_2) < (l1.length : Int) := oD
       obtain ⟨ad399, A399_0, c399_0, e399, hx399_0, hl399_0, hi399_0⟩ := at_L1 HR1.out (rd l0_3 x9_2) p399 q399
       have hw399_0 := hx399_0
       cases e399
       replace hx399_0 := bD HB hx399_0
       have HR399_0 := aM hi399_0
       have HC399_0 := aM hl399_0
       clear hi399_0 hl399_0
       replace p399 := eq_true p399
       replace q399 := eq_true q399
       obtain ⟨ad400, e400, hx400_0⟩ := Kd.at_int HR399_0.out x10_3 oD oD
       have hw400_0 := hx400_0
       cases e400
       replace hx400_0 := bD HB hx400_0
       have p400 := eq_true (oD : 0 ≤ (x10_3 : Int))
       have q400 := eq_true (oD : x10_3 < ((rd_L1 l1 (rd l0_3 x9_2)).length : Int))
       have p60 : 0 ≤ ((ji57) : Int) := oD
       have q60 : ((ji57) : Int) < ((x398003_3.length : Int) : Int) := oD
       obtain ⟨go60, co60, eo60, gb60, gl60, cl60, HG60⟩ := Kd.R_form HO_398003.out (by omega)
       (first | cases eo60 | (injection eo60 with ea_ en_ ec_; (first | subst ea_ | (injection ea_ with ea_; subst ea_)); subst ec_; clear en_))
       have GB60 := aM gb60
       have GG60 := aM HG60
       clear gb60 gl60 HG60
       obtain ⟨hx60_0, hf60_0⟩ := Kd.R_celln 0 HO_398003.out ((ji57) : Int) p60 q60
       replace p60 := eq_true p60
       replace q60 := eq_true q60
       have HP62 := Kd.R_putn HO_398003.out ((ji57) : Int) (rd (rd_L1 l1 (rd l0_3 x9_2)) x10_3)
       rw [← Ny401.out] at HP62
       have HQ62 := aM HP62
       clear HP62
       refine start_ (n := 20) (S := fun w' => w'.cell? ⟨gb397, 0, none⟩ = some (.int .i64 t391) ∧ w'.cell? ⟨gb397, 1, none⟩ = some (.int .i64 t392) ∧ w'.cell? ⟨gb397, 2, none⟩ = some (.int .i64 t393) ∧ w'.cell? ⟨gb397, 3, none⟩ = some (.slice (some ⟨go60, 0, none⟩) x398003_3.length co60) ∧ w'.cell? ⟨gb385, 0, none⟩ = some (.int .i64 a0_0) ∧ w'.cell? ⟨gb385, 1, none⟩ = some (.int .i64 a0_1) ∧ w'.cell? ⟨gb385, 2, none⟩ = some (.int .i64 a0_2) ∧ w'.cell? ⟨gb385, 3, none⟩ = some (.slice (some ad398) l0_3.length c0_3) ∧ w'.cell? (ad398.add (x9_2).toNat) = some (.int .i64 (rd l0_3 x9_2)) ∧ w'.cell? (ad399.add ((rd l0_3 x9_2)).toNat) = some (.slice (some ad400) (rd_L1 l1 (rd l0_3 x9_2)).length c399_0) ∧ w'.cell? (ad400.add (x10_3).toNat) = some (.int .i64 (rd (rd_L1 l1 (rd l0_3 x9_2)) x10_3))) (ds := [19]) (bA 20 0) (by kernel_rfl) rfl rfl ⟨(blk_cell BK397.out 0).trans rfl, (blk_cell BK397.out 1).trans rfl, (blk_cell BK397.out 2).trans rfl, (blk_cell BK397.out 3).trans rfl, (blk_cell BK385.out 0).trans rfl, (blk_cell BK385.out 1).trans rfl, (blk_cell BK385.out 2).trans rfl, (blk_cell BK385.out 3).trans rfl, (bC HB hw398_0), (bC HB hw399_0), (bC HB hw400_0)⟩ (fun hHeld => ?_); refine with_tabW spec_ColorImage.tab10 spec_ColorImage.bits10 (fun HT_ HW_ => ?_)
       generalize wr.drew = w61 at HO_398003 BK385 BK386 BK397 HB GG60 HQ62 HR399_0 hf60_0 hx398_0 hx399_0 hx400_0 hx60_0 hHeld ⊢
       refine pQ 0 58 HT_ (bA 20 1) ?_
       refine pQ 2 60 HT_ (bA 20 5) ?_
       refine pQ 3 61 HT_ (bA 20 13) ?_
       refine pQ 4 62 HT_ (bA 20 29) ?_
       refine pQ 5 63 HT_ (bA 20 61) ?_
       refine pQ 6 64 HT_ (bA 20 125) ?_
       refine pQ 7 65 HT_ (bA 20 253) ?_
       refine pQ 8 66 HT_ (bA 20 509) ?_
       refine pQ 10 68 HT_ (bA 20 1533) ?_
       refine pQ 15 73 HT_ (bA 20 34301) ?_
       refine take_ (i := 1) (N := some 59) (v := ?_) (a' := ?_) (bA 20 34303) rfl rfl (take_ofW HT_.out HW_.out (by kernel_rfl)) (fun _ _ _ h => h) (Or.inl ⟨by rfl, ?_⟩) hHeld ?_ ?_
       rotate_left
       ·rintro w' ⟨s0, s1, s2, s3, s4, s5, s6, s7, s8, s9, s10⟩
        go_simp
        with_reducible rfl
       rotate_left
       ·refine pZ ?_
        rfl
       refine take_ (i := 9) (N := some 67) (v := ?_) (a' := ?_) (bA 20 34815) rfl rfl (take_ofW HT_.out HW_.out (by kernel_rfl)) (fun _ _ _ h => h) (Or.inl ⟨by rfl, ?_⟩) hHeld ?_ ?_
       rotate_left
       ·rintro w' ⟨s0, s1, s2, s3, s4, s5, s6, s7, s8, s9, s10⟩
        go_simp
        with_reducible rfl
       rotate_left
       ·refine pZ ?_
        rfl
       refine pQ 11 69 HT_ (bA 20 36863) ?_
       refine take_ (i := 12) (N := some 70) (v := ?_) (a' := ?_) (bA 20 40959) rfl rfl (take_ofW HT_.out HW_.out (by kernel_rfl)) (fun _ _ _ h => h) (Or.inl ⟨by rfl, ?_⟩) hHeld ?_ ?_
       rotate_left
       ·rintro w' ⟨s0, s1, s2, s3, s4, s5, s6, s7, s8, s9, s10⟩
        go_simp
        with_reducible rfl
       rotate_left
       ·refine pZ ?_
        rfl
       refine pQ 13 71 HT_ (bA 20 49151) ?_
       refine take_ (i := 14) (N := some 72) (v := ?_) (a' := ?_) (bA 20 65535) rfl rfl (take_ofW HT_.out HW_.out (by kernel_rfl)) (fun _ _ _ h => h) (Or.inl ⟨by rfl, ?_⟩) hHeld ?_ ?_
       rotate_left
       ·rintro w' ⟨s0, s1, s2, s3, s4, s5, s6, s7, s8, s9, s10⟩
        go_simp
        with_reducible rfl
       rotate_left
       ·refine pZ ?_
        rfl
       refine pQ 16 74 HT_ (bA 20 131071) ?_
       refine take_ (i := 17) (N := some 75) (v := ?_) (a' := ?_) (bA 20 262143) rfl rfl (take_ofW HT_.out HW_.out (by kernel_rfl)) (fun _ _ _ h => h) (Or.inl ⟨by rfl, ?_⟩) hHeld ?_ ?_
       rotate_left
       ·rintro w' ⟨s0, s1, s2, s3, s4, s5, s6, s7, s8, s9, s10⟩
        go_simp
        with_reducible rfl
       rotate_left
       ·refine pZ ?_
        rfl
       refine pQ 18 76 HT_ (bA 20 524287) ?_
       refine last_ (i := 19) (N := none) (bA 20 1048575) rfl rfl (one_of HT_.out (by kernel_rfl)) (by decide) (fun K hK => ?_)
       refine skip_ (w1 := ?_) (by rfl) rfl ?_ ?_
       rotate_left
       ·go_simp
        rfl
       refine hK.out _ _ ?_
       clear hK K
       refine done_ (done_of HT_.out (by kernel_rfl)) ?_
       try go_wp2
       go_roundg k3
       case measure => have := HJ3.out; have := HK2.out; have := HK3.out; omega
       case rel => exact ⟨(wrap64 (x10_3 + 1)), (y401), (.slice (some ⟨go60, 0, none⟩) x398003_3.length co60), qE, H', ⟨by have := HJ3.out; have := HK2.out; have := HK3.out; omega⟩, ⟨by refine qR ?_; exact HQ62.out⟩, ⟨by refine qB ?_; refine blk_far ?_ (by have h_ := Kd.R_ne HO_398003.out BK385.out (by decide); intro e_; exact h_ (by rw [e_]; rfl)) _; refine qB ?_; exact BK385.out⟩, ⟨by refine qB ?_; refine blk_far ?_ (by have h_ := Kd.R_ne HO_398003.out BK386.out (by decide); intro e_; exact h_ (by rw [e_]; rfl)) _; refine qB ?_; exact BK386.out⟩, ⟨by refine qB ?_; refine blk_far ?_ (by have h_ := Kd.R_ne HO_398003.out BK397.out (by decide); intro e_; exact h_ (by rw [e_]; rfl)) _; refine qB ?_; exact BK397.out⟩, ⟨by exact qW HB.out⟩⟩
mutual
def spec_IndexImage.j0 : Nat → List (List Int) → Bool → Int → Int → Int → List Int → Option (Int × Int × Int × List Int × Bool)
 | 0, _, _, _, _, _, _ => none
 | k + 1, x1, x22, x649000, x649001, x649002, x649003 => if x22 = true then (some (0, 0, 0, ([] : List Int), false)) else ((spec_newImage.f x649000 x649001 1).bind fun bt652 => (spec_IndexImage.l0 k x1 0 x649000 x649001 x649002 x649003 bt652.1 bt652.2.1 bt652.2.2.1 bt652.2.2.2))
def spec_IndexImage.l0 : Nat → List (List Int) → Int → Int → Int → Int → List Int → Int → Int → Int → List Int → Option (Int × Int × Int × List Int × Bool)
 | 0, _, _, _, _, _, _, _, _, _, _ => none
 | k + 1, x1, x7, x649000, x649001, x649002, x649003, x659000, x659001, x659002, x659003 => if x7 < (x659003.length : Int) then (if 0 ≤ (wrap64 (x7 * x649002)) then (if (wrap64 (x7 * x649002)) ≤ (wrap64 ((wrap64 (x7 + 1)) * x649002)) then (if (wrap64 ((wrap64 (x7 + 1)) * x649002)) ≤ (x649003.length : Int) then ((spec_nearest.f k x1 ((x649003.take ((wrap64 ((wrap64 (x7 + 1)) * x649002)) : Int).toNat).drop ((wrap64 (x7 * x649002)) : Int).toNat)).bind fun t660 => (if 0 ≤ x7 then (spec_IndexImage.l0 k x1 (wrap64 (x7 + 1)) x649000 x649001 x649002 x649003 x659000 x659001 x659002 (x659003.set (x7 : Int).toNat t660)) else (none))) else (none)) else (none)) else (none)) else (some (x659000, x659001, x659002, x659003, true))
end
def spec_IndexImage.f (k : Nat) (a0_0 : Int) (a0_1 : Int) (a0_2 : Int) (l0_3 : List Int) (l1 : List (List Int)) : Option (Int × Int × Int × List Int × Bool) := (spec_validImage.f k a0_0 a0_1 a0_2 l0_3).bind fun t650 => (if t650 = true then ((spec_validColors.f k l1 a0_2).bind fun t651 => (if t651 = true then (spec_IndexImage.j0 k l1 ((l1.length : Int) == 0) a0_0 a0_1 a0_2 l0_3) else (spec_IndexImage.j0 k l1 true a0_0 a0_1 a0_2 l0_3))) else (spec_IndexImage.j0 k l1 true a0_0 a0_1 a0_2 l0_3))
theorem spec_IndexImage.mono_l : ∀ k, (∀ y0 y1 y2 y3 y4 y5, LeO (spec_IndexImage.j0 k y0 y1 y2 y3 y4 y5) (spec_IndexImage.j0 (k + 1) y0 y1 y2 y3 y4 y5)) ∧ (∀ y0 y1 y2 y3 y4 y5 y6 y7 y8 y9, LeO (spec_IndexImage.l0 k y0 y1 y2 y3 y4 y5 y6 y7 y8 y9) (spec_IndexImage.l0 (k + 1) y0 y1 y2 y3 y4 y5 y6 y7 y8 y9))
 | 0 => ⟨fun _ _ _ _ _ _ r h => by simp [spec_IndexImage.j0] at h, fun _ _ _ _ _ _ _ _ _ _ r h => by simp [spec_IndexImage.l0] at h⟩
 | k + 1 => by
  obtain ⟨ih0, ih1⟩ := spec_IndexImage.mono_l k
  refine ⟨?_, ?_⟩
  all_goals intros
  all_goals first | unfold spec_IndexImage.j0 | unfold spec_IndexImage.l0
  all_goals repeat' first | (with_reducible first | exact ih0 _ _ _ _ _ _ | exact ih1 _ _ _ _ _ _ _ _ _ _ | exact spec_nearest.mono _ _ _ | exact spec_validColors.mono _ _ _ | exact spec_validImage.mono _ _ _ _ _ | exact lR | exact lN | refine lI ?_ ?_ | refine lB ?_ fun _ => ?_) | exact ih0 _ _ _ _ _ _ | exact ih1 _ _ _ _ _ _ _ _ _ _ | exact spec_nearest.mono _ _ _ | exact spec_validColors.mono _ _ _ | exact spec_validImage.mono _ _ _ _ _ | exact lN | refine lI ?_ ?_ | refine lB ?_ fun _ => ?_
theorem spec_IndexImage.mono : ∀ a0 a1 a2 a3 a4 k, LeO (spec_IndexImage.f k a0 a1 a2 a3 a4) (spec_IndexImage.f (k + 1) a0 a1 a2 a3 a4) := by
 intro a0 a1 a2 a3 a4 k
 obtain ⟨ih0, ih1⟩ := spec_IndexImage.mono_l k
 unfold spec_IndexImage.f
 repeat' first | (with_reducible first | exact ih0 _ _ _ _ _ _ | exact ih1 _ _ _ _ _ _ _ _ _ _ | exact spec_nearest.mono _ _ _ | exact spec_validColors.mono _ _ _ | exact spec_validImage.mono _ _ _ _ _ | exact lR | exact lN | refine lI ?_ ?_ | refine lB ?_ fun _ => ?_) | exact ih0 _ _ _ _ _ _ | exact ih1 _ _ _ _ _ _ _ _ _ _ | exact spec_nearest.mono _ _ _ | exact spec_validColors.mono _ _ _ | exact spec_validImage.mono _ _ _ _ _ | exact lN | refine lI ?_ ?_ | refine lB ?_ fun _ => ?_
def spec_IndexImage.T7 : Bool × List (List Nat × List Nat) := (true, [([], []), ([0], [0]), ([], []), ([], []), ([], []), ([4], [4]), ([], []), ([], []), ([7], [7]), ([6, 8], [6, 8]), ([], []), ([10], [10]), ([], []), ([12], [12]), ([11, 13], [11, 13]), ([5, 9, 14], [5, 9, 14]), ([3, 15], [3, 15]), ([1, 2, 0, 1, 2, 3, 4, 5, 6, 7, 8, 9, 10, 11, 12, 13, 14, 15, 16], [1, 2]), ([17, 16, 16, 0, 1, 2, 3, 4, 5, 6, 7, 8, 9, 10, 11, 12, 13, 14, 15, 16], [16, 17])])
def spec_IndexImage.B7 : List Nat := [0, 1, 0, 0, 0, 16, 0, 0, 128, 448, 0, 1024, 0, 4096, 15360, 32752, 65528, 131071, 262143]
theorem spec_IndexImage.tab7 : rtab .any (opsOf Try.f33 7) = spec_IndexImage.T7 := by kernel_rfl
theorem spec_IndexImage.bits7 : waitsOk spec_IndexImage.T7.2 spec_IndexImage.B7 = true := by kernel_rfl
set_option maxHeartbeats 8000000 in
set_option maxRecDepth 100000 in
theorem spec_IndexImage.calls (k : Nat) (a0_0 : Int) (a0_1 : Int) (a0_2 : Int) (A0_3 : Option Addr) (c0_3 : Nat) (l0_3 : List Int) (A1 : Option Addr) (c1 : Nat) (l1 : List (List Int)) (r1 : Int) (r2 : Int) (r3 : Int) (r4 : List Int) (r5 : Bool) (w : World) (hr0_3 : Kd.C (Kd.int .i64) w A0_3 l0_3.length l0_3) (hc0_3 : l0_3.length ≤ c0_3) (hr1 : Kd.C (Kd.slice 3 (Kd.int .i64)) w A1 l1.length l1) (hc1 : l1.length ≤ c1) (h : spec_IndexImage.f k a0_0 a0_1 a0_2 l0_3 l1 = some (r1, r2, r3, r4, r5)) :
  Calls Try.prog 33 #[.agg #[.int .i64 a0_0, .int .i64 a0_1, .int .i64 a0_2, .slice A0_3 l0_3.length c0_3], .slice A1 l1.length c1] w fun e w' => ∃ v3_ : Value, e = .returned (.tuple #[.agg #[.int .i64 r1, .int .i64 r2, .int .i64 r3, v3_], .bool r5]) ∧ Kd.R (Kd.int .i64) 3 w' w.heap.size (fun _ => True) v3_ r4 ∧ Below w.heap.size w w' := by
 have hu29 := Try.underlying29
 have HR0_3 := aM hr0_3
 have HC0_3 := aM hc0_3
 clear hr0_3 hc0_3
 have HR1 := aM hr1
 have HC1 := aM hc1
 clear hr1 hc1
 have HB := aM (Below.refl w.heap.size w)
 unfold spec_IndexImage.f at h
 have H := h
 clear h
 have HC3 := aM H
 clear H
 go_enter Try.func33, Try.ntmps33
 go_upto_region 1 with (first | ((with_reducible refine gate_dst (N := 2) rfl ?_); (try (refine gate_guard (by rfl) ?_; dsimp only)); refine bxE (N := 2) (cs := #[.int .i64 a0_0, .int .i64 a0_1, .int .i64 a0_2, .slice A0_3 l0_3.length c0_3]) (t := 29) ?_; intro gb648 hg w4 hbox hb; have BK648 := aM (hbox); have GW648 := gW hg HB; have GE648 := gW hg HB; replace HB := bS HB hb; clear hb hbox hg) | ((with_reducible refine gate_dst (N := 4) rfl ?_); (try (refine gate_guard (by rfl) ?_; dsimp only)); refine bxE (N := 4) (cs := #[.int .i64 0, .int .i64 0, .int .i64 0, .slice none 0 0]) (t := 29) ?_; intro gb649 hg w5 hbox hb; have BK649 := aM (hbox); have GW649 := gW hg HB; have GE649 := gW hg HB; replace HB := bS HB hb; have NB648_649 := nL hg BK648; have NB649_648 := nG hg BK648; replace BK648 := bB BK648 hb; clear hb hbox hg))
 (try simp only [Act.put, List.setIfInBounds_toArray, List.set_cons_zero, List.set_cons_succ])
 go_cut [22] (fun v22 wc => ∃ (kq : Nat) (x22_2 : Bool), v22 = .bool x22_2 ∧ Aside0 (spec_IndexImage.j0 kq l1 x22_2 a0_0 a0_1 a0_2 l0_3 = some (r1, r2, r3, r4, r5)) ∧ Aside0 (kq ≤ k) ∧ Aside0 (wc.heap[gb648]? = some (.cells #[.int .i64 a0_0, .int .i64 a0_1, .int .i64 a0_2, (.slice A0_3 l0_3.length c0_3)] 29 (0, 0))) ∧ Aside0 (wc.heap[gb649]? = some (.cells #[.int .i64 0, .int .i64 0, .int .i64 0, (.slice none 0 0)] 29 (0, 0))) ∧ Aside0 (Below w.heap.size w wc))
 case first =>
  have H := HC3.out
  clear HC3
  replace H := Option.bind_eq_some_iff.mp H
  obtain ⟨t650, A60, H⟩ := H
  replace H : (if t650 = true then ((spec_validColors.f k l1 a0_2).bind fun t651 => (if t651 = true then (spec_IndexImage.j0 k l1 ((l1.length : Int) == 0) a0_0 a0_1 a0_2 l0_3) else (spec_IndexImage.j0 k l1 true a0_0 a0_1 a0_2 l0_3))) else (spec_IndexImage.j0 k l1 true a0_0 a0_1 a0_2 l0_3)) = some (r1, r2, r3, r4, r5) := H
  have A6 := aM A60
  clear A60
  by_cases c7 : t650 = true
  rotate_left
  ·replace c7 := Bool.eq_false_iff.mpr c7
   subst c7
   have H1 : (spec_IndexImage.j0 k l1 true a0_0 a0_1 a0_2 l0_3) = some (r1, r2, r3, r4, r5) := by rw [if_neg (show ¬ (false = true) by decide)] at H; exact H
   clear H
   have H := H1
   clear H1
   have H' := aM H
   clear H
   have hnb18 := NB648_649.out
   have hnc18 := NB649_648.out
   obtain ⟨⟨hcz19_0, hcz19_1, hcz19_2, hcz19_3⟩, hfz19_0, hfz19_1, hfz19_2, hfz19_3⟩ := cf4 BK648
   go_wp2_with (first | ((with_reducible refine gate_callee (f := 40) rfl ?_); refine gL (some 9) Try.func40 #[.agg #[.int .i64 a0_0, .int .i64 a0_1, .int .i64 a0_2, .slice A0_3 l0_3.length c0_3]] ?_; (with_reducible refine (spec_validImage.calls k a0_0 a0_1 a0_2 _ _ l0_3 false _ ?side1 ?side2 A6.out).mono ?_); (case side1 => exact qC (Kd.C_below HR0_3.out HB.out)); (case side2 => exact HC0_3.out); rintro e w20 ⟨rfl, hb⟩; refine ⟨_, rfl, ?_⟩; replace BK648 := bB BK648 hb; replace BK649 := bB BK649 hb; replace HB := bS HB hb; clear hb))
   go_meet
   case rel => exact ⟨_, (true), qE, H', ⟨by first | omega | exact Nat.le_refl _⟩, ⟨by refine qB ?_; exact BK648.out⟩, ⟨by refine qB ?_; exact BK649.out⟩, ⟨by exact qW HB.out⟩⟩
  subst c7
  have H1 : ((spec_validColors.f k l1 a0_2).bind fun t651 => (if t651 = true then (spec_IndexImage.j0 k l1 ((l1.length : Int) == 0) a0_0 a0_1 a0_2 l0_3) else (spec_IndexImage.j0 k l1 true a0_0 a0_1 a0_2 l0_3))) = some (r1, r2, r3, r4, r5) := by rw [if_pos rfl] at H; exact H
  clear H
  have H := H1
  clear H1
  replace H := Option.bind_eq_some_iff.mp H
  obtain ⟨t651, A80, H⟩ := H
  replace H : (if t651 = true then (spec_IndexImage.j0 k l1 ((l1.length : Int) == 0) a0_0 a0_1 a0_2 l0_3) else (spec_IndexImage.j0 k l1 true a0_0 a0_1 a0_2 l0_3)) = some (r1, r2, r3, r4, r5) := H
  have A8 := aM A80
  clear A80
  by_cases c9 : t651 = true
  ·subst c9
   have H1 : (spec_IndexImage.j0 k l1 ((l1.length : Int) == 0) a0_0 a0_1 a0_2 l0_3) = some (r1, r2, r3, r4, r5) := by rw [if_pos rfl] at H; exact H
   clear H
   have H := H1
   clear H1
   have H' := aM H
   clear H
   have hnb10 := NB648_649.out
   have hnc10 := NB649_648.out
   obtain ⟨⟨hcz11_0, hcz11_1, hcz11_2, hcz11_3⟩, hfz11_0, hfz11_1, hfz11_2, hfz11_3⟩ := cf4 BK648
   go_wp2_with (first | ((with_reducible refine gate_callee (f := 40) rfl ?_); refine gL (some 9) Try.func40 #[.agg #[.int .i64 a0_0, .int .i64 a0_1, .int .i64 a0_2, .slice A0_3 l0_3.length c0_3]] ?_; (with_reducible refine (spec_validImage.calls k a0_0 a0_1 a0_2 _ _ l0_3 true _ ?side1 ?side2 A6.out).mono ?_); (case side1 => exact qC (Kd.C_below HR0_3.out HB.out)); (case side2 => exact HC0_3.out); rintro e w12 ⟨rfl, hb⟩; refine ⟨_, rfl, ?_⟩; replace BK648 := bB BK648 hb; replace BK649 := bB BK649 hb; replace HB := bS HB hb; clear hb; obtain ⟨⟨hcz13_0, hcz13_1, hcz13_2, hcz13_3⟩, hfz13_0, hfz13_1, hfz13_2, hfz13_3⟩ := cf4 BK648) | (go_at_call 60; (with_reducible refine (spec_validColors.calls k _ _ l1 a0_2 true _ ?side1 ?side2 A8.out).mono ?_); (case side1 => exact qC (Kd.C_below HR1.out HB.out)); (case side2 => exact HC1.out); rintro e w' ⟨rfl, ⟨nd, rfl⟩⟩))
   go_meet
   case rel => exact ⟨_, (((l1.length : Int) == 0)), qE, H', ⟨by first | omega | exact Nat.le_refl _⟩, ⟨by refine qB ?_; exact BK648.out⟩, ⟨by refine qB ?_; exact BK649.out⟩, ⟨by exact qW HB.out⟩⟩
  replace c9 := Bool.eq_false_iff.mpr c9
  subst c9
  have H1 : (spec_IndexImage.j0 k l1 true a0_0 a0_1 a0_2 l0_3) = some (r1, r2, r3, r4, r5) := by rw [if_neg (show ¬ (false = true) by decide)] at H; exact H
  clear H
  have H := H1
  clear H1
  have H' := aM H
  clear H
  have hnb14 := NB648_649.out
  have hnc14 := NB649_648.out
  obtain ⟨⟨hcz15_0, hcz15_1, hcz15_2, hcz15_3⟩, hfz15_0, hfz15_1, hfz15_2, hfz15_3⟩ := cf4 BK648
  go_wp2_with (first | ((with_reducible refine gate_callee (f := 40) rfl ?_); refine gL (some 9) Try.func40 #[.agg #[.int .i64 a0_0, .int .i64 a0_1, .int .i64 a0_2, .slice A0_3 l0_3.length c0_3]] ?_; (with_reducible refine (spec_validImage.calls k a0_0 a0_1 a0_2 _ _ l0_3 true _ ?side1 ?side2 A6.out).mono ?_); (case side1 => exact qC (Kd.C_below HR0_3.out HB.out)); (case side2 => exact HC0_3.out); rintro e w16 ⟨rfl, hb⟩; refine ⟨_, rfl, ?_⟩; replace BK648 := bB BK648 hb; replace BK649 := bB BK649 hb; replace HB := bS HB hb; clear hb; obtain ⟨⟨hcz17_0, hcz17_1, hcz17_2, hcz17_3⟩, hfz17_0, hfz17_1, hfz17_2, hfz17_3⟩ := cf4 BK648) | (go_at_call 60; (with_reducible refine (spec_validColors.calls k _ _ l1 a0_2 false _ ?side1 ?side2 A8.out).mono ?_); (case side1 => exact qC (Kd.C_below HR1.out HB.out)); (case side2 => exact HC1.out); rintro e w' ⟨rfl, ⟨nd, rfl⟩⟩))
  go_meet
  case rel => exact ⟨_, (true), qE, H', ⟨by first | omega | exact Nat.le_refl _⟩, ⟨by refine qB ?_; exact BK648.out⟩, ⟨by refine qB ?_; exact BK649.out⟩, ⟨by exact qW HB.out⟩⟩
 case rest =>
  clear HC3
  try clear c1
  try clear c7
  try clear c9
  try clear hcz11_0 hcz11_1 hcz11_2 hcz11_3 hfz11_0 hfz11_1 hfz11_2 hfz11_3
  try clear hcz13_0 hcz13_1 hcz13_2 hcz13_3 hfz13_0 hfz13_1 hfz13_2 hfz13_3
  try clear hcz15_0 hcz15_1 hcz15_2 hcz15_3 hfz15_0 hfz15_1 hfz15_2 hfz15_3
  try clear hcz17_0 hcz17_1 hcz17_2 hcz17_3 hfz17_0 hfz17_1 hfz17_2 hfz17_3
  try clear hcz19_0 hcz19_1 hcz19_2 hcz19_3 hfz19_0 hfz19_1 hfz19_2 hfz19_3
  obtain ⟨kq, x22_2, rfl, HA, HJ2, BK648, BK649, HB⟩ := hcut
  cases kq with
  | zero => exact absurd HA.out (by simp [spec_IndexImage.j0])
  | succ kj2 =>
   have H := HA.out
   clear HA
   simp only [spec_IndexImage.j0] at H
   by_cases c21 : x22_2 = true
   ·subst c21
    have H1 : (some (0, 0, 0, ([] : List Int), false)) = some (r1, r2, r3, r4, r5) := by rw [if_pos rfl] at H; exact H
    clear H
    have H := H1
    clear H1
    simp only [Option.some.injEq, Prod.mk.injEq] at H
    obtain ⟨rfl, rfl, rfl, rfl, rfl⟩ := H
    have hnb22 := NB649_648.out
    have hnc22 := NB648_649.out
    obtain ⟨⟨hcz23_0, hcz23_1, hcz23_2, hcz23_3⟩, hfz23_0, hfz23_1, hfz23_2, hfz23_3⟩ := cf4 BK649
    go_wp2
    refine bodyPost_ret (results_ct rfl _ _ gb649 29 #[.int .i64 0, .int .i64 0, .int .i64 0, .slice none 0 0] (0, 0) _ rfl (by exact bP BK649.out) Try.underlying29 rfl (by kernel_rfl)) rfl ?_
    exact ⟨_, qX, qN, by exact qW HB.out⟩
   replace c21 := Bool.eq_false_iff.mpr c21
   subst c21
   have H1 : ((spec_newImage.f a0_0 a0_1 1).bind fun bt652 => (spec_IndexImage.l0 kj2 l1 0 a0_0 a0_1 a0_2 l0_3 bt652.1 bt652.2.1 bt652.2.2.1 bt652.2.2.2)) = some (r1, r2, r3, r4, r5) := by rw [if_neg (show ¬ (false = true) by decide)] at H; exact H
   clear H
   have H := H1
   clear H1
   replace H := Option.bind_eq_some_iff.mp H
   obtain ⟨⟨t652, t653, t654, t655⟩, A240, H⟩ := H
   replace H : (spec_IndexImage.l0 kj2 l1 0 a0_0 a0_1 a0_2 l0_3 t652 t653 t654 t655) = some (r1, r2, r3, r4, r5) := H
   have A24 := aM A240
   clear A240
   have H' := aM H
   clear H
   have hnb25 := NB648_649.out
   have hnc25 := NB649_648.out
   obtain ⟨⟨hcz26_0, hcz26_1, hcz26_2, hcz26_3⟩, hfz26_0, hfz26_1, hfz26_2, hfz26_3⟩ := cf4 BK648
   go_wp2_with (first | ((with_reducible refine gate_callee (f := 62) rfl ?_); refine gL (some 28) Try.func62 #[.int .i64 a0_0, .int .i64 a0_1, .int .i64 1] ?_; (with_reducible refine (spec_newImage.calls a0_0 a0_1 1 t652 t653 t654 t655 _ A24.out).mono ?_); rintro e w27 ⟨v656, rfl, ho0, hb⟩; refine ⟨_, rfl, ?_⟩; have HO657 := oR ho0 HB; replace BK648 := bB BK648 hb; replace BK649 := bB BK649 hb; replace HB := bS HB hb; clear hb ho0) | ((with_reducible refine gate_dst (N := 6) rfl ?_); (try (refine gate_guard (by rfl) ?_; dsimp only)); refine bxE (N := 6) (cs := #[.int .i64 0, .int .i64 0, .int .i64 0, .slice none 0 0]) (t := 29) ?_; intro gb658 hg w28 hbox hb; replace HO657 := aM (Kd.R_below (qR HO657.out) hb); have BK658 := aM (hbox); have GW658 := gW hg HB; have GE658 := gW hg HB; replace HB := bS HB hb; have NB648_658 := nL hg BK648; have NB658_648 := nG hg BK648; replace BK648 := bB BK648 hb; have NB649_658 := nL hg BK649; have NB658_649 := nG hg BK649; replace BK649 := bB BK649 hb; clear hb hbox hg; have hnb29 := NB658_648.out; have hnc29 := NB648_658.out; have hnb30 := NB658_649.out; have hnc30 := NB649_658.out; obtain ⟨⟨hcz31_0, hcz31_1, hcz31_2, hcz31_3⟩, hfz31_0, hfz31_1, hfz31_2, hfz31_3⟩ := cf4 BK658; obtain ⟨Ao32, co32, rfl⟩ := sL HO657))
   go_loopg [7] kj2 (fun kq v7 w' => ∃ (x7_2 : Int) (x659003_2 : List Int) (u659003 : Value), v7 = .int .i64 x7_2 ∧ Aside0 (spec_IndexImage.l0 kq l1 x7_2 a0_0 a0_1 a0_2 l0_3 t652 t653 t654 x659003_2 = some (r1, r2, r3, r4, r5)) ∧ Aside0 (kq ≤ kj2) ∧ Aside0 (Kd.R (Kd.int .i64) 3 w' w.heap.size (fun _ => True) u659003 x659003_2) ∧ Aside0 (w'.heap[gb648]? = some (.cells #[.int .i64 a0_0, .int .i64 a0_1, .int .i64 a0_2, (.slice A0_3 l0_3.length c0_3)] 29 (0, 0))) ∧ Aside0 (w'.heap[gb649]? = some (.cells #[.int .i64 0, .int .i64 0, .int .i64 0, (.slice none 0 0)] 29 (0, 0))) ∧ Aside0 (w'.heap[gb658]? = some (.cells #[.int .i64 t652, .int .i64 t653, .int .i64 t654, u659003] 29 (0, 0))) ∧ Aside0 (Below w.heap.size w w'))
   case atStart => exact ⟨(0), (t655), (.slice Ao32 t655.length co32), qE, H', ⟨Nat.le_refl _⟩, ⟨by refine qR ?_; exact Kd.R_mono (rT HO657 BK658) (fun _ hk => trivial)⟩, ⟨by refine qB ?_; refine blk_far ?_ NB648_658.out _; refine qB ?_; refine blk_far ?_ NB648_658.out _; refine qB ?_; refine blk_far ?_ NB648_658.out _; refine qB ?_; refine blk_far ?_ NB648_658.out _; refine qB ?_; exact BK648.out⟩, ⟨by refine qB ?_; refine blk_far ?_ NB649_658.out _; refine qB ?_; refine blk_far ?_ NB649_658.out _; refine qB ?_; refine blk_far ?_ NB649_658.out _; refine qB ?_; refine blk_far ?_ NB649_658.out _; refine qB ?_; exact BK649.out⟩, ⟨by exact bP BK658.out⟩, ⟨by exact qW HB.out⟩⟩
   case round =>
    clear H'
    try clear c1
    try clear c7
    try clear c9
    try clear c21
    try clear hcz11_0 hcz11_1 hcz11_2 hcz11_3 hfz11_0 hfz11_1 hfz11_2 hfz11_3
    try clear hcz13_0 hcz13_1 hcz13_2 hcz13_3 hfz13_0 hfz13_1 hfz13_2 hfz13_3
    try clear hcz15_0 hcz15_1 hcz15_2 hcz15_3 hfz15_0 hfz15_1 hfz15_2 hfz15_3
    try clear hcz17_0 hcz17_1 hcz17_2 hcz17_3 hfz17_0 hfz17_1 hfz17_2 hfz17_3
    try clear hcz19_0 hcz19_1 hcz19_2 hcz19_3 hfz19_0 hfz19_1 hfz19_2 hfz19_3
    try clear hcz23_0 hcz23_1 hcz23_2 hcz23_3 hfz23_0 hfz23_1 hfz23_2 hfz23_3
    try clear hcz26_0 hcz26_1 hcz26_2 hcz26_3 hfz26_0 hfz26_1 hfz26_2 hfz26_3
    try clear hcz31_0 hcz31_1 hcz31_2 hcz31_3 hfz31_0 hfz31_1 hfz31_2 hfz31_3
    obtain ⟨x7_2, x659003_2, u659003, rfl, HA, HK2, HO_659003, BK648, BK649, BK658, HB⟩ := hrel
    cases gk with
    | zero => exact absurd HA.out (by simp [spec_IndexImage.l0])
    | succ k2 =>
     have H := HA.out
     clear HA
     simp only [spec_IndexImage.l0] at H
     by_cases c33 : x7_2 < (x659003_2.length : Int)
     rotate_left
     ·rw [if_neg c33] at H
      have c33b0 : decide (x7_2 < (x659003_2.length : Int)) = false := decide_eq_false c33
      clear c33
      simp only [Option.some.injEq, Prod.mk.injEq] at H
      obtain ⟨rfl, rfl, rfl, rfl, rfl⟩ := H
      have hnb48 := NB658_648.out
      have hnc48 := NB648_658.out
      have hnb49 := NB658_649.out
      have hnc49 := NB649_658.out
      obtain ⟨⟨hcz50_0, hcz50_1, hcz50_2, hcz50_3⟩, hfz50_0, hfz50_1, hfz50_2, hfz50_3⟩ := cf4 BK658
      obtain ⟨Ao51, co51, rfl⟩ := sL HO_659003
      have hnb52 := NB649_648.out
      have hnc52 := NB648_649.out
      obtain ⟨⟨hcz53_0, hcz53_1, hcz53_2, hcz53_3⟩, hfz53_0, hfz53_1, hfz53_2, hfz53_3⟩ := cf4 BK649
      go_wp2
      refine bodyPost_ret (results_ct rfl _ _ gb649 29 #[.int .i64 t652, .int .i64 t653, .int .i64 t654, .slice Ao51 x659003_2.length co51] (0, 0) _ rfl (by exact bP BK649.out) Try.underlying29 rfl (by kernel_rfl)) rfl ?_
      exact ⟨_, qX, by refine qR ?_; exact Kd.R_mono (rT HO_659003 BK649) (fun _ hk => trivial), by exact qW HB.out⟩
     rw [if_pos c33] at H
     have c33b0 : decide (x7_2 < (x659003_2.length : Int)) = true := decide_eq_true c33
     clear c33
     obtain ⟨ji34, hji34⟩ : ∃ j_ : Int, (wrap64 (x7_2 * a0_2)) = j_ := ⟨_, rfl⟩
     replace H : (if 0 ≤ (ji34) then (if (ji34) ≤ (wrap64 ((wrap64 (x7_2 + 1)) * a0_2)) then (if (wrap64 ((wrap64 (x7_2 + 1)) * a0_2)) ≤ (l0_3.length : Int) then ((spec_nearest.f k2 l1 ((l0_3.take ((wrap64 ((wrap64 (x7_2 + 1)) * a0_2)) : Int).toNat).drop ((ji34) : Int).toNat)).bind fun t660 => (if 0 ≤ x7_2 then (spec_IndexImage.l0 k2 l1 (wrap64 (x7_2 + 1)) a0_0 a0_1 a0_2 l0_3 t652 t653 t654 (x659003_2.set (x7_2 : Int).toNat t660)) else (none))) else (none)) else (none)) else (none)) = some (r1, r2, r3, r4, r5) := by first | (rw [hji34] at H; exact H) | (simp only [hji34] at H ⊢; exact H)
     have hji34w : (IntKind.i64.wrap (x7_2 * a0_2)) = ji34 := (i64_w _).trans hji34
     replace H := iS H
     obtain ⟨c35, H⟩ := H
     have c35b0 := eq_true c35
     have c35b1 : decide (0 ≤ (ji34)) = true := decide_eq_true c35
     clear c35
     replace H := iS H
     obtain ⟨c36, H⟩ := H
     have c36b0 := eq_true c36
     have c36b1 : decide ((ji34) ≤ (wrap64 ((wrap64 (x7_2 + 1)) * a0_2))) = true := decide_eq_true c36
     replace H := iS H
     obtain ⟨c37, H⟩ := H
     have c37b0 := eq_true c37
     have c37b1 : decide ((wrap64 ((wrap64 (x7_2 + 1)) * a0_2)) ≤ (l0_3.length : Int)) = true := decide_eq_true c37
     replace H := Option.bind_eq_some_iff.mp H
     obtain ⟨t660, A380, H⟩ := H
     replace H : (if 0 ≤ x7_2 then (spec_IndexImage.l0 k2 l1 (wrap64 (x7_2 + 1)) a0_0 a0_1 a0_2 l0_3 t652 t653 t654 (x659003_2.set (x7_2 : Int).toNat t660)) else (none)) = some (r1, r2, r3, r4, r5) := H
     have A38 := aM A380
     clear A380
     replace H := iD H
     obtain ⟨c39b0, H⟩ := H
     obtain ⟨y661, hy661⟩ : ∃ y_ : List Int, y_ = (x659003_2.set (x7_2 : Int).toNat t660) := ⟨_, rfl⟩
     replace H : (spec_IndexImage.l0 k2 l1 (wrap64 (x7_2 + 1)) a0_0 a0_1 a0_2 l0_3 t652 t653 t654 y661) = some (r1, r2, r3, r4, r5) := rY hy661 H
     have Ny661 := aM hy661
     clear hy661
     have H' := aM H
     clear H
     have hnb41 := NB658_648.out
     have hnc41 := NB648_658.out
     have hnb42 := NB658_649.out
     have hnc42 := NB649_658.out
     obtain ⟨⟨hcz43_0, hcz43_1, hcz43_2, hcz43_3⟩, hfz43_0, hfz43_1, hfz43_2, hfz43_3⟩ := cf4 BK658
     obtain ⟨Ao44, co44, rfl⟩ := sL HO_659003
     try go_wp2
     replace HO_659003 := aM (Kd.R_drew HO_659003.out)
     replace BK648 := aM (blk_drew BK648.out)
     replace BK649 := aM (blk_drew BK649.out)
     replace BK658 := aM (blk_drew BK658.out)
     replace HB := aM (below_drew1 HB.out)
     obtain ⟨i046, hi046, _, hsz46, _⟩ := info_parts info3
     obtain ⟨A46, hcut46, hA46, hC46⟩ := print_mid_of (P := Try.prog) (Value.int .i64) 0 22 3 .i64 .i64 Try.underlying22 hi046 hsz46 A0_3 c0_3 l0_3 (ji34) (wrap64 ((wrap64 (x7_2 + 1)) * a0_2)) oD (by first | omega | exact oD) oD HC0_3.out
     have HR659 := aM (Kd.C_of_reads (h1 := fun _ => rfl) (hA46 _ (Kd.reads_of_C HR0_3.out)))
     have HC659 := aM hC46
     clear hA46 hC46 hi046 hsz46
     refine start_ (n := 19) (S := fun w' => w'.cell? ⟨gb658, 0, none⟩ = some (.int .i64 t652) ∧ w'.cell? ⟨gb658, 1, none⟩ = some (.int .i64 t653) ∧ w'.cell? ⟨gb658, 2, none⟩ = some (.int .i64 t654) ∧ w'.cell? ⟨gb658, 3, none⟩ = some (.slice Ao44 x659003_2.length co44) ∧ w'.cell? ⟨gb648, 0, none⟩ = some (.int .i64 a0_0) ∧ w'.cell? ⟨gb648, 1, none⟩ = some (.int .i64 a0_1) ∧ w'.cell? ⟨gb648, 2, none⟩ = some (.int .i64 a0_2) ∧ w'.cell? ⟨gb648, 3, none⟩ = some (.slice A0_3 l0_3.length c0_3)) (ds := [18]) (bA 19 0) (by kernel_rfl) rfl rfl ⟨(blk_cell BK658.out 0).trans rfl, (blk_cell BK658.out 1).trans rfl, (blk_cell BK658.out 2).trans rfl, (blk_cell BK658.out 3).trans rfl, (blk_cell BK648.out 0).trans rfl, (blk_cell BK648.out 1).trans rfl, (blk_cell BK648.out 2).trans rfl, (blk_cell BK648.out 3).trans rfl⟩ (fun hHeld => ?_); refine with_tabW spec_IndexImage.tab7 spec_IndexImage.bits7 (fun HT_ HW_ => ?_)
     generalize wr.drew = w45 at HO_659003 BK648 BK649 BK658 HB HR659 hHeld ⊢
     refine pQ 0 36 HT_ (bA 19 1) ?_
     refine pQ 2 38 HT_ (bA 19 5) ?_
     refine pQ 3 39 HT_ (bA 19 13) ?_
     refine pQ 4 40 HT_ (bA 19 29) ?_
     refine pQ 6 42 HT_ (bA 19 93) ?_
     refine pQ 7 43 HT_ (bA 19 221) ?_
     refine pQ 10 46 HT_ (bA 19 1245) ?_
     refine pQ 11 47 HT_ (bA 19 3293) ?_
     refine pQ 12 48 HT_ (bA 19 7389) ?_
     refine take_ (i := 1) (N := some 37) (v := ?_) (a' := ?_) (bA 19 7391) rfl rfl (take_ofW HT_.out HW_.out (by kernel_rfl)) (fun _ _ _ h => h) (Or.inl ⟨by rfl, ?_⟩) hHeld ?_ ?_
     rotate_left
     ·rintro w' ⟨s0, s1, s2, s3, s4, s5, s6, s7⟩
      go_simp
      with_reducible rfl
     rotate_left
     ·refine pZ ?_
      rfl
     refine take_ (i := 5) (N := some 41) (v := ?_) (a' := ?_) (bA 19 7423) rfl rfl (take_ofW HT_.out HW_.out (by kernel_rfl)) (fun _ _ _ h => h) (Or.inl ⟨by rfl, ?_⟩) hHeld ?_ ?_
     rotate_left
     ·rintro w' ⟨s0, s1, s2, s3, s4, s5, s6, s7⟩
      go_simp
      with_reducible rfl
     rotate_left
     ·refine pZ ?_
      rfl
     refine take_ (i := 8) (N := some 44) (v := ?_) (a' := ?_) (bA 19 7679) rfl rfl (take_ofW HT_.out HW_.out (by kernel_rfl)) (fun _ _ _ h => h) (Or.inl ⟨by rfl, ?_⟩) hHeld ?_ ?_
     rotate_left
     ·rintro w' ⟨s0, s1, s2, s3, s4, s5, s6, s7⟩
      go_simp
      with_reducible rfl
     rotate_left
     ·refine pZ ?_
      rfl
     refine pQ 9 45 HT_ (bA 19 8191) ?_
     refine take_ (i := 13) (N := some 49) (v := ?_) (a' := ?_) (bA 19 16383) rfl rfl (take_ofW HT_.out HW_.out (by kernel_rfl)) (fun _ _ _ h => h) (Or.inl ⟨by rfl, ?_⟩) hHeld ?_ ?_
     rotate_left
     ·rintro w' ⟨s0, s1, s2, s3, s4, s5, s6, s7⟩
      go_simp
      with_reducible rfl
     rotate_left
     ·refine pZ ?_
      rfl
     refine pQ 14 50 HT_ (bA 19 32767) ?_
     refine pQ 15 51 HT_ (bA 19 65535) ?_
     refine one_ (i := 16) (N := some 52) (bA 19 131071) rfl rfl (one_of HT_.out (by kernel_rfl)) (by decide) (fun K hK => ?_)
     refine goes_ Try.func67 (by kernel_rfl) rfl #[.slice A1 l1.length c1, .slice A46 ((l0_3.take ((wrap64 ((wrap64 (x7_2 + 1)) * a0_2)) : Int).toNat).drop ((ji34) : Int).toNat).length (c0_3 - (ji34).toNat)] (by rfl) rfl rfl (by (try simp only [List.map_toArray, List.map_cons, List.map_nil]); first | done | (rw [show ((l0_3.take ((wrap64 ((wrap64 (x7_2 + 1)) * a0_2)) : Int).toNat).drop ((ji34) : Int).toNat).length = ((wrap64 ((wrap64 (x7_2 + 1)) * a0_2)).toNat - (ji34).toNat) from (by rw [List.length_drop, List.length_take]; have h_ : ((wrap64 ((wrap64 (x7_2 + 1)) * a0_2)) : Int) ≤ (l0_3.length : Int) := oD; omega)] <;> rfl) | (simp only [hji34]; rfl) | rfl | (simp only [List.length_drop, List.length_take]; rfl)) ?_
     with_reducible refine (spec_nearest.calls k2 _ _ l1 _ _ ((l0_3.take ((wrap64 ((wrap64 (x7_2 + 1)) * a0_2)) : Int).toNat).drop ((ji34) : Int).toNat) t660 _ ?side1 ?side2 ?side3 ?side4 A38.out).mono ?_
     (case side1 => exact qC (Kd.C_below HR1.out HB.out))
     (case side2 => exact HC1.out)
     (case side3 => exact qC (Kd.C_below HR659.out HB.out))
     (case side4 => exact HC659.out)
     rintro e w' ⟨rfl, ⟨nd, rfl⟩⟩
     refine ⟨_, rfl, ?_⟩
     have p40 : 0 ≤ (x7_2 : Int) := oD
     have q40 : (x7_2 : Int) < ((x659003_2.length : Int) : Int) := oD
     obtain ⟨go40, co40, eo40, gb40, gl40, cl40, HG40⟩ := Kd.R_form HO_659003.out (by omega)
     (first | cases eo40 | (injection eo40 with ea_ en_ ec_; (first | subst ea_ | (injection ea_ with ea_; subst ea_)); subst ec_; clear en_))
     have GB40 := aM gb40
     have GG40 := aM HG40
     clear gb40 gl40 HG40
     obtain ⟨hx40_0, hf40_0⟩ := Kd.R_celln 0 HO_659003.out (x7_2 : Int) p40 q40
     replace p40 := eq_true p40
     replace q40 := eq_true q40
     have HP47 := Kd.R_putn HO_659003.out (x7_2 : Int) t660
     rw [← Ny661.out] at HP47
     have HQ47 := aM HP47
     clear HP47
     refine hK.out _ _ ⟨(blk_cell BK658.out 0).trans rfl, (blk_cell BK658.out 1).trans rfl, (blk_cell BK658.out 2).trans rfl, (blk_cell BK658.out 3).trans rfl, (blk_cell BK648.out 0).trans rfl, (blk_cell BK648.out 1).trans rfl, (blk_cell BK648.out 2).trans rfl, (blk_cell BK648.out 3).trans rfl⟩ (fun hHeld => ?_)
     clear hK K
     refine norm_ (a' := ?_) ?_ ?_
     rotate_left
     ·show Act.put _ (some 52) _ = _
      refine pZ ?_
      rfl
     refine pQ 17 53 HT_ (bA 19 262143) ?_
     refine last_ (i := 18) (N := none) (bA 19 524287) rfl rfl (one_of HT_.out (by kernel_rfl)) (by decide) (fun K hK => ?_)
     refine skip_ (w1 := ?_) (by rfl) rfl ?_ ?_
     rotate_left
     ·go_simp
      rfl
     refine hK.out _ _ ?_
     clear hK K
     refine done_ (done_of HT_.out (by kernel_rfl)) ?_
     try go_wp2
     go_roundg k2
     case measure => have := HJ2.out; have := HK2.out; omega
     case rel => exact ⟨(wrap64 (x7_2 + 1)), (y661), (.slice (some ⟨go40, 0, none⟩) x659003_2.length co44), qE, H', ⟨by have := HJ2.out; have := HK2.out; omega⟩, ⟨by refine qR ?_; exact HQ47.out⟩, ⟨by refine qB ?_; refine blk_far ?_ (by have h_ := Kd.R_ne HO_659003.out BK648.out (by decide); intro e_; exact h_ (by rw [e_]; rfl)) _; refine qB ?_; exact BK648.out⟩, ⟨by refine qB ?_; refine blk_far ?_ (by have h_ := Kd.R_ne HO_659003.out BK649.out (by decide); intro e_; exact h_ (by rw [e_]; rfl)) _; refine qB ?_; exact BK649.out⟩, ⟨by refine qB ?_; refine blk_far ?_ (by have h_ := Kd.R_ne HO_659003.out BK658.out (by decide); intro e_; exact h_ (by rw [e_]; rfl)) _; refine qB ?_; exact BK658.out⟩, ⟨by exact qW HB.out⟩⟩
def IsS83 (w0 W : World) (g : Nat) (f0 : List Int) (f1 : Int) : Prop := ∃ A0 c0, W.heap[g]? = some (.cells #[.slice A0 f0.length c0, .int .i64 f1] 83 (0, 0)) ∧ w0.heap.size ≤ g ∧ Kd.C (Kd.int .u8) w0 A0 f0.length f0
theorem IsS83.grown {w0 W : World} {g : Nat} {f0 : List Int} {f1 : Int} {W1 : World} {row : Option Nat} (h : IsS83 w0 W g f0 f1) (hw : W.grownBy W1 row) (hne : some g ≠ row) : IsS83 w0 W1 g f0 f1 := by
 obtain ⟨A0, c0, hb, hg, hr0⟩ := h
 exact ⟨A0, c0, blk_grown hb hw hne, hg, hr0⟩
theorem IsS83.own_neN {w0 W : World} {g : Nat} {f0 : List Int} {f1 : Int} {α : Type} {d : Kd α} {e : Nat} {base : Nat} {ok : Nat → Prop} {v : Value} {xs : List α} (h : IsS83 w0 W g f0 f1) (ho : Kd.N d e W base ok v xs) (ht : e ≠ 83) : some g ≠ v.ownBlock := by
 obtain ⟨A0, c0, hb, hg, hr0⟩ := h
 exact Kd.N_ne ho hb ht
theorem IsS83.fresh {w0 W : World} {g : Nat} {f0 : List Int} {f1 : Int} (h : IsS83 w0 W g f0 f1) : ∀ k, W.heap.size ≤ k → k ≠ g := by
 obtain ⟨A0, c0, hb, hg, hr0⟩ := h
 exact Kd.freshB hb
theorem IsS83.kept {w0 W : World} {g : Nat} {f0 : List Int} {f1 : Int} {W1 : World} {S : Nat → Prop} (h : IsS83 w0 W g f0 f1) (hk : Kept W W1 S) (hne : ¬ S g) : IsS83 w0 W1 g f0 f1 := by
 obtain ⟨A0, c0, hb, hg, hr0⟩ := h
 exact ⟨A0, c0, blk_kept hb hk hne, hg, hr0⟩
theorem IsS83.below {w0 W : World} {g : Nat} {f0 : List Int} {f1 : Int} {W1 : World} (h : IsS83 w0 W g f0 f1) (hw : Below W.heap.size W W1) : IsS83 w0 W1 g f0 f1 := h.grown (grown_of_below hw none) (by simp)
theorem IsS83.alloc {w0 W : World} {g : Nat} {f0 : List Int} {f1 : Int} (h : IsS83 w0 W g f0 f1) (o : Obj) : IsS83 w0 (W.alloc o) g f0 f1 := h.below (below_alloc (Below.refl _ _) o)
theorem IsS83.drewN {w0 W : World} {g : Nat} {f0 : List Int} {f1 : Int} (h : IsS83 w0 W g f0 f1) (m : Nat) : IsS83 w0 (W.drewN m) g f0 f1 := h
theorem IsS83.drew {w0 W : World} {g : Nat} {f0 : List Int} {f1 : Int} (h : IsS83 w0 W g f0 f1) : IsS83 w0 W.drew g f0 f1 := h
theorem IsS83.at_ {w0 W : World} {g : Nat} {f0 : List Int} {f1 : Int} {w' : World} {m : Nat} (hq : W.drewN m = w') (h : IsS83 w0 W g f0 f1) : IsS83 w0 w' g f0 f1 := by subst hq; exact IsS83.drewN h m
theorem IsS83.apart {w0 W : World} {g : Nat} {f0 : List Int} {f1 : Int} {α : Type} {d : Kd α} {e : Nat} {base : Nat} {ok : Nat → Prop} {v : Value} {xs : List α} (h : IsS83 w0 W g f0 f1) (ho : d.R e W base ok v xs) (ht : ∀ q, q ∈ e :: d.E → q ≠ 83) : d.R e W base (fun k => ok k ∧ k ≠ g) v xs := by
 obtain ⟨A0, c0, hb, hg, hr0⟩ := h
 exact Kd.R_types ho hb ht
theorem IsS83.own_ne {w0 W : World} {g : Nat} {f0 : List Int} {f1 : Int} {α : Type} {d : Kd α} {e : Nat} {base : Nat} {ok : Nat → Prop} {v : Value} {xs : List α} (h : IsS83 w0 W g f0 f1) (ho : d.R e W base ok v xs) (ht : e ≠ 83) : some g ≠ v.ownBlock := by
 obtain ⟨A0, c0, hb, hg, hr0⟩ := h
 exact Kd.R_ne ho hb ht
theorem IsS83.apartQ {w0 W : World} {g : Nat} {f0 : List Int} {f1 : Int} {α : Type} {d : Kd α} {e : Nat} {base : Nat} {ok : Nat → Prop} {v : Value} {xs : List α} (h : IsS83 w0 W g f0 f1) (ho : d.Q e W base ok v xs) (ht : ∀ q, q ∈ e :: d.E → q ≠ 83) : d.Q e W base (fun k => ok k ∧ k ≠ g) v xs := by
 obtain ⟨A0, c0, hb, hg, hr0⟩ := h
 exact Kd.Q_types ho hb ht
theorem IsS83.own_neQ {w0 W : World} {g : Nat} {f0 : List Int} {f1 : Int} {α : Type} {d : Kd α} {e : Nat} {base : Nat} {ok : Nat → Prop} {v : Value} {xs : List α} (h : IsS83 w0 W g f0 f1) (ho : d.Q e W base ok v xs) (ht : e ≠ 83) : some g ≠ v.ownBlock := by
 obtain ⟨A0, c0, hb, hg, hr0⟩ := h
 exact Kd.Q_ne ho hb ht
theorem IsS83.apartS {w0 W : World} {g : Nat} {f0 : List Int} {f1 : Int} {α : Type} {d : Kd α} {e : Nat} {base : Nat} {ok : Nat → Prop} {v : Value} {xs : List α} (h : IsS83 w0 W g f0 f1) (ho : d.S e W base ok v xs) (ht : ∀ q, q ∈ e :: d.E → q ≠ 83) : d.S e W base (fun k => ok k ∧ k ≠ g) v xs := by
 obtain ⟨A0, c0, hb, hg, hr0⟩ := h
 exact Kd.S_types ho hb ht
theorem IsS83.own_neS {w0 W : World} {g : Nat} {f0 : List Int} {f1 : Int} {α : Type} {d : Kd α} {e : Nat} {base : Nat} {ok : Nat → Prop} {v : Value} {xs : List α} (h : IsS83 w0 W g f0 f1) (ho : d.S e W base ok v xs) (ht : e ≠ 83) : some g ≠ v.ownBlock := by
 obtain ⟨A0, c0, hb, hg, hr0⟩ := h
 exact Kd.S_ne ho hb ht
theorem IsS83.lt {w0 W : World} {g : Nat} {f0 : List Int} {f1 : Int} (h : IsS83 w0 W g f0 f1) : g < W.heap.size := by
 obtain ⟨A0, c0, hb, hg, hr0⟩ := h
 exact blk_lt hb
theorem IsS83.ge {w0 W : World} {g : Nat} {f0 : List Int} {f1 : Int} (h : IsS83 w0 W g f0 f1) : w0.heap.size ≤ g := by
 obtain ⟨A0, c0, hb, hg, hr0⟩ := h
 exact hg
theorem IsS83.ne_blk {w0 W : World} {g : Nat} {f0 : List Int} {f1 : Int} {a : Nat} {cs : Array Value} {t : TypeId} {fr : Nat × Nat} (h : IsS83 w0 W g f0 f1) (hb2 : W.heap[a]? = some (.cells cs t fr)) (ht : t ≠ 83) : g ≠ a := by
 obtain ⟨A0, c0, hb, hg, hr0⟩ := h
 rintro rfl
 rw [hb] at hb2
 injection hb2 with hb2
 injection hb2 with _ ht2
 exact ht ht2.symm
theorem IsS83.far {w0 W : World} {g : Nat} {f0 : List Int} {f1 : Int} {p : Addr} (h : IsS83 w0 W g f0 f1) (hne : g ≠ p.block) (u : Value) : IsS83 w0 (W.setCell p u) g f0 f1 := by
 obtain ⟨A0, c0, hb, hg, hr0⟩ := h
 exact ⟨A0, c0, blk_far hb hne u, hg, hr0⟩
theorem cellS83_0 {W : World} {g : Nat} {A0 : Option Addr} {c0 : Nat} {f0 : List Int} {f1 : Int} (h : W.heap[g]? = some (.cells #[.slice A0 f0.length c0, .int .i64 f1] 83 (0, 0))) : W.cell? ⟨g, 0, none⟩ = some (.slice A0 f0.length c0) := (blk_cell h 0).trans rfl
theorem cellS83_1 {W : World} {g : Nat} {A0 : Option Addr} {c0 : Nat} {f0 : List Int} {f1 : Int} (h : W.heap[g]? = some (.cells #[.slice A0 f0.length c0, .int .i64 f1] 83 (0, 0))) : W.cell? ⟨g, 1, none⟩ = some (.int .i64 f1) := (blk_cell h 1).trans rfl
theorem IsS83.set_1 {w0 W : World} {g : Nat} {f0 : List Int} {f1 : Int} (h : IsS83 w0 W g f0 f1) (x : Int) : IsS83 w0 (W.setCell ⟨g, 1, none⟩ (.int .i64 x)) g f0 x := by
 obtain ⟨A0, c0, hb, hg, hr0⟩ := h
 exact ⟨A0, c0, by simpa using blk_set hb 1 (.int .i64 x), hg, hr0⟩
theorem IsS83.new (w0 W : World) (A0 : Option Addr) (c0 : Nat) (f0 : List Int) (f1 : Int) (hB : Below w0.heap.size w0 W) (hr0 : Kd.C (Kd.int .u8) w0 A0 f0.length f0) : IsS83 w0 (W.alloc (.cells #[.slice A0 f0.length c0, .int .i64 f1] 83)) W.heap.size f0 f1 := ⟨A0, c0, by simpa using heap_alloc_new W _, hB.size, hr0⟩
theorem farA83 {w0 W : World} {g : Nat} {f0 : List Int} {f1 : Int} {g2 j : Nat} {u : Value} (h : IsS83 w0 W g f0 f1) (hn : Aside0 (g ≠ g2)) : IsS83 w0 (W.setCell ⟨g2, j, none⟩ u) g f0 f1 := IsS83.far h hn.out u
theorem iS83 {w0 W W2 : World} {g : Nat} {f0 : List Int} {f1 : Int} {f0' : List Int} {f1' : Int} (a : IsS83 w0 W g f0 f1) (f : IsS83 w0 W g f0 f1 → IsS83 w0 W2 g f0' f1' := by intro h_; repeat (first | (with_reducible first | exact h_ | apply IsS83.alloc | apply IsS83.drewN | apply IsS83.drew | apply IsS83.set_1 | (refine farA83 ?_ ?_; rotate_left; assumption)) | exact h_)) : IsS83 w0 W2 g f0' f1' := f a
theorem wS83 {n : Nat} {w w' W : World} (a : Below n w w') (f : Below n w w' → Below n w W := by intro h_; repeat (first | (with_reducible first | exact h_ | apply below_alloc | apply pw_below_drewN | apply below_drew1 | (refine below_set ?_ ?_; rotate_left; exact IsS83.ge (Aside0.out (by assumption))) | (refine below_setA ?_ ?_; rotate_left; assumption)) | exact h_)) : Below n w W := f a
end Go.Proofs.Ytohbpilokmppbaa.P
