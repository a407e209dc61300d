/- Contracts and row, written by a program of this place out of the translation: the call answers true and its argument reads as before, for every input; no condition. -/
import Derived.Test.YtohbpilokmppbaaK0
import Derived.Test.YtohbpilokmppbaaK1
import Derived.Test.YtohbpilokmppbaaK2
namespace Go.Proofs.Ytohbpilokmppbaa.P
open Go.RowKit Go.Proofs.YtohbpilokmppbaaW.PrintWords Go.Proofs.YtohbpilokmppbaaW.PrintLast Go.Proofs.YtohbpilokmppbaaW.PrintMore
attribute [local go_sem] max2_int min2_int max_two min_two max_three min_three max_four min_four   -- for this text's walks alone
set_option linter.unusedVariables false
set_option linter.unusedSimpArgs false
def spec_PaletteOf.f (k : Nat) (a0_0 : Int) (a0_1 : Int) (a0_2 : Int) (l0_3 : List Int) : Option ((List (List Int)) × Bool) := (spec_validImage.f k a0_0 a0_1 a0_2 l0_3).bind fun t134 => (if t134 = true then ((spec_allColors.f k a0_0 a0_1 a0_2 l0_3).bind fun t135 => (if (t135.length : Int) > 16 then (some (([] : List (List Int)), false)) else ((spec_allColors.f k a0_0 a0_1 a0_2 l0_3).bind fun t138 => (some (t138, true))))) else (some (([] : List (List Int)), false)))
theorem spec_PaletteOf.mono : ∀ a0 a1 a2 a3 k, LeO (spec_PaletteOf.f k a0 a1 a2 a3) (spec_PaletteOf.f (k + 1) a0 a1 a2 a3) := by
 intro a0 a1 a2 a3 k
 unfold spec_PaletteOf.f
 repeat' first | (with_reducible first | exact spec_allColors.mono _ _ _ _ _ | exact spec_validImage.mono _ _ _ _ _ | exact lR | exact lN | refine lI ?_ ?_ | refine lB ?_ fun _ => ?_) | exact spec_allColors.mono _ _ _ _ _ | exact spec_validImage.mono _ _ _ _ _ | exact lN | refine lI ?_ ?_ | refine lB ?_ fun _ => ?_
set_option maxHeartbeats 8000000 in
set_option maxRecDepth 100000 in
theorem spec_PaletteOf.calls (k : Nat) (a0_0 : Int) (a0_1 : Int) (a0_2 : Int) (A0_3 : Option Addr) (c0_3 : Nat) (l0_3 : List Int) (r1 : List (List Int)) (r2 : Bool) (w : World) (hr0_3 : Kd.C (Kd.int .i64) w A0_3 l0_3.length l0_3) (hc0_3 : l0_3.length ≤ c0_3) (h : spec_PaletteOf.f k a0_0 a0_1 a0_2 l0_3 = some (r1, r2)) :
  Calls Try.prog 13 #[.agg #[.int .i64 a0_0, .int .i64 a0_1, .int .i64 a0_2, .slice A0_3 l0_3.length c0_3]] w fun e w' => ∃ v0_ : Value, e = .returned (.tuple #[v0_, .bool r2]) ∧ Kd.S (Kd.slice 3 (Kd.int .i64)) 22 w' w.heap.size (fun _ => True) v0_ r1 ∧ Below w.heap.size w w' := by
 have hu29 := Try.underlying29
 have HR0_3 := aM hr0_3
 have HC0_3 := aM hc0_3
 clear hr0_3 hc0_3
 have HB := aM (Below.refl w.heap.size w)
 unfold spec_PaletteOf.f at h
 have H := h
 clear h
 replace H := Option.bind_eq_some_iff.mp H
 obtain ⟨t134, A20, H⟩ := H
 replace H : (if t134 = true then ((spec_allColors.f k a0_0 a0_1 a0_2 l0_3).bind fun t135 => (if (t135.length : Int) > 16 then (some (([] : List (List Int)), false)) else ((spec_allColors.f k a0_0 a0_1 a0_2 l0_3).bind fun t138 => (some (t138, true))))) else (some (([] : List (List Int)), false))) = some (r1, r2) := H
 have A2 := aM A20
 clear A20
 by_cases c3 : t134 = true
 rotate_left
 ·replace c3 := Bool.eq_false_iff.mpr c3
  subst c3
  have H1 : (some (([] : List (List Int)), false)) = some (r1, r2) := by rw [if_neg (show ¬ (false = true) by decide)] at H; exact H
  clear H
  have H := H1
  clear H1
  simp only [Option.some.injEq, Prod.mk.injEq] at H
  obtain ⟨rfl, rfl⟩ := H
  go_enter Try.func13, Try.ntmps13
  go_wp2_with (first | ((with_reducible refine gate_dst (N := 1) rfl ?_); (try (refine gate_guard (by rfl) ?_; dsimp only)); refine bxE (N := 1) (cs := #[.int .i64 a0_0, .int .i64 a0_1, .int .i64 a0_2, .slice A0_3 l0_3.length c0_3]) (t := 29) ?_; intro gb133 hg w21 hbox hb; have BK133 := aM (hbox); have GW133 := gW hg HB; have GE133 := gW hg HB; replace HB := bS HB hb; clear hb hbox hg; obtain ⟨⟨hcz22_0, hcz22_1, hcz22_2, hcz22_3⟩, hfz22_0, hfz22_1, hfz22_2, hfz22_3⟩ := cf4 BK133) | ((with_reducible refine gate_callee (f := 40) rfl ?_); refine gL (some 5) Try.func40 #[.agg #[.int .i64 a0_0, .int .i64 a0_1, .int .i64 a0_2, .slice A0_3 l0_3.length c0_3]] ?_; (with_reducible refine (spec_validImage.calls k a0_0 a0_1 a0_2 _ _ l0_3 false _ ?side1 ?side2 A2.out).mono ?_); (case side1 => exact qC (Kd.C_below HR0_3.out HB.out)); (case side2 => exact HC0_3.out); rintro e w23 ⟨rfl, hb⟩; refine ⟨_, rfl, ?_⟩; replace BK133 := bB BK133 hb; replace HB := bS HB hb; clear hb))
  go_ret2
  exact ⟨_, qX, by first | exact Kd.S_nil _ _ _ _ _ | exact Kd.N_nil _ _ _ _ _ | exact Kd.V_nil _ _ _ _ _ | exact Kd.Q_nil _ _ _ _ _ | exact Kd.R_nil _ _ _ _ _, by exact qW HB.out⟩
 subst c3
 have H1 : ((spec_allColors.f k a0_0 a0_1 a0_2 l0_3).bind fun t135 => (if (t135.length : Int) > 16 then (some (([] : List (List Int)), false)) else ((spec_allColors.f k a0_0 a0_1 a0_2 l0_3).bind fun t138 => (some (t138, true))))) = some (r1, r2) := by rw [if_pos rfl] at H; exact H
 clear H
 have H := H1
 clear H1
 replace H := Option.bind_eq_some_iff.mp H
 obtain ⟨t135, A40, H⟩ := H
 replace H : (if (t135.length : Int) > 16 then (some (([] : List (List Int)), false)) else ((spec_allColors.f k a0_0 a0_1 a0_2 l0_3).bind fun t138 => (some (t138, true)))) = some (r1, r2) := H
 have A4 := aM A40
 clear A40
 by_cases c5 : (t135.length : Int) > 16
 ·rw [if_pos c5] at H
  have c5b0 : decide (16 < (t135.length : Int)) = true := decide_eq_true c5
  have c5b1 : decide (16 < t135.length) = true := decide_eq_true (by omega)
  clear c5
  simp only [Option.some.injEq, Prod.mk.injEq] at H
  obtain ⟨rfl, rfl⟩ := H
  go_enter Try.func13, Try.ntmps13
  go_wp2_with (first | ((with_reducible refine gate_dst (N := 1) rfl ?_); (try (refine gate_guard (by rfl) ?_; dsimp only)); refine bxE (N := 1) (cs := #[.int .i64 a0_0, .int .i64 a0_1, .int .i64 a0_2, .slice A0_3 l0_3.length c0_3]) (t := 29) ?_; intro gb133 hg w6 hbox hb; have BK133 := aM (hbox); have GW133 := gW hg HB; have GE133 := gW hg HB; replace HB := bS HB hb; clear hb hbox hg; obtain ⟨⟨hcz7_0, hcz7_1, hcz7_2, hcz7_3⟩, hfz7_0, hfz7_1, hfz7_2, hfz7_3⟩ := cf4 BK133) | ((with_reducible refine gate_callee (f := 40) rfl ?_); refine gL (some 5) Try.func40 #[.agg #[.int .i64 a0_0, .int .i64 a0_1, .int .i64 a0_2, .slice A0_3 l0_3.length c0_3]] ?_; (with_reducible refine (spec_validImage.calls k a0_0 a0_1 a0_2 _ _ l0_3 true _ ?side1 ?side2 A2.out).mono ?_); (case side1 => exact qC (Kd.C_below HR0_3.out HB.out)); (case side2 => exact HC0_3.out); rintro e w8 ⟨rfl, hb⟩; refine ⟨_, rfl, ?_⟩; replace BK133 := bB BK133 hb; replace HB := bS HB hb; clear hb; obtain ⟨⟨hcz9_0, hcz9_1, hcz9_2, hcz9_3⟩, hfz9_0, hfz9_1, hfz9_2, hfz9_3⟩ := cf4 BK133) | (go_at_call 41; (with_reducible refine (spec_allColors.calls k a0_0 a0_1 a0_2 _ _ l0_3 t135 _ ?side1 ?side2 A4.out).mono ?_); (case side1 => exact qC (Kd.C_below HR0_3.out HB.out)); (case side2 => exact HC0_3.out); rintro e w10 ⟨v136, rfl, ho0, hb⟩; have HO137 := aM (Kd.S_lower ho0 (below_size (qW HB.out))); replace BK133 := bB BK133 hb; replace HB := bS HB hb; clear hb ho0; obtain ⟨Ao11, co11, eo11⟩ := Kd.S_slice HO137.out; subst eo11))
  go_ret2
  exact ⟨_, qX, by first | exact Kd.S_nil _ _ _ _ _ | exact Kd.N_nil _ _ _ _ _ | exact Kd.V_nil _ _ _ _ _ | exact Kd.Q_nil _ _ _ _ _ | exact Kd.R_nil _ _ _ _ _, by exact qW HB.out⟩
 rw [if_neg c5] at H
 have c5b0 : decide (16 < (t135.length : Int)) = false := decide_eq_false c5
 have c5b1 : decide (16 < t135.length) = false := decide_eq_false (by omega)
 clear c5
 replace H := Option.bind_eq_some_iff.mp H
 obtain ⟨t138, A120, H⟩ := H
 replace H : (some (t138, true)) = some (r1, r2) := H
 have A12 := aM A120
 clear A120
 simp only [Option.some.injEq, Prod.mk.injEq] at H
 obtain ⟨rfl, rfl⟩ := H
 go_enter Try.func13, Try.ntmps13
 go_wp2_with (first | ((with_reducible refine gate_dst (N := 1) rfl ?_); (try (refine gate_guard (by rfl) ?_; dsimp only)); refine bxE (N := 1) (cs := #[.int .i64 a0_0, .int .i64 a0_1, .int .i64 a0_2, .slice A0_3 l0_3.length c0_3]) (t := 29) ?_; intro gb133 hg w13 hbox hb; have BK133 := aM (hbox); have GW133 := gW hg HB; have GE133 := gW hg HB; replace HB := bS HB hb; clear hb hbox hg; obtain ⟨⟨hcz14_0, hcz14_1, hcz14_2, hcz14_3⟩, hfz14_0, hfz14_1, hfz14_2, hfz14_3⟩ := cf4 BK133) | ((with_reducible refine gate_callee (f := 40) rfl ?_); refine gL (some 5) Try.func40 #[.agg #[.int .i64 a0_0, .int .i64 a0_1, .int .i64 a0_2, .slice A0_3 l0_3.length c0_3]] ?_; (with_reducible refine (spec_validImage.calls k a0_0 a0_1 a0_2 _ _ l0_3 true _ ?side1 ?side2 A2.out).mono ?_); (case side1 => exact qC (Kd.C_below HR0_3.out HB.out)); (case side2 => exact HC0_3.out); rintro e w15 ⟨rfl, hb⟩; refine ⟨_, rfl, ?_⟩; replace BK133 := bB BK133 hb; replace HB := bS HB hb; clear hb; obtain ⟨⟨hcz16_0, hcz16_1, hcz16_2, hcz16_3⟩, hfz16_0, hfz16_1, hfz16_2, hfz16_3⟩ := cf4 BK133) | (go_at_call 41; (with_reducible refine (spec_allColors.calls k a0_0 a0_1 a0_2 _ _ l0_3 t135 _ ?side1 ?side2 A4.out).mono ?_); (case side1 => exact qC (Kd.C_below HR0_3.out HB.out)); (case side2 => exact HC0_3.out); rintro e w17 ⟨v136, rfl, ho0, hb⟩; have HO137 := aM (Kd.S_lower ho0 (below_size (qW HB.out))); replace BK133 := bB BK133 hb; replace HB := bS HB hb; clear hb ho0; obtain ⟨Ao18, co18, eo18⟩ := Kd.S_slice HO137.out; subst eo18; obtain ⟨⟨hcz19_0, hcz19_1, hcz19_2, hcz19_3⟩, hfz19_0, hfz19_1, hfz19_2, hfz19_3⟩ := cf4 BK133) | ((with_reducible refine gate_callee (f := 41) rfl ?_); refine gL (some 14) Try.func41 #[.agg #[.int .i64 a0_0, .int .i64 a0_1, .int .i64 a0_2, .slice A0_3 l0_3.length c0_3]] ?_; (with_reducible refine (spec_allColors.calls k a0_0 a0_1 a0_2 _ _ l0_3 t138 _ ?side1 ?side2 A12.out).mono ?_); (case side1 => exact qC (Kd.C_below HR0_3.out HB.out)); (case side2 => exact HC0_3.out); rintro e w20 ⟨v139, rfl, ho0, hb⟩; refine ⟨_, rfl, ?_⟩; have HO140 := aM (Kd.S_lower (Kd.S_new' ho0 (Kd.S_lt (by (with_reducible repeat (first | apply Kd.S_alloc | apply Kd.S_drewN | apply Kd.S_drew)); exact HO137.out))) (below_size (qW HB.out))); replace HO137 := aM (Kd.S_elder' (by (with_reducible repeat (first | apply Kd.S_alloc | apply Kd.S_drewN | apply Kd.S_drew)); exact HO137.out) (Kd.S_base ho0) hb); replace BK133 := bB BK133 hb; replace HB := bS HB hb; clear hb ho0))
 go_ret2
 exact ⟨_, qX, by (with_reducible repeat (first | apply Kd.S_alloc | apply Kd.S_drewN | apply Kd.S_drew)); exact Kd.S_mono HO140.out (fun _ hk => trivial), by exact qW HB.out⟩
def laws_markIntSS.l0 : Nat → List (List Int) → Int → Int → Option (Int × List (List Int))
 | 0, _, _, _ => none
 | k + 1, x0, x1, x5 => if x5 < (x0.length : Int) then (if 0 ≤ x5 then ((laws_markIntS.f k (rd_L1 x0 x5) x1).bind fun bt => laws_markIntSS.l0 k (x0.set (x5 : Int).toNat bt.2) bt.1 (wrap64 (x5 + 1))) else (none)) else (some (x1, x0))
def laws_markIntSS.f (k : Nat) (l0 : List (List Int)) (a1 : Int) : Option (Int × List (List Int)) := laws_markIntSS.l0 k l0 a1 0
theorem laws_markIntSS.mono_l : ∀ k, (∀ y0 y1 y2, LeO (laws_markIntSS.l0 k y0 y1 y2) (laws_markIntSS.l0 (k + 1) y0 y1 y2))
 | 0 => fun _ _ _ r h => by simp [laws_markIntSS.l0] at h
 | k + 1 => by
  have ih0 := laws_markIntSS.mono_l k
  intro y0 y1 y2
  unfold laws_markIntSS.l0
  repeat' first | (with_reducible first | exact ih0 _ _ _ | exact laws_markIntS.mono _ _ _ | exact lR | exact lN | refine lI ?_ ?_ | refine lB ?_ fun _ => ?_) | exact ih0 _ _ _ | exact laws_markIntS.mono _ _ _ | exact lN | refine lI ?_ ?_ | refine lB ?_ fun _ => ?_
theorem laws_markIntSS.mono : ∀ a0 a1 k, LeO (laws_markIntSS.f k a0 a1) (laws_markIntSS.f (k + 1) a0 a1) := by
 intro a0 a1 k
 exact laws_markIntSS.mono_l k _ _ _
theorem S_handed {t e : Nat} {W : World} {base : Nat} {ok : Nat → Prop} {g n cap : Nat} {xs : List (List Int)} (h : Kd.S (Kd.slice t (Kd.int .i64)) e W base ok (.slice (some ⟨g, 0, none⟩) n cap) xs) (i : Int) (h0 : 0 ≤ i) (h1 : i < n) :
  ∃ (oki : Nat → Prop) (vr : Value), W.cell? ⟨g, i.toNat, none⟩ = some vr ∧ Kd.R (Kd.int .i64) t W base oki vr (xs.getD i.toNat []) ∧ (∀ k, oki k → ok k) ∧
   ∀ (W2 : World) (y : List Int) (P : Nat → Prop), Kept W W2 oki → Kd.R (Kd.int .i64) t W2 base P vr y → Kd.S (Kd.slice t (Kd.int .i64)) e W2 base ok (.slice (some ⟨g, 0, none⟩) n cap) (xs.set i.toNat y) := by
 obtain ⟨oki, c, hcl, hM, hcc, hoki, hH⟩ := Kd.S_lend h [] i h0 h1
 obtain ⟨vr, rfl, hR⟩ := hM
 refine ⟨oki, vr, ?_, hR, fun k hk => (hoki k hk).1, fun W2 y P hk hR2 => ?_⟩
 rotate_left
 ·exact Kd.H_back (Kd.H_kept hH hk (fun k _ hn => hn)) (Kd.M_row (Kd.R_mono (Kd.R_tight rfl hR2) (fun k hk => hR.1 k hk.symm))) (fun _ h => h)
 have hq := hcc 0 vr rfl
 rw [Nat.add_zero, show ((Kd.slice t (Kd.int .i64))).sz = 1 from rfl, Nat.mul_one] at hq
 exact hq
set_option maxHeartbeats 8000000 in
set_option maxRecDepth 100000 in
theorem laws_markIntSS.calls (k : Nat) (P0_ : Nat → Prop) (u9000_ : Value) (l0 : List (List Int)) (a1 : Int) (r1 : Int) (r2 : List (List Int)) (w0 w : World) (hB : Below w0.heap.size w0 w) (ho0 : Kd.S (Kd.slice 3 (Kd.int .i64)) 22 w w0.heap.size P0_ u9000_ l0) (h : laws_markIntSS.f k l0 a1 = some (r1, r2)) :
  Calls Try.prog 19 #[u9000_, .int .i64 a1] w fun e w' => e = .returned (.int .i64 r1) ∧ Kd.S (Kd.slice 3 (Kd.int .i64)) 22 w' w0.heap.size P0_ u9000_ r2 ∧ Below w0.heap.size w0 w' ∧ Kept w w' (fun k_ => P0_ k_) := by
 have HO0 := aM ho0
 have HK := aM (Kept.refl w (fun k_ => P0_ k_))
 have HB := aM hB
 clear hB ho0
 unfold laws_markIntSS.f at h
 have H := h
 clear h
 have H' := aM H
 clear H
 obtain ⟨Au, cu, eu⟩ := Kd.S_slice HO0.out
 subst eu
 obtain ⟨nu, hnu⟩ : ∃ z, l0.length = z := ⟨_, rfl⟩
 rw [hnu] at HO0 ⊢
 have HNU := aM hnu
 clear hnu
 go_enter Try.func19, Try.ntmps19
 go_wp2
 go_loopg [1, 5] k (fun kq v1 v5 w' => ∃ (x0_1 : List (List Int)) (x1_1 : Int) (x5_1 : Int), v1 = .int .i64 x1_1 ∧ v5 = .int .i64 x5_1 ∧ Aside0 (laws_markIntSS.l0 kq x0_1 x1_1 x5_1 = some (r1, r2)) ∧ Aside0 (kq ≤ k) ∧ Aside0 (Kd.S (Kd.slice 3 (Kd.int .i64)) 22 w' w0.heap.size P0_ (.slice Au nu cu) x0_1) ∧ Aside0 (Kept w w' (fun k_ => P0_ k_)) ∧ Aside0 (Below w0.heap.size w0 w'))
 case atStart => exact ⟨l0, a1, 0, rfl, rfl, H', ⟨Nat.le_refl _⟩, HO0, HK, HB⟩
 case round =>
  clear H' HO0 HK HB
  obtain ⟨x0_1, x1_1, x5_1, rfl, rfl, HA, HK1, HO, HK, HB⟩ := hrel
  cases gk with
  | zero => exact absurd HA.out (by simp [laws_markIntSS.l0])
  | succ k1 =>
   have H := HA.out
   clear HA
   simp only [laws_markIntSS.l0] at H
   have hn := (Kd.S_reads' HO.out).1
   by_cases c3 : x5_1 < (x0_1.length : Int)
   rotate_left
   ·rw [if_neg c3] at H
    simp only [Option.some.injEq, Prod.mk.injEq] at H
    obtain ⟨rfl, rfl⟩ := H
    have c5 : ¬ x5_1 < (nu : Int) := by omega
    have c5b := decide_eq_false c5
    clear hn
    go_wp2
    go_ret
    exact ⟨rfl, HO.out, HB.out, HK.out⟩
   rw [if_pos c3] at H
   replace H := iS H
   obtain ⟨c4, H⟩ := H
   replace H := Option.bind_eq_some_iff.mp H
   obtain ⟨⟨q1, q2⟩, A50, H⟩ := H
   have A5 := aM A50
   clear A50
   have H' := aM H
   clear H
   obtain ⟨g, cg, eg, _⟩ := Kd.S_form HO.out (by omega)
   have c5 : x5_1 < (nu : Int) := by omega
   have HN := aM hn
   clear hn
   injection eg with ea en ec
   subst ea ec
   clear en
   obtain ⟨oki, vr, hx, hR, hoki, hback⟩ := S_handed HO.out x5_1 c4 c5
   have HR := aM hR
   have HX := aM hback
   have HI := aM hoki
   clear hback hR hoki
   have c4b := decide_eq_true c4
   have c5b := decide_eq_true c5
   have c4t := eq_true c4
   have c5t := eq_true c5
   go_wp2_with (first | ((with_reducible refine gate_callee (f := 49) rfl ?_); refine goesL_ (some 17) rfl rfl Try.func49 (by kernel_rfl) rfl #[vr, .int .i64 x1_1] rfl (by (try simp only [List.map_toArray, List.map_cons, List.map_nil]); first | done | rfl) ?_; (with_reducible refine (laws_markIntS.calls k1 oki vr (rd_L1 x0_1 x5_1) x1_1 q1 q2 w0 _ ?side1 ?side2 A5.out).mono ?_); (case side1 => exact HB.out); (case side2 => exact HR.out); rintro e w2 ⟨rfl, hr2, hb2, hk2⟩; refine ⟨_, rfl, ?_⟩; have HO2 := aM (HX.out w2 q2 _ hk2 hr2); have HB2 := aM hb2; have HK2 := aM (HK.out.then_ hk2 (fun k hk => .inl (HI.out k hk))); clear hr2 hb2 hk2 HX HR HO HB HK))
   go_roundg k1
   case measure => have := HK1.out; omega
   case rel => exact ⟨_, q1, wrap64 (x5_1 + 1), rfl, qE, H', ⟨by have := HK1.out; omega⟩, HO2, HK2, HB2⟩
def laws_heldIntSS.l0 : Nat → List (List Int) → Int → Int → Option (Int)
 | 0, _, _, _ => none
 | k + 1, x0, x1, x5 => if x5 < (x0.length : Int) then (if 0 ≤ x5 then ((laws_heldIntS.f k (rd_L1 x0 x5) x1).bind fun t173 => (if t173 < 0 then (some (-1)) else (laws_heldIntSS.l0 k x0 t173 (wrap64 (x5 + 1))))) else (none)) else (some x1)
def laws_heldIntSS.f (k : Nat) (l0 : List (List Int)) (a1 : Int) : Option (Int) := laws_heldIntSS.l0 k l0 a1 0
theorem laws_heldIntSS.mono_l : ∀ k, (∀ y0 y1 y2, LeO (laws_heldIntSS.l0 k y0 y1 y2) (laws_heldIntSS.l0 (k + 1) y0 y1 y2))
 | 0 => fun _ _ _ r h => by simp [laws_heldIntSS.l0] at h
 | k + 1 => by
  have ih0 := laws_heldIntSS.mono_l k
  ·intro y0 y1 y2
   unfold laws_heldIntSS.l0
   repeat' first | (with_reducible first | exact ih0 _ _ _ | exact laws_heldIntS.mono _ _ _ | exact lR | exact lN | refine lI ?_ ?_ | refine lB ?_ fun _ => ?_) | exact ih0 _ _ _ | exact laws_heldIntS.mono _ _ _ | exact lN | refine lI ?_ ?_ | refine lB ?_ fun _ => ?_
theorem laws_heldIntSS.mono : ∀ a0 a1 k, LeO (laws_heldIntSS.f k a0 a1) (laws_heldIntSS.f (k + 1) a0 a1) := by
 intro a0 a1 k
 have ih0 := laws_heldIntSS.mono_l k
 unfold laws_heldIntSS.f
 repeat' first | (with_reducible first | exact ih0 _ _ _ | exact laws_heldIntS.mono _ _ _ | exact lR | exact lN | refine lI ?_ ?_ | refine lB ?_ fun _ => ?_) | exact ih0 _ _ _ | exact laws_heldIntS.mono _ _ _ | exact lN | refine lI ?_ ?_ | refine lB ?_ fun _ => ?_
set_option maxHeartbeats 8000000 in
set_option maxRecDepth 100000 in
theorem laws_heldIntSS.calls (k : Nat) (A0 : Option Addr) (c0 : Nat) (l0 : List (List Int)) (a1 : Int) (r : Int) (w : World) (hr0 : Kd.C (Kd.slice 3 (Kd.int .i64)) w A0 l0.length l0) (hc0 : l0.length ≤ c0) (h : laws_heldIntSS.f k l0 a1 = some r) :
  Calls Try.prog 20 #[.slice A0 l0.length c0, .int .i64 a1] w fun e w' => e = .returned (.int .i64 r) ∧ Drawn0 w w' := by
 have HR0 := aM hr0
 have HC0 := aM hc0
 clear hr0 hc0
 unfold laws_heldIntSS.f at h
 have H := h
 clear h
 have H' := aM H
 clear H
 go_enter Try.func20, Try.ntmps20
 go_wp2
 go_loopg [1, 5] k (fun kq v1 v5 w' => ∃ (x1_1 : Int) (x5_1 : Int), v1 = .int .i64 x1_1 ∧ v5 = .int .i64 x5_1 ∧ Aside0 (laws_heldIntSS.l0 kq l0 x1_1 x5_1 = some r) ∧ Aside0 (kq ≤ k) ∧ Drawn0 w w')
 case atStart => exact ⟨(a1), (0), qE, qE, H', ⟨Nat.le_refl _⟩, qD⟩
 case round =>
  clear H'
  obtain ⟨x1_1, x5_1, rfl, rfl, HA, HK1, ⟨m1, rfl⟩⟩ := hrel
  cases gk with
  | zero => exact absurd HA.out (by simp [laws_heldIntSS.l0])
  | succ k1 =>
   have H := HA.out
   clear HA
   simp only [laws_heldIntSS.l0] at H
   by_cases c3 : x5_1 < (l0.length : Int)
   rotate_left
   ·rw [if_neg c3] at H
    have c3b0 : decide (x5_1 < (l0.length : Int)) = false := decide_eq_false c3
    clear c3
    obtain rfl := Option.some.inj H
    go_wp2
    go_ret
    exact ⟨qE, qD⟩
   rw [if_pos c3] at H
   have c3b0 : decide (x5_1 < (l0.length : Int)) = true := decide_eq_true c3
   clear c3
   replace H := iD H
   obtain ⟨c4b0, H⟩ := H
   replace H := Option.bind_eq_some_iff.mp H
   obtain ⟨t173, A50, H⟩ := H
   replace H : (if t173 < 0 then (some (-1)) else (laws_heldIntSS.l0 k1 l0 t173 (wrap64 (x5_1 + 1)))) = some r := H
   have A5 := aM A50
   clear A50
   by_cases c6 : t173 < 0
   ·rw [if_pos c6] at H
    have c6b0 : decide (t173 < 0) = true := decide_eq_true c6
    clear c6
    obtain rfl := Option.some.inj H
    have p172 : 0 ≤ (x5_1 : Int) := oD
    have q172 : x5_1 < (l0.length : Int) := oD
    obtain ⟨ad172, A172_0, c172_0, e172, hx172_0, hl172_0, hi172_0⟩ := at_L1 HR0.out x5_1 p172 q172
    cases e172
    have HR172_0 := aM hi172_0
    have HC172_0 := aM hl172_0
    clear hi172_0 hl172_0
    replace p172 := eq_true p172
    replace q172 := eq_true q172
    go_wp2_with (first | ((with_reducible refine gate_callee (f := 50) rfl ?_); refine gL (some 17) Try.func50 #[.slice A172_0 (rd_L1 l0 x5_1).length c172_0, .int .i64 x1_1] ?_; (with_reducible refine (laws_heldIntS.calls k1 _ _ (rd_L1 l0 x5_1) x1_1 t173 _ ?side1 ?side2 A5.out).mono ?_); (case side1 => exact qC HR172_0.out); (case side2 => exact HC172_0.out); rintro e w' ⟨rfl, ⟨nd, rfl⟩⟩; refine ⟨_, rfl, ?_⟩))
    go_ret
    exact ⟨qE, qD⟩
   rw [if_neg c6] at H
   have c6b0 : decide (t173 < 0) = false := decide_eq_false c6
   clear c6
   have H' := aM H
   clear H
   have p172 : 0 ≤ (x5_1 : Int) := oD
   have q172 : x5_1 < (l0.length : Int) := oD
   obtain ⟨ad172, A172_0, c172_0, e172, hx172_0, hl172_0, hi172_0⟩ := at_L1 HR0.out x5_1 p172 q172
   cases e172
   have HR172_0 := aM hi172_0
   have HC172_0 := aM hl172_0
   clear hi172_0 hl172_0
   replace p172 := eq_true p172
   replace q172 := eq_true q172
   go_wp2_with (first | ((with_reducible refine gate_callee (f := 50) rfl ?_); refine gL (some 17) Try.func50 #[.slice A172_0 (rd_L1 l0 x5_1).length c172_0, .int .i64 x1_1] ?_; (with_reducible refine (laws_heldIntS.calls k1 _ _ (rd_L1 l0 x5_1) x1_1 t173 _ ?side1 ?side2 A5.out).mono ?_); (case side1 => exact qC HR172_0.out); (case side2 => exact HC172_0.out); rintro e w' ⟨rfl, ⟨nd, rfl⟩⟩; refine ⟨_, rfl, ?_⟩))
   go_roundg k1
   case measure => have := HK1.out; omega
   case rel => exact ⟨(t173), (wrap64 (x5_1 + 1)), qE, qE, H', ⟨by have := HK1.out; omega⟩, qD⟩
def laws_szImage.f (a0_0 : Int) (a0_1 : Int) (a0_2 : Int) (l0_3 : List Int) (a1 : Int) : Option (Int) := (laws_szIntS.f l0_3 a1).bind fun t102 => (if t102 < 0 then (some (-1)) else (some t102))
set_option maxHeartbeats 8000000 in
set_option maxRecDepth 100000 in
theorem laws_szImage.calls (a0_0 : Int) (a0_1 : Int) (a0_2 : Int) (A0_3 : Option Addr) (c0_3 : Nat) (l0_3 : List Int) (a1 : Int) (r : Int) (w : World) (hr0_3 : Kd.C (Kd.int .i64) w A0_3 l0_3.length l0_3) (hc0_3 : l0_3.length ≤ c0_3) (h : laws_szImage.f a0_0 a0_1 a0_2 l0_3 a1 = some r) :
  Calls Try.prog 12 #[.agg #[.int .i64 a0_0, .int .i64 a0_1, .int .i64 a0_2, .slice A0_3 l0_3.length c0_3], .int .i64 a1] w fun e w' => e = .returned (.int .i64 r) ∧ Below w.heap.size w w' := by
 have hu24 := Try.underlying24
 have HR0_3 := aM hr0_3
 have HC0_3 := aM hc0_3
 clear hr0_3 hc0_3
 have HB := aM (Below.refl w.heap.size w)
 unfold laws_szImage.f at h
 have H := h
 clear h
 replace H := Option.bind_eq_some_iff.mp H
 obtain ⟨t102, A30, H⟩ := H
 replace H : (if t102 < 0 then (some (-1)) else (some t102)) = some r := H
 have A3 := aM A30
 clear A30
 by_cases c4 : t102 < 0
 ·rw [if_pos c4] at H
  have c4b0 : decide (t102 < 0) = true := decide_eq_true c4
  clear c4
  obtain rfl := Option.some.inj H
  go_enter Try.func12, Try.ntmps12
  go_wp2_with (first | ((with_reducible refine gate_dst (N := 2) rfl ?_); refine bxE (N := 2) (cs := #[.int .i64 a0_0, .int .i64 a0_1, .int .i64 a0_2, .slice A0_3 l0_3.length c0_3]) (t := 24) ?_; intro gb101 hg w5 hbox hb; have BK101 := aM (hbox); have GW101 := gW hg HB; have GE101 := gW hg HB; replace HB := bS HB hb; clear hb hbox hg; obtain ⟨⟨hcz6_0, hcz6_1, hcz6_2, hcz6_3⟩, hfz6_0, hfz6_1, hfz6_2, hfz6_3⟩ := cf4 BK101) | ((with_reducible refine gate_callee (f := 39) rfl ?_); refine gL (some 8) Try.func39 #[.slice A0_3 l0_3.length c0_3, .int .i64 a1] ?_; (with_reducible refine (laws_szIntS.calls _ _ l0_3 a1 t102 _ ?side1 ?side2 A3.out).mono ?_); (case side1 => exact qC (Kd.C_below HR0_3.out HB.out)); (case side2 => exact HC0_3.out); rintro e w' ⟨rfl, ⟨nd, rfl⟩⟩; refine ⟨_, rfl, ?_⟩))
  go_ret
  exact ⟨qX, by exact qW HB.out⟩
 rw [if_neg c4] at H
 have c4b0 : decide (t102 < 0) = false := decide_eq_false c4
 clear c4
 obtain rfl := Option.some.inj H
 go_enter Try.func12, Try.ntmps12
 go_wp2_with (first | ((with_reducible refine gate_dst (N := 2) rfl ?_); refine bxE (N := 2) (cs := #[.int .i64 a0_0, .int .i64 a0_1, .int .i64 a0_2, .slice A0_3 l0_3.length c0_3]) (t := 24) ?_; intro gb101 hg w7 hbox hb; have BK101 := aM (hbox); have GW101 := gW hg HB; have GE101 := gW hg HB; replace HB := bS HB hb; clear hb hbox hg; obtain ⟨⟨hcz8_0, hcz8_1, hcz8_2, hcz8_3⟩, hfz8_0, hfz8_1, hfz8_2, hfz8_3⟩ := cf4 BK101) | ((with_reducible refine gate_callee (f := 39) rfl ?_); refine gL (some 8) Try.func39 #[.slice A0_3 l0_3.length c0_3, .int .i64 a1] ?_; (with_reducible refine (laws_szIntS.calls _ _ l0_3 a1 t102 _ ?side1 ?side2 A3.out).mono ?_); (case side1 => exact qC (Kd.C_below HR0_3.out HB.out)); (case side2 => exact HC0_3.out); rintro e w' ⟨rfl, ⟨nd, rfl⟩⟩; refine ⟨_, rfl, ?_⟩))
 go_ret
 exact ⟨qX, by exact qW HB.out⟩
def laws_toImage.f (k : Nat) (a0_0 : Int) (a0_1 : Int) (a0_2 : Int) (l0_3 : List Int) : Option (Int × Int × Int × List Int) := (laws_toIntS.f k l0_3).bind fun t149 => (some (a0_0, a0_1, a0_2, t149))
theorem laws_toImage.mono : ∀ a0 a1 a2 a3 k, LeO (laws_toImage.f k a0 a1 a2 a3) (laws_toImage.f (k + 1) a0 a1 a2 a3) := by
 intro a0 a1 a2 a3 k
 unfold laws_toImage.f
 repeat' first | (with_reducible first | exact laws_toIntS.mono _ _ | exact lR | exact lN | refine lI ?_ ?_ | refine lB ?_ fun _ => ?_) | exact laws_toIntS.mono _ _ | exact lN | refine lI ?_ ?_ | refine lB ?_ fun _ => ?_
set_option maxHeartbeats 8000000 in
set_option maxRecDepth 100000 in
theorem laws_toImage.calls (k : Nat) (a0_0 : Int) (a0_1 : Int) (a0_2 : Int) (A0_3 : Option Addr) (c0_3 : Nat) (l0_3 : List Int) (r1 : Int) (r2 : Int) (r3 : Int) (r4 : List Int) (w : World) (hr0_3 : Kd.C (Kd.int .i64) w A0_3 l0_3.length l0_3) (hc0_3 : l0_3.length ≤ c0_3) (h : laws_toImage.f k a0_0 a0_1 a0_2 l0_3 = some (r1, r2, r3, r4)) :
  Calls Try.prog 14 #[.agg #[.int .i64 a0_0, .int .i64 a0_1, .int .i64 a0_2, .slice A0_3 l0_3.length c0_3]] w fun e w' => ∃ v3_ : Value, e = .returned (.agg #[.int .i64 r1, .int .i64 r2, .int .i64 r3, v3_]) ∧ Kd.R (Kd.int .i64) 3 w' w.heap.size (fun _ => True) v3_ r4 ∧ Below w.heap.size w w' := by
 have hu24 := Try.underlying24
 have hu29 := Try.underlying29
 have HR0_3 := aM hr0_3
 have HC0_3 := aM hc0_3
 clear hr0_3 hc0_3
 have HB := aM (Below.refl w.heap.size w)
 unfold laws_toImage.f at h
 have H := h
 clear h
 replace H := Option.bind_eq_some_iff.mp H
 obtain ⟨t149, A20, H⟩ := H
 replace H : (some (a0_0, a0_1, a0_2, t149)) = some (r1, r2, r3, r4) := H
 have A2 := aM A20
 clear A20
 simp only [Option.some.injEq, Prod.mk.injEq] at H
 obtain ⟨rfl, rfl, rfl, rfl⟩ := H
 go_enter Try.func14, Try.ntmps14
 go_wp2_with (first | ((with_reducible refine gate_dst (N := 1) rfl ?_); refine bxE (N := 1) (cs := #[.int .i64 a0_0, .int .i64 a0_1, .int .i64 a0_2, .slice A0_3 l0_3.length c0_3]) (t := 24) ?_; intro gb146 hg w3 hbox hb; have BK146 := aM (hbox); have GW146 := gW hg HB; have GE146 := gW hg HB; replace HB := bS HB hb; clear hb hbox hg) | ((with_reducible refine gate_dst (N := 2) rfl ?_); refine bxE (N := 2) (cs := #[.int .i64 0, .int .i64 0, .int .i64 0, .slice none 0 0]) (t := 29) ?_; intro gb147 hg w4 hbox hb; have BK147 := aM (hbox); have GW147 := gW hg HB; have GE147 := gW hg HB; replace HB := bS HB hb; have NB146_147 := nL hg BK146; have NB147_146 := nG hg BK146; replace BK146 := bB BK146 hb; clear hb hbox hg) | ((with_reducible refine gate_dst (N := 3) rfl ?_); refine bxE (N := 3) (cs := #[.int .i64 0, .int .i64 0, .int .i64 0, .slice none 0 0]) (t := 29) ?_; intro gb148 hg w5 hbox hb; have BK148 := aM (hbox); have GW148 := gW hg HB; have GE148 := gW hg HB; replace HB := bS HB hb; have NB146_148 := nL hg BK146; have NB148_146 := nG hg BK146; replace BK146 := bB BK146 hb; have NB147_148 := nL hg BK147; have NB148_147 := nG hg BK147; replace BK147 := bB BK147 hb; clear hb hbox hg; have hnb6 := NB146_147.out; have hnc6 := NB147_146.out; have hnb7 := NB146_148.out; have hnc7 := NB148_146.out; obtain ⟨⟨hcz8_0, hcz8_1, hcz8_2, hcz8_3⟩, hfz8_0, hfz8_1, hfz8_2, hfz8_3⟩ := cf4 BK146; have hnb9 := NB148_147.out; have hnc9 := NB147_148.out; obtain ⟨⟨hcz10_0, hcz10_1, hcz10_2, hcz10_3⟩, hfz10_0, hfz10_1, hfz10_2, hfz10_3⟩ := cf4 BK148) | ((with_reducible refine gate_callee (f := 42) rfl ?_); refine gL (some 15) Try.func42 #[.slice A0_3 l0_3.length c0_3] ?_; (with_reducible refine (laws_toIntS.calls k _ _ l0_3 t149 _ ?side1 ?side2 A2.out).mono ?_); (case side1 => exact Kd.C_below HR0_3.out (qW HB.out)); (case side2 => exact HC0_3.out); rintro e w11 ⟨v150, rfl, ho0, hb⟩; refine ⟨_, rfl, ?_⟩; have HO151 := oR ho0 HB; replace BK146 := aM (blk_below (g := gb146) (o := .cells #[.int .i64 a0_0, .int .i64 a0_1, .int .i64 a0_2, .slice A0_3 l0_3.length c0_3] 24 (0, 0)) (by refine qB ?_; refine blk_far ?_ NB146_148.out _; refine qB ?_; refine blk_far ?_ NB146_148.out _; refine qB ?_; refine blk_far ?_ NB146_148.out _; refine qB ?_; exact BK146.out) hb); replace BK147 := aM (blk_below (g := gb147) (o := .cells #[.int .i64 0, .int .i64 0, .int .i64 0, .slice none 0 0] 29 (0, 0)) (by refine qB ?_; refine blk_far ?_ NB147_148.out _; refine qB ?_; refine blk_far ?_ NB147_148.out _; refine qB ?_; refine blk_far ?_ NB147_148.out _; refine qB ?_; exact BK147.out) hb); replace BK148 := aM (blk_below (g := gb148) (o := .cells #[.int .i64 a0_0, .int .i64 a0_1, .int .i64 a0_2, .slice none 0 0] 29 (0, 0)) (by exact bP BK148.out) hb); replace HB := bS HB hb; clear hb ho0; obtain ⟨Ao12, co12, rfl⟩ := sL HO151; obtain ⟨⟨hcz13_0, hcz13_1, hcz13_2, hcz13_3⟩, hfz13_0, hfz13_1, hfz13_2, hfz13_3⟩ := cf4 BK148; obtain ⟨⟨hcz14_0, hcz14_1, hcz14_2, hcz14_3⟩, hfz14_0, hfz14_1, hfz14_2, hfz14_3⟩ := cf4 BK147))
 refine bodyPost_ret (results_cell_row rfl _ _ gb147 29 #[.int .i64 a0_0, .int .i64 a0_1, .int .i64 a0_2, .slice Ao12 t149.length co12] (0, 0) _ rfl (by refine qB ?_; refine blk_put (cs := #[.int .i64 a0_0, .int .i64 a0_1, .int .i64 a0_2, .slice none 0 0]) ?_ 3 _ rfl; refine qB ?_; refine blk_put (cs := #[.int .i64 a0_0, .int .i64 a0_1, .int .i64 0, .slice none 0 0]) ?_ 2 _ rfl; refine qB ?_; refine blk_put (cs := #[.int .i64 a0_0, .int .i64 0, .int .i64 0, .slice none 0 0]) ?_ 1 _ rfl; refine qB ?_; refine blk_put (cs := #[.int .i64 0, .int .i64 0, .int .i64 0, .slice none 0 0]) ?_ 0 _ rfl; refine qB ?_; refine blk_far ?_ NB147_148.out _; refine qB ?_; exact BK147.out) Try.underlying29 rfl (by kernel_rfl)) rfl ?_
 exact ⟨_, qX, by refine qR ?_; exact Kd.R_mono (Kd.R_far (p := ⟨gb147, 3, none⟩) (Kd.R_far (p := ⟨gb147, 2, none⟩) (Kd.R_far (p := ⟨gb147, 1, none⟩) (Kd.R_far (p := ⟨gb147, 0, none⟩) (Kd.R_far (p := ⟨gb148, 3, none⟩) (Kd.R_types (Kd.R_types HO151.out BK148.out (by decide)) BK147.out (by decide)) (fun _ hk => hk.1.2) (.slice Ao12 t149.length co12)) (fun _ hk => hk.2) (.int .i64 a0_0)) (fun _ hk => hk.2) (.int .i64 a0_1)) (fun _ hk => hk.2) (.int .i64 a0_2)) (fun _ hk => hk.2) (.slice Ao12 t149.length co12)) (fun _ hk => trivial), by exact qW HB.out⟩
def laws_eqImage.f (k : Nat) (a0_0 : Int) (a0_1 : Int) (a0_2 : Int) (l0_3 : List Int) (a1_0 : Int) (a1_1 : Int) (a1_2 : Int) (l1_3 : List Int) : Option (Bool) := if a0_0 = a1_0 then (if a0_1 = a1_1 then (if a0_2 = a1_2 then ((laws_eqIntS.f k l0_3 l1_3).bind fun t166 => (if t166 = true then (some true) else (some false))) else (some false)) else (some false)) else (some false)
theorem laws_eqImage.mono : ∀ a0 a1 a2 a3 a4 a5 a6 a7 k, LeO (laws_eqImage.f k a0 a1 a2 a3 a4 a5 a6 a7) (laws_eqImage.f (k + 1) a0 a1 a2 a3 a4 a5 a6 a7) := by
 intro a0 a1 a2 a3 a4 a5 a6 a7 k
 unfold laws_eqImage.f
 repeat' first | (with_reducible first | exact laws_eqIntS.mono _ _ _ | exact lR | exact lN | refine lI ?_ ?_ | refine lB ?_ fun _ => ?_) | exact laws_eqIntS.mono _ _ _ | exact lN | refine lI ?_ ?_ | refine lB ?_ fun _ => ?_
set_option maxHeartbeats 8000000 in
set_option maxRecDepth 100000 in
theorem laws_eqImage.calls (k : Nat) (a0_0 : Int) (a0_1 : Int) (a0_2 : Int) (A0_3 : Option Addr) (c0_3 : Nat) (l0_3 : List Int) (a1_0 : Int) (a1_1 : Int) (a1_2 : Int) (A1_3 : Option Addr) (c1_3 : Nat) (l1_3 : List Int) (r : Bool) (w : World) (hr0_3 : Kd.C (Kd.int .i64) w A0_3 l0_3.length l0_3) (hc0_3 : l0_3.length ≤ c0_3) (hr1_3 : Kd.C (Kd.int .i64) w A1_3 l1_3.length l1_3) (hc1_3 : l1_3.length ≤ c1_3) (h : laws_eqImage.f k a0_0 a0_1 a0_2 l0_3 a1_0 a1_1 a1_2 l1_3 = some r) :
  Calls Try.prog 17 #[.agg #[.int .i64 a0_0, .int .i64 a0_1, .int .i64 a0_2, .slice A0_3 l0_3.length c0_3], .agg #[.int .i64 a1_0, .int .i64 a1_1, .int .i64 a1_2, .slice A1_3 l1_3.length c1_3]] w fun e w' => e = .returned (.bool r) ∧ Below w.heap.size w w' := by
 have hu29 := Try.underlying29
 have HR0_3 := aM hr0_3
 have HC0_3 := aM hc0_3
 clear hr0_3 hc0_3
 have HR1_3 := aM hr1_3
 have HC1_3 := aM hc1_3
 clear hr1_3 hc1_3
 have HB := aM (Below.refl w.heap.size w)
 unfold laws_eqImage.f at h
 have H := h
 clear h
 by_cases c3 : a0_0 = a1_0
 rotate_left
 ·rw [if_neg c3] at H
  have c3b0 : (a0_0 == a1_0) = false := beq_eq_false_iff_ne.mpr c3
  have c3b1 : (a0_0 != a1_0) = true := bne_iff_ne.mpr c3
  obtain rfl := Option.some.inj H
  go_enter Try.func17, Try.ntmps17
  go_wp2_with (first | ((with_reducible refine gate_dst (N := 2) rfl ?_); refine bxE (N := 2) (cs := #[.int .i64 a0_0, .int .i64 a0_1, .int .i64 a0_2, .slice A0_3 l0_3.length c0_3]) (t := 29) ?_; intro gb164 hg w28 hbox hb; have BK164 := aM (hbox); have GW164 := gW hg HB; have GE164 := gW hg HB; replace HB := bS HB hb; clear hb hbox hg) | ((with_reducible refine gate_dst (N := 3) rfl ?_); refine bxE (N := 3) (cs := #[.int .i64 a1_0, .int .i64 a1_1, .int .i64 a1_2, .slice A1_3 l1_3.length c1_3]) (t := 29) ?_; intro gb165 hg w29 hbox hb; have BK165 := aM (hbox); have GW165 := gW hg HB; have GE165 := gW hg HB; replace HB := bS HB hb; have NB164_165 := nL hg BK164; have NB165_164 := nG hg BK164; replace BK164 := bB BK164 hb; clear hb hbox hg; have hnb30 := NB164_165.out; have hnc30 := NB165_164.out; obtain ⟨⟨hcz31_0, hcz31_1, hcz31_2, hcz31_3⟩, hfz31_0, hfz31_1, hfz31_2, hfz31_3⟩ := cf4 BK164; obtain ⟨⟨hcz32_0, hcz32_1, hcz32_2, hcz32_3⟩, hfz32_0, hfz32_1, hfz32_2, hfz32_3⟩ := cf4 BK165))
  go_ret
  exact ⟨qX, by exact qW HB.out⟩
 rw [if_pos c3] at H
 have c3b0 : (a0_0 == a1_0) = true := beq_iff_eq.mpr c3
 have c3b1 : (a0_0 != a1_0) = false := bne_eq_false_iff_eq.mpr c3
 clear c3
 by_cases c4 : a0_1 = a1_1
 rotate_left
 ·rw [if_neg c4] at H
  have c4b0 : (a0_1 == a1_1) = false := beq_eq_false_iff_ne.mpr c4
  have c4b1 : (a0_1 != a1_1) = true := bne_iff_ne.mpr c4
  obtain rfl := Option.some.inj H
  go_enter Try.func17, Try.ntmps17
  go_wp2_with (first | ((with_reducible refine gate_dst (N := 2) rfl ?_); refine bxE (N := 2) (cs := #[.int .i64 a0_0, .int .i64 a0_1, .int .i64 a0_2, .slice A0_3 l0_3.length c0_3]) (t := 29) ?_; intro gb164 hg w23 hbox hb; have BK164 := aM (hbox); have GW164 := gW hg HB; have GE164 := gW hg HB; replace HB := bS HB hb; clear hb hbox hg) | ((with_reducible refine gate_dst (N := 3) rfl ?_); refine bxE (N := 3) (cs := #[.int .i64 a1_0, .int .i64 a1_1, .int .i64 a1_2, .slice A1_3 l1_3.length c1_3]) (t := 29) ?_; intro gb165 hg w24 hbox hb; have BK165 := aM (hbox); have GW165 := gW hg HB; have GE165 := gW hg HB; replace HB := bS HB hb; have NB164_165 := nL hg BK164; have NB165_164 := nG hg BK164; replace BK164 := bB BK164 hb; clear hb hbox hg; have hnb25 := NB164_165.out; have hnc25 := NB165_164.out; obtain ⟨⟨hcz26_0, hcz26_1, hcz26_2, hcz26_3⟩, hfz26_0, hfz26_1, hfz26_2, hfz26_3⟩ := cf4 BK164; obtain ⟨⟨hcz27_0, hcz27_1, hcz27_2, hcz27_3⟩, hfz27_0, hfz27_1, hfz27_2, hfz27_3⟩ := cf4 BK165))
  go_ret
  exact ⟨qX, by exact qW HB.out⟩
 rw [if_pos c4] at H
 have c4b0 : (a0_1 == a1_1) = true := beq_iff_eq.mpr c4
 have c4b1 : (a0_1 != a1_1) = false := bne_eq_false_iff_eq.mpr c4
 clear c4
 by_cases c5 : a0_2 = a1_2
 rotate_left
 ·rw [if_neg c5] at H
  have c5b0 : (a0_2 == a1_2) = false := beq_eq_false_iff_ne.mpr c5
  have c5b1 : (a0_2 != a1_2) = true := bne_iff_ne.mpr c5
  obtain rfl := Option.some.inj H
  go_enter Try.func17, Try.ntmps17
  go_wp2_with (first | ((with_reducible refine gate_dst (N := 2) rfl ?_); refine bxE (N := 2) (cs := #[.int .i64 a0_0, .int .i64 a0_1, .int .i64 a0_2, .slice A0_3 l0_3.length c0_3]) (t := 29) ?_; intro gb164 hg w18 hbox hb; have BK164 := aM (hbox); have GW164 := gW hg HB; have GE164 := gW hg HB; replace HB := bS HB hb; clear hb hbox hg) | ((with_reducible refine gate_dst (N := 3) rfl ?_); refine bxE (N := 3) (cs := #[.int .i64 a1_0, .int .i64 a1_1, .int .i64 a1_2, .slice A1_3 l1_3.length c1_3]) (t := 29) ?_; intro gb165 hg w19 hbox hb; have BK165 := aM (hbox); have GW165 := gW hg HB; have GE165 := gW hg HB; replace HB := bS HB hb; have NB164_165 := nL hg BK164; have NB165_164 := nG hg BK164; replace BK164 := bB BK164 hb; clear hb hbox hg; have hnb20 := NB164_165.out; have hnc20 := NB165_164.out; obtain ⟨⟨hcz21_0, hcz21_1, hcz21_2, hcz21_3⟩, hfz21_0, hfz21_1, hfz21_2, hfz21_3⟩ := cf4 BK164; obtain ⟨⟨hcz22_0, hcz22_1, hcz22_2, hcz22_3⟩, hfz22_0, hfz22_1, hfz22_2, hfz22_3⟩ := cf4 BK165))
  go_ret
  exact ⟨qX, by exact qW HB.out⟩
 rw [if_pos c5] at H
 have c5b0 : (a0_2 == a1_2) = true := beq_iff_eq.mpr c5
 have c5b1 : (a0_2 != a1_2) = false := bne_eq_false_iff_eq.mpr c5
 clear c5
 replace H := Option.bind_eq_some_iff.mp H
 obtain ⟨t166, A60, H⟩ := H
 replace H : (if t166 = true then (some true) else (some false)) = some r := H
 have A6 := aM A60
 clear A60
 by_cases c7 : t166 = true
 ·subst c7
  have H1 : (some true) = some r := by rw [if_pos rfl] at H; exact H
  clear H
  have H := H1
  clear H1
  obtain rfl := Option.some.inj H
  go_enter Try.func17, Try.ntmps17
  go_wp2_with (first | ((with_reducible refine gate_dst (N := 2) rfl ?_); refine bxE (N := 2) (cs := #[.int .i64 a0_0, .int .i64 a0_1, .int .i64 a0_2, .slice A0_3 l0_3.length c0_3]) (t := 29) ?_; intro gb164 hg w8 hbox hb; have BK164 := aM (hbox); have GW164 := gW hg HB; have GE164 := gW hg HB; replace HB := bS HB hb; clear hb hbox hg) | ((with_reducible refine gate_dst (N := 3) rfl ?_); refine bxE (N := 3) (cs := #[.int .i64 a1_0, .int .i64 a1_1, .int .i64 a1_2, .slice A1_3 l1_3.length c1_3]) (t := 29) ?_; intro gb165 hg w9 hbox hb; have BK165 := aM (hbox); have GW165 := gW hg HB; have GE165 := gW hg HB; replace HB := bS HB hb; have NB164_165 := nL hg BK164; have NB165_164 := nG hg BK164; replace BK164 := bB BK164 hb; clear hb hbox hg; have hnb10 := NB164_165.out; have hnc10 := NB165_164.out; obtain ⟨⟨hcz11_0, hcz11_1, hcz11_2, hcz11_3⟩, hfz11_0, hfz11_1, hfz11_2, hfz11_3⟩ := cf4 BK164; obtain ⟨⟨hcz12_0, hcz12_1, hcz12_2, hcz12_3⟩, hfz12_0, hfz12_1, hfz12_2, hfz12_3⟩ := cf4 BK165) | ((with_reducible refine gate_callee (f := 48) rfl ?_); refine gL (some 24) Try.func48 #[.slice A0_3 l0_3.length c0_3, .slice A1_3 l1_3.length c1_3] ?_; (with_reducible refine (laws_eqIntS.calls k _ _ l0_3 _ _ l1_3 true _ ?side1 ?side2 ?side3 ?side4 A6.out).mono ?_); (case side1 => exact qC (Kd.C_below HR0_3.out HB.out)); (case side2 => exact HC0_3.out); (case side3 => exact qC (Kd.C_below HR1_3.out HB.out)); (case side4 => exact HC1_3.out); rintro e w' ⟨rfl, ⟨nd, rfl⟩⟩; refine ⟨_, rfl, ?_⟩))
  go_ret
  exact ⟨qX, by exact qW HB.out⟩
 replace c7 := Bool.eq_false_iff.mpr c7
 subst c7
 have H1 : (some false) = some r := by rw [if_neg (show ¬ (false = true) by decide)] at H; exact H
 clear H
 have H := H1
 clear H1
 obtain rfl := Option.some.inj H
 go_enter Try.func17, Try.ntmps17
 go_wp2_with (first | ((with_reducible refine gate_dst (N := 2) rfl ?_); refine bxE (N := 2) (cs := #[.int .i64 a0_0, .int .i64 a0_1, .int .i64 a0_2, .slice A0_3 l0_3.length c0_3]) (t := 29) ?_; intro gb164 hg w13 hbox hb; have BK164 := aM (hbox); have GW164 := gW hg HB; have GE164 := gW hg HB; replace HB := bS HB hb; clear hb hbox hg) | ((with_reducible refine gate_dst (N := 3) rfl ?_); refine bxE (N := 3) (cs := #[.int .i64 a1_0, .int .i64 a1_1, .int .i64 a1_2, .slice A1_3 l1_3.length c1_3]) (t := 29) ?_; intro gb165 hg w14 hbox hb; have BK165 := aM (hbox); have GW165 := gW hg HB; have GE165 := gW hg HB; replace HB := bS HB hb; have NB164_165 := nL hg BK164; have NB165_164 := nG hg BK164; replace BK164 := bB BK164 hb; clear hb hbox hg; have hnb15 := NB164_165.out; have hnc15 := NB165_164.out; obtain ⟨⟨hcz16_0, hcz16_1, hcz16_2, hcz16_3⟩, hfz16_0, hfz16_1, hfz16_2, hfz16_3⟩ := cf4 BK164; obtain ⟨⟨hcz17_0, hcz17_1, hcz17_2, hcz17_3⟩, hfz17_0, hfz17_1, hfz17_2, hfz17_3⟩ := cf4 BK165) | ((with_reducible refine gate_callee (f := 48) rfl ?_); refine gL (some 24) Try.func48 #[.slice A0_3 l0_3.length c0_3, .slice A1_3 l1_3.length c1_3] ?_; (with_reducible refine (laws_eqIntS.calls k _ _ l0_3 _ _ l1_3 false _ ?side1 ?side2 ?side3 ?side4 A6.out).mono ?_); (case side1 => exact qC (Kd.C_below HR0_3.out HB.out)); (case side2 => exact HC0_3.out); (case side3 => exact qC (Kd.C_below HR1_3.out HB.out)); (case side4 => exact HC1_3.out); rintro e w' ⟨rfl, ⟨nd, rfl⟩⟩; refine ⟨_, rfl, ?_⟩))
 go_ret
 exact ⟨qX, by exact qW HB.out⟩
def laws_markImage.f (k : Nat) (a0_0 : Int) (a0_1 : Int) (a0_2 : Int) (l0_3 : List Int) (a1 : Int) : Option (Int × List Int) := (laws_markIntS.f k l0_3 a1).bind fun bt169 => (some (bt169.1, bt169.2))
theorem laws_markImage.mono : ∀ a0 a1 a2 a3 a4 k, LeO (laws_markImage.f k a0 a1 a2 a3 a4) (laws_markImage.f (k + 1) a0 a1 a2 a3 a4) := by
 intro a0 a1 a2 a3 a4 k
 unfold laws_markImage.f
 repeat' first | (with_reducible first | exact laws_markIntS.mono _ _ _ | exact lR | exact lN | refine lI ?_ ?_ | refine lB ?_ fun _ => ?_) | exact laws_markIntS.mono _ _ _ | exact lN | refine lI ?_ ?_ | refine lB ?_ fun _ => ?_
set_option maxHeartbeats 8000000 in
set_option maxRecDepth 100000 in
theorem laws_markImage.calls (k : Nat) (a0_0 : Int) (a0_1 : Int) (a0_2 : Int) (P0_3_ : Nat → Prop) (u9000_ : Value) (l0_3 : List Int) (a1 : Int) (r1 : Int) (r2 : List Int) (w0 w : World) (hB : Below w0.heap.size w0 w) (ho0_3 : Kd.R (Kd.int .i64) 3 w w0.heap.size P0_3_ u9000_ l0_3) (h : laws_markImage.f k a0_0 a0_1 a0_2 l0_3 a1 = some (r1, r2)) :
  Calls Try.prog 18 #[.agg #[.int .i64 a0_0, .int .i64 a0_1, .int .i64 a0_2, u9000_], .int .i64 a1] w fun e w' => e = .returned (.int .i64 r1) ∧ Kd.R (Kd.int .i64) 3 w' w0.heap.size (fun k_ => (P0_3_ k_ ∨ w.heap.size ≤ k_)) u9000_ r2 ∧ Below w0.heap.size w0 w' ∧ Kept w w' (fun k_ => P0_3_ k_) := by
 have hu29 := Try.underlying29
 have HO0_3 := aM (show Kd.R (Kd.int .i64) 3 w w0.heap.size (fun k_ => (P0_3_ k_ ∨ w.heap.size ≤ k_)) u9000_ l0_3 from Kd.R_mono ho0_3 (fun k_ hk => (.inl hk)))
 have HK := aM (Kept.refl w (fun k_ => P0_3_ k_))
 have HW0 := aM hB.size
 have HB := aM hB
 clear hB
 unfold laws_markImage.f at h
 have H := h
 clear h
 replace H := Option.bind_eq_some_iff.mp H
 obtain ⟨⟨t169, t170⟩, A30, H⟩ := H
 replace H : (some (t169, t170)) = some (r1, r2) := H
 have A3 := aM A30
 clear A30
 simp only [Option.some.injEq, Prod.mk.injEq] at H
 obtain ⟨rfl, rfl⟩ := H
 obtain ⟨Ao4, co4, rfl⟩ := sL HO0_3
 go_enter Try.func18, Try.ntmps18
 go_wp2_with (first | ((with_reducible refine gate_dst (N := 2) rfl ?_); refine bxE (N := 2) (cs := #[.int .i64 a0_0, .int .i64 a0_1, .int .i64 a0_2, .slice Ao4 l0_3.length co4]) (t := 29) ?_; intro gb168 hg w5 hbox hb; replace HO0_3 := aM (Kd.R_below (qR HO0_3.out) hb); have BK168 := aM (hbox); have GW168 := aM ((by rw [hg]; exact (by first | exact HK.out.1 | exact (show Kept w _ (fun k_ => P0_3_ k_) from kP HK.out).1) : w.heap.size ≤ gb168)); replace HK := aM (Kept.below (S := (fun k_ => P0_3_ k_)) (kP HK.out) hb); have GE168 := aM ((by rw [hg]; exact (below_size (qW HB.out)) : w0.heap.size ≤ gb168)); replace HB := bS HB hb; clear hb hbox hg; obtain ⟨⟨hcz6_0, hcz6_1, hcz6_2, hcz6_3⟩, hfz6_0, hfz6_1, hfz6_2, hfz6_3⟩ := cf4 BK168) | ((with_reducible refine gate_callee (f := 49) rfl ?_); refine gL (some 8) Try.func49 #[.slice Ao4 l0_3.length co4, .int .i64 a1] ?_; (with_reducible refine (laws_markIntS.calls k (fun k_ => some k_ = (.slice Ao4 l0_3.length co4 : Value).ownBlock) (.slice Ao4 l0_3.length co4) l0_3 a1 t169 t170 w0 _ ?side1 ?side2 A3.out).mono ?_); (case side1 => exact qW HB.out); (case side2 => exact Kd.R_tight rfl HO0_3.out); rintro e w7 ⟨rfl, hy0, hb, hkp⟩; refine ⟨_, rfl, ?_⟩; replace BK168 := aM (blk_kept (qB BK168.out) hkp (fun hs_ => (fun e_ => (Kd.R_ne HO0_3.out BK168.out (by decide)) e_) hs_)); replace HK := aM (Kept.then_ (S := (fun k_ => P0_3_ k_)) (kP HK.out) hkp (fun k_ hs_ => (fun e_ => (HO0_3.out.1 k_ e_.symm)) hs_)); replace HO0_3 := aM (Kd.R_reok rfl hy0 (fun k_ e_ => HO0_3.out.1 k_ e_)); replace HB := aM (hb); clear hb hkp hy0))
 go_ret
 exact ⟨qX, by refine qR ?_; exact HO0_3.out, by exact qW HB.out, kP HK.out⟩
def laws_heldImage.f (k : Nat) (a0_0 : Int) (a0_1 : Int) (a0_2 : Int) (l0_3 : List Int) (a1 : Int) : Option (Int) := (laws_heldIntS.f k l0_3 a1).bind fun t411 => (if t411 < 0 then (some (-1)) else (some t411))
theorem laws_heldImage.mono : ∀ a0 a1 a2 a3 a4 k, LeO (laws_heldImage.f k a0 a1 a2 a3 a4) (laws_heldImage.f (k + 1) a0 a1 a2 a3 a4) := by
 intro a0 a1 a2 a3 a4 k
 unfold laws_heldImage.f
 repeat' first | (with_reducible first | exact laws_heldIntS.mono _ _ _ | exact lR | exact lN | refine lI ?_ ?_ | refine lB ?_ fun _ => ?_) | exact laws_heldIntS.mono _ _ _ | exact lN | refine lI ?_ ?_ | refine lB ?_ fun _ => ?_
set_option maxHeartbeats 8000000 in
set_option maxRecDepth 100000 in
theorem laws_heldImage.calls (k : Nat) (a0_0 : Int) (a0_1 : Int) (a0_2 : Int) (A0_3 : Option Addr) (c0_3 : Nat) (l0_3 : List Int) (a1 : Int) (r : Int) (w : World) (hr0_3 : Kd.C (Kd.int .i64) w A0_3 l0_3.length l0_3) (hc0_3 : l0_3.length ≤ c0_3) (h : laws_heldImage.f k a0_0 a0_1 a0_2 l0_3 a1 = some r) :
  Calls Try.prog 31 #[.agg #[.int .i64 a0_0, .int .i64 a0_1, .int .i64 a0_2, .slice A0_3 l0_3.length c0_3], .int .i64 a1] w fun e w' => e = .returned (.int .i64 r) ∧ Below w.heap.size w w' := by
 have hu29 := Try.underlying29
 have HR0_3 := aM hr0_3
 have HC0_3 := aM hc0_3
 clear hr0_3 hc0_3
 have HB := aM (Below.refl w.heap.size w)
 unfold laws_heldImage.f at h
 have H := h
 clear h
 replace H := Option.bind_eq_some_iff.mp H
 obtain ⟨t411, A30, H⟩ := H
 replace H : (if t411 < 0 then (some (-1)) else (some t411)) = some r := H
 have A3 := aM A30
 clear A30
 by_cases c4 : t411 < 0
 ·rw [if_pos c4] at H
  have c4b0 : decide (t411 < 0) = true := decide_eq_true c4
  clear c4
  obtain rfl := Option.some.inj H
  go_enter Try.func31, Try.ntmps31
  go_wp2_with (first | ((with_reducible refine gate_dst (N := 2) rfl ?_); refine bxE (N := 2) (cs := #[.int .i64 a0_0, .int .i64 a0_1, .int .i64 a0_2, .slice A0_3 l0_3.length c0_3]) (t := 29) ?_; intro gb410 hg w5 hbox hb; have BK410 := aM (hbox); have GW410 := gW hg HB; have GE410 := gW hg HB; replace HB := bS HB hb; clear hb hbox hg; obtain ⟨⟨hcz6_0, hcz6_1, hcz6_2, hcz6_3⟩, hfz6_0, hfz6_1, hfz6_2, hfz6_3⟩ := cf4 BK410) | ((with_reducible refine gate_callee (f := 50) rfl ?_); refine gL (some 8) Try.func50 #[.slice A0_3 l0_3.length c0_3, .int .i64 a1] ?_; (with_reducible refine (laws_heldIntS.calls k _ _ l0_3 a1 t411 _ ?side1 ?side2 A3.out).mono ?_); (case side1 => exact qC (Kd.C_below HR0_3.out HB.out)); (case side2 => exact HC0_3.out); rintro e w' ⟨rfl, ⟨nd, rfl⟩⟩; refine ⟨_, rfl, ?_⟩))
  go_ret
  exact ⟨qX, by exact qW HB.out⟩
 rw [if_neg c4] at H
 have c4b0 : decide (t411 < 0) = false := decide_eq_false c4
 clear c4
 obtain rfl := Option.some.inj H
 go_enter Try.func31, Try.ntmps31
 go_wp2_with (first | ((with_reducible refine gate_dst (N := 2) rfl ?_); refine bxE (N := 2) (cs := #[.int .i64 a0_0, .int .i64 a0_1, .int .i64 a0_2, .slice A0_3 l0_3.length c0_3]) (t := 29) ?_; intro gb410 hg w7 hbox hb; have BK410 := aM (hbox); have GW410 := gW hg HB; have GE410 := gW hg HB; replace HB := bS HB hb; clear hb hbox hg; obtain ⟨⟨hcz8_0, hcz8_1, hcz8_2, hcz8_3⟩, hfz8_0, hfz8_1, hfz8_2, hfz8_3⟩ := cf4 BK410) | ((with_reducible refine gate_callee (f := 50) rfl ?_); refine gL (some 8) Try.func50 #[.slice A0_3 l0_3.length c0_3, .int .i64 a1] ?_; (with_reducible refine (laws_heldIntS.calls k _ _ l0_3 a1 t411 _ ?side1 ?side2 A3.out).mono ?_); (case side1 => exact qC (Kd.C_below HR0_3.out HB.out)); (case side2 => exact HC0_3.out); rintro e w' ⟨rfl, ⟨nd, rfl⟩⟩; refine ⟨_, rfl, ?_⟩))
 go_ret
 exact ⟨qX, by exact qW HB.out⟩
theorem S_elderL {α : Type} {d : Kd α} {e base : Nat} {W : World} {ok : Nat → Prop} {v : Value} {xs : List α} (h : Kd.S d e W base ok v xs) (a : Nat) (ha : W.heap.size ≤ a) : Kd.S d e W base (fun k => ok k ∧ k < a) v xs := Kd.S_mono (Kd.S_bound h) (fun k hk => ⟨hk.1, by have := hk.2.2.1; omega⟩)
theorem S_newG {α : Type} {d : Kd α} {e g : Nat} {W w1 : World} {ok : Nat → Prop} {v : Value} {xs : List α} {o : Obj} (h : Kd.S d e w1 W.heap.size ok v xs) (hb : W.heap[g]? = some o) : Kd.S d e w1 W.heap.size (fun k => ok k ∧ g < k) v xs := Kd.S_mono (Kd.S_bound h) (fun k hk => ⟨hk.1, by have := blk_lt hb; have := hk.2.1; omega⟩)
mutual
def laws_FnExactPaletteOf.j0 : Nat → List (List Int) → Bool → List (List Int) → Bool → Bool → Int → Int → Int → List Int → Int → Int → Int → List Int → Option (Bool)
 | 0, _, _, _, _, _, _, _, _, _, _, _, _, _ => none
 | k + 1, x4, x5, x7, x8, x40, x175000, x175001, x175002, x175003, x193000, x193001, x193002, x193003 => if x40 = true then (some false) else ((laws_toImage.f k x175000 x175001 x175002 x175003).bind fun bt198 => ((laws_eqImage.f k x193000 x193001 x193002 x193003 bt198.1 bt198.2.1 bt198.2.2.1 bt198.2.2.2).bind fun t204 => (if t204 = true then ((laws_markImage.f k x193000 x193001 x193002 x193003 1).bind fun bt205 => (if bt205.1 < 0 then (laws_FnExactPaletteOf.j1 k x4 x5 x7 true x175000 x175001 x175002 x175003) else ((laws_eqIntSS.f k x7 x4).bind fun t207 => (if t207 = true then (laws_FnExactPaletteOf.j1 k x4 x5 x7 (x8 != x5) x175000 x175001 x175002 x175003) else (laws_FnExactPaletteOf.j1 k x4 x5 x7 true x175000 x175001 x175002 x175003))))) else (some false))))
def laws_FnExactPaletteOf.j1 : Nat → List (List Int) → Bool → List (List Int) → Bool → Int → Int → Int → List Int → Option (Bool)
 | 0, _, _, _, _, _, _, _, _ => none
 | k + 1, x4, x5, x7, x61, x175000, x175001, x175002, x175003 => if x61 = true then (some false) else ((laws_markIntSS.f k x7 1).bind fun bt208 => ((laws_heldIntSS.f k bt208.2 1).bind fun t210 => (if t210 < 0 then (some false) else (if t210 = bt208.1 then ((laws_toImage.f k x175000 x175001 x175002 x175003).bind fun bt211 => ((impl_PaletteOf.f bt211.1 bt211.2.1 bt211.2.2.1 bt211.2.2.2).bind fun bt217 => ((laws_eqIntSS.f k bt217.1 x4).bind fun t221 => (if t221 = true then (laws_FnExactPaletteOf.j2 k bt208.2 bt208.1 (bt217.2 != x5)) else (laws_FnExactPaletteOf.j2 k bt208.2 bt208.1 true))))) else (some false)))))
def laws_FnExactPaletteOf.j2 : Nat → List (List Int) → Int → Bool → Option (Bool)
 | 0, _, _, _ => none
 | k + 1, x7, x10, x87 => if x87 = true then (some false) else ((laws_heldIntSS.f k x7 1).bind fun t222 => (if t222 < 0 then (some false) else (if t222 = x10 then (some true) else (some false))))
end
def laws_FnExactPaletteOf.f (k : Nat) (a0_0 : Int) (a0_1 : Int) (a0_2 : Int) (l0_3 : List Int) : Option (Bool) := (laws_szImage.f a0_0 a0_1 a0_2 l0_3 1048576).bind fun t175 => (if t175 < 0 then (some true) else ((laws_toImage.f k a0_0 a0_1 a0_2 l0_3).bind fun bt176 => ((spec_PaletteOf.f k bt176.1 bt176.2.1 bt176.2.2.1 bt176.2.2.2).bind fun bt182 => ((laws_toImage.f k a0_0 a0_1 a0_2 l0_3).bind fun bt186 => ((impl_PaletteOf.f bt186.1 bt186.2.1 bt186.2.2.1 bt186.2.2.2).bind fun bt193 => ((laws_eqIntSS.f k bt193.1 bt182.1).bind fun t197 => (if t197 = true then (laws_FnExactPaletteOf.j0 k bt182.1 bt182.2 bt193.1 bt193.2 (bt193.2 != bt182.2) a0_0 a0_1 a0_2 l0_3 bt186.1 bt186.2.1 bt186.2.2.1 bt186.2.2.2) else (laws_FnExactPaletteOf.j0 k bt182.1 bt182.2 bt193.1 bt193.2 true a0_0 a0_1 a0_2 l0_3 bt186.1 bt186.2.1 bt186.2.2.1 bt186.2.2.2))))))))
theorem laws_FnExactPaletteOf.mono_l : ∀ k, (∀ y0 y1 y2 y3 y4 y5 y6 y7 y8 y9 y10 y11 y12, LeO (laws_FnExactPaletteOf.j0 k y0 y1 y2 y3 y4 y5 y6 y7 y8 y9 y10 y11 y12) (laws_FnExactPaletteOf.j0 (k + 1) y0 y1 y2 y3 y4 y5 y6 y7 y8 y9 y10 y11 y12)) ∧ (∀ y0 y1 y2 y3 y4 y5 y6 y7, LeO (laws_FnExactPaletteOf.j1 k y0 y1 y2 y3 y4 y5 y6 y7) (laws_FnExactPaletteOf.j1 (k + 1) y0 y1 y2 y3 y4 y5 y6 y7)) ∧ (∀ y0 y1 y2, LeO (laws_FnExactPaletteOf.j2 k y0 y1 y2) (laws_FnExactPaletteOf.j2 (k + 1) y0 y1 y2))
 | 0 => ⟨fun _ _ _ _ _ _ _ _ _ _ _ _ _ r h => by simp [laws_FnExactPaletteOf.j0] at h, fun _ _ _ _ _ _ _ _ r h => by simp [laws_FnExactPaletteOf.j1] at h, fun _ _ _ r h => by simp [laws_FnExactPaletteOf.j2] at h⟩
 | k + 1 => by
  obtain ⟨ih0, ih1, ih2⟩ := laws_FnExactPaletteOf.mono_l k
  refine ⟨?_, ?_, ?_⟩
  all_goals intros
  all_goals first | unfold laws_FnExactPaletteOf.j0 | unfold laws_FnExactPaletteOf.j1 | unfold laws_FnExactPaletteOf.j2
  all_goals repeat' first | (with_reducible first | exact ih0 _ _ _ _ _ _ _ _ _ _ _ _ _ | exact ih1 _ _ _ _ _ _ _ _ | exact ih2 _ _ _ | exact laws_eqImage.mono _ _ _ _ _ _ _ _ _ | exact laws_eqIntSS.mono _ _ _ | exact laws_heldIntSS.mono _ _ _ | exact laws_markImage.mono _ _ _ _ _ _ | exact laws_markIntSS.mono _ _ _ | exact laws_toImage.mono _ _ _ _ _ | exact spec_PaletteOf.mono _ _ _ _ _ | exact lR | exact lN | refine lI ?_ ?_ | refine lB ?_ fun _ => ?_) | exact ih0 _ _ _ _ _ _ _ _ _ _ _ _ _ | exact ih1 _ _ _ _ _ _ _ _ | exact ih2 _ _ _ | exact laws_eqImage.mono _ _ _ _ _ _ _ _ _ | exact laws_eqIntSS.mono _ _ _ | exact laws_heldIntSS.mono _ _ _ | exact laws_markImage.mono _ _ _ _ _ _ | exact laws_markIntSS.mono _ _ _ | exact laws_toImage.mono _ _ _ _ _ | exact spec_PaletteOf.mono _ _ _ _ _ | exact lN | refine lI ?_ ?_ | refine lB ?_ fun _ => ?_
theorem laws_FnExactPaletteOf.mono : ∀ a0 a1 a2 a3 k, LeO (laws_FnExactPaletteOf.f k a0 a1 a2 a3) (laws_FnExactPaletteOf.f (k + 1) a0 a1 a2 a3) := by
 intro a0 a1 a2 a3 k
 obtain ⟨ih0, ih1, ih2⟩ := laws_FnExactPaletteOf.mono_l k
 unfold laws_FnExactPaletteOf.f
 repeat' first | (with_reducible first | exact ih0 _ _ _ _ _ _ _ _ _ _ _ _ _ | exact ih1 _ _ _ _ _ _ _ _ | exact ih2 _ _ _ | exact laws_eqImage.mono _ _ _ _ _ _ _ _ _ | exact laws_eqIntSS.mono _ _ _ | exact laws_heldIntSS.mono _ _ _ | exact laws_markImage.mono _ _ _ _ _ _ | exact laws_markIntSS.mono _ _ _ | exact laws_toImage.mono _ _ _ _ _ | exact spec_PaletteOf.mono _ _ _ _ _ | exact lR | exact lN | refine lI ?_ ?_ | refine lB ?_ fun _ => ?_) | exact ih0 _ _ _ _ _ _ _ _ _ _ _ _ _ | exact ih1 _ _ _ _ _ _ _ _ | exact ih2 _ _ _ | exact laws_eqImage.mono _ _ _ _ _ _ _ _ _ | exact laws_eqIntSS.mono _ _ _ | exact laws_heldIntSS.mono _ _ _ | exact laws_markImage.mono _ _ _ _ _ _ | exact laws_markIntSS.mono _ _ _ | exact laws_toImage.mono _ _ _ _ _ | exact spec_PaletteOf.mono _ _ _ _ _ | exact lN | refine lI ?_ ?_ | refine lB ?_ fun _ => ?_
set_option maxHeartbeats 8000000 in
set_option maxRecDepth 100000 in
theorem laws_FnExactPaletteOf.calls (k : Nat) (a0_0 : Int) (a0_1 : Int) (a0_2 : Int) (A0_3 : Option Addr) (c0_3 : Nat) (l0_3 : List Int) (r : Bool) (w : World) (hr0_3 : Kd.C (Kd.int .i64) w A0_3 l0_3.length l0_3) (hc0_3 : l0_3.length ≤ c0_3) (h : laws_FnExactPaletteOf.f k a0_0 a0_1 a0_2 l0_3 = some r) (hrt : r = true) :
  Calls Try.prog 3 #[.agg #[.int .i64 a0_0, .int .i64 a0_1, .int .i64 a0_2, .slice A0_3 l0_3.length c0_3]] w fun e w' => e = .returned (.bool r) ∧ Below w.heap.size w w' := by
 have hu24 := Try.underlying24
 have hu29 := Try.underlying29
 have HR0_3 := aM hr0_3
 have HC0_3 := aM hc0_3
 clear hr0_3 hc0_3
 have HB := aM (Below.refl w.heap.size w)
 unfold laws_FnExactPaletteOf.f at h
 have H := h
 clear h
 replace H := Option.bind_eq_some_iff.mp H
 obtain ⟨t175, A20, H⟩ := H
 replace H : (if t175 < 0 then (some true) else ((laws_toImage.f k a0_0 a0_1 a0_2 l0_3).bind fun bt176 => ((spec_PaletteOf.f k bt176.1 bt176.2.1 bt176.2.2.1 bt176.2.2.2).bind fun bt182 => ((laws_toImage.f k a0_0 a0_1 a0_2 l0_3).bind fun bt186 => ((impl_PaletteOf.f bt186.1 bt186.2.1 bt186.2.2.1 bt186.2.2.2).bind fun bt193 => ((laws_eqIntSS.f k bt193.1 bt182.1).bind fun t197 => (if t197 = true then (laws_FnExactPaletteOf.j0 k bt182.1 bt182.2 bt193.1 bt193.2 (bt193.2 != bt182.2) a0_0 a0_1 a0_2 l0_3 bt186.1 bt186.2.1 bt186.2.2.1 bt186.2.2.2) else (laws_FnExactPaletteOf.j0 k bt182.1 bt182.2 bt193.1 bt193.2 true a0_0 a0_1 a0_2 l0_3 bt186.1 bt186.2.1 bt186.2.2.1 bt186.2.2.2)))))))) = some r := H
 have A2 := aM A20
 clear A20
 by_cases c3 : t175 < 0
 ·rw [if_pos c3] at H
  have c3b0 : decide (t175 < 0) = true := decide_eq_true c3
  clear c3
  obtain rfl := Option.some.inj H
  go_enter Try.func3, Try.ntmps3
  go_wp2_with (first | ((with_reducible refine gate_dst (N := 1) rfl ?_); refine bxE (N := 1) (cs := #[.int .i64 a0_0, .int .i64 a0_1, .int .i64 a0_2, .slice A0_3 l0_3.length c0_3]) (t := 24) ?_; intro gb174 hg w4 hbox hb; have BK174 := aM (hbox); have GW174 := gW hg HB; have GE174 := gW hg HB; replace HB := bS HB hb; clear hb hbox hg; obtain ⟨⟨hcz5_0, hcz5_1, hcz5_2, hcz5_3⟩, hfz5_0, hfz5_1, hfz5_2, hfz5_3⟩ := cf4 BK174) | ((with_reducible refine gate_callee (f := 12) rfl ?_); refine gL (some 16) Try.func12 #[.agg #[.int .i64 a0_0, .int .i64 a0_1, .int .i64 a0_2, .slice A0_3 l0_3.length c0_3], .int .i64 1048576] ?_; (with_reducible refine (laws_szImage.calls a0_0 a0_1 a0_2 _ _ l0_3 1048576 t175 _ ?side1 ?side2 A2.out).mono ?_); (case side1 => exact qC (Kd.C_below HR0_3.out HB.out)); (case side2 => exact HC0_3.out); rintro e w6 ⟨rfl, hb⟩; refine ⟨_, rfl, ?_⟩; replace BK174 := bB BK174 hb; replace HB := bS HB hb; clear hb))
  go_ret
  exact ⟨qX, by exact qW HB.out⟩
 rw [if_neg c3] at H
 have c3b0 : decide (t175 < 0) = false := decide_eq_false c3
 clear c3
 replace H := Option.bind_eq_some_iff.mp H
 obtain ⟨⟨t176, t177, t178, t179⟩, A70, H⟩ := H
 replace H : ((spec_PaletteOf.f k t176 t177 t178 t179).bind fun bt182 => ((laws_toImage.f k a0_0 a0_1 a0_2 l0_3).bind fun bt186 => ((impl_PaletteOf.f bt186.1 bt186.2.1 bt186.2.2.1 bt186.2.2.2).bind fun bt193 => ((laws_eqIntSS.f k bt193.1 bt182.1).bind fun t197 => (if t197 = true then (laws_FnExactPaletteOf.j0 k bt182.1 bt182.2 bt193.1 bt193.2 (bt193.2 != bt182.2) a0_0 a0_1 a0_2 l0_3 bt186.1 bt186.2.1 bt186.2.2.1 bt186.2.2.2) else (laws_FnExactPaletteOf.j0 k bt182.1 bt182.2 bt193.1 bt193.2 true a0_0 a0_1 a0_2 l0_3 bt186.1 bt186.2.1 bt186.2.2.1 bt186.2.2.2)))))) = some r := H
 have A7 := aM A70
 clear A70
 replace H := Option.bind_eq_some_iff.mp H
 obtain ⟨⟨t182, t185⟩, A80, H⟩ := H
 replace H : ((laws_toImage.f k a0_0 a0_1 a0_2 l0_3).bind fun bt186 => ((impl_PaletteOf.f bt186.1 bt186.2.1 bt186.2.2.1 bt186.2.2.2).bind fun bt193 => ((laws_eqIntSS.f k bt193.1 t182).bind fun t197 => (if t197 = true then (laws_FnExactPaletteOf.j0 k t182 t185 bt193.1 bt193.2 (bt193.2 != t185) a0_0 a0_1 a0_2 l0_3 bt186.1 bt186.2.1 bt186.2.2.1 bt186.2.2.2) else (laws_FnExactPaletteOf.j0 k t182 t185 bt193.1 bt193.2 true a0_0 a0_1 a0_2 l0_3 bt186.1 bt186.2.1 bt186.2.2.1 bt186.2.2.2))))) = some r := H
 have A8 := aM A80
 clear A80
 replace H := Option.bind_eq_some_iff.mp H
 obtain ⟨⟨t186, t187, t188, t189⟩, A90, H⟩ := H
 replace H : ((impl_PaletteOf.f t186 t187 t188 t189).bind fun bt193 => ((laws_eqIntSS.f k bt193.1 t182).bind fun t197 => (if t197 = true then (laws_FnExactPaletteOf.j0 k t182 t185 bt193.1 bt193.2 (bt193.2 != t185) a0_0 a0_1 a0_2 l0_3 t186 t187 t188 t189) else (laws_FnExactPaletteOf.j0 k t182 t185 bt193.1 bt193.2 true a0_0 a0_1 a0_2 l0_3 t186 t187 t188 t189)))) = some r := H
 have A9 := aM A90
 clear A90
 replace H := Option.bind_eq_some_iff.mp H
 obtain ⟨⟨t193, t196⟩, A100, H⟩ := H
 replace H : ((laws_eqIntSS.f k t193 t182).bind fun t197 => (if t197 = true then (laws_FnExactPaletteOf.j0 k t182 t185 t193 t196 (t196 != t185) a0_0 a0_1 a0_2 l0_3 t186 t187 t188 t189) else (laws_FnExactPaletteOf.j0 k t182 t185 t193 t196 true a0_0 a0_1 a0_2 l0_3 t186 t187 t188 t189))) = some r := H
 have A10 := aM A100
 clear A100
 have HC11 := aM H
 clear H
 go_enter Try.func3, Try.ntmps3
 go_upto_region 8 with (first | ((with_reducible refine gate_dst (N := 1) rfl ?_); refine bxE (N := 1) (cs := #[.int .i64 a0_0, .int .i64 a0_1, .int .i64 a0_2, .slice A0_3 l0_3.length c0_3]) (t := 24) ?_; intro gb174 hg w12 hbox hb; have BK174 := aM (hbox); have GW174 := gW hg HB; have GE174 := gW hg HB; replace HB := bS HB hb; clear hb hbox hg; obtain ⟨⟨hcz13_0, hcz13_1, hcz13_2, hcz13_3⟩, hfz13_0, hfz13_1, hfz13_2, hfz13_3⟩ := cf4 BK174) | ((with_reducible refine gate_callee (f := 12) rfl ?_); refine gL (some 16) Try.func12 #[.agg #[.int .i64 a0_0, .int .i64 a0_1, .int .i64 a0_2, .slice A0_3 l0_3.length c0_3], .int .i64 1048576] ?_; (with_reducible refine (laws_szImage.calls a0_0 a0_1 a0_2 _ _ l0_3 1048576 t175 _ ?side1 ?side2 A2.out).mono ?_); (case side1 => exact qC (Kd.C_below HR0_3.out HB.out)); (case side2 => exact HC0_3.out); rintro e w14 ⟨rfl, hb⟩; refine ⟨_, rfl, ?_⟩; replace BK174 := bB BK174 hb; replace HB := bS HB hb; clear hb; obtain ⟨⟨hcz15_0, hcz15_1, hcz15_2, hcz15_3⟩, hfz15_0, hfz15_1, hfz15_2, hfz15_3⟩ := cf4 BK174) | ((with_reducible refine gate_callee (f := 14) rfl ?_); refine gL (some 21) Try.func14 #[.agg #[.int .i64 a0_0, .int .i64 a0_1, .int .i64 a0_2, .slice A0_3 l0_3.length c0_3]] ?_; (with_reducible refine (laws_toImage.calls k a0_0 a0_1 a0_2 _ _ l0_3 t176 t177 t178 t179 _ ?side1 ?side2 A7.out).mono ?_); (case side1 => exact qC (Kd.C_below HR0_3.out HB.out)); (case side2 => exact HC0_3.out); rintro e w16 ⟨v180, rfl, ho0, hb⟩; refine ⟨_, rfl, ?_⟩; have HO181 := oR ho0 HB; replace BK174 := bB BK174 hb; replace HB := bS HB hb; clear hb ho0; obtain ⟨Ao17, co17, rfl⟩ := sL HO181) | ((with_reducible refine gate_callee (f := 13) rfl ?_); refine gL (some 22) Try.func13 #[.agg #[.int .i64 t176, .int .i64 t177, .int .i64 t178, .slice Ao17 t179.length co17]] ?_; (with_reducible refine (spec_PaletteOf.calls k t176 t177 t178 _ _ t179 t182 t185 _ ?side1 ?side2 A8.out).mono ?_); (case side1 => exact qC (Kd.R_reads' HO181.out).2.2); (case side2 => exact (Kd.R_reads' HO181.out).2.1); rintro e w18 ⟨v183, rfl, ho0, hb⟩; refine ⟨_, rfl, ?_⟩; have HO184 := aM (Kd.S_lower (Kd.S_new' ho0 (Kd.R_lt (qR HO181.out))) (below_size (qW HB.out))); replace HO181 := aM (Kd.R_below (qR HO181.out) hb); replace BK174 := bB BK174 hb; replace HB := bS HB hb; clear hb ho0; obtain ⟨⟨hcz19_0, hcz19_1, hcz19_2, hcz19_3⟩, hfz19_0, hfz19_1, hfz19_2, hfz19_3⟩ := cf4 BK174) | ((with_reducible refine gate_callee (f := 14) rfl ?_); refine gL (some 26) Try.func14 #[.agg #[.int .i64 a0_0, .int .i64 a0_1, .int .i64 a0_2, .slice A0_3 l0_3.length c0_3]] ?_; (with_reducible refine (laws_toImage.calls k a0_0 a0_1 a0_2 _ _ l0_3 t186 t187 t188 t189 _ ?side1 ?side2 A9.out).mono ?_); (case side1 => exact qC (Kd.C_below HR0_3.out HB.out)); (case side2 => exact HC0_3.out); rintro e w20 ⟨v190, rfl, ho0, hb⟩; refine ⟨_, rfl, ?_⟩; replace HO184 := aM (Kd.S_elder' (by (with_reducible repeat (first | apply Kd.S_alloc | apply Kd.S_drewN | apply Kd.S_drew)); exact HO184.out) (Kd.R_base ho0) hb); have HO191 := nR ho0 HO181 HB; replace HO181 := aM (Kd.R_elder' (qR HO181.out) (Kd.R_base ho0) hb); replace BK174 := bB BK174 hb; replace HB := bS HB hb; clear hb ho0) | ((with_reducible refine gate_dst (N := 6) rfl ?_); refine bxE (N := 6) (cs := #[.int .i64 0, .int .i64 0, .int .i64 0, .slice none 0 0]) (t := 29) ?_; intro gb192 hg w21 hbox hb; replace HO181 := aM (Kd.R_below (qR HO181.out) hb); replace HO184 := aM (Kd.S_below (S_elderL (by (with_reducible repeat (first | apply Kd.S_alloc | apply Kd.S_drewN | apply Kd.S_drew)); exact HO184.out) gb192 (Nat.le_of_eq hg.symm)) hb); replace HO191 := aM (Kd.R_below (qR HO191.out) hb); have BK192 := aM (hbox); have GW192 := gW hg HB; have GE192 := gW hg HB; replace HB := bS HB hb; have NB174_192 := nL hg BK174; have NB192_174 := nG hg BK174; replace BK174 := bB BK174 hb; clear hb hbox hg; have hnb22 := NB192_174.out; have hnc22 := NB174_192.out; obtain ⟨⟨hcz23_0, hcz23_1, hcz23_2, hcz23_3⟩, hfz23_0, hfz23_1, hfz23_2, hfz23_3⟩ := cf4 BK192; obtain ⟨Ao24, co24, rfl⟩ := sL HO191) | ((with_reducible refine gate_callee (f := 15) rfl ?_); refine gL (some 29) Try.func15 #[.agg #[.int .i64 t186, .int .i64 t187, .int .i64 t188, .slice Ao24 t189.length co24]] ?_; (with_reducible refine (impl_PaletteOf.calls t186 t187 t188 _ _ t189 t193 t196 _ ?side1 ?side2 A10.out).mono ?_); (case side1 => refine (Kd.R_reads' (e := 3) (base := w.heap.size) (ok := fun k_ => (True ∧ some k_ ≠ (.slice Ao17 t179.length co17 : Value).ownBlock)) (n := t189.length) (c := co24) ?_).2.2; exact (by refine qR ?_; exact (fr4 HO191 BK192))); (case side2 => exact (Kd.R_reads' HO191.out).2.1); rintro e w25 ⟨v194, rfl, ho0, hb⟩; refine ⟨_, rfl, ?_⟩; have HO195 := aM (Kd.S_lower (S_newG (Kd.S_new' (Kd.S_new' (Kd.S_new' ho0 (Kd.R_lt (by refine qR ?_; exact (fr4 HO181 BK192)))) (Kd.S_lt (by (with_reducible repeat (first | apply Kd.S_alloc | apply Kd.S_drewN | apply Kd.S_drew)); exact (Kd.S_mono (Kd.S_far (p := ⟨gb192, 3, none⟩) (Kd.S_far (p := ⟨gb192, 2, none⟩) (Kd.S_far (p := ⟨gb192, 1, none⟩) (Kd.S_far (p := ⟨gb192, 0, none⟩) (Kd.S_types HO184.out BK192.out (by decide)) (fun _ hk => hk.2) (.int .i64 t186)) (fun _ hk => hk.2) (.int .i64 t187)) (fun _ hk => hk.2) (.int .i64 t188)) (fun _ hk => hk.2) (.slice Ao24 t189.length co24)) (fun _ h_ => h_.1))))) (Kd.R_lt (by refine qR ?_; exact (fr4 HO191 BK192)))) (g := gb192) (o := .cells #[.int .i64 t186, .int .i64 t187, .int .i64 t188, .slice Ao24 t189.length co24] 29 (0, 0)) (by exact bP BK192.out)) (below_size (qW HB.out))); replace HO181 := aM (Kd.R_below (by refine qR ?_; exact (fr4 HO181 BK192)) hb); replace HO184 := aM (Kd.S_elder' (by (with_reducible repeat (first | apply Kd.S_alloc | apply Kd.S_drewN | apply Kd.S_drew)); exact (Kd.S_mono (Kd.S_far (p := ⟨gb192, 3, none⟩) (Kd.S_far (p := ⟨gb192, 2, none⟩) (Kd.S_far (p := ⟨gb192, 1, none⟩) (Kd.S_far (p := ⟨gb192, 0, none⟩) (Kd.S_types HO184.out BK192.out (by decide)) (fun _ hk => hk.2) (.int .i64 t186)) (fun _ hk => hk.2) (.int .i64 t187)) (fun _ hk => hk.2) (.int .i64 t188)) (fun _ hk => hk.2) (.slice Ao24 t189.length co24)) (fun _ h_ => h_.1))) (Kd.S_base ho0) hb); replace HO191 := aM (Kd.R_below (by refine qR ?_; exact (fr4 HO191 BK192)) hb); replace BK174 := aM (blk_below (g := gb174) (o := .cells #[.int .i64 a0_0, .int .i64 a0_1, .int .i64 a0_2, .slice A0_3 l0_3.length c0_3] 24 (0, 0)) (by refine qB ?_; refine blk_far ?_ NB174_192.out _; refine qB ?_; refine blk_far ?_ NB174_192.out _; refine qB ?_; refine blk_far ?_ NB174_192.out _; refine qB ?_; refine blk_far ?_ NB174_192.out _; refine qB ?_; exact BK174.out) hb); replace BK192 := aM (blk_below (g := gb192) (o := .cells #[.int .i64 t186, .int .i64 t187, .int .i64 t188, .slice Ao24 t189.length co24] 29 (0, 0)) (by exact bP BK192.out) hb); replace HB := bS HB hb; clear hb ho0))
 (try simp only [Act.put, List.setIfInBounds_toArray, List.set_cons_zero, List.set_cons_succ])
 go_cut [40] (fun v40 wc => ∃ (kq : Nat) (x40_10 : Bool), v40 = .bool x40_10 ∧ Aside0 (laws_FnExactPaletteOf.j0 kq t182 t185 t193 t196 x40_10 a0_0 a0_1 a0_2 l0_3 t186 t187 t188 t189 = some r) ∧ Aside0 (kq ≤ k) ∧ Aside0 (Kd.S (Kd.slice 3 (Kd.int .i64)) 22 wc w.heap.size (fun k_ => k_ < gb192 ∧ some k_ ≠ ((.slice Ao24 t189.length co24) : Value).ownBlock) v183 t182) ∧ Aside0 (Kd.S (Kd.slice 3 (Kd.int .i64)) 22 wc w.heap.size (fun k_ => gb192 < k_ ∧ some k_ ≠ ((.slice Ao24 t189.length co24) : Value).ownBlock) v194 t193) ∧ Aside0 (Kd.R (Kd.int .i64) 3 wc w.heap.size (fun _ => True) (.slice Ao24 t189.length co24) t189) ∧ Aside0 (wc.heap[gb174]? = some (.cells #[.int .i64 a0_0, .int .i64 a0_1, .int .i64 a0_2, (.slice A0_3 l0_3.length c0_3)] 24 (0, 0))) ∧ Aside0 (wc.heap[gb192]? = some (.cells #[.int .i64 t186, .int .i64 t187, .int .i64 t188, (.slice Ao24 t189.length co24)] 29 (0, 0))) ∧ Aside0 (Below w.heap.size w wc))
 case first =>
  have H := HC11.out
  clear HC11
  replace H := Option.bind_eq_some_iff.mp H
  obtain ⟨t197, A260, H⟩ := H
  replace H : (if t197 = true then (laws_FnExactPaletteOf.j0 k t182 t185 t193 t196 (t196 != t185) a0_0 a0_1 a0_2 l0_3 t186 t187 t188 t189) else (laws_FnExactPaletteOf.j0 k t182 t185 t193 t196 true a0_0 a0_1 a0_2 l0_3 t186 t187 t188 t189)) = some r := H
  have A26 := aM A260
  clear A260
  by_cases c27 : t197 = true
  ·subst c27
   have H1 : (laws_FnExactPaletteOf.j0 k t182 t185 t193 t196 (t196 != t185) a0_0 a0_1 a0_2 l0_3 t186 t187 t188 t189) = some r := by rw [if_pos rfl] at H; exact H
   clear H
   have H := H1
   clear H1
   have H' := aM H
   clear H
   obtain ⟨Ao28, co28, eo28⟩ := Kd.S_slice HO195.out
   subst eo28
   obtain ⟨Ao29, co29, eo29⟩ := Kd.S_slice HO184.out
   subst eo29
   go_wp2_with (first | ((with_reducible refine gate_callee (f := 16) rfl ?_); refine gL (some 34) Try.func16 #[.slice Ao28 t193.length co28, .slice Ao29 t182.length co29] ?_; (with_reducible refine (laws_eqIntSS.calls k _ _ t193 _ _ t182 true _ ?side1 ?side2 ?side3 ?side4 A26.out).mono ?_); (case side1 => exact qC (Kd.S_reads' HO195.out).2.2); (case side2 => exact (Kd.S_reads' HO195.out).2.1); (case side3 => exact qC (Kd.S_reads' HO184.out).2.2); (case side4 => exact (Kd.S_reads' HO184.out).2.1); rintro e w' ⟨rfl, ⟨nd, rfl⟩⟩; refine ⟨_, rfl, ?_⟩))
   go_meet
   case rel => exact ⟨_, ((t196 != t185)), qE, H', ⟨by first | omega | exact Nat.le_refl _⟩, ⟨by (with_reducible repeat (first | apply Kd.S_alloc | apply Kd.S_drewN | apply Kd.S_drew)); exact Kd.S_mono HO184.out (by intro k_ hk_; revert hk_; simp only [and_imp]; intros; and_intros <;> assumption)⟩, ⟨by (with_reducible repeat (first | apply Kd.S_alloc | apply Kd.S_drewN | apply Kd.S_drew)); exact Kd.S_mono HO195.out (by intro k_ hk_; revert hk_; simp only [and_imp]; intros; and_intros <;> assumption)⟩, ⟨by refine qR ?_; exact Kd.R_mono HO191.out (fun _ hk => trivial)⟩, ⟨by refine qB ?_; exact BK174.out⟩, ⟨by refine qB ?_; exact BK192.out⟩, ⟨by exact qW HB.out⟩⟩
  replace c27 := Bool.eq_false_iff.mpr c27
  subst c27
  have H1 : (laws_FnExactPaletteOf.j0 k t182 t185 t193 t196 true a0_0 a0_1 a0_2 l0_3 t186 t187 t188 t189) = some r := by rw [if_neg (show ¬ (false = true) by decide)] at H; exact H
  clear H
  have H := H1
  clear H1
  have H' := aM H
  clear H
  obtain ⟨Ao30, co30, eo30⟩ := Kd.S_slice HO195.out
  subst eo30
  obtain ⟨Ao31, co31, eo31⟩ := Kd.S_slice HO184.out
  subst eo31
  go_wp2_with (first | ((with_reducible refine gate_callee (f := 16) rfl ?_); refine gL (some 34) Try.func16 #[.slice Ao30 t193.length co30, .slice Ao31 t182.length co31] ?_; (with_reducible refine (laws_eqIntSS.calls k _ _ t193 _ _ t182 false _ ?side1 ?side2 ?side3 ?side4 A26.out).mono ?_); (case side1 => exact qC (Kd.S_reads' HO195.out).2.2); (case side2 => exact (Kd.S_reads' HO195.out).2.1); (case side3 => exact qC (Kd.S_reads' HO184.out).2.2); (case side4 => exact (Kd.S_reads' HO184.out).2.1); rintro e w' ⟨rfl, ⟨nd, rfl⟩⟩; refine ⟨_, rfl, ?_⟩))
  go_meet
  case rel => exact ⟨_, (true), qE, H', ⟨by first | omega | exact Nat.le_refl _⟩, ⟨by (with_reducible repeat (first | apply Kd.S_alloc | apply Kd.S_drewN | apply Kd.S_drew)); exact Kd.S_mono HO184.out (by intro k_ hk_; revert hk_; simp only [and_imp]; intros; and_intros <;> assumption)⟩, ⟨by (with_reducible repeat (first | apply Kd.S_alloc | apply Kd.S_drewN | apply Kd.S_drew)); exact Kd.S_mono HO195.out (by intro k_ hk_; revert hk_; simp only [and_imp]; intros; and_intros <;> assumption)⟩, ⟨by refine qR ?_; exact Kd.R_mono HO191.out (fun _ hk => trivial)⟩, ⟨by refine qB ?_; exact BK174.out⟩, ⟨by refine qB ?_; exact BK192.out⟩, ⟨by exact qW HB.out⟩⟩
 case rest =>
  clear HC11
  try clear c3
  try clear c3b0
  try clear c27
  try clear hcz13_0 hcz13_1 hcz13_2 hcz13_3 hfz13_0 hfz13_1 hfz13_2 hfz13_3
  try clear hcz15_0 hcz15_1 hcz15_2 hcz15_3 hfz15_0 hfz15_1 hfz15_2 hfz15_3
  try clear hcz19_0 hcz19_1 hcz19_2 hcz19_3 hfz19_0 hfz19_1 hfz19_2 hfz19_3
  try clear hcz23_0 hcz23_1 hcz23_2 hcz23_3 hfz23_0 hfz23_1 hfz23_2 hfz23_3
  try clear hcz5_0 hcz5_1 hcz5_2 hcz5_3 hfz5_0 hfz5_1 hfz5_2 hfz5_3
  obtain ⟨kq, x40_10, rfl, HA, HJ10, HO_4, HO_7, HO_193003, BK174, BK192, HB⟩ := hcut
  cases kq with
  | zero => exact absurd HA.out (by simp [laws_FnExactPaletteOf.j0])
  | succ kj10 =>
   have H := HA.out
   clear HA
   simp only [laws_FnExactPaletteOf.j0] at H
   by_cases c32 : x40_10 = true
   ·subst c32
    have H1 : (some false) = some r := by rw [if_pos rfl] at H; exact H
    clear H
    have H := H1
    clear H1
    obtain rfl := Option.some.inj H
    exact absurd hrt (by decide)
   replace c32 := Bool.eq_false_iff.mpr c32
   subst c32
   have H1 : ((laws_toImage.f kj10 a0_0 a0_1 a0_2 l0_3).bind fun bt198 => ((laws_eqImage.f kj10 t186 t187 t188 t189 bt198.1 bt198.2.1 bt198.2.2.1 bt198.2.2.2).bind fun t204 => (if t204 = true then ((laws_markImage.f kj10 t186 t187 t188 t189 1).bind fun bt205 => (if bt205.1 < 0 then (laws_FnExactPaletteOf.j1 kj10 t182 t185 t193 true a0_0 a0_1 a0_2 l0_3) else ((laws_eqIntSS.f kj10 t193 t182).bind fun t207 => (if t207 = true then (laws_FnExactPaletteOf.j1 kj10 t182 t185 t193 (t196 != t185) a0_0 a0_1 a0_2 l0_3) else (laws_FnExactPaletteOf.j1 kj10 t182 t185 t193 true a0_0 a0_1 a0_2 l0_3))))) else (some false)))) = some r := by rw [if_neg (show ¬ (false = true) by decide)] at H; exact H
   clear H
   have H := H1
   clear H1
   replace H := Option.bind_eq_some_iff.mp H
   obtain ⟨⟨t198, t199, t200, t201⟩, A330, H⟩ := H
   replace H : ((laws_eqImage.f kj10 t186 t187 t188 t189 t198 t199 t200 t201).bind fun t204 => (if t204 = true then ((laws_markImage.f kj10 t186 t187 t188 t189 1).bind fun bt205 => (if bt205.1 < 0 then (laws_FnExactPaletteOf.j1 kj10 t182 t185 t193 true a0_0 a0_1 a0_2 l0_3) else ((laws_eqIntSS.f kj10 t193 t182).bind fun t207 => (if t207 = true then (laws_FnExactPaletteOf.j1 kj10 t182 t185 t193 (t196 != t185) a0_0 a0_1 a0_2 l0_3) else (laws_FnExactPaletteOf.j1 kj10 t182 t185 t193 true a0_0 a0_1 a0_2 l0_3))))) else (some false))) = some r := H
   have A33 := aM A330
   clear A330
   replace H := Option.bind_eq_some_iff.mp H
   obtain ⟨t204, A340, H⟩ := H
   replace H : (if t204 = true then ((laws_markImage.f kj10 t186 t187 t188 t189 1).bind fun bt205 => (if bt205.1 < 0 then (laws_FnExactPaletteOf.j1 kj10 t182 t185 t193 true a0_0 a0_1 a0_2 l0_3) else ((laws_eqIntSS.f kj10 t193 t182).bind fun t207 => (if t207 = true then (laws_FnExactPaletteOf.j1 kj10 t182 t185 t193 (t196 != t185) a0_0 a0_1 a0_2 l0_3) else (laws_FnExactPaletteOf.j1 kj10 t182 t185 t193 true a0_0 a0_1 a0_2 l0_3))))) else (some false)) = some r := H
   have A34 := aM A340
   clear A340
   by_cases c35 : t204 = true
   rotate_left
   ·replace c35 := Bool.eq_false_iff.mpr c35
    subst c35
    have H1 : (some false) = some r := by rw [if_neg (show ¬ (false = true) by decide)] at H; exact H
    clear H
    have H := H1
    clear H1
    obtain rfl := Option.some.inj H
    exact absurd hrt (by decide)
   subst c35
   have H1 : ((laws_markImage.f kj10 t186 t187 t188 t189 1).bind fun bt205 => (if bt205.1 < 0 then (laws_FnExactPaletteOf.j1 kj10 t182 t185 t193 true a0_0 a0_1 a0_2 l0_3) else ((laws_eqIntSS.f kj10 t193 t182).bind fun t207 => (if t207 = true then (laws_FnExactPaletteOf.j1 kj10 t182 t185 t193 (t196 != t185) a0_0 a0_1 a0_2 l0_3) else (laws_FnExactPaletteOf.j1 kj10 t182 t185 t193 true a0_0 a0_1 a0_2 l0_3))))) = some r := by rw [if_pos rfl] at H; exact H
   clear H
   have H := H1
   clear H1
   replace H := Option.bind_eq_some_iff.mp H
   obtain ⟨⟨t205, t206⟩, A360, H⟩ := H
   replace H : (if t205 < 0 then (laws_FnExactPaletteOf.j1 kj10 t182 t185 t193 true a0_0 a0_1 a0_2 l0_3) else ((laws_eqIntSS.f kj10 t193 t182).bind fun t207 => (if t207 = true then (laws_FnExactPaletteOf.j1 kj10 t182 t185 t193 (t196 != t185) a0_0 a0_1 a0_2 l0_3) else (laws_FnExactPaletteOf.j1 kj10 t182 t185 t193 true a0_0 a0_1 a0_2 l0_3)))) = some r := H
   have A36 := aM A360
   clear A360
   have HC37 := aM H
   clear H
   try go_wp2
   replace HO_4 := aM (Kd.S_drew HO_4.out)
   replace HO_7 := aM (Kd.S_drew HO_7.out)
   replace HO_193003 := aM (Kd.R_drew HO_193003.out)
   replace BK174 := aM (blk_drew BK174.out)
   replace BK192 := aM (blk_drew BK192.out)
   replace HB := aM (below_drew1 HB.out)
   refine start_ (n := 5) (S := fun w' => w'.cell? ⟨gb192, 0, none⟩ = some (.int .i64 t186) ∧ w'.cell? ⟨gb192, 1, none⟩ = some (.int .i64 t187) ∧ w'.cell? ⟨gb192, 2, none⟩ = some (.int .i64 t188) ∧ w'.cell? ⟨gb192, 3, none⟩ = some (.slice Ao24 t189.length co24) ∧ w'.cell? ⟨gb174, 0, none⟩ = some (.int .i64 a0_0) ∧ w'.cell? ⟨gb174, 1, none⟩ = some (.int .i64 a0_1) ∧ w'.cell? ⟨gb174, 2, none⟩ = some (.int .i64 a0_2) ∧ w'.cell? ⟨gb174, 3, none⟩ = some (.slice A0_3 l0_3.length c0_3)) (ds := []) (bA 5 0) (by kernel_rfl) rfl rfl ⟨(blk_cell BK192.out 0).trans rfl, (blk_cell BK192.out 1).trans rfl, (blk_cell BK192.out 2).trans rfl, (blk_cell BK192.out 3).trans rfl, (blk_cell BK174.out 0).trans rfl, (blk_cell BK174.out 1).trans rfl, (blk_cell BK174.out 2).trans rfl, (blk_cell BK174.out 3).trans rfl⟩ (fun hHeld => ?_)
   generalize wc.drew = w38 at HO_4 HO_7 HO_193003 BK174 BK192 HB hHeld ⊢
   refine take_ (i := 0) (N := some 41) (v := ?_) (a' := ?_) (bA 5 1) rfl rfl (by kernel_rfl) (fun _ _ _ h => h) (Or.inl ⟨by rfl, ?_⟩) hHeld ?_ ?_
   rotate_left
   ·rintro w' ⟨s0, s1, s2, s3, s4, s5, s6, s7⟩
    go_simp
    with_reducible rfl
   rotate_left
   ·refine pZ ?_
    rfl
   refine take_ (i := 1) (N := some 42) (v := ?_) (a' := ?_) (bA 5 3) rfl rfl (by kernel_rfl) (fun _ _ _ h => h) (Or.inl ⟨by rfl, ?_⟩) hHeld ?_ ?_
   rotate_left
   ·rintro w' ⟨s0, s1, s2, s3, s4, s5, s6, s7⟩
    go_simp
    with_reducible rfl
   rotate_left
   ·refine pZ ?_
    rfl
   refine one_ (i := 2) (N := some 43) (bA 5 7) rfl rfl (by kernel_rfl) (by decide) (fun K hK => ?_)
   refine goes_ Try.func14 (by kernel_rfl) rfl #[.agg #[.int .i64 a0_0, .int .i64 a0_1, .int .i64 a0_2, .slice A0_3 l0_3.length c0_3]] (by rfl) rfl rfl qM ?_
   with_reducible refine (laws_toImage.calls kj10 a0_0 a0_1 a0_2 _ _ l0_3 t198 t199 t200 t201 _ ?side1 ?side2 A33.out).mono ?_
   (case side1 => exact qC (Kd.C_below HR0_3.out HB.out))
   (case side2 => exact HC0_3.out)
   rintro e w39 ⟨v202, rfl, ho0, hb⟩
   refine ⟨_, rfl, ?_⟩
   replace HO_4 := aM (Kd.S_elder' (by (with_reducible repeat (first | apply Kd.S_alloc | apply Kd.S_drewN | apply Kd.S_drew)); exact HO_4.out) (Kd.R_base ho0) hb)
   replace HO_7 := aM (Kd.S_elder' (by (with_reducible repeat (first | apply Kd.S_alloc | apply Kd.S_drewN | apply Kd.S_drew)); exact HO_7.out) (Kd.R_base ho0) hb)
   have HO203 := nR ho0 HO_193003 HB
   replace HO_193003 := aM (Kd.R_elder' (qR HO_193003.out) (Kd.R_base ho0) hb)
   replace BK174 := bB BK174 hb
   replace BK192 := bB BK192 hb
   replace HB := bS HB hb
   (try clear hb)
   (try clear hb2)
   (try clear hk)
   (try clear hi)
   (try clear ho0)
   obtain ⟨Ao40, co40, eo40⟩ := Kd.R_slice HO203.out
   (first | subst eo40 | (injection eo40 with f1_ f2_ f3_; have f4_ := f1_.symm; have f5_ := f3_.symm; clear f1_ f2_ f3_; subst f4_; subst f5_))
   refine hK.out _ _ ⟨(blk_cell BK192.out 0).trans rfl, (blk_cell BK192.out 1).trans rfl, (blk_cell BK192.out 2).trans rfl, (blk_cell BK192.out 3).trans rfl, (blk_cell BK174.out 0).trans rfl, (blk_cell BK174.out 1).trans rfl, (blk_cell BK174.out 2).trans rfl, (blk_cell BK174.out 3).trans rfl⟩ (fun hHeld => ?_)
   clear hK K
   refine norm_ (a' := ?_) ?_ ?_
   rotate_left
   ·show Act.put _ (some 43) _ = _
    refine pZ ?_
    rfl
   refine one_ (i := 3) (N := some 44) (bA 5 15) rfl rfl (by kernel_rfl) (by decide) (fun K hK => ?_)
   refine goes_ Try.func17 (by kernel_rfl) rfl #[.agg #[.int .i64 t186, .int .i64 t187, .int .i64 t188, .slice Ao24 t189.length co24], .agg #[.int .i64 t198, .int .i64 t199, .int .i64 t200, .slice Ao40 t201.length co40]] (by rfl) rfl rfl qM ?_
   with_reducible refine (laws_eqImage.calls kj10 t186 t187 t188 _ _ t189 t198 t199 t200 _ _ t201 true _ ?side1 ?side2 ?side3 ?side4 A34.out).mono ?_
   (case side1 => exact qC (Kd.R_reads' HO_193003.out).2.2)
   (case side2 => exact (Kd.R_reads' HO_193003.out).2.1)
   (case side3 => exact qC (Kd.R_reads' HO203.out).2.2)
   (case side4 => exact (Kd.R_reads' HO203.out).2.1)
   rintro e w41 ⟨rfl, hb⟩
   refine ⟨_, rfl, ?_⟩
   replace HO_4 := aM (Kd.S_below (by (with_reducible repeat (first | apply Kd.S_alloc | apply Kd.S_drewN | apply Kd.S_drew)); exact HO_4.out) hb)
   replace HO_7 := aM (Kd.S_below (by (with_reducible repeat (first | apply Kd.S_alloc | apply Kd.S_drewN | apply Kd.S_drew)); exact HO_7.out) hb)
   replace HO_193003 := aM (Kd.R_below (qR HO_193003.out) hb)
   replace HO203 := aM (Kd.R_below (qR HO203.out) hb)
   replace BK174 := bB BK174 hb
   replace BK192 := bB BK192 hb
   replace HB := bS HB hb
   (try clear hb)
   (try clear hb2)
   (try clear hk)
   (try clear hi)
   refine hK.out _ _ ⟨(blk_cell BK192.out 0).trans rfl, (blk_cell BK192.out 1).trans rfl, (blk_cell BK192.out 2).trans rfl, (blk_cell BK192.out 3).trans rfl, (blk_cell BK174.out 0).trans rfl, (blk_cell BK174.out 1).trans rfl, (blk_cell BK174.out 2).trans rfl, (blk_cell BK174.out 3).trans rfl⟩ (fun hHeld => ?_)
   clear hK K
   refine norm_ (a' := ?_) ?_ ?_
   rotate_left
   ·show Act.put _ (some 44) _ = _
    refine pZ ?_
    rfl
   refine pure_ (i := 4) (N := some 45) (v := ?_) (a' := ?_) (bA 5 31) rfl rfl (by kernel_rfl) (fun _ _ _ h => h) (Or.inl ⟨by rfl, ?_⟩) ?_ ?_
   rotate_left
   ·intro w'
    go_simp
    with_reducible rfl
   rotate_left
   ·refine pZ ?_
    rfl
   refine done_ (by kernel_rfl) ?_
   have hnb42 := NB192_174.out
   have hnc42 := NB174_192.out
   obtain ⟨⟨hcz43_0, hcz43_1, hcz43_2, hcz43_3⟩, hfz43_0, hfz43_1, hfz43_2, hfz43_3⟩ := cf4 BK192
   go_upto_region 14 with (first | ((with_reducible refine gate_callee (f := 18) rfl ?_); refine gL (some 48) Try.func18 #[.agg #[.int .i64 t186, .int .i64 t187, .int .i64 t188, .slice Ao24 t189.length co24], .int .i64 1] ?_; (with_reducible refine (laws_markImage.calls kj10 t186 t187 t188 (fun k_ => some k_ = (.slice Ao24 t189.length co24 : Value).ownBlock) (.slice Ao24 t189.length co24) t189 1 t205 t206 w _ ?side1 ?side2 A36.out).mono ?_); (case side1 => exact qW HB.out); (case side2 => exact Kd.R_tight rfl HO_193003.out); rintro e w44 ⟨rfl, hy0, hb, hkp⟩; refine ⟨_, rfl, ?_⟩; replace HO_4 := aM (Kd.S_mono (ok' := fun k_ => k_ < gb192 ∧ some k_ ≠ (.slice Ao24 t189.length co24 : Value).ownBlock ∧ some k_ ≠ (.slice Ao40 t201.length co40 : Value).ownBlock) (Kd.S_keptB (HO_4.out) hkp (fun k_ hk_ hs_ => by first | exact hk_.1.2 hs_ | (revert hk_; simp only [and_imp]; intros; contradiction))) (fun k_ hk_ => by first | exact ⟨hk_.1.1.1, hk_.1.1.2, hk_.1.2⟩ | (revert hk_; simp only [and_imp]; intros; and_intros <;> assumption))); replace HO_7 := aM (Kd.S_mono (ok' := fun k_ => gb192 < k_ ∧ some k_ ≠ (.slice Ao24 t189.length co24 : Value).ownBlock ∧ some k_ ≠ (.slice Ao40 t201.length co40 : Value).ownBlock) (Kd.S_keptB (HO_7.out) hkp (fun k_ hk_ hs_ => by first | exact hk_.1.2 hs_ | (revert hk_; simp only [and_imp]; intros; contradiction))) (fun k_ hk_ => by first | exact ⟨hk_.1.1.1, hk_.1.1.2, hk_.1.2⟩ | (revert hk_; simp only [and_imp]; intros; and_intros <;> assumption))); replace BK174 := aM (blk_kept (qB BK174.out) hkp (fun hs_ => (fun e_ => (Kd.R_ne HO_193003.out BK174.out (by decide)) e_) hs_)); replace BK192 := aM (blk_kept (qB BK192.out) hkp (fun hs_ => (fun e_ => (Kd.R_ne HO_193003.out BK192.out (by decide)) e_) hs_)); replace HO_193003 := aM (Kd.R_reok rfl hy0 (fun k_ e_ => HO_193003.out.1 k_ e_)); replace HO203 := aM (Kd.R_mono (ok' := fun k_ => some k_ ≠ (.slice Ao24 t189.length co24 : Value).ownBlock) (Kd.R_keptB (HO203.out) hkp (fun k_ hk_ hs_ => (hk_.2) hs_)) (fun k_ hk_ => hk_.1.2)); replace HB := aM (hb); clear hb hkp hy0))
   (try simp only [Act.put, List.setIfInBounds_toArray, List.set_cons_zero, List.set_cons_succ])
   go_cut [61] (fun v61 wc => ∃ (kq : Nat) (x61_36 : Bool), v61 = .bool x61_36 ∧ Aside0 (laws_FnExactPaletteOf.j1 kq t182 t185 t193 x61_36 a0_0 a0_1 a0_2 l0_3 = some r) ∧ Aside0 (kq ≤ kj10) ∧ Aside0 (Kd.S (Kd.slice 3 (Kd.int .i64)) 22 wc w.heap.size (fun k_ => k_ < gb192 ∧ some k_ ≠ ((.slice Ao24 t189.length co24) : Value).ownBlock) v183 t182) ∧ Aside0 (Kd.S (Kd.slice 3 (Kd.int .i64)) 22 wc w.heap.size (fun k_ => gb192 < k_ ∧ some k_ ≠ ((.slice Ao24 t189.length co24) : Value).ownBlock) v194 t193) ∧ Aside0 (Kd.R (Kd.int .i64) 3 wc w.heap.size (fun _ => True) (.slice Ao24 t189.length co24) t206) ∧ Aside0 (wc.heap[gb174]? = some (.cells #[.int .i64 a0_0, .int .i64 a0_1, .int .i64 a0_2, (.slice A0_3 l0_3.length c0_3)] 24 (0, 0))) ∧ Aside0 (wc.heap[gb192]? = some (.cells #[.int .i64 t186, .int .i64 t187, .int .i64 t188, (.slice Ao24 t189.length co24)] 29 (0, 0))) ∧ Aside0 (Below w.heap.size w wc))
   case first =>
    have H := HC37.out
    clear HC37
    by_cases c45 : t205 < 0
    ·rw [if_pos c45] at H
     have c45b0 : decide (t205 < 0) = true := decide_eq_true c45
     clear c45
     (first | rw [c45b0] | (simp only [i64_w, i32_w]; rw [c45b0]) | skip)
     have H' := aM H
     clear H
     go_wp2
     go_meet
     case rel => exact ⟨_, (true), qE, H', ⟨by have := HJ10.out; first | omega | exact Nat.le_refl _⟩, ⟨by (with_reducible repeat (first | apply Kd.S_alloc | apply Kd.S_drewN | apply Kd.S_drew)); exact Kd.S_mono HO_4.out (fun _ hk => ⟨hk.1, hk.2.1⟩)⟩, ⟨by (with_reducible repeat (first | apply Kd.S_alloc | apply Kd.S_drewN | apply Kd.S_drew)); exact Kd.S_mono HO_7.out (fun _ hk => ⟨hk.1, hk.2.1⟩)⟩, ⟨by refine qR ?_; exact Kd.R_mono HO_193003.out (fun _ hk => trivial)⟩, ⟨by refine qB ?_; exact BK174.out⟩, ⟨by refine qB ?_; exact BK192.out⟩, ⟨by exact qW HB.out⟩⟩
    rw [if_neg c45] at H
    have c45b0 : decide (t205 < 0) = false := decide_eq_false c45
    clear c45
    (first | rw [c45b0] | (simp only [i64_w, i32_w]; rw [c45b0]) | skip)
    replace H := Option.bind_eq_some_iff.mp H
    obtain ⟨t207, A460, H⟩ := H
    replace H : (if t207 = true then (laws_FnExactPaletteOf.j1 kj10 t182 t185 t193 (t196 != t185) a0_0 a0_1 a0_2 l0_3) else (laws_FnExactPaletteOf.j1 kj10 t182 t185 t193 true a0_0 a0_1 a0_2 l0_3)) = some r := H
    have A46 := aM A460
    clear A460
    by_cases c47 : t207 = true
    ·subst c47
     have H1 : (laws_FnExactPaletteOf.j1 kj10 t182 t185 t193 (t196 != t185) a0_0 a0_1 a0_2 l0_3) = some r := by rw [if_pos rfl] at H; exact H
     clear H
     have H := H1
     clear H1
     have H' := aM H
     clear H
     obtain ⟨Ao48, co48, eo48⟩ := Kd.S_slice HO_7.out
     subst eo48
     obtain ⟨Ao49, co49, eo49⟩ := Kd.S_slice HO_4.out
     subst eo49
     go_wp2_with (first | (go_at_call 16; (with_reducible refine (laws_eqIntSS.calls kj10 _ _ t193 _ _ t182 true _ ?side1 ?side2 ?side3 ?side4 A46.out).mono ?_); (case side1 => exact qC (Kd.S_reads' HO_7.out).2.2); (case side2 => exact (Kd.S_reads' HO_7.out).2.1); (case side3 => exact qC (Kd.S_reads' HO_4.out).2.2); (case side4 => exact (Kd.S_reads' HO_4.out).2.1); rintro e w' ⟨rfl, ⟨nd, rfl⟩⟩))
     go_meet
     case rel => exact ⟨_, ((t196 != t185)), qE, H', ⟨by have := HJ10.out; first | omega | exact Nat.le_refl _⟩, ⟨by (with_reducible repeat (first | apply Kd.S_alloc | apply Kd.S_drewN | apply Kd.S_drew)); exact Kd.S_mono HO_4.out (fun _ hk => ⟨hk.1, hk.2.1⟩)⟩, ⟨by (with_reducible repeat (first | apply Kd.S_alloc | apply Kd.S_drewN | apply Kd.S_drew)); exact Kd.S_mono HO_7.out (fun _ hk => ⟨hk.1, hk.2.1⟩)⟩, ⟨by refine qR ?_; exact Kd.R_mono HO_193003.out (fun _ hk => trivial)⟩, ⟨by refine qB ?_; exact BK174.out⟩, ⟨by refine qB ?_; exact BK192.out⟩, ⟨by exact qW HB.out⟩⟩
    replace c47 := Bool.eq_false_iff.mpr c47
    subst c47
    have H1 : (laws_FnExactPaletteOf.j1 kj10 t182 t185 t193 true a0_0 a0_1 a0_2 l0_3) = some r := by rw [if_neg (show ¬ (false = true) by decide)] at H; exact H
    clear H
    have H := H1
    clear H1
    have H' := aM H
    clear H
    obtain ⟨Ao50, co50, eo50⟩ := Kd.S_slice HO_7.out
    subst eo50
    obtain ⟨Ao51, co51, eo51⟩ := Kd.S_slice HO_4.out
    subst eo51
    go_wp2_with (first | (go_at_call 16; (with_reducible refine (laws_eqIntSS.calls kj10 _ _ t193 _ _ t182 false _ ?side1 ?side2 ?side3 ?side4 A46.out).mono ?_); (case side1 => exact qC (Kd.S_reads' HO_7.out).2.2); (case side2 => exact (Kd.S_reads' HO_7.out).2.1); (case side3 => exact qC (Kd.S_reads' HO_4.out).2.2); (case side4 => exact (Kd.S_reads' HO_4.out).2.1); rintro e w' ⟨rfl, ⟨nd, rfl⟩⟩))
    go_meet
    case rel => exact ⟨_, (true), qE, H', ⟨by have := HJ10.out; first | omega | exact Nat.le_refl _⟩, ⟨by (with_reducible repeat (first | apply Kd.S_alloc | apply Kd.S_drewN | apply Kd.S_drew)); exact Kd.S_mono HO_4.out (fun _ hk => ⟨hk.1, hk.2.1⟩)⟩, ⟨by (with_reducible repeat (first | apply Kd.S_alloc | apply Kd.S_drewN | apply Kd.S_drew)); exact Kd.S_mono HO_7.out (fun _ hk => ⟨hk.1, hk.2.1⟩)⟩, ⟨by refine qR ?_; exact Kd.R_mono HO_193003.out (fun _ hk => trivial)⟩, ⟨by refine qB ?_; exact BK174.out⟩, ⟨by refine qB ?_; exact BK192.out⟩, ⟨by exact qW HB.out⟩⟩
   case rest =>
    clear HC37
    try clear c3
    try clear c3b0
    try clear c27
    try clear c32
    try clear c35
    try clear c45
    try clear c45b0
    try clear c47
    try clear hcz13_0 hcz13_1 hcz13_2 hcz13_3 hfz13_0 hfz13_1 hfz13_2 hfz13_3
    try clear hcz15_0 hcz15_1 hcz15_2 hcz15_3 hfz15_0 hfz15_1 hfz15_2 hfz15_3
    try clear hcz19_0 hcz19_1 hcz19_2 hcz19_3 hfz19_0 hfz19_1 hfz19_2 hfz19_3
    try clear hcz23_0 hcz23_1 hcz23_2 hcz23_3 hfz23_0 hfz23_1 hfz23_2 hfz23_3
    try clear hcz43_0 hcz43_1 hcz43_2 hcz43_3 hfz43_0 hfz43_1 hfz43_2 hfz43_3
    try clear hcz5_0 hcz5_1 hcz5_2 hcz5_3 hfz5_0 hfz5_1 hfz5_2 hfz5_3
    obtain ⟨kq, x61_36, rfl, HA, HJ36, HO_4, HO_7, HO_193003, BK174, BK192, HB⟩ := hcut
    have hl193003_36 := (Kd.R_reads' HO_193003.out).1
    rw [hl193003_36] at HO_193003
    (try simp only [hl193003_36])
    (try simp only [hl193003_36] at BK174)
    (try simp only [hl193003_36] at BK192)
    (try simp only [hl193003_36] at HO_4)
    (try simp only [hl193003_36] at HO_7)
    cases kq with
    | zero => exact absurd HA.out (by simp [laws_FnExactPaletteOf.j1])
    | succ kj36 =>
     have H := HA.out
     clear HA
     simp only [laws_FnExactPaletteOf.j1] at H
     by_cases c52 : x61_36 = true
     ·subst c52
      have H1 : (some false) = some r := by rw [if_pos rfl] at H; exact H
      clear H
      have H := H1
      clear H1
      obtain rfl := Option.some.inj H
      exact absurd hrt (by decide)
     replace c52 := Bool.eq_false_iff.mpr c52
     subst c52
     have H1 : ((laws_markIntSS.f kj36 t193 1).bind fun bt208 => ((laws_heldIntSS.f kj36 bt208.2 1).bind fun t210 => (if t210 < 0 then (some false) else (if t210 = bt208.1 then ((laws_toImage.f kj36 a0_0 a0_1 a0_2 l0_3).bind fun bt211 => ((impl_PaletteOf.f bt211.1 bt211.2.1 bt211.2.2.1 bt211.2.2.2).bind fun bt217 => ((laws_eqIntSS.f kj36 bt217.1 t182).bind fun t221 => (if t221 = true then (laws_FnExactPaletteOf.j2 kj36 bt208.2 bt208.1 (bt217.2 != t185)) else (laws_FnExactPaletteOf.j2 kj36 bt208.2 bt208.1 true))))) else (some false))))) = some r := by rw [if_neg (show ¬ (false = true) by decide)] at H; exact H
     clear H
     have H := H1
     clear H1
     replace H := Option.bind_eq_some_iff.mp H
     obtain ⟨⟨t208, t209⟩, A530, H⟩ := H
     replace H : ((laws_heldIntSS.f kj36 t209 1).bind fun t210 => (if t210 < 0 then (some false) else (if t210 = t208 then ((laws_toImage.f kj36 a0_0 a0_1 a0_2 l0_3).bind fun bt211 => ((impl_PaletteOf.f bt211.1 bt211.2.1 bt211.2.2.1 bt211.2.2.2).bind fun bt217 => ((laws_eqIntSS.f kj36 bt217.1 t182).bind fun t221 => (if t221 = true then (laws_FnExactPaletteOf.j2 kj36 t209 t208 (bt217.2 != t185)) else (laws_FnExactPaletteOf.j2 kj36 t209 t208 true))))) else (some false)))) = some r := H
     have A53 := aM A530
     clear A530
     replace H := Option.bind_eq_some_iff.mp H
     obtain ⟨t210, A540, H⟩ := H
     replace H : (if t210 < 0 then (some false) else (if t210 = t208 then ((laws_toImage.f kj36 a0_0 a0_1 a0_2 l0_3).bind fun bt211 => ((impl_PaletteOf.f bt211.1 bt211.2.1 bt211.2.2.1 bt211.2.2.2).bind fun bt217 => ((laws_eqIntSS.f kj36 bt217.1 t182).bind fun t221 => (if t221 = true then (laws_FnExactPaletteOf.j2 kj36 t209 t208 (bt217.2 != t185)) else (laws_FnExactPaletteOf.j2 kj36 t209 t208 true))))) else (some false))) = some r := H
     have A54 := aM A540
     clear A540
     by_cases c55 : t210 < 0
     ·rw [if_pos c55] at H
      have c55b0 : decide (t210 < 0) = true := decide_eq_true c55
      clear c55
      obtain rfl := Option.some.inj H
      exact absurd hrt (by decide)
     rw [if_neg c55] at H
     have c55b0 : decide (t210 < 0) = false := decide_eq_false c55
     clear c55
     by_cases c58 : t210 = t208
     rotate_left
     ·rw [if_neg c58] at H
      have c58b0 : (t210 == t208) = false := beq_eq_false_iff_ne.mpr c58
      have c58b1 : (t210 != t208) = true := bne_iff_ne.mpr c58
      obtain rfl := Option.some.inj H
      exact absurd hrt (by decide)
     rw [if_pos c58] at H
     have c58b0 : (t210 == t208) = true := beq_iff_eq.mpr c58
     have c58b1 : (t210 != t208) = false := bne_eq_false_iff_eq.mpr c58
     clear c58
     replace H := Option.bind_eq_some_iff.mp H
     obtain ⟨⟨t211, t212, t213, t214⟩, A590, H⟩ := H
     replace H : ((impl_PaletteOf.f t211 t212 t213 t214).bind fun bt217 => ((laws_eqIntSS.f kj36 bt217.1 t182).bind fun t221 => (if t221 = true then (laws_FnExactPaletteOf.j2 kj36 t209 t208 (bt217.2 != t185)) else (laws_FnExactPaletteOf.j2 kj36 t209 t208 true)))) = some r := H
     have A59 := aM A590
     clear A590
     replace H := Option.bind_eq_some_iff.mp H
     obtain ⟨⟨t217, t220⟩, A600, H⟩ := H
     replace H : ((laws_eqIntSS.f kj36 t217 t182).bind fun t221 => (if t221 = true then (laws_FnExactPaletteOf.j2 kj36 t209 t208 (t220 != t185)) else (laws_FnExactPaletteOf.j2 kj36 t209 t208 true))) = some r := H
     have A60 := aM A600
     clear A600
     have HC61 := aM H
     clear H
     obtain ⟨Ao62, co62, eo62⟩ := Kd.S_slice HO_7.out
     subst eo62
     go_upto_region 25 with (first | ((with_reducible refine gate_callee (f := 19) rfl ?_); refine gL (some 64) Try.func19 #[.slice Ao62 t193.length co62, .int .i64 1] ?_; (with_reducible refine (laws_markIntSS.calls kj36 (fun k_ => (((gb192 < k_ ∧ some k_ ≠ (.slice Ao24 t206.length co24 : Value).ownBlock) ∧ k_ ≠ gb174) ∧ k_ ≠ gb192)) (.slice Ao62 t193.length co62) t193 1 t208 t209 w _ ?side1 ?side2 A53.out).mono ?_); (case side1 => exact qW HB.out); (case side2 => exact (Kd.S_types (Kd.S_types HO_7.out BK174.out (by decide)) BK192.out (by decide))); rintro e w63 ⟨rfl, hy0, hb, hkp⟩; refine ⟨_, rfl, ?_⟩; have hkp0 := hkp; have n0_ := aM (hy0); have n1_ := aM (Kd.R_mono (Kd.R_kept (Kd.R_tight2 rfl HO_193003.out) hkp (fun k_ hk_ hs_ => (hs_.1.1.2) hk_.1)) (fun _ h_ => h_.2)); have n2_ := aM (blk_kept (qB BK174.out) hkp (fun hs_ => (hs_.1.2) rfl)); have n3_ := aM (blk_kept (qB BK192.out) hkp (fun hs_ => (hs_.2) rfl)); have n4_ := aM (hb); clear HO_7; clear HO_193003; clear BK174; clear BK192; clear HB; have nx_ := aM (Kd.S_kept (by (with_reducible repeat (first | apply Kd.S_alloc | apply Kd.S_drewN | apply Kd.S_drew)); exact HO_4.out) hkp0 (by intro k_ hk_ hs_; have a_ : k_ < gb192 := (by revert hk_; simp only [and_imp]; intros; assumption); have b_ : gb192 < k_ := (by revert hs_; simp only [and_imp]; intros; assumption); omega)); clear HO_4; have HO_4 := nx_; clear nx_ hkp0; have HO_7 := n0_; have HO_193003 := n1_; have BK174 := n2_; have BK192 := n3_; have HB := n4_; clear n0_ n1_ n2_ n3_ n4_; clear hb hkp hy0) | ((with_reducible refine gate_callee (f := 20) rfl ?_); refine goesL_ (some 67) rfl rfl Try.func20 (by kernel_rfl) rfl #[.slice Ao62 t209.length co62, .int .i64 1] rfl (by (try simp only [List.map_toArray, List.map_cons, List.map_nil]); first | done | (rw [show t209.length = t193.length from (Kd.S_reads' HO_7.out).1.symm] <;> rfl) | rfl | (simp only [List.length_drop, List.length_take]; rfl)) ?_; (with_reducible refine (laws_heldIntSS.calls kj36 _ _ t209 1 t210 _ ?side1 ?side2 A54.out).mono ?_); (case side1 => exact qC (Kd.S_reads' HO_7.out).2.2); (case side2 => rw [show t209.length = t193.length from (Kd.S_reads' HO_7.out).1.symm]; exact (Kd.S_reads' HO_7.out).2.1); rintro e w' ⟨rfl, ⟨nd, rfl⟩⟩; refine ⟨_, rfl, ?_⟩; have hnb64 := NB174_192.out; have hnc64 := NB192_174.out; obtain ⟨⟨hcz65_0, hcz65_1, hcz65_2, hcz65_3⟩, hfz65_0, hfz65_1, hfz65_2, hfz65_3⟩ := cf4 BK174) | ((with_reducible refine gate_callee (f := 14) rfl ?_); refine gL (some 75) Try.func14 #[.agg #[.int .i64 a0_0, .int .i64 a0_1, .int .i64 a0_2, .slice A0_3 l0_3.length c0_3]] ?_; (with_reducible refine (laws_toImage.calls kj36 a0_0 a0_1 a0_2 _ _ l0_3 t211 t212 t213 t214 _ ?side1 ?side2 A59.out).mono ?_); (case side1 => exact qC (Kd.C_below HR0_3.out (qW HB.out))); (case side2 => exact HC0_3.out); rintro e w66 ⟨v215, rfl, ho0, hb⟩; refine ⟨_, rfl, ?_⟩; have n0_ := aM (Kd.S_elder' (by (with_reducible repeat (first | apply Kd.S_alloc | apply Kd.S_drewN | apply Kd.S_drew)); exact HO_7.out) (Kd.R_base ho0) hb); have n1_ := aM (Kd.R_elder' (qR HO_193003.out) (Kd.R_base ho0) hb); have n2_ := nR ho0 HO_193003 HB; have n3_ := bB BK174 hb; have n4_ := bB BK192 hb; have n5_ := bS HB hb; have nx_ := aM (Kd.S_below (by (with_reducible repeat (first | apply Kd.S_alloc | apply Kd.S_drewN | apply Kd.S_drew)); exact HO_4.out) hb); clear HO_4; have HO_4 := nx_; clear nx_; clear HO_7; clear HO_193003; clear BK174; clear BK192; clear HB; have HO_7 := n0_; have HO_193003 := n1_; have HO216 := n2_; have BK174 := n3_; have BK192 := n4_; have HB := n5_; clear n0_ n1_ n2_ n3_ n4_ n5_; clear hb ho0; obtain ⟨Ao67, co67, rfl⟩ := sL HO216) | ((with_reducible refine gate_callee (f := 15) rfl ?_); refine gL (some 76) Try.func15 #[.agg #[.int .i64 t211, .int .i64 t212, .int .i64 t213, .slice Ao67 t214.length co67]] ?_; (with_reducible refine (impl_PaletteOf.calls t211 t212 t213 _ _ t214 t217 t220 _ ?side1 ?side2 A60.out).mono ?_); (case side1 => exact qC (Kd.R_reads' HO216.out).2.2); (case side2 => exact (Kd.R_reads' HO216.out).2.1); rintro e w68 ⟨v218, rfl, ho0, hb⟩; refine ⟨_, rfl, ?_⟩; have n0_ := aM (Kd.S_elder' (by (with_reducible repeat (first | apply Kd.S_alloc | apply Kd.S_drewN | apply Kd.S_drew)); exact HO_7.out) (Kd.S_base ho0) hb); have n1_ := aM (Kd.R_below (qR HO_193003.out) hb); have n2_ := aM (Kd.R_below (qR HO216.out) hb); have n3_ := aM (Kd.S_lower (Kd.S_new' (Kd.S_new' (Kd.S_new' ho0 (Kd.S_lt (by (with_reducible repeat (first | apply Kd.S_alloc | apply Kd.S_drewN | apply Kd.S_drew)); exact HO_7.out))) (Kd.R_lt (qR HO_193003.out))) (Kd.R_lt (qR HO216.out))) (below_size (qW HB.out))); have n4_ := bB BK174 hb; have n5_ := bB BK192 hb; have n6_ := bS HB hb; have nx_ := aM (Kd.S_below (by (with_reducible repeat (first | apply Kd.S_alloc | apply Kd.S_drewN | apply Kd.S_drew)); exact HO_4.out) hb); clear HO_4; have HO_4 := nx_; clear nx_; clear HO_7; clear HO_193003; clear HO216; clear BK174; clear BK192; clear HB; have HO_7 := n0_; have HO_193003 := n1_; have HO216 := n2_; have HO219 := n3_; have BK174 := n4_; have BK192 := n5_; have HB := n6_; clear n0_ n1_ n2_ n3_ n4_ n5_ n6_; clear hb ho0))
     (try simp only [Act.put, List.setIfInBounds_toArray, List.set_cons_zero, List.set_cons_succ])
     go_cut [87] (fun v87 wc => ∃ (kq : Nat) (x87_60 : Bool), v87 = .bool x87_60 ∧ Aside0 (laws_FnExactPaletteOf.j2 kq t209 t208 x87_60 = some r) ∧ Aside0 (kq ≤ kj36) ∧ Aside0 (Kd.S (Kd.slice 3 (Kd.int .i64)) 22 wc w.heap.size (fun k_ => some k_ ≠ ((.slice Ao24 t206.length co24) : Value).ownBlock) (.slice Ao62 t193.length co62) t209) ∧ Aside0 (Kd.R (Kd.int .i64) 3 wc w.heap.size (fun _ => True) (.slice Ao24 t206.length co24) t206) ∧ Aside0 (wc.heap[gb174]? = some (.cells #[.int .i64 a0_0, .int .i64 a0_1, .int .i64 a0_2, (.slice A0_3 l0_3.length c0_3)] 24 (0, 0))) ∧ Aside0 (wc.heap[gb192]? = some (.cells #[.int .i64 t186, .int .i64 t187, .int .i64 t188, (.slice Ao24 t206.length co24)] 29 (0, 0))) ∧ Aside0 (Below w.heap.size w wc))
     case first =>
      have H := HC61.out
      clear HC61
      replace H := Option.bind_eq_some_iff.mp H
      obtain ⟨t221, A690, H⟩ := H
      replace H : (if t221 = true then (laws_FnExactPaletteOf.j2 kj36 t209 t208 (t220 != t185)) else (laws_FnExactPaletteOf.j2 kj36 t209 t208 true)) = some r := H
      have A69 := aM A690
      clear A690
      by_cases c70 : t221 = true
      ·subst c70
       have H1 : (laws_FnExactPaletteOf.j2 kj36 t209 t208 (t220 != t185)) = some r := by rw [if_pos rfl] at H; exact H
       clear H
       have H := H1
       clear H1
       have H' := aM H
       clear H
       obtain ⟨Ao71, co71, eo71⟩ := Kd.S_slice HO219.out
       subst eo71
       obtain ⟨Ao72, co72, eo72⟩ := Kd.S_slice HO_4.out
       subst eo72
       go_wp2_with (first | ((with_reducible refine gate_callee (f := 16) rfl ?_); refine gL (some 81) Try.func16 #[.slice Ao71 t217.length co71, .slice Ao72 t182.length co72] ?_; (with_reducible refine (laws_eqIntSS.calls kj36 _ _ t217 _ _ t182 true _ ?side1 ?side2 ?side3 ?side4 A69.out).mono ?_); (case side1 => exact qC (Kd.S_reads' HO219.out).2.2); (case side2 => exact (Kd.S_reads' HO219.out).2.1); (case side3 => exact qC (Kd.S_reads' HO_4.out).2.2); (case side4 => exact (Kd.S_reads' HO_4.out).2.1); rintro e w' ⟨rfl, ⟨nd, rfl⟩⟩; refine ⟨_, rfl, ?_⟩))
       go_meet
       case rel => exact ⟨_, ((t220 != t185)), qE, H', ⟨by have := HJ10.out; have := HJ36.out; first | omega | exact Nat.le_refl _⟩, ⟨by (try simp only [hl193003_36]); (with_reducible repeat (first | apply Kd.S_alloc | apply Kd.S_drewN | apply Kd.S_drew)); exact Kd.S_mono HO_7.out (fun _ hk => hk.1.1.1.1.2)⟩, ⟨by (try simp only [hl193003_36]); refine qR ?_; exact Kd.R_mono HO_193003.out (fun _ hk => trivial)⟩, ⟨by (try simp only [hl193003_36]); refine qB ?_; exact BK174.out⟩, ⟨by (try simp only [hl193003_36]); refine qB ?_; exact BK192.out⟩, ⟨by exact qW HB.out⟩⟩
      replace c70 := Bool.eq_false_iff.mpr c70
      subst c70
      have H1 : (laws_FnExactPaletteOf.j2 kj36 t209 t208 true) = some r := by rw [if_neg (show ¬ (false = true) by decide)] at H; exact H
      clear H
      have H := H1
      clear H1
      have H' := aM H
      clear H
      obtain ⟨Ao73, co73, eo73⟩ := Kd.S_slice HO219.out
      subst eo73
      obtain ⟨Ao74, co74, eo74⟩ := Kd.S_slice HO_4.out
      subst eo74
      go_wp2_with (first | ((with_reducible refine gate_callee (f := 16) rfl ?_); refine gL (some 81) Try.func16 #[.slice Ao73 t217.length co73, .slice Ao74 t182.length co74] ?_; (with_reducible refine (laws_eqIntSS.calls kj36 _ _ t217 _ _ t182 false _ ?side1 ?side2 ?side3 ?side4 A69.out).mono ?_); (case side1 => exact qC (Kd.S_reads' HO219.out).2.2); (case side2 => exact (Kd.S_reads' HO219.out).2.1); (case side3 => exact qC (Kd.S_reads' HO_4.out).2.2); (case side4 => exact (Kd.S_reads' HO_4.out).2.1); rintro e w' ⟨rfl, ⟨nd, rfl⟩⟩; refine ⟨_, rfl, ?_⟩))
      go_meet
      case rel => exact ⟨_, (true), qE, H', ⟨by have := HJ10.out; have := HJ36.out; first | omega | exact Nat.le_refl _⟩, ⟨by (try simp only [hl193003_36]); (with_reducible repeat (first | apply Kd.S_alloc | apply Kd.S_drewN | apply Kd.S_drew)); exact Kd.S_mono HO_7.out (fun _ hk => hk.1.1.1.1.2)⟩, ⟨by (try simp only [hl193003_36]); refine qR ?_; exact Kd.R_mono HO_193003.out (fun _ hk => trivial)⟩, ⟨by (try simp only [hl193003_36]); refine qB ?_; exact BK174.out⟩, ⟨by (try simp only [hl193003_36]); refine qB ?_; exact BK192.out⟩, ⟨by exact qW HB.out⟩⟩
     case rest =>
      clear HC61
      try clear c3
      try clear c3b0
      try clear c27
      try clear c32
      try clear c35
      try clear c45
      try clear c45b0
      try clear c47
      try clear c52
      try clear c55
      try clear c55b0
      try clear c58
      try clear c58b0
      try clear c58b1
      try clear c70
      try clear hcz13_0 hcz13_1 hcz13_2 hcz13_3 hfz13_0 hfz13_1 hfz13_2 hfz13_3
      try clear hcz15_0 hcz15_1 hcz15_2 hcz15_3 hfz15_0 hfz15_1 hfz15_2 hfz15_3
      try clear hcz19_0 hcz19_1 hcz19_2 hcz19_3 hfz19_0 hfz19_1 hfz19_2 hfz19_3
      try clear hcz23_0 hcz23_1 hcz23_2 hcz23_3 hfz23_0 hfz23_1 hfz23_2 hfz23_3
      try clear hcz43_0 hcz43_1 hcz43_2 hcz43_3 hfz43_0 hfz43_1 hfz43_2 hfz43_3
      try clear hcz5_0 hcz5_1 hcz5_2 hcz5_3 hfz5_0 hfz5_1 hfz5_2 hfz5_3
      try clear hcz65_0 hcz65_1 hcz65_2 hcz65_3 hfz65_0 hfz65_1 hfz65_2 hfz65_3
      obtain ⟨kq, x87_60, rfl, HA, HJ60, HO_7, HO_193003, BK174, BK192, HB⟩ := hcut
      have hl7_60 := (Kd.S_reads' HO_7.out).1
      rw [hl7_60] at HO_7
      (try simp only [hl7_60])
      (try simp only [hl7_60] at BK174)
      (try simp only [hl7_60] at BK192)
      (try simp only [hl7_60] at HO_193003)
      cases kq with
      | zero => exact absurd HA.out (by simp [laws_FnExactPaletteOf.j2])
      | succ kj60 =>
       have H := HA.out
       clear HA
       simp only [laws_FnExactPaletteOf.j2] at H
       by_cases c75 : x87_60 = true
       ·subst c75
        have H1 : (some false) = some r := by rw [if_pos rfl] at H; exact H
        clear H
        have H := H1
        clear H1
        obtain rfl := Option.some.inj H
        exact absurd hrt (by decide)
       replace c75 := Bool.eq_false_iff.mpr c75
       subst c75
       have H1 : ((laws_heldIntSS.f kj60 t209 1).bind fun t222 => (if t222 < 0 then (some false) else (if t222 = t208 then (some true) else (some false)))) = some r := by rw [if_neg (show ¬ (false = true) by decide)] at H; exact H
       clear H
       have H := H1
       clear H1
       replace H := Option.bind_eq_some_iff.mp H
       obtain ⟨t222, A760, H⟩ := H
       replace H : (if t222 < 0 then (some false) else (if t222 = t208 then (some true) else (some false))) = some r := H
       have A76 := aM A760
       clear A760
       by_cases c77 : t222 < 0
       ·rw [if_pos c77] at H
        have c77b0 : decide (t222 < 0) = true := decide_eq_true c77
        clear c77
        obtain rfl := Option.some.inj H
        exact absurd hrt (by decide)
       rw [if_neg c77] at H
       have c77b0 : decide (t222 < 0) = false := decide_eq_false c77
       clear c77
       by_cases c78 : t222 = t208
       rotate_left
       ·rw [if_neg c78] at H
        have c78b0 : (t222 == t208) = false := beq_eq_false_iff_ne.mpr c78
        have c78b1 : (t222 != t208) = true := bne_iff_ne.mpr c78
        obtain rfl := Option.some.inj H
        exact absurd hrt (by decide)
       rw [if_pos c78] at H
       have c78b0 : (t222 == t208) = true := beq_iff_eq.mpr c78
       have c78b1 : (t222 != t208) = false := bne_eq_false_iff_eq.mpr c78
       clear c78
       obtain rfl := Option.some.inj H
       go_wp2_with (first | ((with_reducible refine gate_callee (f := 20) rfl ?_); refine gL (some 90) Try.func20 #[.slice Ao62 t209.length co62, .int .i64 1] ?_; (with_reducible refine (laws_heldIntSS.calls kj60 _ _ t209 1 t222 _ ?side1 ?side2 A76.out).mono ?_); (case side1 => exact qC (Kd.S_reads' HO_7.out).2.2); (case side2 => exact (Kd.S_reads' HO_7.out).2.1); rintro e w' ⟨rfl, ⟨nd, rfl⟩⟩; refine ⟨_, rfl, ?_⟩))
       go_ret
       exact ⟨qX, by exact qW HB.out⟩
def laws_FnExactPaletteOf.Pure : Prop := ∀ (a0_0 : Int) (a0_1 : Int) (a0_2 : Int) (l0_3 : List Int), (Lit.int .i64 a0_0).wf = true → (Lit.int .i64 a0_1).wf = true → (Lit.int .i64 a0_2).wf = true → l0_3.length ≤ maxLen → (∀ x ∈ l0_3, (Lit.int .i64 x).wf = true) → ∃ k, laws_FnExactPaletteOf.f k a0_0 a0_1 a0_2 l0_3 = some true
theorem laws_FnExactPaletteOf.walk (P : laws_FnExactPaletteOf.Pure) (a0_0 : Int) (a0_1 : Int) (a0_2 : Int) (A0_3 : Option Addr) (len0_3 cap0_3 : Nat) (z0_3 : List Int) (w : World) (w0_0 : (Lit.int .i64 a0_0).wf = true) (w0_1 : (Lit.int .i64 a0_1).wf = true) (w0_2 : (Lit.int .i64 a0_2).wf = true) (w0_3 : (A0_3 = none ∧ len0_3 = 0 ∧ cap0_3 = 0 ∧ z0_3 = []) ∨ ∃ x, A0_3 = some x ∧ len0_3 ≤ cap0_3 ∧ cap0_3 ≤ maxLen ∧ z0_3.length = cap0_3 ∧ (∀ i, i < z0_3.length → w.cell? (x.add i) = some (.int .i64 (z0_3.getD i 0))) ∧ ∀ n ∈ z0_3, (Lit.int .i64 n).wf = true) :
  Calls Try.prog 3 #[.agg #[.int .i64 a0_0, .int .i64 a0_1, .int .i64 a0_2, .slice A0_3 len0_3 cap0_3]] w fun e w' => e = .returned (.bool true) ∧ Below w.heap.size w w' := by
 obtain ⟨l0_3, rfl, hr0_3, hm0_3, hw0_3, hc0_3⟩ := ReadsInt.ofRowC w0_3
 obtain ⟨k, h⟩ := P a0_0 a0_1 a0_2 l0_3 w0_0 w0_1 w0_2 hm0_3 hw0_3
 refine (laws_FnExactPaletteOf.calls k a0_0 a0_1 a0_2 _ _ l0_3 true w (Kd.C_of_reads (d := (0 : Int)) (h1 := fun _ => rfl) hr0_3) hc0_3 h rfl).mono ?_
 rintro e w' ⟨rfl, hd⟩
 exact ⟨rfl, hd⟩
end Go.Proofs.Ytohbpilokmppbaa.P
