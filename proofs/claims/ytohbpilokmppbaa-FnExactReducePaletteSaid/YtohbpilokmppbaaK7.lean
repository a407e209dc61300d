/- Contracts and row, written by a program of this place out of the translation: the call answers true and its argument reads as before, for every input; no condition. -/
import Derived.Test.YtohbpilokmppbaaK0
import Derived.Test.YtohbpilokmppbaaK1
import Derived.Test.YtohbpilokmppbaaK3
import Derived.Test.YtohbpilokmppbaaK4
namespace Go.Proofs.Ytohbpilokmppbaa.P
open Go.RowKit Go.Proofs.YtohbpilokmppbaaW.PrintWords Go.Proofs.YtohbpilokmppbaaW.PrintLast Go.Proofs.YtohbpilokmppbaaW.PrintMore
attribute [local go_sem] max2_int min2_int max_two min_two max_three min_three max_four min_four   -- for this text's walks alone
set_option linter.unusedVariables false
set_option linter.unusedSimpArgs false
def laws_markIntSS.l0 : Nat → List (List Int) → Int → Int → Option (Int × List (List Int))
 | 0, _, _, _ => none
 | k + 1, x0, x1, x5 => if x5 < (x0.length : Int) then (if 0 ≤ x5 then ((laws_markIntS.f k (rd_L1 x0 x5) x1).bind fun bt => laws_markIntSS.l0 k (x0.set (x5 : Int).toNat bt.2) bt.1 (wrap64 (x5 + 1))) else (none)) else (some (x1, x0))
def laws_markIntSS.f (k : Nat) (l0 : List (List Int)) (a1 : Int) : Option (Int × List (List Int)) := laws_markIntSS.l0 k l0 a1 0
theorem laws_markIntSS.mono_l : ∀ k, (∀ y0 y1 y2, LeO (laws_markIntSS.l0 k y0 y1 y2) (laws_markIntSS.l0 (k + 1) y0 y1 y2))
 | 0 => fun _ _ _ r h => by simp [laws_markIntSS.l0] at h
 | k + 1 => by
  have ih0 := laws_markIntSS.mono_l k
  intro y0 y1 y2
  unfold laws_markIntSS.l0
  repeat' first | (with_reducible first | exact ih0 _ _ _ | exact laws_markIntS.mono _ _ _ | exact lR | exact lN | refine lI ?_ ?_ | refine lB ?_ fun _ => ?_) | exact ih0 _ _ _ | exact laws_markIntS.mono _ _ _ | exact lN | refine lI ?_ ?_ | refine lB ?_ fun _ => ?_
theorem laws_markIntSS.mono : ∀ a0 a1 k, LeO (laws_markIntSS.f k a0 a1) (laws_markIntSS.f (k + 1) a0 a1) := by
 intro a0 a1 k
 exact laws_markIntSS.mono_l k _ _ _
theorem S_handed {t e : Nat} {W : World} {base : Nat} {ok : Nat → Prop} {g n cap : Nat} {xs : List (List Int)} (h : Kd.S (Kd.slice t (Kd.int .i64)) e W base ok (.slice (some ⟨g, 0, none⟩) n cap) xs) (i : Int) (h0 : 0 ≤ i) (h1 : i < n) :
  ∃ (oki : Nat → Prop) (vr : Value), W.cell? ⟨g, i.toNat, none⟩ = some vr ∧ Kd.R (Kd.int .i64) t W base oki vr (xs.getD i.toNat []) ∧ (∀ k, oki k → ok k) ∧
   ∀ (W2 : World) (y : List Int) (P : Nat → Prop), Kept W W2 oki → Kd.R (Kd.int .i64) t W2 base P vr y → Kd.S (Kd.slice t (Kd.int .i64)) e W2 base ok (.slice (some ⟨g, 0, none⟩) n cap) (xs.set i.toNat y) := by
 obtain ⟨oki, c, hcl, hM, hcc, hoki, hH⟩ := Kd.S_lend h [] i h0 h1
 obtain ⟨vr, rfl, hR⟩ := hM
 refine ⟨oki, vr, ?_, hR, fun k hk => (hoki k hk).1, fun W2 y P hk hR2 => ?_⟩
 rotate_left
 ·exact Kd.H_back (Kd.H_kept hH hk (fun k _ hn => hn)) (Kd.M_row (Kd.R_mono (Kd.R_tight rfl hR2) (fun k hk => hR.1 k hk.symm))) (fun _ h => h)
 have hq := hcc 0 vr rfl
 rw [Nat.add_zero, show ((Kd.slice t (Kd.int .i64))).sz = 1 from rfl, Nat.mul_one] at hq
 exact hq
set_option maxHeartbeats 8000000 in
set_option maxRecDepth 100000 in
theorem laws_markIntSS.calls (k : Nat) (P0_ : Nat → Prop) (u9000_ : Value) (l0 : List (List Int)) (a1 : Int) (r1 : Int) (r2 : List (List Int)) (w0 w : World) (hB : Below w0.heap.size w0 w) (ho0 : Kd.S (Kd.slice 3 (Kd.int .i64)) 22 w w0.heap.size P0_ u9000_ l0) (h : laws_markIntSS.f k l0 a1 = some (r1, r2)) :
  Calls Try.prog 19 #[u9000_, .int .i64 a1] w fun e w' => e = .returned (.int .i64 r1) ∧ Kd.S (Kd.slice 3 (Kd.int .i64)) 22 w' w0.heap.size P0_ u9000_ r2 ∧ Below w0.heap.size w0 w' ∧ Kept w w' (fun k_ => P0_ k_) := by
 have HO0 := aM ho0
 have HK := aM (Kept.refl w (fun k_ => P0_ k_))
 have HB := aM hB
 clear hB ho0
 unfold laws_markIntSS.f at h
 have H := h
 clear h
 have H' := aM H
 clear H
 obtain ⟨Au, cu, eu⟩ := Kd.S_slice HO0.out
 subst eu
 obtain ⟨nu, hnu⟩ : ∃ z, l0.length = z := ⟨_, rfl⟩
 rw [hnu] at HO0 ⊢
 have HNU := aM hnu
 clear hnu
 go_enter Try.func19, Try.ntmps19
 go_wp2
 go_loopg [1, 5] k (fun kq v1 v5 w' => ∃ (x0_1 : List (List Int)) (x1_1 : Int) (x5_1 : Int), v1 = .int .i64 x1_1 ∧ v5 = .int .i64 x5_1 ∧ Aside0 (laws_markIntSS.l0 kq x0_1 x1_1 x5_1 = some (r1, r2)) ∧ Aside0 (kq ≤ k) ∧ Aside0 (Kd.S (Kd.slice 3 (Kd.int .i64)) 22 w' w0.heap.size P0_ (.slice Au nu cu) x0_1) ∧ Aside0 (Kept w w' (fun k_ => P0_ k_)) ∧ Aside0 (Below w0.heap.size w0 w'))
 case atStart => exact ⟨l0, a1, 0, rfl, rfl, H', ⟨Nat.le_refl _⟩, HO0, HK, HB⟩
 case round =>
  clear H' HO0 HK HB
  obtain ⟨x0_1, x1_1, x5_1, rfl, rfl, HA, HK1, HO, HK, HB⟩ := hrel
  cases gk with
  | zero => exact absurd HA.out (by simp [laws_markIntSS.l0])
  | succ k1 =>
   have H := HA.out
   clear HA
   simp only [laws_markIntSS.l0] at H
   have hn := (Kd.S_reads' HO.out).1
   by_cases c3 : x5_1 < (x0_1.length : Int)
   rotate_left
   ·rw [if_neg c3] at H
    simp only [Option.some.injEq, Prod.mk.injEq] at H
    obtain ⟨rfl, rfl⟩ := H
    have c5 : ¬ x5_1 < (nu : Int) := by omega
    have c5b := decide_eq_false c5
    clear hn
    go_wp2
    go_ret
    exact ⟨rfl, HO.out, HB.out, HK.out⟩
   rw [if_pos c3] at H
   replace H := iS H
   obtain ⟨c4, H⟩ := H
   replace H := Option.bind_eq_some_iff.mp H
   obtain ⟨⟨q1, q2⟩, A50, H⟩ := H
   have A5 := aM A50
   clear A50
   have H' := aM H
   clear H
   obtain ⟨g, cg, eg, _⟩ := Kd.S_form HO.out (by omega)
   have c5 : x5_1 < (nu : Int) := by omega
   have HN := aM hn
   clear hn
   injection eg with ea en ec
   subst ea ec
   clear en
   obtain ⟨oki, vr, hx, hR, hoki, hback⟩ := S_handed HO.out x5_1 c4 c5
   have HR := aM hR
   have HX := aM hback
   have HI := aM hoki
   clear hback hR hoki
   have c4b := decide_eq_true c4
   have c5b := decide_eq_true c5
   have c4t := eq_true c4
   have c5t := eq_true c5
   go_wp2_with (first | ((with_reducible refine gate_callee (f := 49) rfl ?_); refine goesL_ (some 17) rfl rfl Try.func49 (by kernel_rfl) rfl #[vr, .int .i64 x1_1] rfl (by (try simp only [List.map_toArray, List.map_cons, List.map_nil]); first | done | rfl) ?_; (with_reducible refine (laws_markIntS.calls k1 oki vr (rd_L1 x0_1 x5_1) x1_1 q1 q2 w0 _ ?side1 ?side2 A5.out).mono ?_); (case side1 => exact HB.out); (case side2 => exact HR.out); rintro e w2 ⟨rfl, hr2, hb2, hk2⟩; refine ⟨_, rfl, ?_⟩; have HO2 := aM (HX.out w2 q2 _ hk2 hr2); have HB2 := aM hb2; have HK2 := aM (HK.out.then_ hk2 (fun k hk => .inl (HI.out k hk))); clear hr2 hb2 hk2 HX HR HO HB HK))
   go_roundg k1
   case measure => have := HK1.out; omega
   case rel => exact ⟨_, q1, wrap64 (x5_1 + 1), rfl, qE, H', ⟨by have := HK1.out; omega⟩, HO2, HK2, HB2⟩
def laws_heldIntSS.l0 : Nat → List (List Int) → Int → Int → Option (Int)
 | 0, _, _, _ => none
 | k + 1, x0, x1, x5 => if x5 < (x0.length : Int) then (if 0 ≤ x5 then ((laws_heldIntS.f k (rd_L1 x0 x5) x1).bind fun t173 => (if t173 < 0 then (some (-1)) else (laws_heldIntSS.l0 k x0 t173 (wrap64 (x5 + 1))))) else (none)) else (some x1)
def laws_heldIntSS.f (k : Nat) (l0 : List (List Int)) (a1 : Int) : Option (Int) := laws_heldIntSS.l0 k l0 a1 0
theorem laws_heldIntSS.mono_l : ∀ k, (∀ y0 y1 y2, LeO (laws_heldIntSS.l0 k y0 y1 y2) (laws_heldIntSS.l0 (k + 1) y0 y1 y2))
 | 0 => fun _ _ _ r h => by simp [laws_heldIntSS.l0] at h
 | k + 1 => by
  have ih0 := laws_heldIntSS.mono_l k
  ·intro y0 y1 y2
   unfold laws_heldIntSS.l0
   repeat' first | (with_reducible first | exact ih0 _ _ _ | exact laws_heldIntS.mono _ _ _ | exact lR | exact lN | refine lI ?_ ?_ | refine lB ?_ fun _ => ?_) | exact ih0 _ _ _ | exact laws_heldIntS.mono _ _ _ | exact lN | refine lI ?_ ?_ | refine lB ?_ fun _ => ?_
theorem laws_heldIntSS.mono : ∀ a0 a1 k, LeO (laws_heldIntSS.f k a0 a1) (laws_heldIntSS.f (k + 1) a0 a1) := by
 intro a0 a1 k
 have ih0 := laws_heldIntSS.mono_l k
 unfold laws_heldIntSS.f
 repeat' first | (with_reducible first | exact ih0 _ _ _ | exact laws_heldIntS.mono _ _ _ | exact lR | exact lN | refine lI ?_ ?_ | refine lB ?_ fun _ => ?_) | exact ih0 _ _ _ | exact laws_heldIntS.mono _ _ _ | exact lN | refine lI ?_ ?_ | refine lB ?_ fun _ => ?_
set_option maxHeartbeats 8000000 in
set_option maxRecDepth 100000 in
theorem laws_heldIntSS.calls (k : Nat) (A0 : Option Addr) (c0 : Nat) (l0 : List (List Int)) (a1 : Int) (r : Int) (w : World) (hr0 : Kd.C (Kd.slice 3 (Kd.int .i64)) w A0 l0.length l0) (hc0 : l0.length ≤ c0) (h : laws_heldIntSS.f k l0 a1 = some r) :
  Calls Try.prog 20 #[.slice A0 l0.length c0, .int .i64 a1] w fun e w' => e = .returned (.int .i64 r) ∧ Drawn0 w w' := by
 have HR0 := aM hr0
 have HC0 := aM hc0
 clear hr0 hc0
 unfold laws_heldIntSS.f at h
 have H := h
 clear h
 have H' := aM H
 clear H
 go_enter Try.func20, Try.ntmps20
 go_wp2
 go_loopg [1, 5] k (fun kq v1 v5 w' => ∃ (x1_1 : Int) (x5_1 : Int), v1 = .int .i64 x1_1 ∧ v5 = .int .i64 x5_1 ∧ Aside0 (laws_heldIntSS.l0 kq l0 x1_1 x5_1 = some r) ∧ Aside0 (kq ≤ k) ∧ Drawn0 w w')
 case atStart => exact ⟨(a1), (0), qE, qE, H', ⟨Nat.le_refl _⟩, qD⟩
 case round =>
  clear H'
  obtain ⟨x1_1, x5_1, rfl, rfl, HA, HK1, ⟨m1, rfl⟩⟩ := hrel
  cases gk with
  | zero => exact absurd HA.out (by simp [laws_heldIntSS.l0])
  | succ k1 =>
   have H := HA.out
   clear HA
   simp only [laws_heldIntSS.l0] at H
   by_cases c3 : x5_1 < (l0.length : Int)
   rotate_left
   ·rw [if_neg c3] at H
    have c3b0 : decide (x5_1 < (l0.length : Int)) = false := decide_eq_false c3
    clear c3
    obtain rfl := Option.some.inj H
    go_wp2
    go_ret
    exact ⟨qE, qD⟩
   rw [if_pos c3] at H
   have c3b0 : decide (x5_1 < (l0.length : Int)) = true := decide_eq_true c3
   clear c3
   replace H := iD H
   obtain ⟨c4b0, H⟩ := H
   replace H := Option.bind_eq_some_iff.mp H
   obtain ⟨t173, A50, H⟩ := H
   replace H : (if t173 < 0 then (some (-1)) else (laws_heldIntSS.l0 k1 l0 t173 (wrap64 (x5_1 + 1)))) = some r := H
   have A5 := aM A50
   clear A50
   by_cases c6 : t173 < 0
   ·rw [if_pos c6] at H
    have c6b0 : decide (t173 < 0) = true := decide_eq_true c6
    clear c6
    obtain rfl := Option.some.inj H
    have p172 : 0 ≤ (x5_1 : Int) := oD
    have q172 : x5_1 < (l0.length : Int) := oD
    obtain ⟨ad172, A172_0, c172_0, e172, hx172_0, hl172_0, hi172_0⟩ := at_L1 HR0.out x5_1 p172 q172
    cases e172
    have HR172_0 := aM hi172_0
    have HC172_0 := aM hl172_0
    clear hi172_0 hl172_0
    replace p172 := eq_true p172
    replace q172 := eq_true q172
    go_wp2_with (first | ((with_reducible refine gate_callee (f := 50) rfl ?_); refine gL (some 17) Try.func50 #[.slice A172_0 (rd_L1 l0 x5_1).length c172_0, .int .i64 x1_1] ?_; (with_reducible refine (laws_heldIntS.calls k1 _ _ (rd_L1 l0 x5_1) x1_1 t173 _ ?side1 ?side2 A5.out).mono ?_); (case side1 => exact qC HR172_0.out); (case side2 => exact HC172_0.out); rintro e w' ⟨rfl, ⟨nd, rfl⟩⟩; refine ⟨_, rfl, ?_⟩))
    go_ret
    exact ⟨qE, qD⟩
   rw [if_neg c6] at H
   have c6b0 : decide (t173 < 0) = false := decide_eq_false c6
   clear c6
   have H' := aM H
   clear H
   have p172 : 0 ≤ (x5_1 : Int) := oD
   have q172 : x5_1 < (l0.length : Int) := oD
   obtain ⟨ad172, A172_0, c172_0, e172, hx172_0, hl172_0, hi172_0⟩ := at_L1 HR0.out x5_1 p172 q172
   cases e172
   have HR172_0 := aM hi172_0
   have HC172_0 := aM hl172_0
   clear hi172_0 hl172_0
   replace p172 := eq_true p172
   replace q172 := eq_true q172
   go_wp2_with (first | ((with_reducible refine gate_callee (f := 50) rfl ?_); refine gL (some 17) Try.func50 #[.slice A172_0 (rd_L1 l0 x5_1).length c172_0, .int .i64 x1_1] ?_; (with_reducible refine (laws_heldIntS.calls k1 _ _ (rd_L1 l0 x5_1) x1_1 t173 _ ?side1 ?side2 A5.out).mono ?_); (case side1 => exact qC HR172_0.out); (case side2 => exact HC172_0.out); rintro e w' ⟨rfl, ⟨nd, rfl⟩⟩; refine ⟨_, rfl, ?_⟩))
   go_roundg k1
   case measure => have := HK1.out; omega
   case rel => exact ⟨(t173), (wrap64 (x5_1 + 1)), qE, qE, H', ⟨by have := HK1.out; omega⟩, qD⟩
theorem name_size {W w1 : World} (hb : Below W.heap.size W w1) : ∃ n : Nat, n = W.heap.size := ⟨_, rfl⟩
theorem S_newN {α : Type} {d : Kd α} {e g : Nat} {W w1 : World} {ok : Nat → Prop} {v : Value} {xs : List α} (h : Kd.S d e w1 W.heap.size ok v xs) (hg : g = W.heap.size) : Kd.S d e w1 W.heap.size (fun k => ok k ∧ g ≤ k) v xs := Kd.S_mono (Kd.S_bound h) (fun k hk => ⟨hk.1, by have := hk.2.1; omega⟩)
theorem S_elderN {α : Type} {d : Kd α} {e base a : Nat} {W : World} {ok : Nat → Prop} {v : Value} {xs : List α} (h : Kd.S d e W base ok v xs) (ha : a = W.heap.size) : Kd.S d e W base (fun k => ok k ∧ k < a) v xs := Kd.S_mono (Kd.S_bound h) (fun k hk => ⟨hk.1, by have := hk.2.2.1; omega⟩)
def laws_FnExactReducePalette.j0 : Nat → List (List Int) → Int → List (List Int) → List (List Int) → Bool → Option (Bool)
 | 0, _, _, _, _, _ => none
 | k + 1, x0, x1, x6, x8, x46 => if x46 = true then (some false) else ((laws_markIntSS.f k x8 1).bind fun bt859 => ((laws_heldIntSS.f k bt859.2 1).bind fun t861 => (if t861 < 0 then (some false) else (if t861 = bt859.1 then ((laws_toIntSS.f k x0).bind fun t862 => ((impl_ReducePalette.f k t862 x1).bind fun t865 => ((laws_eqIntSS.f k t865 x6).bind fun t868 => (if t868 = true then ((laws_heldIntSS.f k bt859.2 1).bind fun t869 => (if t869 < 0 then (some false) else (if t869 = bt859.1 then (some true) else (some false)))) else (some false))))) else (some false)))))
def laws_FnExactReducePalette.f (k : Nat) (l0 : List (List Int)) (a1 : Int) : Option (Bool) := (laws_szIntSS.f k l0 1048576).bind fun t838 => (if t838 < 0 then (some true) else ((laws_toIntSS.f k l0).bind fun t839 => ((spec_ReducePalette.f k t839 a1).bind fun t842 => ((laws_toIntSS.f k l0).bind fun t845 => ((impl_ReducePalette.f k t845 a1).bind fun t848 => ((laws_eqIntSS.f k t848 t842).bind fun t851 => (if t851 = true then ((laws_toIntSS.f k l0).bind fun t852 => ((laws_eqIntSS.f k t845 t852).bind fun t855 => (if t855 = true then ((laws_markIntSS.f k t845 1).bind fun bt856 => (if bt856.1 < 0 then (laws_FnExactReducePalette.j0 k l0 a1 t842 t848 true) else ((laws_eqIntSS.f k t848 t842).bind fun t858 => (laws_FnExactReducePalette.j0 k l0 a1 t842 t848 (!t858))))) else (some false)))) else (some false))))))))
theorem laws_FnExactReducePalette.mono_l : ∀ k, (∀ y0 y1 y2 y3 y4, LeO (laws_FnExactReducePalette.j0 k y0 y1 y2 y3 y4) (laws_FnExactReducePalette.j0 (k + 1) y0 y1 y2 y3 y4))
 | 0 => fun _ _ _ _ _ r h => by simp [laws_FnExactReducePalette.j0] at h
 | k + 1 => by
  have ih0 := laws_FnExactReducePalette.mono_l k
  ·intro y0 y1 y2 y3 y4
   unfold laws_FnExactReducePalette.j0
   repeat' first | (with_reducible first | exact ih0 _ _ _ _ _ | exact impl_ReducePalette.mono _ _ _ | exact laws_eqIntSS.mono _ _ _ | exact laws_heldIntSS.mono _ _ _ | exact laws_markIntSS.mono _ _ _ | exact laws_szIntSS.mono _ _ _ | exact laws_toIntSS.mono _ _ | exact spec_ReducePalette.mono _ _ _ | exact lR | exact lN | refine lI ?_ ?_ | refine lB ?_ fun _ => ?_) | exact ih0 _ _ _ _ _ | exact impl_ReducePalette.mono _ _ _ | exact laws_eqIntSS.mono _ _ _ | exact laws_heldIntSS.mono _ _ _ | exact laws_markIntSS.mono _ _ _ | exact laws_szIntSS.mono _ _ _ | exact laws_toIntSS.mono _ _ | exact spec_ReducePalette.mono _ _ _ | exact lN | refine lI ?_ ?_ | refine lB ?_ fun _ => ?_
theorem laws_FnExactReducePalette.mono : ∀ a0 a1 k, LeO (laws_FnExactReducePalette.f k a0 a1) (laws_FnExactReducePalette.f (k + 1) a0 a1) := by
 intro a0 a1 k
 have ih0 := laws_FnExactReducePalette.mono_l k
 unfold laws_FnExactReducePalette.f
 repeat' first | (with_reducible first | exact ih0 _ _ _ _ _ | exact impl_ReducePalette.mono _ _ _ | exact laws_eqIntSS.mono _ _ _ | exact laws_heldIntSS.mono _ _ _ | exact laws_markIntSS.mono _ _ _ | exact laws_szIntSS.mono _ _ _ | exact laws_toIntSS.mono _ _ | exact spec_ReducePalette.mono _ _ _ | exact lR | exact lN | refine lI ?_ ?_ | refine lB ?_ fun _ => ?_) | exact ih0 _ _ _ _ _ | exact impl_ReducePalette.mono _ _ _ | exact laws_eqIntSS.mono _ _ _ | exact laws_heldIntSS.mono _ _ _ | exact laws_markIntSS.mono _ _ _ | exact laws_szIntSS.mono _ _ _ | exact laws_toIntSS.mono _ _ | exact spec_ReducePalette.mono _ _ _ | exact lN | refine lI ?_ ?_ | refine lB ?_ fun _ => ?_
set_option maxHeartbeats 8000000 in
set_option maxRecDepth 100000 in
theorem laws_FnExactReducePalette.calls (k : Nat) (A0 : Option Addr) (c0 : Nat) (l0 : List (List Int)) (a1 : Int) (r : Bool) (w : World) (hr0 : Kd.C (Kd.slice 3 (Kd.int .i64)) w A0 l0.length l0) (hc0 : l0.length ≤ c0) (h : laws_FnExactReducePalette.f k l0 a1 = some r) (hrt : r = true) :
  Calls Try.prog 9 #[.slice A0 l0.length c0, .int .i64 a1] w fun e w' => e = .returned (.bool r) ∧ Below w.heap.size w w' := by
 have HR0 := aM hr0
 have HC0 := aM hc0
 clear hr0 hc0
 have HB := aM (Below.refl w.heap.size w)
 unfold laws_FnExactReducePalette.f at h
 have H := h
 clear h
 replace H := Option.bind_eq_some_iff.mp H
 obtain ⟨t838, A30, H⟩ := H
 replace H : (if t838 < 0 then (some true) else ((laws_toIntSS.f k l0).bind fun t839 => ((spec_ReducePalette.f k t839 a1).bind fun t842 => ((laws_toIntSS.f k l0).bind fun t845 => ((impl_ReducePalette.f k t845 a1).bind fun t848 => ((laws_eqIntSS.f k t848 t842).bind fun t851 => (if t851 = true then ((laws_toIntSS.f k l0).bind fun t852 => ((laws_eqIntSS.f k t845 t852).bind fun t855 => (if t855 = true then ((laws_markIntSS.f k t845 1).bind fun bt856 => (if bt856.1 < 0 then (laws_FnExactReducePalette.j0 k l0 a1 t842 t848 true) else ((laws_eqIntSS.f k t848 t842).bind fun t858 => (laws_FnExactReducePalette.j0 k l0 a1 t842 t848 (!t858))))) else (some false)))) else (some false)))))))) = some r := H
 have A3 := aM A30
 clear A30
 by_cases c4 : t838 < 0
 ·rw [if_pos c4] at H
  have c4b0 : decide (t838 < 0) = true := decide_eq_true c4
  clear c4
  obtain rfl := Option.some.inj H
  go_enter Try.func9, Try.ntmps9
  go_wp2_with (first | ((with_reducible refine gate_callee (f := 28) rfl ?_); refine gL (some 15) Try.func28 #[.slice A0 l0.length c0, .int .i64 1048576] ?_; (with_reducible refine (laws_szIntSS.calls k _ _ l0 1048576 t838 _ ?side1 ?side2 A3.out).mono ?_); (case side1 => exact qC HR0.out); (case side2 => exact HC0.out); rintro e w' ⟨rfl, ⟨nd, rfl⟩⟩; refine ⟨_, rfl, ?_⟩))
  go_ret
  exact ⟨qX, by exact qW HB.out⟩
 rw [if_neg c4] at H
 have c4b0 : decide (t838 < 0) = false := decide_eq_false c4
 clear c4
 replace H := Option.bind_eq_some_iff.mp H
 obtain ⟨t839, A50, H⟩ := H
 replace H : ((spec_ReducePalette.f k t839 a1).bind fun t842 => ((laws_toIntSS.f k l0).bind fun t845 => ((impl_ReducePalette.f k t845 a1).bind fun t848 => ((laws_eqIntSS.f k t848 t842).bind fun t851 => (if t851 = true then ((laws_toIntSS.f k l0).bind fun t852 => ((laws_eqIntSS.f k t845 t852).bind fun t855 => (if t855 = true then ((laws_markIntSS.f k t845 1).bind fun bt856 => (if bt856.1 < 0 then (laws_FnExactReducePalette.j0 k l0 a1 t842 t848 true) else ((laws_eqIntSS.f k t848 t842).bind fun t858 => (laws_FnExactReducePalette.j0 k l0 a1 t842 t848 (!t858))))) else (some false)))) else (some false)))))) = some r := H
 have A5 := aM A50
 clear A50
 replace H := Option.bind_eq_some_iff.mp H
 obtain ⟨t842, A60, H⟩ := H
 replace H : ((laws_toIntSS.f k l0).bind fun t845 => ((impl_ReducePalette.f k t845 a1).bind fun t848 => ((laws_eqIntSS.f k t848 t842).bind fun t851 => (if t851 = true then ((laws_toIntSS.f k l0).bind fun t852 => ((laws_eqIntSS.f k t845 t852).bind fun t855 => (if t855 = true then ((laws_markIntSS.f k t845 1).bind fun bt856 => (if bt856.1 < 0 then (laws_FnExactReducePalette.j0 k l0 a1 t842 t848 true) else ((laws_eqIntSS.f k t848 t842).bind fun t858 => (laws_FnExactReducePalette.j0 k l0 a1 t842 t848 (!t858))))) else (some false)))) else (some false))))) = some r := H
 have A6 := aM A60
 clear A60
 replace H := Option.bind_eq_some_iff.mp H
 obtain ⟨t845, A70, H⟩ := H
 replace H : ((impl_ReducePalette.f k t845 a1).bind fun t848 => ((laws_eqIntSS.f k t848 t842).bind fun t851 => (if t851 = true then ((laws_toIntSS.f k l0).bind fun t852 => ((laws_eqIntSS.f k t845 t852).bind fun t855 => (if t855 = true then ((laws_markIntSS.f k t845 1).bind fun bt856 => (if bt856.1 < 0 then (laws_FnExactReducePalette.j0 k l0 a1 t842 t848 true) else ((laws_eqIntSS.f k t848 t842).bind fun t858 => (laws_FnExactReducePalette.j0 k l0 a1 t842 t848 (!t858))))) else (some false)))) else (some false)))) = some r := H
 have A7 := aM A70
 clear A70
 replace H := Option.bind_eq_some_iff.mp H
 obtain ⟨t848, A80, H⟩ := H
 replace H : ((laws_eqIntSS.f k t848 t842).bind fun t851 => (if t851 = true then ((laws_toIntSS.f k l0).bind fun t852 => ((laws_eqIntSS.f k t845 t852).bind fun t855 => (if t855 = true then ((laws_markIntSS.f k t845 1).bind fun bt856 => (if bt856.1 < 0 then (laws_FnExactReducePalette.j0 k l0 a1 t842 t848 true) else ((laws_eqIntSS.f k t848 t842).bind fun t858 => (laws_FnExactReducePalette.j0 k l0 a1 t842 t848 (!t858))))) else (some false)))) else (some false))) = some r := H
 have A8 := aM A80
 clear A80
 replace H := Option.bind_eq_some_iff.mp H
 obtain ⟨t851, A90, H⟩ := H
 replace H : (if t851 = true then ((laws_toIntSS.f k l0).bind fun t852 => ((laws_eqIntSS.f k t845 t852).bind fun t855 => (if t855 = true then ((laws_markIntSS.f k t845 1).bind fun bt856 => (if bt856.1 < 0 then (laws_FnExactReducePalette.j0 k l0 a1 t842 t848 true) else ((laws_eqIntSS.f k t848 t842).bind fun t858 => (laws_FnExactReducePalette.j0 k l0 a1 t842 t848 (!t858))))) else (some false)))) else (some false)) = some r := H
 have A9 := aM A90
 clear A90
 by_cases c10 : t851 = true
 rotate_left
 ·replace c10 := Bool.eq_false_iff.mpr c10
  subst c10
  have H1 : (some false) = some r := by rw [if_neg (show ¬ (false = true) by decide)] at H; exact H
  clear H
  have H := H1
  clear H1
  obtain rfl := Option.some.inj H
  exact absurd hrt (by decide)
 subst c10
 have H1 : ((laws_toIntSS.f k l0).bind fun t852 => ((laws_eqIntSS.f k t845 t852).bind fun t855 => (if t855 = true then ((laws_markIntSS.f k t845 1).bind fun bt856 => (if bt856.1 < 0 then (laws_FnExactReducePalette.j0 k l0 a1 t842 t848 true) else ((laws_eqIntSS.f k t848 t842).bind fun t858 => (laws_FnExactReducePalette.j0 k l0 a1 t842 t848 (!t858))))) else (some false)))) = some r := by rw [if_pos rfl] at H; exact H
 clear H
 have H := H1
 clear H1
 replace H := Option.bind_eq_some_iff.mp H
 obtain ⟨t852, A110, H⟩ := H
 replace H : ((laws_eqIntSS.f k t845 t852).bind fun t855 => (if t855 = true then ((laws_markIntSS.f k t845 1).bind fun bt856 => (if bt856.1 < 0 then (laws_FnExactReducePalette.j0 k l0 a1 t842 t848 true) else ((laws_eqIntSS.f k t848 t842).bind fun t858 => (laws_FnExactReducePalette.j0 k l0 a1 t842 t848 (!t858))))) else (some false))) = some r := H
 have A11 := aM A110
 clear A110
 replace H := Option.bind_eq_some_iff.mp H
 obtain ⟨t855, A120, H⟩ := H
 replace H : (if t855 = true then ((laws_markIntSS.f k t845 1).bind fun bt856 => (if bt856.1 < 0 then (laws_FnExactReducePalette.j0 k l0 a1 t842 t848 true) else ((laws_eqIntSS.f k t848 t842).bind fun t858 => (laws_FnExactReducePalette.j0 k l0 a1 t842 t848 (!t858))))) else (some false)) = some r := H
 have A12 := aM A120
 clear A120
 by_cases c13 : t855 = true
 rotate_left
 ·replace c13 := Bool.eq_false_iff.mpr c13
  subst c13
  have H1 : (some false) = some r := by rw [if_neg (show ¬ (false = true) by decide)] at H; exact H
  clear H
  have H := H1
  clear H1
  obtain rfl := Option.some.inj H
  exact absurd hrt (by decide)
 subst c13
 have H1 : ((laws_markIntSS.f k t845 1).bind fun bt856 => (if bt856.1 < 0 then (laws_FnExactReducePalette.j0 k l0 a1 t842 t848 true) else ((laws_eqIntSS.f k t848 t842).bind fun t858 => (laws_FnExactReducePalette.j0 k l0 a1 t842 t848 (!t858))))) = some r := by rw [if_pos rfl] at H; exact H
 clear H
 have H := H1
 clear H1
 replace H := Option.bind_eq_some_iff.mp H
 obtain ⟨⟨t856, t857⟩, A140, H⟩ := H
 replace H : (if t856 < 0 then (laws_FnExactReducePalette.j0 k l0 a1 t842 t848 true) else ((laws_eqIntSS.f k t848 t842).bind fun t858 => (laws_FnExactReducePalette.j0 k l0 a1 t842 t848 (!t858)))) = some r := H
 have A14 := aM A140
 clear A140
 have HC15 := aM H
 clear H
 go_enter Try.func9, Try.ntmps9
 go_upto_region 14 with (first | ((with_reducible refine gate_callee (f := 28) rfl ?_); refine gL (some 15) Try.func28 #[.slice A0 l0.length c0, .int .i64 1048576] ?_; (with_reducible refine (laws_szIntSS.calls k _ _ l0 1048576 t838 _ ?side1 ?side2 A3.out).mono ?_); (case side1 => exact qC HR0.out); (case side2 => exact HC0.out); rintro e w' ⟨rfl, ⟨nd, rfl⟩⟩; refine ⟨_, rfl, ?_⟩) | ((with_reducible refine gate_callee (f := 30) rfl ?_); refine gL (some 19) Try.func30 #[.slice A0 l0.length c0] ?_; (with_reducible refine (laws_toIntSS.calls k _ _ l0 t839 _ ?side1 ?side2 A5.out).mono ?_); (case side1 => exact qC HR0.out); (case side2 => exact HC0.out); rintro e w16 ⟨v840, rfl, ho0, hb⟩; refine ⟨_, rfl, ?_⟩; have HO841 := aM (Kd.S_lower ho0 (below_size (qW HB.out))); replace HB := bS HB hb; clear hb ho0; obtain ⟨Ao17, co17, eo17⟩ := Kd.S_slice HO841.out; subst eo17) | ((with_reducible refine gate_callee (f := 36) rfl ?_); refine gL (some 21) Try.func36 #[.slice Ao17 t839.length co17, .int .i64 a1] ?_; (with_reducible refine (spec_ReducePalette.calls k _ _ t839 a1 t842 _ ?side1 ?side2 A6.out).mono ?_); (case side1 => exact qC (Kd.S_reads' HO841.out).2.2); (case side2 => exact (Kd.S_reads' HO841.out).2.1); rintro e w18 ⟨v843, rfl, ho0, hb⟩; refine ⟨_, rfl, ?_⟩; have HO844 := aM (Kd.S_lower (Kd.S_new' ho0 (Kd.S_lt (by (with_reducible repeat (first | apply Kd.S_alloc | apply Kd.S_drewN | apply Kd.S_drew)); exact HO841.out))) (below_size (qW HB.out))); replace HO841 := aM (Kd.S_elder' (by (with_reducible repeat (first | apply Kd.S_alloc | apply Kd.S_drewN | apply Kd.S_drew)); exact HO841.out) (Kd.S_base ho0) hb); replace HB := bS HB hb; clear hb ho0) | ((with_reducible refine gate_callee (f := 30) rfl ?_); refine gL (some 23) Try.func30 #[.slice A0 l0.length c0] ?_; (with_reducible refine (laws_toIntSS.calls k _ _ l0 t845 _ ?side1 ?side2 A7.out).mono ?_); (case side1 => exact qC (Kd.C_below HR0.out HB.out)); (case side2 => exact HC0.out); rintro e w19 ⟨v846, rfl, ho0, hb⟩; refine ⟨_, rfl, ?_⟩; obtain ⟨NB1, hNB1⟩ := name_size hb; have HO847 := aM (Kd.S_lower (Kd.S_new' (Kd.S_new' (S_newN ho0 hNB1) (Kd.S_lt (by (with_reducible repeat (first | apply Kd.S_alloc | apply Kd.S_drewN | apply Kd.S_drew)); exact HO841.out))) (Kd.S_lt (by (with_reducible repeat (first | apply Kd.S_alloc | apply Kd.S_drewN | apply Kd.S_drew)); exact HO844.out))) (below_size (qW HB.out))); replace HO841 := aM (Kd.S_elder' (by (with_reducible repeat (first | apply Kd.S_alloc | apply Kd.S_drewN | apply Kd.S_drew)); exact HO841.out) (Kd.S_base ho0) hb); replace HO844 := aM (Kd.S_elder' (S_elderN (by (with_reducible repeat (first | apply Kd.S_alloc | apply Kd.S_drewN | apply Kd.S_drew)); exact HO844.out) hNB1) (Kd.S_base ho0) hb); replace HB := bS HB hb; clear hb ho0; obtain ⟨Ao20, co20, eo20⟩ := Kd.S_slice HO847.out; subst eo20) | ((with_reducible refine gate_callee (f := 37) rfl ?_); refine gL (some 26) Try.func37 #[.slice Ao20 t845.length co20, .int .i64 a1] ?_; (with_reducible refine (impl_ReducePalette.calls k _ _ t845 a1 t848 _ ?side1 ?side2 A8.out).mono ?_); (case side1 => exact qC (Kd.S_reads' HO847.out).2.2); (case side2 => exact (Kd.S_reads' HO847.out).2.1); rintro e w21 ⟨v849, rfl, ho0, hb⟩; refine ⟨_, rfl, ?_⟩; obtain ⟨NB2, hNB2⟩ := name_size hb; have HO850 := aM (Kd.S_lower (Kd.S_new' (Kd.S_new' (Kd.S_new' (S_newN ho0 hNB2) (Kd.S_lt (by (with_reducible repeat (first | apply Kd.S_alloc | apply Kd.S_drewN | apply Kd.S_drew)); exact HO841.out))) (Kd.S_lt (by (with_reducible repeat (first | apply Kd.S_alloc | apply Kd.S_drewN | apply Kd.S_drew)); exact HO844.out))) (Kd.S_lt (by (with_reducible repeat (first | apply Kd.S_alloc | apply Kd.S_drewN | apply Kd.S_drew)); exact HO847.out))) (below_size (qW HB.out))); replace HO841 := aM (Kd.S_elder' (by (with_reducible repeat (first | apply Kd.S_alloc | apply Kd.S_drewN | apply Kd.S_drew)); exact HO841.out) (Kd.S_base ho0) hb); replace HO844 := aM (Kd.S_elder' (S_elderN (by (with_reducible repeat (first | apply Kd.S_alloc | apply Kd.S_drewN | apply Kd.S_drew)); exact HO844.out) hNB2) (Kd.S_base ho0) hb); replace HO847 := aM (Kd.S_elder' (S_elderN (by (with_reducible repeat (first | apply Kd.S_alloc | apply Kd.S_drewN | apply Kd.S_drew)); exact HO847.out) hNB2) (Kd.S_base ho0) hb); replace HB := bS HB hb; clear hb ho0; obtain ⟨Ao22, co22, eo22⟩ := Kd.S_slice HO850.out; subst eo22; obtain ⟨Ao23, co23, eo23⟩ := Kd.S_slice HO844.out; subst eo23) | ((with_reducible refine gate_callee (f := 16) rfl ?_); refine gL (some 29) Try.func16 #[.slice Ao22 t848.length co22, .slice Ao23 t842.length co23] ?_; (with_reducible refine (laws_eqIntSS.calls k _ _ t848 _ _ t842 true _ ?side1 ?side2 ?side3 ?side4 A9.out).mono ?_); (case side1 => exact qC (Kd.S_reads' HO850.out).2.2); (case side2 => exact (Kd.S_reads' HO850.out).2.1); (case side3 => exact qC (Kd.S_reads' HO844.out).2.2); (case side4 => exact (Kd.S_reads' HO844.out).2.1); rintro e w' ⟨rfl, ⟨nd, rfl⟩⟩; refine ⟨_, rfl, ?_⟩) | ((with_reducible refine gate_callee (f := 30) rfl ?_); refine gL (some 33) Try.func30 #[.slice A0 l0.length c0] ?_; (with_reducible refine (laws_toIntSS.calls k _ _ l0 t852 _ ?side1 ?side2 A11.out).mono ?_); (case side1 => exact qC (Kd.C_below HR0.out (qW HB.out))); (case side2 => exact HC0.out); rintro e w24 ⟨v853, rfl, ho0, hb⟩; refine ⟨_, rfl, ?_⟩; have HO854 := aM (Kd.S_lower (Kd.S_new' (Kd.S_new' (Kd.S_new' (Kd.S_new' ho0 (Kd.S_lt (by (with_reducible repeat (first | apply Kd.S_alloc | apply Kd.S_drewN | apply Kd.S_drew)); exact HO841.out))) (Kd.S_lt (by (with_reducible repeat (first | apply Kd.S_alloc | apply Kd.S_drewN | apply Kd.S_drew)); exact HO844.out))) (Kd.S_lt (by (with_reducible repeat (first | apply Kd.S_alloc | apply Kd.S_drewN | apply Kd.S_drew)); exact HO847.out))) (Kd.S_lt (by (with_reducible repeat (first | apply Kd.S_alloc | apply Kd.S_drewN | apply Kd.S_drew)); exact HO850.out))) (below_size (qW HB.out))); replace HO841 := aM (Kd.S_elder' (by (with_reducible repeat (first | apply Kd.S_alloc | apply Kd.S_drewN | apply Kd.S_drew)); exact HO841.out) (Kd.S_base ho0) hb); replace HO844 := aM (Kd.S_elder' (by (with_reducible repeat (first | apply Kd.S_alloc | apply Kd.S_drewN | apply Kd.S_drew)); exact HO844.out) (Kd.S_base ho0) hb); replace HO847 := aM (Kd.S_elder' (by (with_reducible repeat (first | apply Kd.S_alloc | apply Kd.S_drewN | apply Kd.S_drew)); exact HO847.out) (Kd.S_base ho0) hb); replace HO850 := aM (Kd.S_elder' (by (with_reducible repeat (first | apply Kd.S_alloc | apply Kd.S_drewN | apply Kd.S_drew)); exact HO850.out) (Kd.S_base ho0) hb); replace HB := bS HB hb; clear hb ho0; obtain ⟨Ao25, co25, eo25⟩ := Kd.S_slice HO854.out; subst eo25) | ((with_reducible refine gate_callee (f := 16) rfl ?_); refine gL (some 34) Try.func16 #[.slice Ao20 t845.length co20, .slice Ao25 t852.length co25] ?_; (with_reducible refine (laws_eqIntSS.calls k _ _ t845 _ _ t852 true _ ?side1 ?side2 ?side3 ?side4 A12.out).mono ?_); (case side1 => exact qC (Kd.S_reads' HO847.out).2.2); (case side2 => exact (Kd.S_reads' HO847.out).2.1); (case side3 => exact qC (Kd.S_reads' HO854.out).2.2); (case side4 => exact (Kd.S_reads' HO854.out).2.1); rintro e w' ⟨rfl, ⟨nd, rfl⟩⟩; refine ⟨_, rfl, ?_⟩) | ((with_reducible refine gate_callee (f := 19) rfl ?_); refine gL (some 38) Try.func19 #[.slice Ao20 t845.length co20, .int .i64 1] ?_; (with_reducible refine (laws_markIntSS.calls k (fun k_ => NB1 ≤ k_ ∧ k_ < NB2) (.slice Ao20 t845.length co20) t845 1 t856 t857 w _ ?side1 ?side2 A14.out).mono ?_); (case side1 => exact qW HB.out); (case side2 => exact Kd.S_mono HO847.out (fun k_ hk_ => ⟨(by revert hk_; simp only [and_imp]; intros; assumption), (by revert hk_; simp only [and_imp]; intros; assumption)⟩)); rintro e w26 ⟨rfl, hy0, hb, hkp⟩; refine ⟨_, rfl, ?_⟩; have n0_ := aM (hy0); have n1_ := aM (hb); clear HO847; clear HB; clear HO841; have nx_ := aM (Kd.S_kept (by (with_reducible repeat (first | apply Kd.S_alloc | apply Kd.S_drewN | apply Kd.S_drew)); exact HO844.out) hkp (fun k_ hk_ hs_ => by have a_ : k_ < NB1 := (by revert hk_; simp only [and_imp]; intros; assumption); have b_ := hs_.1; omega)); clear HO844; have HO844 := nx_; clear nx_; have nx_ := aM (Kd.S_kept (by (with_reducible repeat (first | apply Kd.S_alloc | apply Kd.S_drewN | apply Kd.S_drew)); exact HO850.out) hkp (fun k_ hk_ hs_ => by have a_ : NB2 ≤ k_ := (by revert hk_; simp only [and_imp]; intros; assumption); have b_ := hs_.2; omega)); clear HO850; have HO850 := nx_; clear nx_; clear HO854; have HO847 := n0_; have HB := n1_; clear n0_ n1_; clear hb hkp hy0))
 (try simp only [Act.put, List.setIfInBounds_toArray, List.set_cons_zero, List.set_cons_succ])
 go_cut [46] (fun v46 wc => ∃ (kq : Nat) (x46_14 : Bool), v46 = .bool x46_14 ∧ Aside0 (laws_FnExactReducePalette.j0 kq l0 a1 t842 t848 x46_14 = some r) ∧ Aside0 (kq ≤ k) ∧ Aside0 (Kd.S (Kd.slice 3 (Kd.int .i64)) 22 wc w.heap.size (fun k_ => k_ < NB2) (.slice Ao23 t842.length co23) t842) ∧ Aside0 (Kd.S (Kd.slice 3 (Kd.int .i64)) 22 wc w.heap.size (fun k_ => NB2 ≤ k_) (.slice Ao22 t848.length co22) t848) ∧ Aside0 (Below w.heap.size w wc))
 case first =>
  have H := HC15.out
  clear HC15
  by_cases c27 : t856 < 0
  ·rw [if_pos c27] at H
   have c27b0 : decide (t856 < 0) = true := decide_eq_true c27
   clear c27
   (first | rw [c27b0] | (simp only [i64_w, i32_w]; rw [c27b0]) | skip)
   have H' := aM H
   clear H
   go_wp2
   go_meet
   case rel => exact ⟨_, (true), qE, H', ⟨by first | omega | exact Nat.le_refl _⟩, ⟨by (with_reducible repeat (first | apply Kd.S_alloc | apply Kd.S_drewN | apply Kd.S_drew)); exact Kd.S_mono HO844.out (fun k_ hk_ => (by revert hk_; simp only [and_imp]; intros; assumption))⟩, ⟨by (with_reducible repeat (first | apply Kd.S_alloc | apply Kd.S_drewN | apply Kd.S_drew)); exact Kd.S_mono HO850.out (fun k_ hk_ => (by revert hk_; simp only [and_imp]; intros; assumption))⟩, ⟨by exact qW HB.out⟩⟩
  rw [if_neg c27] at H
  have c27b0 : decide (t856 < 0) = false := decide_eq_false c27
  clear c27
  (first | rw [c27b0] | (simp only [i64_w, i32_w]; rw [c27b0]) | skip)
  replace H := Option.bind_eq_some_iff.mp H
  obtain ⟨t858, A280, H⟩ := H
  replace H : (laws_FnExactReducePalette.j0 k l0 a1 t842 t848 (!t858)) = some r := H
  have A28 := aM A280
  clear A280
  have H' := aM H
  clear H
  go_wp2_with (first | (go_at_call 16; (with_reducible refine (laws_eqIntSS.calls k _ _ t848 _ _ t842 t858 _ ?side1 ?side2 ?side3 ?side4 A28.out).mono ?_); (case side1 => exact qC (Kd.S_reads' HO850.out).2.2); (case side2 => exact (Kd.S_reads' HO850.out).2.1); (case side3 => exact qC (Kd.S_reads' HO844.out).2.2); (case side4 => exact (Kd.S_reads' HO844.out).2.1); rintro e w' ⟨rfl, ⟨nd, rfl⟩⟩))
  go_meet
  case rel => exact ⟨_, (!t858), qE, H', ⟨by first | omega | exact Nat.le_refl _⟩, ⟨by (with_reducible repeat (first | apply Kd.S_alloc | apply Kd.S_drewN | apply Kd.S_drew)); exact Kd.S_mono HO844.out (fun k_ hk_ => (by revert hk_; simp only [and_imp]; intros; assumption))⟩, ⟨by (with_reducible repeat (first | apply Kd.S_alloc | apply Kd.S_drewN | apply Kd.S_drew)); exact Kd.S_mono HO850.out (fun k_ hk_ => (by revert hk_; simp only [and_imp]; intros; assumption))⟩, ⟨by exact qW HB.out⟩⟩
 case rest =>
  clear HC15
  try clear c4
  try clear c4b0
  try clear c10
  try clear c13
  try clear c27
  try clear c27b0
  obtain ⟨kq, x46_14, rfl, HA, HJ14, HO_6, HO_8, HB⟩ := hcut
  cases kq with
  | zero => exact absurd HA.out (by simp [laws_FnExactReducePalette.j0])
  | succ kj14 =>
   have H := HA.out
   clear HA
   simp only [laws_FnExactReducePalette.j0] at H
   by_cases c29 : x46_14 = true
   ·subst c29
    have H1 : (some false) = some r := by rw [if_pos rfl] at H; exact H
    clear H
    have H := H1
    clear H1
    obtain rfl := Option.some.inj H
    exact absurd hrt (by decide)
   replace c29 := Bool.eq_false_iff.mpr c29
   subst c29
   have H1 : ((laws_markIntSS.f kj14 t848 1).bind fun bt859 => ((laws_heldIntSS.f kj14 bt859.2 1).bind fun t861 => (if t861 < 0 then (some false) else (if t861 = bt859.1 then ((laws_toIntSS.f kj14 l0).bind fun t862 => ((impl_ReducePalette.f kj14 t862 a1).bind fun t865 => ((laws_eqIntSS.f kj14 t865 t842).bind fun t868 => (if t868 = true then ((laws_heldIntSS.f kj14 bt859.2 1).bind fun t869 => (if t869 < 0 then (some false) else (if t869 = bt859.1 then (some true) else (some false)))) else (some false))))) else (some false))))) = some r := by rw [if_neg (show ¬ (false = true) by decide)] at H; exact H
   clear H
   have H := H1
   clear H1
   replace H := Option.bind_eq_some_iff.mp H
   obtain ⟨⟨t859, t860⟩, A300, H⟩ := H
   replace H : ((laws_heldIntSS.f kj14 t860 1).bind fun t861 => (if t861 < 0 then (some false) else (if t861 = t859 then ((laws_toIntSS.f kj14 l0).bind fun t862 => ((impl_ReducePalette.f kj14 t862 a1).bind fun t865 => ((laws_eqIntSS.f kj14 t865 t842).bind fun t868 => (if t868 = true then ((laws_heldIntSS.f kj14 t860 1).bind fun t869 => (if t869 < 0 then (some false) else (if t869 = t859 then (some true) else (some false)))) else (some false))))) else (some false)))) = some r := H
   have A30 := aM A300
   clear A300
   replace H := Option.bind_eq_some_iff.mp H
   obtain ⟨t861, A310, H⟩ := H
   replace H : (if t861 < 0 then (some false) else (if t861 = t859 then ((laws_toIntSS.f kj14 l0).bind fun t862 => ((impl_ReducePalette.f kj14 t862 a1).bind fun t865 => ((laws_eqIntSS.f kj14 t865 t842).bind fun t868 => (if t868 = true then ((laws_heldIntSS.f kj14 t860 1).bind fun t869 => (if t869 < 0 then (some false) else (if t869 = t859 then (some true) else (some false)))) else (some false))))) else (some false))) = some r := H
   have A31 := aM A310
   clear A310
   by_cases c32 : t861 < 0
   ·rw [if_pos c32] at H
    have c32b0 : decide (t861 < 0) = true := decide_eq_true c32
    clear c32
    obtain rfl := Option.some.inj H
    exact absurd hrt (by decide)
   rw [if_neg c32] at H
   have c32b0 : decide (t861 < 0) = false := decide_eq_false c32
   clear c32
   by_cases c34 : t861 = t859
   rotate_left
   ·rw [if_neg c34] at H
    have c34b0 : (t861 == t859) = false := beq_eq_false_iff_ne.mpr c34
    have c34b1 : (t861 != t859) = true := bne_iff_ne.mpr c34
    obtain rfl := Option.some.inj H
    exact absurd hrt (by decide)
   rw [if_pos c34] at H
   have c34b0 : (t861 == t859) = true := beq_iff_eq.mpr c34
   have c34b1 : (t861 != t859) = false := bne_eq_false_iff_eq.mpr c34
   clear c34
   replace H := Option.bind_eq_some_iff.mp H
   obtain ⟨t862, A350, H⟩ := H
   replace H : ((impl_ReducePalette.f kj14 t862 a1).bind fun t865 => ((laws_eqIntSS.f kj14 t865 t842).bind fun t868 => (if t868 = true then ((laws_heldIntSS.f kj14 t860 1).bind fun t869 => (if t869 < 0 then (some false) else (if t869 = t859 then (some true) else (some false)))) else (some false)))) = some r := H
   have A35 := aM A350
   clear A350
   replace H := Option.bind_eq_some_iff.mp H
   obtain ⟨t865, A360, H⟩ := H
   replace H : ((laws_eqIntSS.f kj14 t865 t842).bind fun t868 => (if t868 = true then ((laws_heldIntSS.f kj14 t860 1).bind fun t869 => (if t869 < 0 then (some false) else (if t869 = t859 then (some true) else (some false)))) else (some false))) = some r := H
   have A36 := aM A360
   clear A360
   replace H := Option.bind_eq_some_iff.mp H
   obtain ⟨t868, A370, H⟩ := H
   replace H : (if t868 = true then ((laws_heldIntSS.f kj14 t860 1).bind fun t869 => (if t869 < 0 then (some false) else (if t869 = t859 then (some true) else (some false)))) else (some false)) = some r := H
   have A37 := aM A370
   clear A370
   by_cases c38 : t868 = true
   rotate_left
   ·replace c38 := Bool.eq_false_iff.mpr c38
    subst c38
    have H1 : (some false) = some r := by rw [if_neg (show ¬ (false = true) by decide)] at H; exact H
    clear H
    have H := H1
    clear H1
    obtain rfl := Option.some.inj H
    exact absurd hrt (by decide)
   subst c38
   have H1 : ((laws_heldIntSS.f kj14 t860 1).bind fun t869 => (if t869 < 0 then (some false) else (if t869 = t859 then (some true) else (some false)))) = some r := by rw [if_pos rfl] at H; exact H
   clear H
   have H := H1
   clear H1
   replace H := Option.bind_eq_some_iff.mp H
   obtain ⟨t869, A390, H⟩ := H
   replace H : (if t869 < 0 then (some false) else (if t869 = t859 then (some true) else (some false))) = some r := H
   have A39 := aM A390
   clear A390
   by_cases c40 : t869 < 0
   ·rw [if_pos c40] at H
    have c40b0 : decide (t869 < 0) = true := decide_eq_true c40
    clear c40
    obtain rfl := Option.some.inj H
    exact absurd hrt (by decide)
   rw [if_neg c40] at H
   have c40b0 : decide (t869 < 0) = false := decide_eq_false c40
   clear c40
   by_cases c46 : t869 = t859
   rotate_left
   ·rw [if_neg c46] at H
    have c46b0 : (t869 == t859) = false := beq_eq_false_iff_ne.mpr c46
    have c46b1 : (t869 != t859) = true := bne_iff_ne.mpr c46
    obtain rfl := Option.some.inj H
    exact absurd hrt (by decide)
   rw [if_pos c46] at H
   have c46b0 : (t869 == t859) = true := beq_iff_eq.mpr c46
   have c46b1 : (t869 != t859) = false := bne_eq_false_iff_eq.mpr c46
   clear c46
   obtain rfl := Option.some.inj H
   go_wp2_with (first | ((with_reducible refine gate_callee (f := 19) rfl ?_); refine gL (some 49) Try.func19 #[.slice Ao22 t848.length co22, .int .i64 1] ?_; (with_reducible refine (laws_markIntSS.calls kj14 (fun k_ => NB2 ≤ k_) (.slice Ao22 t848.length co22) t848 1 t859 t860 w _ ?side1 ?side2 A30.out).mono ?_); (case side1 => exact qW HB.out); (case side2 => exact HO_8.out); rintro e w47 ⟨rfl, hy0, hb, hkp⟩; refine ⟨_, rfl, ?_⟩; have n0_ := aM (hy0); have n1_ := aM (hb); clear HO_8; clear HB; have nx_ := aM (Kd.S_kept (by (with_reducible repeat (first | apply Kd.S_alloc | apply Kd.S_drewN | apply Kd.S_drew)); exact HO_6.out) hkp (fun k_ hk_ hs_ => by have a_ : k_ < NB2 := hk_; have b_ : NB2 ≤ k_ := hs_; omega)); clear HO_6; have HO_6 := nx_; clear nx_; have HO_8 := n0_; have HB := n1_; clear n0_ n1_; clear hb hkp hy0) | ((with_reducible refine gate_callee (f := 20) rfl ?_); refine goesL_ (some 52) rfl rfl Try.func20 (by kernel_rfl) rfl #[.slice Ao22 t860.length co22, .int .i64 1] rfl (by (try simp only [List.map_toArray, List.map_cons, List.map_nil]); first | done | (rw [show t860.length = t848.length from (Kd.S_reads' HO_8.out).1.symm] <;> rfl) | rfl | (simp only [List.length_drop, List.length_take]; rfl)) ?_; (with_reducible refine (laws_heldIntSS.calls kj14 _ _ t860 1 t861 _ ?side1 ?side2 A31.out).mono ?_); (case side1 => exact qC (Kd.S_reads' HO_8.out).2.2); (case side2 => rw [show t860.length = t848.length from (Kd.S_reads' HO_8.out).1.symm]; exact (Kd.S_reads' HO_8.out).2.1); rintro e w' ⟨rfl, ⟨nd, rfl⟩⟩; refine ⟨_, rfl, ?_⟩) | ((with_reducible refine gate_callee (f := 30) rfl ?_); refine gL (some 59) Try.func30 #[.slice A0 l0.length c0] ?_; (with_reducible refine (laws_toIntSS.calls kj14 _ _ l0 t862 _ ?side1 ?side2 A35.out).mono ?_); (case side1 => exact qC (Kd.C_below HR0.out (qW HB.out))); (case side2 => exact HC0.out); rintro e w48 ⟨v863, rfl, ho0, hb⟩; refine ⟨_, rfl, ?_⟩; have n0_ := aM (Kd.S_elder' (by (with_reducible repeat (first | apply Kd.S_alloc | apply Kd.S_drewN | apply Kd.S_drew)); exact HO_8.out) (Kd.S_base ho0) hb); have n1_ := aM (Kd.S_lower (Kd.S_new' ho0 (Kd.S_lt (by (with_reducible repeat (first | apply Kd.S_alloc | apply Kd.S_drewN | apply Kd.S_drew)); exact HO_8.out))) (below_size (qW HB.out))); have n2_ := bS HB hb; have nx_ := aM (Kd.S_below (by (with_reducible repeat (first | apply Kd.S_alloc | apply Kd.S_drewN | apply Kd.S_drew)); exact HO_6.out) hb); clear HO_6; have HO_6 := nx_; clear nx_; clear HO_8; clear HB; have HO_8 := n0_; have HO864 := n1_; have HB := n2_; clear n0_ n1_ n2_; clear hb ho0; obtain ⟨Ao49, co49, eo49⟩ := Kd.S_slice HO864.out; subst eo49) | ((with_reducible refine gate_callee (f := 37) rfl ?_); refine gL (some 61) Try.func37 #[.slice Ao49 t862.length co49, .int .i64 a1] ?_; (with_reducible refine (impl_ReducePalette.calls kj14 _ _ t862 a1 t865 _ ?side1 ?side2 A36.out).mono ?_); (case side1 => exact qC (Kd.S_reads' HO864.out).2.2); (case side2 => exact (Kd.S_reads' HO864.out).2.1); rintro e w50 ⟨v866, rfl, ho0, hb⟩; refine ⟨_, rfl, ?_⟩; have n0_ := aM (Kd.S_elder' (by (with_reducible repeat (first | apply Kd.S_alloc | apply Kd.S_drewN | apply Kd.S_drew)); exact HO_8.out) (Kd.S_base ho0) hb); have n1_ := aM (Kd.S_elder' (by (with_reducible repeat (first | apply Kd.S_alloc | apply Kd.S_drewN | apply Kd.S_drew)); exact HO864.out) (Kd.S_base ho0) hb); have n2_ := aM (Kd.S_lower (Kd.S_new' (Kd.S_new' ho0 (Kd.S_lt (by (with_reducible repeat (first | apply Kd.S_alloc | apply Kd.S_drewN | apply Kd.S_drew)); exact HO_8.out))) (Kd.S_lt (by (with_reducible repeat (first | apply Kd.S_alloc | apply Kd.S_drewN | apply Kd.S_drew)); exact HO864.out))) (below_size (qW HB.out))); have n3_ := bS HB hb; have nx_ := aM (Kd.S_below (by (with_reducible repeat (first | apply Kd.S_alloc | apply Kd.S_drewN | apply Kd.S_drew)); exact HO_6.out) hb); clear HO_6; have HO_6 := nx_; clear nx_; clear HO_8; clear HO864; clear HB; have HO_8 := n0_; have HO864 := n1_; have HO867 := n2_; have HB := n3_; clear n0_ n1_ n2_ n3_; clear hb ho0; obtain ⟨Ao51, co51, eo51⟩ := Kd.S_slice HO867.out; subst eo51) | ((with_reducible refine gate_callee (f := 16) rfl ?_); refine gL (some 64) Try.func16 #[.slice Ao51 t865.length co51, .slice Ao23 t842.length co23] ?_; (with_reducible refine (laws_eqIntSS.calls kj14 _ _ t865 _ _ t842 true _ ?side1 ?side2 ?side3 ?side4 A37.out).mono ?_); (case side1 => exact qC (Kd.S_reads' HO867.out).2.2); (case side2 => exact (Kd.S_reads' HO867.out).2.1); (case side3 => exact qC (Kd.S_reads' HO_6.out).2.2); (case side4 => exact (Kd.S_reads' HO_6.out).2.1); rintro e w' ⟨rfl, ⟨nd, rfl⟩⟩; refine ⟨_, rfl, ?_⟩) | ((with_reducible refine gate_callee (f := 20) rfl ?_); refine goesL_ (some 68) rfl rfl Try.func20 (by kernel_rfl) rfl #[.slice Ao22 t860.length co22, .int .i64 1] rfl (by (try simp only [List.map_toArray, List.map_cons, List.map_nil]); first | done | (rw [show t860.length = t848.length from (Kd.S_reads' HO_8.out).1.symm] <;> rfl) | rfl | (simp only [List.length_drop, List.length_take]; rfl)) ?_; (with_reducible refine (laws_heldIntSS.calls kj14 _ _ t860 1 t869 _ ?side1 ?side2 A39.out).mono ?_); (case side1 => exact qC (Kd.S_reads' HO_8.out).2.2); (case side2 => rw [show t860.length = t848.length from (Kd.S_reads' HO_8.out).1.symm]; exact (Kd.S_reads' HO_8.out).2.1); rintro e w' ⟨rfl, ⟨nd, rfl⟩⟩; refine ⟨_, rfl, ?_⟩))
   go_ret
   exact ⟨qX, by exact qW HB.out⟩
def laws_FnExactReducePalette.Pure : Prop := ∀ (l0 : List (List Int)) (a1 : Int), l0.length ≤ maxLen → (∀ y ∈ l0, y.length ≤ maxLen) → (Lit.int .i64 a1).wf = true → ∃ k, laws_FnExactReducePalette.f k l0 a1 = some true
theorem laws_FnExactReducePalette.walk (P : laws_FnExactReducePalette.Pure) (A0 : Option Addr) (cap0 : Nat) (l0 : List (List Int)) (a1 : Int) (w : World) (hr0 : Kd.C (Kd.slice 3 (Kd.int .i64)) w A0 l0.length l0) (hc0 : l0.length ≤ cap0) (hm0 : l0.length ≤ maxLen) (hw0 : ∀ y ∈ l0, y.length ≤ maxLen) (w1 : (Lit.int .i64 a1).wf = true) :
  Calls Try.prog 9 #[.slice A0 l0.length cap0, .int .i64 a1] w fun e w' => e = .returned (.bool true) ∧ Below w.heap.size w w' := by
 obtain ⟨k, h⟩ := P l0 a1 hm0 hw0 w1
 refine (laws_FnExactReducePalette.calls k _ _ l0 a1 true w hr0 hc0 h rfl).mono ?_
 rintro e w' ⟨rfl, hd⟩
 exact ⟨rfl, hd⟩
end Go.Proofs.Ytohbpilokmppbaa.P
