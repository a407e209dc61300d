/- For every code: the drawn number's level is the nearest one, it does not fall with the number, and a level's value has this level. -/
import Derived.Test.YtbldmekplkjfiaaPx1
import Derived.Test.YtbldmekplkjfiaaPx2
import Derived.Test.YtbldmekplkjfiaaBLevel
import Derived.Test.YtbldmekplkjfiaaBDraw
namespace Go.Proofs.Ytbldmekplkjfiaa.Pure
open Go.RowKit Go.Proofs.Ytbldmekplkjfiaa.P Go.Proofs.YtbldmekplkjfiaaW.PrintWords Go.Proofs.Ytbldmekplkjfiaa.Wp
set_option linter.unusedVariables false

theorem w_DrawLevelOf (l : List Int) (hb : ∀ x ∈ l, (Lit.int .u8 x).wf = true) : Wp (fun k => spec_DrawLevelOf.f k l) (fun r => -10000 ≤ r.1 ∧ r.1 ≤ 10000 ∧ 1 ≤ r.2 ∧ r.2 ≤ 17) := by
  unfold spec_DrawLevelOf.f
  refine Wp.call (w_newReader l hb) ?_
  rintro ⟨b, p⟩ ⟨h, h0⟩
  simp only at h h0 ⊢
  subst h0
  refine Wp.call (w_pick b 0 400 h (by omega) (by omega)) ?_
  rintro _ ⟨x, rfl, x0, x1, _⟩
  have x1 := x1 (by omega)
  have h := h.up (q := 0 + 1) (by omega) (by omega)
  refine Wp.call (w_pick b _ 12 h (by omega) (by omega)) ?_
  rintro _ ⟨y, rfl, y0, y1, _⟩
  have h := h.up (q := 0 + 1 + 1) (by omega) (by omega)
  have lev : ∀ q : Int, Rdr b q → q < 1000000 → Wp (fun k => spec_anyLevels.f k b q) (fun r => 1 ≤ r.1 ∧ r.1 ≤ 17) := by
    intro q hq hq1
    unfold spec_anyLevels.f
    refine Wp.call (w_one b q _ hq hq1 (by simp) (by simp)) ?_
    rintro _ ⟨z, rfl, hz⟩
    refine Wp.ret ?_
    simp only [List.mem_cons, List.not_mem_nil, or_false] at hz
    simp only
    omega
  refine Wp.ite (fun hy => ?_) (fun hy => ?_)
  · refine Wp.call (w_one b _ _ h (by omega) (by simp) (by simp)) ?_
    rintro _ ⟨z, rfl, hz⟩
    have h := h.up (q := 0 + 1 + 1 + 1) (by omega) (by omega)
    refine Wp.call (lev _ h (by omega)) ?_
    rintro ⟨L, q⟩ hL
    refine Wp.ret ?_
    simp only [List.mem_cons, List.not_mem_nil, or_false] at hz
    simp only at hL ⊢
    omega
  · refine Wp.call (lev _ h (by omega)) ?_
    rintro ⟨L, q⟩ hL
    refine Wp.ret ?_
    simp only at hL ⊢
    rw [w64 (x := x - 70) (by omega) (by omega)]
    omega
theorem nst_mono (n L : Int) (hL : 2 ≤ L) (hM : L ≤ 16) : nst n L L.toNat ≤ nst (n + 1) L L.toNat := by
  have a1 := nst_lt n L L.toNat (by omega)
  have b1 := nst_lt (n + 1) L L.toNat (by omega)
  rcases Nat.lt_or_ge (nst (n + 1) L L.toNat) (nst n L L.toNat) with h | h
  · have c1 := nst_first n L L.toNat _ h
    have c2 := nst_le (n + 1) L L.toNat _ a1
    have c3 := lv_lt (nst (n + 1) L L.toNat : Nat) (nst n L L.toNat : Nat) L (by omega) hL hM
    unfold ld at c1 c2
    omega
  · exact h
theorem nst_value (L : Int) (k : Nat) (hk : (k : Int) < L) (hL : 2 ≤ L) (hM : L ≤ 16) : nst (lv k L) L L.toNat = k := by
  have a := nst_le (lv k L) L L.toNat k (by omega)
  have a1 := nst_lt (lv k L) L L.toNat (by omega)
  have z : ld (lv k L) L k = 0 := by unfold ld; omega
  rcases Nat.lt_trichotomy (nst (lv k L) L L.toNat) k with h | h | h
  · have := lv_lt _ _ L (Int.ofNat_lt.2 h) hL hM
    rw [z] at a
    unfold ld at a
    omega
  · exact h
  · have := lv_lt _ _ L (Int.ofNat_lt.2 h) hL hM
    rw [z] at a
    unfold ld at a
    omega
theorem FnLevelOf : laws_FnLevelOf.Pure := by
  intro l hm hs hb
  refine Wp.rounds ?_
  unfold laws_FnLevelOf.f
  refine Wp.ite (fun _ => Wp.ret rfl) (fun _ => ?_)
  refine Wp.call (w_DrawLevelOf l hb) ?_
  rintro ⟨n, L⟩ ⟨n0, n1, L0, L1⟩
  simp only at n0 n1 L0 L1 ⊢
  refine Wp.call (w_iLevelOf n L) ?_
  rintro _ rfl
  refine Wp.call (w_sLevelOf n L) ?_
  rintro _ rfl
  refine Wp.pos rfl ?_
  refine Wp.step (fun k => laws_FnLevelOf.j0.eq_2 ..) ?_
  refine Wp.ite (fun h => ?_) (fun h => ?_)
  · refine Wp.call (w_sLevelOf n L) ?_
    rintro _ rfl
    exact Wp.ret (by simp)
  · have hv : (2 ≤ L ∧ L ≤ 16) ∧ -9999 ≤ n ∧ n ≤ 9999 := by
      by_cases hv : (2 ≤ L ∧ L ≤ 16) ∧ -9999 ≤ n ∧ n ≤ 9999
      · exact hv
      · exact absurd (by unfold lvOf; rw [if_neg hv]; rfl) h
    obtain ⟨⟨hL, hM⟩, h0, h1⟩ := hv
    have e : lvOf n L = nst n L L.toNat := by unfold lvOf; rw [if_pos ⟨⟨hL, hM⟩, h0, h1⟩]
    have hk := nst_lt n L L.toNat (by omega)
    rw [e]
    have hlt : (nst n L L.toNat : Int) < L := by omega
    have v0 := lv_0 (nst n L L.toNat) L (by omega) hL
    have v1 := lv_top (nst n L L.toNat) L hlt hL
    have last : Wp (fun k => if (wrap64 (L - 1)) = 0 then (none) else ((impl_LevelOf.f k (wrap64 (Int.tdiv (wrap64 (255 * (nst n L L.toNat : Int))) (wrap64 (L - 1)))) L).bind fun t => (some (t == (nst n L L.toNat : Int))))) (fun r => r = true) := by
      rw [w64 (x := L - 1) (by omega) (by omega), w64 (x := 255 * (nst n L L.toNat : Int)) (by omega) (by omega), Int.tdiv_eq_ediv_of_nonneg (by omega)]
      refine Wp.neg (by omega) ?_
      have ev : wrap64 (255 * (nst n L L.toNat : Int) / (L - 1)) = lv (nst n L L.toNat) L := w64 (by unfold lv at v0; omega) (by unfold lv at v1; omega)
      rw [ev]
      refine Wp.call (w_iLevelOf _ L) ?_
      rintro _ rfl
      refine Wp.ret ?_
      unfold lvOf
      rw [if_pos ⟨⟨hL, hM⟩, by omega, by omega⟩, nst_value L _ hlt hL hM]
      simp
    refine Wp.pos hlt (Wp.ite (fun _ => last) (fun hn => ?_))
    rw [w64 (x := n + 1) (by omega) (by omega)]
    refine Wp.call (w_iLevelOf _ L) ?_
    rintro _ rfl
    refine Wp.pos ?_ last
    unfold lvOf
    rw [if_pos ⟨⟨hL, hM⟩, by omega, by omega⟩]
    have := nst_mono n L hL hM
    omega
end Go.Proofs.Ytbldmekplkjfiaa.Pure
