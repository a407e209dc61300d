/- For every code: the pixel of the drawn luma and differences is the reference's, and its luma is the drawn list. -/
import Derived.Test.YtbldmekplkjfiaaPx10
import Derived.Test.YtbldmekplkjfiaaPx11
import Derived.Test.YtbldmekplkjfiaaBDrawLuma
namespace Go.Proofs.Ytbldmekplkjfiaa.Pure
open Go.RowKit Go.Proofs.Ytbldmekplkjfiaa.P Go.Proofs.YtbldmekplkjfiaaW.PrintWords Go.Proofs.Ytbldmekplkjfiaa.Wp
set_option linter.unusedVariables false

theorem w_DrawFromLuma (l : List Int) (hb : ∀ x ∈ l, (Lit.int .u8 x).wf = true) : Wp (fun k => spec_DrawFromLuma.f k l) (fun r => r.length ≤ 1000) := by
  unfold spec_DrawFromLuma.f
  refine Wp.call (w_newReader l hb) ?_
  rintro ⟨b, p⟩ ⟨h, h0⟩
  simp only at h h0 ⊢
  refine Wp.call (w_anyPixel b p 3 h (by omega) (by omega) (by omega)) ?_
  rintro ⟨x, q⟩ ⟨hx, q0, q1⟩
  simp only at hx q0 q1 ⊢
  refine Wp.call (w_sToLuma x (by omega)) ?_
  rintro _ rfl
  refine Wp.call (w_pick b q 4 (h.up (by omega) (by omega)) (by omega) (by omega)) ?_
  rintro _ ⟨u, rfl, u0, u1, _⟩
  refine Wp.ite (fun _ => ?_) (fun _ => ?_)
  · refine Wp.call (w_pick b _ 256 (h.up (by omega) (by omega)) (by omega) (by omega)) ?_
    rintro _ ⟨u1, rfl, _⟩
    refine Wp.call (w_pick b _ 512 (h.up (by omega) (by omega)) (by omega) (by omega)) ?_
    rintro _ ⟨u2, rfl, _⟩
    refine Wp.call (w_pick b _ 512 (h.up (by omega) (by omega)) (by omega) (by omega)) ?_
    rintro _ ⟨u3, rfl, _⟩
    refine Wp.call (w_spoil b _ _ 256 (h.up (by omega) (by omega)) (by omega) (by simp)) ?_
    rintro ⟨y, q'⟩ ⟨hy, _⟩
    exact Wp.ret (by simp at hy ⊢; omega)
  · have hlu : (luAll x).length ≤ 3 := by unfold luAll; split <;> simp [lumaOf]
    refine Wp.call (w_spoil b _ _ 256 (h.up (by omega) (by omega)) (by omega) (by omega)) ?_
    rintro ⟨y, q'⟩ ⟨hy, _⟩
    exact Wp.ret (by simp at hy ⊢; omega)
theorem FnFromLuma : laws_FnFromLuma.Pure := by
  intro l _ _ hb
  refine Wp.rounds ?_
  unfold laws_FnFromLuma.f
  refine Wp.ite (fun _ => Wp.ret rfl) (fun hl => ?_)
  refine Wp.call (w_DrawFromLuma l hb) ?_
  intro x hx
  refine Wp.call (w_iFromLuma x) ?_
  rintro _ rfl
  refine Wp.call (w_sFromLuma x (by omega)) ?_
  rintro _ rfl
  refine Wp.call (w_equalInts _ _ (unAll_len x)) ?_
  rintro _ rfl
  refine Wp.pos (by simp) (Wp.neg (by simp) ?_)
  refine Wp.step (fun k => laws_FnFromLuma.j0.eq_2 ..) (Wp.ite (fun h => ?_) (fun h => ?_))
  · refine Wp.call (w_equalInts _ _ (unAll_len x)) ?_
    rintro _ rfl
    exact Wp.pos (by simp) (Wp.ret (by simp))
  · by_cases hv : x.length = 3 ∧ allB (unluma (rd x 0) (rd x 1) (rd x 2)) = true
    · obtain ⟨y, o, g, rfl⟩ := three (l := x) (by omega)
      have hv2 : allB (unluma y o g) = true := hv.2
      have e : unAll [y, o, g] = (unluma y o g, true) := by unfold unAll; rw [if_pos hv]; rfl
      rw [e]
      refine Wp.call (w_iToLuma _) ?_
      rintro _ rfl
      have e2 : luAll (unluma y o g) = [y, o, g] := by
        unfold luAll
        rw [if_pos ⟨rfl, hv2⟩]
        exact luma_unluma y o g
      dsimp only
      rw [e2]
      refine Wp.call (w_equalInts _ _ (by simp)) ?_
      rintro _ rfl
      exact Wp.ret (by simp)
    · exact absurd (by unfold unAll; rw [if_neg hv]; rfl) h
end Go.Proofs.Ytbldmekplkjfiaa.Pure
