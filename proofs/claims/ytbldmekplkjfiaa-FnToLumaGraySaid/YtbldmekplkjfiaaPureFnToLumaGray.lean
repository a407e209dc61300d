/- For every code: the drawn pixel's luma and differences are the reference's, and gray has no differences. -/
import Derived.Test.YtbldmekplkjfiaaPx9
import Derived.Test.YtbldmekplkjfiaaBDrawLuma
namespace Go.Proofs.Ytbldmekplkjfiaa.Pure
open Go.RowKit Go.Proofs.Ytbldmekplkjfiaa.P Go.Proofs.YtbldmekplkjfiaaW.PrintWords Go.Proofs.Ytbldmekplkjfiaa.Wp
set_option linter.unusedVariables false

theorem FnToLumaGray : laws_FnToLumaGray.Pure := by
  intro l _ _ hb
  refine Wp.rounds ?_
  unfold laws_FnToLumaGray.f
  refine Wp.ite (fun _ => Wp.ret rfl) (fun hl => ?_)
  refine Wp.call (w_DrawToLuma l hb) ?_
  intro x hx
  refine Wp.call (w_iToLuma x) ?_
  rintro _ rfl
  refine Wp.call (w_sToLuma x (by omega)) ?_
  rintro _ rfl
  refine Wp.call (w_equalInts _ _ (luAll_len x)) ?_
  rintro _ rfl
  refine Wp.pos (by simp) ?_
  refine Wp.step (fun k => laws_FnToLumaGray.j0.eq_2 ..) (Wp.ite (fun h => ?_) (fun h => ?_))
  · refine Wp.call (w_sToLuma x (by omega)) ?_
    rintro _ rfl
    refine Wp.call (w_equalInts _ _ (luAll_len x)) ?_
    rintro _ rfl
    exact Wp.ret (by simp)
  · by_cases hv : x.length = 3 ∧ allB x = true
    · obtain ⟨a, b, c, rfl⟩ := three (l := x) (by omega)
      obtain ⟨ha, hb', hc⟩ := allB3 hv.2
      refine Wp.pos (by simp) ?_
      rw [show rd [a, b, c] 0 = a from rfl]
      refine Wp.call (w_iToLuma _) ?_
      rintro _ rfl
      have hg : allB [a, a, a] = true := allB_of (by intro y hy; simp at hy; omega)
      have e : luAll [a, a, a] = [a, 0, 0] := by
        unfold luAll
        rw [if_pos ⟨rfl, hg⟩]
        show lumaOf a a a = _
        unfold lumaOf
        simp
      rw [e]
      refine Wp.call (w_equalInts _ _ (by simp)) ?_
      rintro _ rfl
      exact Wp.ret (by simp)
    · exact absurd (by unfold luAll; rw [if_neg hv]; rfl) h
end Go.Proofs.Ytbldmekplkjfiaa.Pure
