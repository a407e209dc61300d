/- For every code: the drawn pixel's luma and differences are the reference's, and lead back to the pixel. -/
import Derived.Test.YtbldmekplkjfiaaPx8
import Derived.Test.YtbldmekplkjfiaaBDrawLuma
namespace Go.Proofs.Ytbldmekplkjfiaa.Pure
open Go.RowKit Go.Proofs.Ytbldmekplkjfiaa.P Go.Proofs.YtbldmekplkjfiaaW.PrintWords Go.Proofs.Ytbldmekplkjfiaa.Wp
set_option linter.unusedVariables false

theorem FnToLuma : laws_FnToLuma.Pure := by
  intro l _ _ hb
  refine Wp.rounds ?_
  unfold laws_FnToLuma.f
  refine Wp.ite (fun _ => Wp.ret rfl) (fun hl => ?_)
  refine Wp.call (w_DrawToLuma l hb) ?_
  intro x hx
  refine Wp.call (w_iToLuma x) ?_
  rintro _ rfl
  refine Wp.call (w_sToLuma x (by omega)) ?_
  rintro _ rfl
  refine Wp.call (w_equalInts _ _ (luAll_len x)) ?_
  rintro _ rfl
  refine Wp.pos (by simp) ?_
  refine Wp.step (fun k => laws_FnToLuma.j0.eq_2 ..) (Wp.ite (fun h => ?_) (fun h => ?_))
  · refine Wp.call (w_sToLuma x (by omega)) ?_
    rintro _ rfl
    refine Wp.call (w_equalInts _ _ (luAll_len x)) ?_
    rintro _ rfl
    exact Wp.ret (by simp)
  · by_cases hv : x.length = 3 ∧ allB x = true
    · obtain ⟨a, b, c, rfl⟩ := three (l := x) (by omega)
      obtain ⟨ha, hb', hc⟩ := allB3 hv.2
      have e : luAll [a, b, c] = lumaOf a b c := by unfold luAll; rw [if_pos hv]; rfl
      rw [e]
      have hun : unAll (lumaOf a b c) = ([a, b, c], true) := by
        unfold unAll lumaOf
        rw [show rd [c + (a - c) / 2 + (b - (c + (a - c) / 2)) / 2, a - c, b - (c + (a - c) / 2)] 0 = c + (a - c) / 2 + (b - (c + (a - c) / 2)) / 2 from rfl, show rd [c + (a - c) / 2 + (b - (c + (a - c) / 2)) / 2, a - c, b - (c + (a - c) / 2)] 1 = a - c from rfl, show rd [c + (a - c) / 2 + (b - (c + (a - c) / 2)) / 2, a - c, b - (c + (a - c) / 2)] 2 = b - (c + (a - c) / 2) from rfl, unluma_luma, if_pos ⟨rfl, hv.2⟩]
      refine Wp.call (w_iFromLuma _) ?_
      rintro _ rfl
      rw [hun]
      refine Wp.pos rfl ?_
      refine Wp.call (w_equalInts _ _ (by simp)) ?_
      rintro _ rfl
      refine Wp.pos (by simp) (Wp.pos rfl (Wp.pos (by simp [lumaOf]) (Wp.pos ?_ (Wp.ret ?_))))
      · show c + (a - c) / 2 + (b - (c + (a - c) / 2)) / 2 ≥ 0
        omega
      · refine decide_eq_true ?_
        show c + (a - c) / 2 + (b - (c + (a - c) / 2)) / 2 ≤ 255
        omega
    · exact absurd (by unfold luAll; rw [if_neg hv]; rfl) h
end Go.Proofs.Ytbldmekplkjfiaa.Pure
