/- The program's FromLuma answers what the reference's answers, for every list, leaves it alone, and shares no memory. -/
import Derived.Test.YtbldmekplkjfiaaPx10
import Derived.Test.YtbldmekplkjfiaaBLuma
namespace Go.Proofs.Ytbldmekplkjfiaa.Pure
open Go.RowKit Go.Proofs.Ytbldmekplkjfiaa.P Go.Proofs.YtbldmekplkjfiaaW.PrintWords Go.Proofs.Ytbldmekplkjfiaa.Wp
set_option linter.unusedVariables false

theorem FnExactFromLuma : laws_FnExactFromLuma.Pure := by
  intro l _ _ _
  refine Wp.rounds ?_
  unfold laws_FnExactFromLuma.f
  refine Wp.ite (fun _ => Wp.ret rfl) (fun hl => ?_)
  have hl : l.length ≤ 1000000000 := by omega
  have hu := unAll_len l
  repeat' first
    | with_reducible exact Wp.ret rfl
    | with_reducible refine Wp.step (fun k => laws_FnExactFromLuma.j0.eq_2 ..) ?_
    | with_reducible refine Wp.step (fun k => laws_FnExactFromLuma.j1.eq_2 ..) ?_
    | with_reducible refine Wp.step (fun k => laws_FnExactFromLuma.j2.eq_2 ..) ?_
    | ((with_reducible refine Wp.call (w_toIntS _ hl) ?_); rintro _ rfl)
    | ((with_reducible refine Wp.call (w_sFromLuma _ hl) ?_); rintro _ rfl)
    | ((with_reducible refine Wp.call (w_iFromLuma _) ?_); rintro _ rfl)
    | ((with_reducible refine Wp.call (w_eqIntS _ _ hu) ?_); rintro _ rfl)
    | ((with_reducible refine Wp.call (w_eqIntS _ _ hl) ?_); rintro _ rfl)
    | ((with_reducible refine Wp.call (w_markIntS _ 1 hl (by omega) (by omega)) ?_); rintro _ rfl; dsimp only)
    | ((with_reducible refine Wp.call (w_markIntS _ 1 hu (by omega) (by omega)) ?_); rintro _ rfl; dsimp only)
    | ((with_reducible refine Wp.call (w_heldIntS _ 1 hu (by omega) (by omega)) ?_); rintro _ rfl)
    | ((with_reducible refine Wp.pos ?c ?_); (case c => first | rfl | omega | (simp; done)))
    | ((with_reducible refine Wp.neg ?c ?_); (case c => first | omega | (simp; done)))
end Go.Proofs.Ytbldmekplkjfiaa.Pure
