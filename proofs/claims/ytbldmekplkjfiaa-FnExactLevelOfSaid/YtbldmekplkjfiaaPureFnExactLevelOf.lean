/- The program's LevelOf answers what the reference's answers, for every two whole numbers. -/
import Derived.Test.YtbldmekplkjfiaaPx1
import Derived.Test.YtbldmekplkjfiaaBLevel
namespace Go.Proofs.Ytbldmekplkjfiaa.Pure
open Go.RowKit Go.Proofs.Ytbldmekplkjfiaa.P Go.Proofs.YtbldmekplkjfiaaW.PrintWords Go.Proofs.Ytbldmekplkjfiaa.Wp
set_option linter.unusedVariables false

theorem FnExactLevelOf : laws_FnExactLevelOf.Pure := by
  intro n L _ _
  refine Wp.rounds ?_
  unfold laws_FnExactLevelOf.f
  refine Wp.call (w_sLevelOf n L) ?_
  rintro _ rfl
  refine Wp.call (w_iLevelOf n L) ?_
  rintro _ rfl
  exact Wp.pos rfl (Wp.ret rfl)
end Go.Proofs.Ytbldmekplkjfiaa.Pure
