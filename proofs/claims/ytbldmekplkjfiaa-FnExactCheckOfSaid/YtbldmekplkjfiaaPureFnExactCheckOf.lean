/- The program's CheckOf answers what the reference's answers, for every list, and leaves it alone. -/
import Derived.Test.YtbldmekplkjfiaaPx3
import Derived.Test.YtbldmekplkjfiaaBCheck
namespace Go.Proofs.Ytbldmekplkjfiaa.Pure
open Go.RowKit Go.Proofs.Ytbldmekplkjfiaa.P Go.Proofs.YtbldmekplkjfiaaW.PrintWords Go.Proofs.Ytbldmekplkjfiaa.Wp
set_option linter.unusedVariables false

theorem FnExactCheckOf : laws_FnExactCheckOf.Pure := by
  intro l _ _ _
  refine Wp.rounds ?_
  unfold laws_FnExactCheckOf.f
  refine Wp.ite (fun _ => Wp.ret rfl) (fun hl => ?_)
  have hl : l.length ≤ 1000000000 := by omega
  refine Wp.call (w_toIntS l hl) ?_
  rintro _ rfl
  refine Wp.call (w_sCheckOf _ hl) ?_
  rintro _ rfl
  refine Wp.call (w_toIntS _ hl) ?_
  rintro _ rfl
  refine Wp.call (w_iCheckOf _ hl) ?_
  rintro _ rfl
  refine Wp.pos rfl ?_
  refine Wp.call (w_toIntS _ hl) ?_
  rintro _ rfl
  refine Wp.call (w_eqIntS _ _ hl) ?_
  rintro _ rfl
  exact Wp.pos (by simp) (Wp.ret rfl)
end Go.Proofs.Ytbldmekplkjfiaa.Pure
