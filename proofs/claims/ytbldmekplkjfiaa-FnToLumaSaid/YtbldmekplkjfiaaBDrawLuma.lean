/- Drawn pixels of three numbers are short. Plain lemmas under bounds. -/
import Derived.Test.YtbldmekplkjfiaaPx6
import Derived.Test.YtbldmekplkjfiaaBPixel
import Derived.Test.YtbldmekplkjfiaaBLuma
namespace Go.Proofs.Ytbldmekplkjfiaa.P
open Go.RowKit Go.Proofs.YtbldmekplkjfiaaW.PrintWords Go.Proofs.YtbldmekplkjfiaaW.PrintLast Go.Proofs.YtbldmekplkjfiaaW.PrintMore Go.Proofs.Ytbldmekplkjfiaa.Wp
set_option linter.unusedVariables false

theorem w_DrawToLuma (l : List Int) (hb : ∀ x ∈ l, (Lit.int .u8 x).wf = true) : Wp (fun k => spec_DrawToLuma.f k l) (fun r => r.length ≤ 1000) := by
  unfold spec_DrawToLuma.f
  refine Wp.call (w_newReader l hb) ?_
  rintro ⟨b, p⟩ ⟨h, h0⟩
  simp only at h h0 ⊢
  refine Wp.call (w_anyPixel b p 3 h (by omega) (by omega) (by omega)) ?_
  rintro ⟨x, q⟩ ⟨hx, _⟩
  exact Wp.ret (by simp only at hx ⊢; omega)
end Go.Proofs.Ytbldmekplkjfiaa.P
