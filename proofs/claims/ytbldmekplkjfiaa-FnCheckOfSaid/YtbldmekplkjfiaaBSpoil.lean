/- Drawn lists that are spoiled in some cases: how long they are, and how far the reader's place has come. Plain lemmas under bounds. -/
import Derived.Test.YtbldmekplkjfiaaPx3
import Derived.Test.YtbldmekplkjfiaaPx4
import Derived.Test.YtbldmekplkjfiaaBDraw
namespace Go.Proofs.Ytbldmekplkjfiaa.P
open Go.RowKit Go.Proofs.YtbldmekplkjfiaaW.PrintWords Go.Proofs.YtbldmekplkjfiaaW.PrintLast Go.Proofs.YtbldmekplkjfiaaW.PrintMore Go.Proofs.Ytbldmekplkjfiaa.Wp
set_option linter.unusedVariables false
set_option linter.unusedSimpArgs false

theorem w_copyInts (l : List Int) (hl : l.length ≤ 1000000000) : Wp (fun _ => spec_copyInts.f l) (fun r => r = l) := by
  unfold spec_copyInts.f
  exact Wp.pos (by simp; omega) (Wp.ret (by simp))
theorem w_spoil (b : List Int) (p : Int) (l : List Int) (n : Int) (h : Rdr b p) (hp : p ≤ 999900) (hl : l.length ≤ 1000000) :
    Wp (fun k => spec_reader_spoil.f k b p l n) (fun r => r.1.length ≤ l.length + 1 ∧ p ≤ r.2 ∧ r.2 ≤ p + 3) := by
  unfold spec_reader_spoil.f
  refine Wp.call (w_copyInts l (by omega)) ?_
  rintro _ rfl
  refine Wp.call (w_pick b p 20 h (by omega) (by omega)) ?_
  rintro _ ⟨x, rfl, x0, x1, _⟩
  have h1 := h.up (q := p + 1) (by omega) (by omega)
  refine Wp.ite (fun _ => Wp.pos (by omega) (Wp.ret ⟨by first | (simp; done) | (simp; omega), by first | (simp; done) | (simp; omega), by first | (simp; done) | (simp; omega)⟩)) (fun _ => ?_)
  refine Wp.ite (fun _ => Wp.ite (fun _ => Wp.pos (by omega) (Wp.ret ⟨by first | (simp; done) | (simp; omega), by first | (simp; done) | (simp; omega), by first | (simp; done) | (simp; omega)⟩)) (fun _ => Wp.ret ⟨by first | (simp; done) | (simp; omega), by first | (simp; done) | (simp; omega), by first | (simp; done) | (simp; omega)⟩)) (fun _ => ?_)
  refine Wp.ite (fun _ => Wp.ite (fun hg => ?_) (fun _ => Wp.ret ⟨by first | (simp; done) | (simp; omega), by first | (simp; done) | (simp; omega), by first | (simp; done) | (simp; omega)⟩)) (fun _ => Wp.ret ⟨by first | (simp; done) | (simp; omega), by first | (simp; done) | (simp; omega), by first | (simp; done) | (simp; omega)⟩)
  refine Wp.call (w_pick b _ _ h1 (by omega) (by omega)) ?_
  rintro _ ⟨y, rfl, y0, y1, _⟩
  have y1 := y1 (by omega)
  have h2 := h.up (q := p + 1 + 1) (by omega) (by omega)
  refine Wp.call (w_one b _ _ h2 (by omega) (by simp) (by simp)) ?_
  rintro _ ⟨z, rfl, hz⟩
  exact Wp.pos y0 (Wp.pos y1 (Wp.ret ⟨by first | (simp; done) | (simp; omega), by first | (simp; done) | (simp; omega), by first | (simp; done) | (simp; omega)⟩))
end Go.Proofs.Ytbldmekplkjfiaa.P
