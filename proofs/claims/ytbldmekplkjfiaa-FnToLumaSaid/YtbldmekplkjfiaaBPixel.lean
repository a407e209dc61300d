/- Drawn pixels: they are short. Plain lemmas under bounds. -/
import Derived.Test.YtbldmekplkjfiaaPx6
import Derived.Test.YtbldmekplkjfiaaBSpoil
namespace Go.Proofs.Ytbldmekplkjfiaa.P
open Go.RowKit Go.Proofs.YtbldmekplkjfiaaW.PrintWords Go.Proofs.YtbldmekplkjfiaaW.PrintLast Go.Proofs.YtbldmekplkjfiaaW.PrintMore Go.Proofs.Ytbldmekplkjfiaa.Wp
set_option linter.unusedVariables false
set_option linter.unusedSimpArgs false

theorem w_anyPixel (b : List Int) (p n : Int) (h : Rdr b p) (hp : p ≤ 999000) (hn0 : 0 ≤ n) (hn : n ≤ 100) : Wp (fun k => spec_anyPixel.f k b p n) (fun r => r.1.length ≤ n.toNat + 1 ∧ p ≤ r.2 ∧ r.2 ≤ p + n + 3) := by
  unfold spec_anyPixel.f
  have key : ∀ (d i : Nat) (x : List Int) (q : Int), i + d = n.toNat → x.length = i → q = p + i → Wp (fun k => spec_anyPixel.l0 k n x i b q) (fun r => r.1.length ≤ n.toNat + 1 ∧ p ≤ r.2 ∧ r.2 ≤ p + n + 3) := by
    intro d
    induction d with
    | zero =>
      intro i x q hd hx hq
      refine Wp.step (fun k => spec_anyPixel.l0.eq_2 ..) (Wp.neg (by omega) ?_)
      refine Wp.call (w_spoil b q x 256 (h.up (by omega) (by omega)) (by omega) (by omega)) ?_
      rintro ⟨y, q'⟩ ⟨a1, a2, a3⟩
      simp only at a1 a2 a3
      exact Wp.ret ⟨by simp only; omega, by simp only; omega, by simp only; omega⟩
    | succ d ih =>
      intro i x q hd hx hq
      refine Wp.step (fun k => spec_anyPixel.l0.eq_2 ..) (Wp.pos (by omega) ?_)
      refine Wp.call (w_pick b q 256 (h.up (by omega) (by omega)) (by omega) (by omega)) ?_
      rintro _ ⟨u, rfl, u0, u1, _⟩
      refine Wp.pos (by omega) ?_
      rw [w64 (x := (i : Int) + 1) (by omega) (by omega)]
      exact ih (i + 1) _ _ (by omega) (by simp [hx]) (by simp only; omega)
  exact key n.toNat 0 [] p (by omega) rfl (by simp)
end Go.Proofs.Ytbldmekplkjfiaa.P
