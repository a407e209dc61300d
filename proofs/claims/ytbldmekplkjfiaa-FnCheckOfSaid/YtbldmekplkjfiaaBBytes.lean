/- Drawn bytes with repetitions: they are few. Plain lemmas under bounds. -/
import Derived.Test.YtbldmekplkjfiaaPx4
import Derived.Test.YtbldmekplkjfiaaBSpoil
namespace Go.Proofs.Ytbldmekplkjfiaa.P
open Go.RowKit Go.Proofs.YtbldmekplkjfiaaW.PrintWords Go.Proofs.YtbldmekplkjfiaaW.PrintLast Go.Proofs.YtbldmekplkjfiaaW.PrintMore Go.Proofs.Ytbldmekplkjfiaa.Wp
set_option linter.unusedVariables false
set_option linter.unusedSimpArgs false

theorem w_anyBytes (b : List Int) (p : Int) (h : Rdr b p) (hp : p ≤ 900000) : Wp (fun k => spec_anyBytes.f k b p) (fun r => r.1.length ≤ 1000 ∧ p ≤ r.2 ∧ r.2 ≤ p + 1000) := by
  unfold spec_anyBytes.f
  refine Wp.call (w_one b p _ h (by omega) (by simp) (by simp)) ?_
  rintro _ ⟨n, rfl, hn⟩
  have hn : 0 ≤ n ∧ n ≤ 30 := by
    simp only [List.mem_cons, List.not_mem_nil, or_false] at hn
    omega
  simp only
  have key : ∀ (d : Nat) (x : List Int) (q : Int), d ≤ 30 → x.length ≤ 8 * (30 - d) → p + 1 ≤ q → q ≤ p + 1 + 3 * (30 - d) → Wp (fun k => spec_anyBytes.l0 k x d b q) (fun r => r.1.length ≤ 1000 ∧ p ≤ r.2 ∧ r.2 ≤ p + 1000) := by
    intro d
    induction d with
    | zero =>
      intro x q hd hx hq0 hq1
      refine Wp.step (fun k => spec_anyBytes.l0.eq_2 ..) (Wp.neg (by omega) ?_)
      refine Wp.call (w_spoil b q x 256 (h.up (by omega) (by omega)) (by omega) (by omega)) ?_
      rintro ⟨y, q'⟩ ⟨a1, a2, a3⟩
      simp only at a1 a2 a3
      exact Wp.ret ⟨by simp only; omega, by simp only; omega, by simp only; omega⟩
    | succ d ih =>
      intro x q hd hx hq0 hq1
      have rest : ∀ (t : Bool) (q : Int), (t = true → 3 < x.length) → p + 1 ≤ q → q ≤ p + 2 + 3 * (30 - (d + 1)) → Wp (fun k => spec_anyBytes.j1 k x (d + 1 : Nat) t b q) (fun r => r.1.length ≤ 1000 ∧ p ≤ r.2 ∧ r.2 ≤ p + 1000) := by
        intro t q ht hq0 hq1
        refine Wp.step (fun k => spec_anyBytes.j1.eq_2 ..) (Wp.ite (fun hc => ?_) (fun hc => ?_))
        · have ht := ht hc
          refine Wp.call (w_pick b q _ (h.up (by omega) (by omega)) (by omega) (by omega)) ?_
          rintro _ ⟨u, rfl, u0, u1, _⟩
          have u1 := u1 (by omega)
          refine Wp.call (w_pick b _ _ (h.up (by omega) (by omega)) (by omega) (by omega)) ?_
          rintro _ ⟨v, rfl, v0, v1, _⟩
          have v1 := v1 (by omega)
          simp only
          rw [w64 (x := 1 + u) (by omega) (by omega), w64 (x := 3 + v) (by omega) (by omega)]
          have inner : ∀ (e : Nat) (y : List Int), x.length ≤ y.length → y.length + e ≤ x.length + 8 → Wp (fun k => spec_anyBytes.l1 k y (d + 1 : Nat) (1 + u) e b (q + 1 + 1)) (fun r => r.1.length ≤ 1000 ∧ p ≤ r.2 ∧ r.2 ≤ p + 1000) := by
            intro e
            induction e with
            | zero =>
              intro y hy0 hy
              refine Wp.step (fun k => spec_anyBytes.l1.eq_2 ..) (Wp.neg (by omega) ?_)
              rw [w64 (x := ((d + 1 : Nat) : Int) - 1) (by omega) (by omega), show ((d + 1 : Nat) : Int) - 1 = d by omega]
              exact ih y _ (by omega) (by omega) (by omega) (by omega)
            | succ e ihe =>
              intro y hy0 hy
              refine Wp.step (fun k => spec_anyBytes.l1.eq_2 ..) (Wp.pos (by omega) ?_)
              rw [w64 (x := (y.length : Int) - (1 + u)) (by omega) (by omega)]
              refine Wp.pos (by omega) (Wp.pos (by omega) (Wp.pos (by omega) ?_))
              rw [w64 (x := ((e + 1 : Nat) : Int) - 1) (by omega) (by omega), show ((e + 1 : Nat) : Int) - 1 = e by omega]
              exact ihe _ (by simp; omega) (by simp; omega)
          have := inner (3 + v).toNat x (Nat.le_refl _) (by omega)
          rw [show (((3 + v).toNat : Nat) : Int) = 3 + v by omega] at this
          exact this
        · refine Wp.call (w_pick b q 4 (h.up (by omega) (by omega)) (by omega) (by omega)) ?_
          rintro _ ⟨u, rfl, u0, u1, _⟩
          refine Wp.pos (by omega) ?_
          rw [w64 (x := ((d + 1 : Nat) : Int) - 1) (by omega) (by omega), show ((d + 1 : Nat) : Int) - 1 = d by omega]
          exact ih _ _ (by omega) (by simp; omega) (by simp only; omega) (by simp only; omega)
      refine Wp.step (fun k => spec_anyBytes.l0.eq_2 ..) (Wp.pos (by omega) (Wp.ite (fun hx3 => ?_) (fun hx3 => ?_)))
      · refine Wp.call (w_pick b q 3 (h.up (by omega) (by omega)) (by omega) (by omega)) ?_
        rintro _ ⟨u, rfl, u0, u1, _⟩
        exact rest _ _ (fun _ => by omega) (by simp only; omega) (by simp only; omega)
      · exact rest false _ (fun e => by simp at e) (by omega) (by omega)
  have := key n.toNat [] (p + 1) (by omega) (by simp) (by omega) (by omega)
  rw [show ((n.toNat : Nat) : Int) = n by omega] at this
  exact this
theorem w_DrawCheckOf (l : List Int) (hb : ∀ x ∈ l, (Lit.int .u8 x).wf = true) : Wp (fun k => spec_DrawCheckOf.f k l) (fun r => r.length ≤ 1000) := by
  unfold spec_DrawCheckOf.f
  refine Wp.call (w_newReader l hb) ?_
  rintro ⟨b, p⟩ ⟨h, h0⟩
  simp only at h h0 ⊢
  refine Wp.call (w_anyBytes b p h (by omega)) ?_
  rintro ⟨x, q⟩ ⟨hx, _⟩
  exact Wp.ret hx
end Go.Proofs.Ytbldmekplkjfiaa.P
