/- For every code: the drawn list's check is the reference's, below 65536, and another one where one byte is greater or less by 1. -/
import Derived.Test.YtbldmekplkjfiaaPx3
import Derived.Test.YtbldmekplkjfiaaPx4
import Derived.Test.YtbldmekplkjfiaaBCheck
import Derived.Test.YtbldmekplkjfiaaBBytes
namespace Go.Proofs.Ytbldmekplkjfiaa.Pure
open Go.RowKit Go.Proofs.Ytbldmekplkjfiaa.P Go.Proofs.YtbldmekplkjfiaaW.PrintWords Go.Proofs.Ytbldmekplkjfiaa.Wp
set_option linter.unusedVariables false

theorem changes (x : List Int) (hl : x.length ≤ 1200) (hb : allB x = true) (d : Nat) : ∀ i : Nat, i + d = x.length → Wp (fun k => laws_FnCheckOf.l0 k x (ckOf x) i) (fun r => r = true) := by
  induction d with
  | zero =>
    intro i hd
    refine Wp.step (fun k => laws_FnCheckOf.l0.eq_2 ..) (Wp.neg (by omega) (Wp.ret ?_))
    exact decide_eq_true (ckOf_range x).2
  | succ d ih =>
    intro i hd
    refine Wp.step (fun k => laws_FnCheckOf.l0.eq_2 ..) (Wp.pos (by omega) ?_)
    have hr := rd_leB hb i (by omega)
    have go : ∀ v : Int, 0 ≤ v → v ≤ 255 → (v = x.getD i 0 + 1 ∨ v = x.getD i 0 - 1) → Wp (fun k => (impl_CheckOf.f k (x.set i v)).bind fun t => if t = ckOf x then some false else laws_FnCheckOf.l0 k x (ckOf x) (wrap64 ((i : Int) + 1))) (fun r => r = true) := by
      intro v h0 h1 hv
      refine Wp.call (w_iCheckOf _ (by rw [List.length_set]; omega)) ?_
      rintro _ rfl
      have hok : (x.set i v).length ≤ 1200 ∧ allB (x.set i v) = true := by
        refine ⟨by rw [List.length_set]; exact hl, allB_of fun y hy => ?_⟩
        rcases List.mem_or_eq_of_mem_set hy with h | rfl
        · exact allB_mem hb y h
        · exact ⟨h0, h1⟩
      unfold ckAll
      rw [if_pos hok]
      refine Wp.neg (ck_change x i v (by omega) hv) ?_
      rw [w64 (x := (i : Int) + 1) (by omega) (by omega)]
      exact ih (i + 1) (by omega)
    refine Wp.call (Q := fun r => r = []) (Wp.ret rfl) ?_
    rintro _ rfl
    refine Wp.pos (by simp; omega) ?_
    refine Wp.call (Q := fun r => r = x) (Wp.ret (by simp)) ?_
    rintro _ rfl
    refine Wp.pos (by omega) (Wp.pos (by omega) ?_)
    rw [bl_rd, w64 (x := _ + 1) (by omega) (by omega), Int.toNat_natCast]
    refine Wp.call (Q := fun r => r = List.set _ i (List.getD _ i 0 + 1)) (Wp.ret rfl) ?_
    rintro _ rfl
    rw [bl_rd, bl_set _ _ (by omega), if_pos rfl]
    refine Wp.ite (fun h => ?_) (fun h => ?_)
    · rw [List.set_set]
      exact go 254 (by omega) (by omega) (.inr (by omega))
    · exact go _ (by omega) (by omega) (.inl rfl)
theorem FnCheckOf : laws_FnCheckOf.Pure := by
  intro l _ _ hb
  refine Wp.rounds ?_
  unfold laws_FnCheckOf.f
  refine Wp.ite (fun _ => Wp.ret rfl) (fun hl => ?_)
  refine Wp.call (w_DrawCheckOf l hb) ?_
  intro x hx
  refine Wp.call (w_iCheckOf x (by omega)) ?_
  rintro _ rfl
  refine Wp.call (w_sCheckOf x (by omega)) ?_
  rintro _ rfl
  refine Wp.pos rfl ?_
  refine Wp.step (fun k => laws_FnCheckOf.j0.eq_2 ..) (Wp.ite (fun h => ?_) (fun h => ?_))
  · refine Wp.call (w_sCheckOf x (by omega)) ?_
    rintro _ rfl
    exact Wp.ret (by simp)
  · by_cases hv : x.length ≤ 1200 ∧ allB x = true
    · unfold ckAll
      rw [if_pos hv]
      exact changes x hv.1 hv.2 x.length 0 (by omega)
    · exact absurd (by unfold ckAll; rw [if_neg hv]; rfl) h
end Go.Proofs.Ytbldmekplkjfiaa.Pure
