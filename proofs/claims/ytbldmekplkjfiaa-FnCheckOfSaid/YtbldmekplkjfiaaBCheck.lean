/- The check of bytes, in both, and that it sees a single change. Plain lemmas. -/
import Derived.Test.YtbldmekplkjfiaaPx2
import Derived.Test.YtbldmekplkjfiaaPx3
import Derived.Test.YtbldmekplkjfiaaBList
namespace Go.Proofs.Ytbldmekplkjfiaa.P
open Go.RowKit Go.Proofs.YtbldmekplkjfiaaW.PrintWords Go.Proofs.YtbldmekplkjfiaaW.PrintLast Go.Proofs.YtbldmekplkjfiaaW.PrintMore Go.Proofs.Ytbldmekplkjfiaa.Wp
set_option linter.unusedVariables false
set_option linter.unusedSimpArgs false

/-- One byte more. -/
def ckStep (s : Int × Int) (n : Int) : Int × Int := ((s.1 + n) % 251, (s.2 + (s.1 + n) % 251) % 251)
def ckOf (l : List Int) : Int := 256 * (l.foldl ckStep (1, 0)).2 + (l.foldl ckStep (1, 0)).1
def CkOk (s : Int × Int) : Prop := 0 ≤ s.1 ∧ s.1 ≤ 250 ∧ 0 ≤ s.2 ∧ s.2 ≤ 250
theorem ckStep_ok (s : Int × Int) (n : Int) : CkOk (ckStep s n) := by
  unfold CkOk ckStep
  refine ⟨?_, ?_, ?_, ?_⟩ <;> simp only <;> omega
theorem ckFold_ok (l : List Int) (s : Int × Int) (h : CkOk s) : CkOk (l.foldl ckStep s) := by
  induction l generalizing s with
  | nil => exact h
  | cons x l ih => exact ih _ (ckStep_ok s x)
theorem ck0 : CkOk (1, 0) := by unfold CkOk; simp
theorem ckOf_range (l : List Int) : 0 ≤ ckOf l ∧ ckOf l < 65536 := by
  have := ckFold_ok l (1, 0) ck0
  unfold CkOk at this
  unfold ckOf
  omega
theorem ck_take (l : List Int) (i : Nat) (h : i < l.length) : (l.take (i + 1)).foldl ckStep (1, 0) = ckStep ((l.take i).foldl ckStep (1, 0)) (l.getD i 0) := by
  rw [List.take_succ_eq_append_getElem h, List.foldl_append]
  simp [List.getD_eq_getElem?_getD, List.getElem?_eq_getElem h]
theorem w_adler (l : List Int) (hb : allB l = true) (hl : l.length ≤ 1000000) : Wp (fun k => spec_adler.f k l) (fun r => r = ckOf l) := by
  unfold spec_adler.f
  have key : ∀ d (i : Nat), i + d = l.length → Wp (fun k => spec_adler.l0 k l ((l.take i).foldl ckStep (1, 0)).1 ((l.take i).foldl ckStep (1, 0)).2 i) (fun r => r = ckOf l) := by
    intro d
    induction d with
    | zero =>
      intro i hd
      have hk := ckFold_ok (l.take i) (1, 0) ck0
      unfold CkOk at hk
      refine Wp.step (fun k => spec_adler.l0.eq_2 ..) (Wp.neg (by omega) (Wp.ret ?_))
      rw [w64 (x := 256 * _) (by omega) (by omega), w64 (by omega) (by omega), List.take_of_length_le (by omega)]
      rfl
    | succ d ih =>
      intro i hd
      have hk := ckFold_ok (l.take i) (1, 0) ck0
      unfold CkOk at hk
      have hr := rd_leB hb i (by omega)
      refine Wp.step (fun k => spec_adler.l0.eq_2 ..) (Wp.pos (by omega) (Wp.pos (by omega) ?_))
      have := ih (i + 1) (by omega)
      rw [ck_take l i (by omega)] at this
      rw [bl_rd, w64 (x := (i : Int) + 1) (by omega) (by omega), w64 (x := _ + l.getD i 0) (by omega) (by omega), Int.tmod_eq_emod_of_nonneg (by omega), w64 (x := _ + _ % 251) (by omega) (by omega), Int.tmod_eq_emod_of_nonneg (by omega)]
      exact this
  exact key l.length 0 (by omega)
theorem w_checkOf (l : List Int) (hb : allB l = true) (hl : l.length ≤ 1000000) : Wp (fun k => impl_checkOf.f k l) (fun r => r = ckOf l) := by
  unfold impl_checkOf.f
  have key : ∀ d (i : Nat), i + d = l.length → Wp (fun k => impl_checkOf.l0 k ((l.take i).foldl ckStep (1, 0)).1 ((l.take i).foldl ckStep (1, 0)).2 l l.length i) (fun r => r = ckOf l) := by
    intro d
    induction d with
    | zero =>
      intro i hd
      have hk := ckFold_ok (l.take i) (1, 0) ck0
      unfold CkOk at hk
      refine Wp.step (fun k => impl_checkOf.l0.eq_2 ..) (Wp.neg (by omega) (Wp.ret ?_))
      rw [w64 (x := 256 * _) (by omega) (by omega), w64 (by omega) (by omega), List.take_of_length_le (by omega)]
      rfl
    | succ d ih =>
      intro i hd
      have hk := ckFold_ok (l.take i) (1, 0) ck0
      unfold CkOk at hk
      have hr := rd_leB hb i (by omega)
      refine Wp.step (fun k => impl_checkOf.l0.eq_2 ..) (Wp.pos (by omega) (Wp.pos (by omega) (Wp.pos (by omega) ?_)))
      have := ih (i + 1) (by omega)
      rw [ck_take l i (by omega)] at this
      rw [bl_rd, w64 (x := (i : Int) + 1) (by omega) (by omega), w64 (x := _ + l.getD i 0) (by omega) (by omega), Int.tmod_eq_emod_of_nonneg (by omega), w64 (x := _ + _ % 251) (by omega) (by omega), Int.tmod_eq_emod_of_nonneg (by omega)]
      exact this
  exact key l.length 0 (by omega)
/-- CheckOf, the same in both. -/
def ckAll (l : List Int) : Int := if l.length ≤ 1200 ∧ allB l = true then ckOf l else -1
theorem w_sCheckOf (l : List Int) (hl : l.length ≤ 1000000000) : Wp (fun k => spec_CheckOf.f k l) (fun r => r = ckAll l) := by
  unfold spec_CheckOf.f spec_validBytes.f ckAll
  refine Wp.call (Q := fun r => r = decide (l.length ≤ 1200 ∧ allB l = true)) (Wp.ite (fun h => ?_) (fun h => Wp.ret ?_)) ?_
  · refine Wp.call (w_allB l hl) ?_
    rintro _ rfl
    exact Wp.ret (by have : l.length ≤ 1200 := by omega
                     simp [this])
  · exact (decide_eq_false (by omega)).symm
  · rintro _ rfl
    refine Wp.ite (fun h => ?_) (fun h => Wp.ret ?_)
    · have h := of_decide_eq_true h
      refine Wp.call (w_adler l h.2 (by omega)) ?_
      rintro _ rfl
      exact Wp.ret (by rw [if_pos h])
    · rw [if_neg (fun e => h (decide_eq_true e))]
theorem w_iCheckOf (l : List Int) (hl : l.length ≤ 1000000000) : Wp (fun k => impl_CheckOf.f k l) (fun r => r = ckAll l) := by
  unfold impl_CheckOf.f impl_isByteList.f ckAll
  refine Wp.call (Q := fun r => r = decide (l.length ≤ 1200 ∧ allB l = true)) (Wp.ite (fun h => ?_) (fun h => Wp.ret ?_)) ?_
  · refine Wp.call (w_areBytes l) ?_
    rintro _ rfl
    exact Wp.ret (by have : l.length ≤ 1200 := by omega
                     simp [this])
  · exact (decide_eq_false (by omega)).symm
  · rintro _ rfl
    refine Wp.ite (fun h => ?_) (fun h => Wp.ret ?_)
    · have h := of_decide_eq_true h
      refine Wp.call (w_checkOf l h.2 (by omega)) ?_
      rintro _ rfl
      exact Wp.ret (by rw [if_pos h])
    · rw [if_neg (fun e => h (decide_eq_true e))]
/-- Whatever follows: sums that differ go on differing. -/
theorem ck_differ (l : List Int) (s t : Int × Int) (h : (s.1 - t.1) % 251 ≠ 0) : ((l.foldl ckStep s).1 - (l.foldl ckStep t).1) % 251 ≠ 0 := by
  induction l generalizing s t with
  | nil => exact h
  | cons x l ih =>
    refine ih _ _ ?_
    unfold ckStep
    simp only
    omega
theorem ck_change (l : List Int) (i : Nat) (v : Int) (hi : i < l.length) (hv : v = l.getD i 0 + 1 ∨ v = l.getD i 0 - 1) : ckOf (l.set i v) ≠ ckOf l := by
  have e1 : l = l.take i ++ l.getD i 0 :: l.drop (i + 1) := by
    conv => lhs; rw [← List.take_append_drop i l]
    rw [List.drop_eq_getElem_cons hi]
    simp [List.getD_eq_getElem?_getD, List.getElem?_eq_getElem hi]
  have e2 : l.set i v = l.take i ++ v :: l.drop (i + 1) := by rw [List.set_eq_take_append_cons_drop, if_pos hi]
  intro he
  have d := ck_differ (l.drop (i + 1)) (ckStep ((l.take i).foldl ckStep (1, 0)) v) (ckStep ((l.take i).foldl ckStep (1, 0)) (l.getD i 0)) (by
    unfold ckStep
    simp only
    omega)
  have f1 : l.foldl ckStep (1, 0) = (l.drop (i + 1)).foldl ckStep (ckStep ((l.take i).foldl ckStep (1, 0)) (l.getD i 0)) := by
    conv => lhs; rw [e1]
    rw [List.foldl_append, List.foldl_cons]
  have f2 : (l.set i v).foldl ckStep (1, 0) = (l.drop (i + 1)).foldl ckStep (ckStep ((l.take i).foldl ckStep (1, 0)) v) := by
    rw [e2, List.foldl_append, List.foldl_cons]
  have k1 := ckFold_ok l (1, 0) ck0
  have k2 := ckFold_ok (l.set i v) (1, 0) ck0
  rw [← f1, ← f2] at d
  unfold CkOk at k1 k2
  unfold ckOf at he
  omega
end Go.Proofs.Ytbldmekplkjfiaa.P
