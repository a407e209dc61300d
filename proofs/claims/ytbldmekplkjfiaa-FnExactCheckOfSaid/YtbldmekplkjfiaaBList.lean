/- Lists of numbers: what the loops over them answer (all in a range, copies, equality, marks). Plain lemmas; the only condition is a bound on lengths. -/
import Derived.Test.YtbldmekplkjfiaaPx1
import Derived.Test.YtbldmekplkjfiaaPx2
import Derived.Test.YtbldmekplkjfiaaPx3
import Derived.Test.YtbldmekplkjfiaaPx5
import Derived.Test.YtbldmekplkjfiaaPx6
import Derived.Test.YtbldmekplkjfiaaWp
namespace Go.Proofs.Ytbldmekplkjfiaa.P
open Go.RowKit Go.Proofs.YtbldmekplkjfiaaW.PrintWords Go.Proofs.YtbldmekplkjfiaaW.PrintLast Go.Proofs.YtbldmekplkjfiaaW.PrintMore Go.Proofs.Ytbldmekplkjfiaa.Wp
set_option linter.unusedVariables false
set_option linter.unusedSimpArgs false

theorem bl_rd (l : List Int) (i : Nat) : rd l (i : Int) = l.getD i 0 := by simp [rd]
theorem bl_rd_lt (l : List Int) (i : Nat) (h : i < l.length) : rd l (i : Int) = l[i] := by simp [rd, List.getD_eq_getElem?_getD, List.getElem?_eq_getElem h]
theorem bl_ext {x l : List Int} (hx : x.length = l.length) (h : ∀ j, j < l.length → x.getD j 0 = l.getD j 0) : x = l := by
  apply List.ext_getElem hx
  intro j h1 h2
  have := h j h2
  simpa [List.getD_eq_getElem?_getD, List.getElem?_eq_getElem h1, List.getElem?_eq_getElem h2] using this
theorem bl_set {x : List Int} {i : Nat} (v : Int) (j : Nat) (hi : i < x.length) : (x.set i v).getD j 0 = if j = i then v else x.getD j 0 := by
  simp only [List.getD_eq_getElem?_getD, List.getElem?_set]
  by_cases h : i = j
  · subst h; simp [hi]
  · simp [h, Ne.symm h, eq_comm]
theorem bl_map_range (f : Nat → Int) (n j : Nat) (hj : j < n) : ((List.range n).map f).getD j 0 = f j := by
  simp [List.getD_eq_getElem?_getD, hj]
theorem bl_all_drop (l : List Int) (p : Int → Bool) (i : Nat) (h : i < l.length) : (l.drop i).all p = (p (l.getD i 0) && (l.drop (i + 1)).all p) := by
  rw [List.drop_eq_getElem_cons h, List.all_cons]
  simp [List.getD_eq_getElem?_getD, List.getElem?_eq_getElem h]
/-- All numbers in 0..255. -/
def allB (l : List Int) : Bool := l.all fun n => decide (0 ≤ n ∧ n ≤ 255)
theorem allB_mem {l : List Int} (h : allB l = true) : ∀ x ∈ l, 0 ≤ x ∧ x ≤ 255 := fun x hx => of_decide_eq_true (List.all_eq_true.1 h x hx)
theorem allB_of {l : List Int} (h : ∀ x ∈ l, 0 ≤ x ∧ x ≤ 255) : allB l = true := List.all_eq_true.2 fun x hx => decide_eq_true (h x hx)
theorem rd_leB {l : List Int} (h : allB l = true) (i : Nat) (hi : i < l.length) : 0 ≤ l.getD i 0 ∧ l.getD i 0 ≤ 255 := by
  have := allB_mem h l[i] (List.getElem_mem hi)
  simpa [List.getD_eq_getElem?_getD, List.getElem?_eq_getElem hi] using this
theorem w_inRange0 (a b c : Int) : Wp (fun _ => spec_inRange.f a b c) (fun r => r = decide (b ≤ a ∧ a ≤ c)) := by
  unfold spec_inRange.f
  refine Wp.ite (fun h => Wp.ret ?_) (fun h => Wp.ret ?_)
  · simp [h]
  · simp [h]
theorem w_allIn (l : List Int) (a b : Int) (hl : l.length ≤ 1000000000) : Wp (fun k => spec_allIn.f k l a b) (fun r => r = l.all fun n => decide (a ≤ n ∧ n ≤ b)) := by
  unfold spec_allIn.f
  have key : ∀ d (i : Nat), i + d = l.length → Wp (fun k => spec_allIn.l0 k l a b i) (fun r => r = (l.drop i).all fun n => decide (a ≤ n ∧ n ≤ b)) := by
    intro d
    induction d with
    | zero =>
      intro i hd
      refine Wp.step (fun k => spec_allIn.l0.eq_2 ..) (Wp.neg (by omega) (Wp.ret ?_))
      rw [List.drop_of_length_le (by omega)]
      rfl
    | succ d ih =>
      intro i hd
      refine Wp.step (fun k => spec_allIn.l0.eq_2 ..) (Wp.pos (by omega) (Wp.pos (by omega) ?_))
      refine Wp.call (w_inRange0 _ _ _) ?_
      rintro _ rfl
      rw [bl_all_drop l _ i (by omega), bl_rd]
      refine Wp.ite (fun h => ?_) (fun h => Wp.ret ?_)
      · rw [h, Bool.true_and, w64 (x := (i : Int) + 1) (by omega) (by omega)]
        exact ih (i + 1) (by omega)
      · rw [Bool.not_eq_true] at h
        rw [h, Bool.false_and]
  exact key l.length 0 (by omega)
theorem w_allB (l : List Int) (hl : l.length ≤ 1000000000) : Wp (fun k => spec_allIn.f k l 0 255) (fun r => r = allB l) := w_allIn l 0 255 hl
theorem w_areBytes (l : List Int) : Wp (fun _ => impl_areBytes.f l) (fun r => r = allB l) := by
  unfold impl_areBytes.f
  refine Wp.ret ?_
  unfold allB
  induction l with
  | nil => rfl
  | cons x l ih =>
    simp only [List.any_cons, List.all_cons, Bool.not_or, ← ih]
    congr 1
    by_cases h0 : x < 0 <;> by_cases h1 : 255 < x <;> simp [h0, h1] <;> omega
theorem w_toIntS (l : List Int) (hl : l.length ≤ 1000000000) : Wp (fun k => laws_toIntS.f k l) (fun r => r = l) := by
  unfold laws_toIntS.f
  refine Wp.pos (by omega) (Wp.pos (by omega) ?_)
  have key : ∀ d (i : Nat) (x : List Int), i + d = l.length → x.length = l.length → (∀ j, j < i → x.getD j 0 = l.getD j 0) → Wp (fun k => laws_toIntS.l0 k l x i) (fun r => r = l) := by
    intro d
    induction d with
    | zero =>
      intro i x hd hx h
      refine Wp.step (fun k => laws_toIntS.l0.eq_2 ..) (Wp.neg (by omega) (Wp.ret ?_))
      exact bl_ext hx fun j hj => h j (by omega)
    | succ d ih =>
      intro i x hd hx h
      refine Wp.step (fun k => laws_toIntS.l0.eq_2 ..) (Wp.pos (by omega) (Wp.pos (by omega) (Wp.pos (by omega) ?_)))
      rw [w64 (x := (i : Int) + 1) (by omega) (by omega), bl_rd, Int.toNat_natCast]
      refine ih (i + 1) _ (by omega) (by rw [List.length_set]; exact hx) fun j hj => ?_
      rw [bl_set _ _ (by omega)]
      split
      · rename_i e; rw [e]
      · exact h j (by omega)
  exact key l.length 0 _ (by omega) (by simp) (fun j hj => by omega)
theorem w_eqIntS (a b : List Int) (hl : a.length ≤ 1000000000) : Wp (fun k => laws_eqIntS.f k a b) (fun r => r = decide (a = b)) := by
  unfold laws_eqIntS.f
  refine Wp.ite (fun he => ?_) (fun he => Wp.ret ?_)
  · have key : ∀ d (i : Nat), i + d = a.length → (∀ j, j < i → a.getD j 0 = b.getD j 0) → Wp (fun k => laws_eqIntS.l0 k a b i) (fun r => r = decide (a = b)) := by
      intro d
      induction d with
      | zero =>
        intro i hd h
        refine Wp.step (fun k => laws_eqIntS.l0.eq_2 ..) (Wp.neg (by omega) (Wp.ret ?_))
        exact (decide_eq_true (bl_ext (by omega) fun j hj => h j (by omega))).symm
      | succ d ih =>
        intro i hd h
        refine Wp.step (fun k => laws_eqIntS.l0.eq_2 ..) (Wp.pos (by omega) (Wp.pos (by omega) (Wp.pos (by omega) ?_)))
        rw [bl_rd, bl_rd]
        refine Wp.ite (fun h1 => ?_) (fun h1 => Wp.ret ?_)
        · rw [w64 (x := (i : Int) + 1) (by omega) (by omega)]
          refine ih (i + 1) (by omega) fun j hj => ?_
          by_cases e : j = i
          · rw [e]; exact h1
          · exact h j (by omega)
        · exact (decide_eq_false fun e => h1 (by rw [e])).symm
    exact key a.length 0 (by omega) (fun j hj => by omega)
  · exact (decide_eq_false fun e => he (by rw [e])).symm
/-- The numbers from a on. -/
def marks (a : Int) (n : Nat) : List Int := (List.range n).map fun j : Nat => a + (j : Int)
theorem marks_length (a : Int) (n : Nat) : (marks a n).length = n := by simp [marks]
theorem marks_get (a : Int) (n j : Nat) (hj : j < n) : (marks a n).getD j 0 = a + j := bl_map_range _ n j hj
theorem w_markIntS (l : List Int) (a : Int) (hl : l.length ≤ 1000000000) (h0 : 0 ≤ a) (h1 : a ≤ 1000000000) : Wp (fun k => laws_markIntS.f k l a) (fun r => r = (a + l.length, marks a l.length)) := by
  unfold laws_markIntS.f
  have key : ∀ d (i : Nat) (x : List Int), i + d = l.length → x.length = l.length → (∀ j, j < i → x.getD j 0 = a + j) → Wp (fun k => laws_markIntS.l0 k x (a + i) i) (fun r => r = (a + l.length, marks a l.length)) := by
    intro d
    induction d with
    | zero =>
      intro i x hd hx h
      refine Wp.step (fun k => laws_markIntS.l0.eq_2 ..) (Wp.neg (by omega) (Wp.ret ?_))
      rw [show (i : Int) = l.length by omega]
      congr 1
      exact bl_ext (by rw [marks_length]; exact hx) fun j hj => by rw [marks_length] at hj; rw [marks_get _ _ _ hj]; exact h j (by omega)
    | succ d ih =>
      intro i x hd hx h
      refine Wp.step (fun k => laws_markIntS.l0.eq_2 ..) (Wp.pos (by omega) (Wp.pos (by omega) ?_))
      rw [w64 (x := (i : Int) + 1) (by omega) (by omega), w64 (x := a + (i : Int) + 1) (by omega) (by omega), Int.toNat_natCast]
      have := ih (i + 1) (x.set i (a + i)) (by omega) (by rw [List.length_set]; exact hx) fun j hj => by
        rw [bl_set _ _ (by omega)]
        split
        · rename_i e; rw [e]
        · exact h j (by omega)
      rw [show a + ((i + 1 : Nat) : Int) = a + (i : Int) + 1 by omega] at this
      exact this
  have := key l.length 0 l (by omega) rfl (fun j hj => by omega)
  simpa using this
theorem w_heldIntS (n : Nat) (a : Int) (hl : n ≤ 1000000000) (h0 : 0 ≤ a) (h1 : a ≤ 1000000000) : Wp (fun k => laws_heldIntS.f k (marks a n) a) (fun r => r = a + n) := by
  unfold laws_heldIntS.f
  have hlen : (marks a n).length = n := marks_length a n
  have key : ∀ d (i : Nat), i + d = n → Wp (fun k => laws_heldIntS.l0 k (marks a n) (a + i) i) (fun r => r = a + n) := by
    intro d
    induction d with
    | zero =>
      intro i hd
      refine Wp.step (fun k => laws_heldIntS.l0.eq_2 ..) (Wp.neg (by omega) (Wp.ret ?_))
      omega
    | succ d ih =>
      intro i hd
      refine Wp.step (fun k => laws_heldIntS.l0.eq_2 ..) (Wp.pos (by omega) (Wp.pos (by omega) ?_))
      rw [bl_rd, marks_get _ _ _ (by omega)]
      refine Wp.pos rfl ?_
      rw [w64 (x := (i : Int) + 1) (by omega) (by omega), w64 (x := a + (i : Int) + 1) (by omega) (by omega)]
      have := ih (i + 1) (by omega)
      rw [show a + ((i + 1 : Nat) : Int) = a + (i : Int) + 1 by omega] at this
      exact this
  have := key n 0 (by omega)
  simpa using this
theorem w_equalInts (a b : List Int) (hl : a.length ≤ 1000000000) : Wp (fun k => laws_equalInts.f k a b) (fun r => r = decide (a = b)) := by
  unfold laws_equalInts.f
  refine Wp.ite (fun he => ?_) (fun he => Wp.ret ?_)
  · have key : ∀ d (i : Nat), i + d = a.length → (∀ j, j < i → a.getD j 0 = b.getD j 0) → Wp (fun k => laws_equalInts.l0 k a b i) (fun r => r = decide (a = b)) := by
      intro d
      induction d with
      | zero =>
        intro i hd h
        refine Wp.step (fun k => laws_equalInts.l0.eq_2 ..) (Wp.neg (by omega) (Wp.ret ?_))
        exact (decide_eq_true (bl_ext (by omega) fun j hj => h j (by omega))).symm
      | succ d ih =>
        intro i hd h
        refine Wp.step (fun k => laws_equalInts.l0.eq_2 ..) (Wp.pos (by omega) (Wp.pos (by omega) (Wp.pos (by omega) ?_)))
        rw [bl_rd, bl_rd]
        refine Wp.ite (fun h1 => ?_) (fun h1 => Wp.ret ?_)
        · rw [w64 (x := (i : Int) + 1) (by omega) (by omega)]
          refine ih (i + 1) (by omega) fun j hj => ?_
          by_cases e : j = i
          · rw [e]; exact h1
          · exact h j (by omega)
        · exact (decide_eq_false fun e => h1 (by rw [e])).symm
    exact key a.length 0 (by omega) (fun j hj => by omega)
  · exact (decide_eq_false fun e => he (by rw [e])).symm
end Go.Proofs.Ytbldmekplkjfiaa.P
