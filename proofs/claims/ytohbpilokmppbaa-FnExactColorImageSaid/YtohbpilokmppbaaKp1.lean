/- Pure lemmas: what the printed functions answer, for every input; no Go, no memory, no condition but those that each lemma names. -/
import Derived.Test.YtohbpilokmppbaaVWords
import Derived.Test.YtohbpilokmppbaaK1
import Derived.Test.YtohbpilokmppbaaK2
import Derived.Test.YtohbpilokmppbaaK3
import Derived.Test.YtohbpilokmppbaaK4
import Derived.Test.YtohbpilokmppbaaK5
import Derived.Test.YtohbpilokmppbaaK6
import Derived.Test.YtohbpilokmppbaaK7
namespace Go.Proofs.Ytohbpilokmppbaa.Wp
open Go.RowKit Go.Proofs.YtohbpilokmppbaaW.PrintWords
set_option linter.unusedVariables false
def Wp {α : Type} (g : Nat → Option α) (P : α → Prop) : Prop := ∃ r, P r ∧ ∃ K, ∀ k, K ≤ k → g k = some r
theorem Wp.mono {α : Type} {g : Nat → Option α} {P Q : α → Prop} (h : Wp g P) (hi : ∀ a, P a → Q a) : Wp g Q := by
  obtain ⟨r, hp, K, hk⟩ := h
  exact ⟨r, hi r hp, K, hk⟩
theorem Wp.ret {α : Type} {P : α → Prop} {r : α} (h : P r) : Wp (fun _ => some r) P := ⟨r, h, 0, fun _ _ => rfl⟩
theorem Wp.bind {α β : Type} {g : Nat → Option α} {f : Nat → α → Option β} {P : β → Prop} (h : Wp g (fun a => Wp (fun k => f k a) P)) : Wp (fun k => (g k).bind (f k)) P := by
  obtain ⟨a, ⟨r, hp, K, hk⟩, K', hk'⟩ := h
  refine ⟨r, hp, max K K', fun k hkk => ?_⟩
  show (g k).bind (f k) = some r
  rw [hk' k (by omega)]
  exact hk k (by omega)
theorem Wp.call {α β : Type} {g : Nat → Option α} {f : Nat → α → Option β} {Q : α → Prop} {P : β → Prop} (h : Wp g Q) (hf : ∀ a, Q a → Wp (fun k => f k a) P) : Wp (fun k => (g k).bind (f k)) P :=
  Wp.bind (h.mono hf)
theorem Wp.ite {α : Type} {c : Prop} [Decidable c] {g h : Nat → Option α} {P : α → Prop} (h1 : c → Wp g P) (h2 : ¬ c → Wp h P) : Wp (fun k => if c then g k else h k) P := by
  by_cases hc : c
  · simpa only [if_pos hc] using h1 hc
  · simpa only [if_neg hc] using h2 hc
theorem Wp.pos {α : Type} {c : Prop} [Decidable c] {g h : Nat → Option α} {P : α → Prop} (hc : c) (h1 : Wp g P) : Wp (fun k => if c then g k else h k) P := Wp.ite (fun _ => h1) (fun h => absurd hc h)
theorem Wp.neg {α : Type} {c : Prop} [Decidable c] {g h : Nat → Option α} {P : α → Prop} (hc : ¬ c) (h1 : Wp h P) : Wp (fun k => if c then g k else h k) P := Wp.ite (fun h => absurd h hc) (fun _ => h1)
theorem Wp.step {α : Type} {g f : Nat → Option α} {P : α → Prop} (h : ∀ k, g (k + 1) = f k) (hf : Wp f P) : Wp g P := by
  obtain ⟨r, hp, K, hk⟩ := hf
  refine ⟨r, hp, K + 1, fun k hkk => ?_⟩
  obtain ⟨k, rfl⟩ : ∃ m, k = m + 1 := ⟨k - 1, by omega⟩
  rw [h k]
  exact hk k (by omega)
theorem Wp.of {α : Type} {g : Nat → Option α} {P : α → Prop} {r : α} (h : ∀ k, g k = some r) (hp : P r) : Wp g P := ⟨r, hp, 0, fun k _ => h k⟩
theorem Wp.rounds {α : Type} {g : Nat → Option α} {r : α} (h : Wp g (fun a => a = r)) : ∃ k, g k = some r := by
  obtain ⟨r', rfl, K, hk⟩ := h
  exact ⟨K, hk K (Nat.le_refl K)⟩
theorem w64 {x : Int} (h0 : -9223372036854775808 ≤ x) (h1 : x ≤ 9223372036854775807) : wrap64 x = x := by
  unfold wrap64
  omega
end Go.Proofs.Ytohbpilokmppbaa.Wp
namespace Go.Proofs.Ytohbpilokmppbaa.P
open Go.RowKit Go.Proofs.YtohbpilokmppbaaW.PrintWords Go.Proofs.YtohbpilokmppbaaW.PrintLast Go.Proofs.YtohbpilokmppbaaW.PrintMore Go.Proofs.Ytohbpilokmppbaa.Wp
set_option linter.unusedVariables false
set_option linter.unusedSimpArgs false
theorem bl_rd (l : List Int) (i : Nat) : rd l (i : Int) = l.getD i 0 := by simp [rd]
theorem bl_rd_lt (l : List Int) (i : Nat) (h : i < l.length) : rd l (i : Int) = l[i] := by simp [rd, List.getD_eq_getElem?_getD, List.getElem?_eq_getElem h]
theorem bl_ext {x l : List Int} (hx : x.length = l.length) (h : ∀ j, j < l.length → x.getD j 0 = l.getD j 0) : x = l := by
  apply List.ext_getElem hx
  intro j h1 h2
  have := h j h2
  simpa [List.getD_eq_getElem?_getD, List.getElem?_eq_getElem h1, List.getElem?_eq_getElem h2] using this
theorem bl_set {x : List Int} {i : Nat} (v : Int) (j : Nat) (hi : i < x.length) : (x.set i v).getD j 0 = if j = i then v else x.getD j 0 := by
  simp only [List.getD_eq_getElem?_getD, List.getElem?_set]
  by_cases h : i = j
  · subst h; simp [hi]
  · simp [h, Ne.symm h, eq_comm]
theorem bl_map_range (f : Nat → Int) (n j : Nat) (hj : j < n) : ((List.range n).map f).getD j 0 = f j := by
  simp [List.getD_eq_getElem?_getD, hj]
theorem bl_all_drop (l : List Int) (p : Int → Bool) (i : Nat) (h : i < l.length) : (l.drop i).all p = (p (l.getD i 0) && (l.drop (i + 1)).all p) := by
  rw [List.drop_eq_getElem_cons h, List.all_cons]
  simp [List.getD_eq_getElem?_getD, List.getElem?_eq_getElem h]
def allB (l : List Int) : Bool := l.all fun n => decide (0 ≤ n ∧ n ≤ 255)
theorem allB_mem {l : List Int} (h : allB l = true) : ∀ x ∈ l, 0 ≤ x ∧ x ≤ 255 := fun x hx => of_decide_eq_true (List.all_eq_true.1 h x hx)
theorem allB_of {l : List Int} (h : ∀ x ∈ l, 0 ≤ x ∧ x ≤ 255) : allB l = true := List.all_eq_true.2 fun x hx => decide_eq_true (h x hx)
theorem w_inRange0 (a b c : Int) : Wp (fun _ => spec_inRange.f a b c) (fun r => r = decide (b ≤ a ∧ a ≤ c)) := by
  unfold spec_inRange.f
  refine Wp.ite (fun h => Wp.ret ?_) (fun h => Wp.ret ?_)
  · simp [h]
  · simp [h]
theorem w_allIn (l : List Int) (a b : Int) (hl : l.length ≤ 1000000000) : Wp (fun k => spec_allIn.f k l a b) (fun r => r = l.all fun n => decide (a ≤ n ∧ n ≤ b)) := by
  unfold spec_allIn.f
  have key : ∀ d (i : Nat), i + d = l.length → Wp (fun k => spec_allIn.l0 k l a b i) (fun r => r = (l.drop i).all fun n => decide (a ≤ n ∧ n ≤ b)) := by
    intro d
    induction d with
    | zero =>
      intro i hd
      refine Wp.step (fun k => spec_allIn.l0.eq_2 ..) (Wp.neg (by omega) (Wp.ret ?_))
      rw [List.drop_of_length_le (by omega)]
      rfl
    | succ d ih =>
      intro i hd
      refine Wp.step (fun k => spec_allIn.l0.eq_2 ..) (Wp.pos (by omega) (Wp.pos (by omega) ?_))
      refine Wp.call (w_inRange0 _ _ _) ?_
      rintro _ rfl
      rw [bl_all_drop l _ i (by omega), bl_rd]
      refine Wp.ite (fun h => ?_) (fun h => Wp.ret ?_)
      · rw [h, Bool.true_and, w64 (x := (i : Int) + 1) (by omega) (by omega)]
        exact ih (i + 1) (by omega)
      · rw [Bool.not_eq_true] at h
        rw [h, Bool.false_and]
  exact key l.length 0 (by omega)
theorem w_allB (l : List Int) (hl : l.length ≤ 1000000000) : Wp (fun k => spec_allIn.f k l 0 255) (fun r => r = allB l) := w_allIn l 0 255 hl
theorem w_areBytes (l : List Int) : Wp (fun _ => impl_areBytes.f l) (fun r => r = allB l) := by
  unfold impl_areBytes.f
  refine Wp.ret ?_
  unfold allB
  induction l with
  | nil => rfl
  | cons x l ih =>
    simp only [List.any_cons, List.all_cons, Bool.not_or, ← ih]
    congr 1
    by_cases h0 : x < 0 <;> by_cases h1 : 255 < x <;> simp [h0, h1] <;> omega
theorem w_toIntS (l : List Int) (hl : l.length ≤ 1000000000) : Wp (fun k => laws_toIntS.f k l) (fun r => r = l) := by
  unfold laws_toIntS.f
  refine Wp.pos (by omega) (Wp.pos (by omega) ?_)
  have key : ∀ d (i : Nat) (x : List Int), i + d = l.length → x.length = l.length → (∀ j, j < i → x.getD j 0 = l.getD j 0) → Wp (fun k => laws_toIntS.l0 k l x i) (fun r => r = l) := by
    intro d
    induction d with
    | zero =>
      intro i x hd hx h
      refine Wp.step (fun k => laws_toIntS.l0.eq_2 ..) (Wp.neg (by omega) (Wp.ret ?_))
      exact bl_ext hx fun j hj => h j (by omega)
    | succ d ih =>
      intro i x hd hx h
      refine Wp.step (fun k => laws_toIntS.l0.eq_2 ..) (Wp.pos (by omega) (Wp.pos (by omega) (Wp.pos (by omega) ?_)))
      rw [w64 (x := (i : Int) + 1) (by omega) (by omega), bl_rd, Int.toNat_natCast]
      refine ih (i + 1) _ (by omega) (by rw [List.length_set]; exact hx) fun j hj => ?_
      rw [bl_set _ _ (by omega)]
      split
      · rename_i e; rw [e]
      · exact h j (by omega)
  exact key l.length 0 _ (by omega) (by simp) (fun j hj => by omega)
theorem w_eqIntS (a b : List Int) (hl : a.length ≤ 1000000000) : Wp (fun k => laws_eqIntS.f k a b) (fun r => r = decide (a = b)) := by
  unfold laws_eqIntS.f
  refine Wp.ite (fun he => ?_) (fun he => Wp.ret ?_)
  · have key : ∀ d (i : Nat), i + d = a.length → (∀ j, j < i → a.getD j 0 = b.getD j 0) → Wp (fun k => laws_eqIntS.l0 k a b i) (fun r => r = decide (a = b)) := by
      intro d
      induction d with
      | zero =>
        intro i hd h
        refine Wp.step (fun k => laws_eqIntS.l0.eq_2 ..) (Wp.neg (by omega) (Wp.ret ?_))
        exact (decide_eq_true (bl_ext (by omega) fun j hj => h j (by omega))).symm
      | succ d ih =>
        intro i hd h
        refine Wp.step (fun k => laws_eqIntS.l0.eq_2 ..) (Wp.pos (by omega) (Wp.pos (by omega) (Wp.pos (by omega) ?_)))
        rw [bl_rd, bl_rd]
        refine Wp.ite (fun h1 => ?_) (fun h1 => Wp.ret ?_)
        · rw [w64 (x := (i : Int) + 1) (by omega) (by omega)]
          refine ih (i + 1) (by omega) fun j hj => ?_
          by_cases e : j = i
          · rw [e]; exact h1
          · exact h j (by omega)
        · exact (decide_eq_false fun e => h1 (by rw [e])).symm
    exact key a.length 0 (by omega) (fun j hj => by omega)
  · exact (decide_eq_false fun e => he (by rw [e])).symm
def marks (a : Int) (n : Nat) : List Int := (List.range n).map fun j : Nat => a + (j : Int)
theorem marks_length (a : Int) (n : Nat) : (marks a n).length = n := by simp [marks]
theorem marks_get (a : Int) (n j : Nat) (hj : j < n) : (marks a n).getD j 0 = a + j := bl_map_range _ n j hj
theorem w_markIntS (l : List Int) (a : Int) (hl : l.length ≤ 1000000000) (h0 : 0 ≤ a) (h1 : a ≤ 1000000000) : Wp (fun k => laws_markIntS.f k l a) (fun r => r = (a + l.length, marks a l.length)) := by
  unfold laws_markIntS.f
  have key : ∀ d (i : Nat) (x : List Int), i + d = l.length → x.length = l.length → (∀ j, j < i → x.getD j 0 = a + j) → Wp (fun k => laws_markIntS.l0 k x (a + i) i) (fun r => r = (a + l.length, marks a l.length)) := by
    intro d
    induction d with
    | zero =>
      intro i x hd hx h
      refine Wp.step (fun k => laws_markIntS.l0.eq_2 ..) (Wp.neg (by omega) (Wp.ret ?_))
      rw [show (i : Int) = l.length by omega]
      congr 1
      exact bl_ext (by rw [marks_length]; exact hx) fun j hj => by rw [marks_length] at hj; rw [marks_get _ _ _ hj]; exact h j (by omega)
    | succ d ih =>
      intro i x hd hx h
      refine Wp.step (fun k => laws_markIntS.l0.eq_2 ..) (Wp.pos (by omega) (Wp.pos (by omega) ?_))
      rw [w64 (x := (i : Int) + 1) (by omega) (by omega), w64 (x := a + (i : Int) + 1) (by omega) (by omega), Int.toNat_natCast]
      have := ih (i + 1) (x.set i (a + i)) (by omega) (by rw [List.length_set]; exact hx) fun j hj => by
        rw [bl_set _ _ (by omega)]
        split
        · rename_i e; rw [e]
        · exact h j (by omega)
      rw [show a + ((i + 1 : Nat) : Int) = a + (i : Int) + 1 by omega] at this
      exact this
  have := key l.length 0 l (by omega) rfl (fun j hj => by omega)
  simpa using this
theorem w_heldIntS (n : Nat) (a : Int) (hl : n ≤ 1000000000) (h0 : 0 ≤ a) (h1 : a ≤ 1000000000) : Wp (fun k => laws_heldIntS.f k (marks a n) a) (fun r => r = a + n) := by
  unfold laws_heldIntS.f
  have hlen : (marks a n).length = n := marks_length a n
  have key : ∀ d (i : Nat), i + d = n → Wp (fun k => laws_heldIntS.l0 k (marks a n) (a + i) i) (fun r => r = a + n) := by
    intro d
    induction d with
    | zero =>
      intro i hd
      refine Wp.step (fun k => laws_heldIntS.l0.eq_2 ..) (Wp.neg (by omega) (Wp.ret ?_))
      omega
    | succ d ih =>
      intro i hd
      refine Wp.step (fun k => laws_heldIntS.l0.eq_2 ..) (Wp.pos (by omega) (Wp.pos (by omega) ?_))
      rw [bl_rd, marks_get _ _ _ (by omega)]
      refine Wp.pos rfl ?_
      rw [w64 (x := (i : Int) + 1) (by omega) (by omega), w64 (x := a + (i : Int) + 1) (by omega) (by omega)]
      have := ih (i + 1) (by omega)
      rw [show a + ((i + 1 : Nat) : Int) = a + (i : Int) + 1 by omega] at this
      exact this
  have := key n 0 (by omega)
  simpa using this
end Go.Proofs.Ytohbpilokmppbaa.P
namespace Go.Proofs.Ytohbpilokmppbaa.P
open Go.RowKit Go.Proofs.YtohbpilokmppbaaW.PrintWords Go.Proofs.YtohbpilokmppbaaW.PrintLast Go.Proofs.YtohbpilokmppbaaW.PrintMore Go.Proofs.Ytohbpilokmppbaa.Wp
set_option linter.unusedVariables false
set_option linter.unusedSimpArgs false
def Small (l : List (List Int)) : Prop := l.length ≤ 1048576 ∧ ∀ y ∈ l, y.length ≤ 1048576
theorem ll_rd (l : List (List Int)) (i : Nat) : rd_L1 l (i : Int) = l.getD i [] := by simp [rd_L1]
theorem ll_mem (l : List (List Int)) (i : Nat) (h : i < l.length) : l.getD i [] ∈ l := by
  rw [List.getD_eq_getElem?_getD, List.getElem?_eq_getElem h]
  exact List.getElem_mem _
theorem ll_ext {x l : List (List Int)} (hx : x.length = l.length) (h : ∀ j, j < l.length → x.getD j [] = l.getD j []) : x = l := by
  apply List.ext_getElem hx
  intro j h1 h2
  have := h j h2
  simpa [List.getD_eq_getElem?_getD, List.getElem?_eq_getElem h1, List.getElem?_eq_getElem h2] using this
theorem ll_set {x : List (List Int)} {i : Nat} (v : List Int) (j : Nat) (hi : i < x.length) : (x.set i v).getD j [] = if j = i then v else x.getD j [] := by
  simp only [List.getD_eq_getElem?_getD, List.getElem?_set]
  by_cases h : i = j
  · subst h; simp [hi]
  · simp [h, Ne.symm h, eq_comm]
theorem w_toIntSS (l : List (List Int)) (hl : Small l) : Wp (fun k => laws_toIntSS.f k l) (fun r => r = l) := by
  obtain ⟨hl, hy⟩ := hl
  unfold laws_toIntSS.f
  refine Wp.pos (by omega) (Wp.pos (by omega) ?_)
  have key : ∀ d (i : Nat) (x : List (List Int)), i + d = l.length → x.length = l.length → (∀ j, j < i → x.getD j [] = l.getD j []) → Wp (fun k => laws_toIntSS.l0 k l x i) (fun r => r = l) := by
    intro d
    induction d with
    | zero =>
      intro i x hd hx h
      refine Wp.step (fun k => laws_toIntSS.l0.eq_2 ..) (Wp.neg (by omega) (Wp.ret ?_))
      exact ll_ext hx fun j hj => h j (by omega)
    | succ d ih =>
      intro i x hd hx h
      refine Wp.step (fun k => laws_toIntSS.l0.eq_2 ..) (Wp.pos (by omega) (Wp.pos (by omega) ?_))
      rw [ll_rd]
      refine Wp.call (w_toIntS _ (Nat.le_trans (hy _ (ll_mem l i (by omega))) (by omega))) ?_
      rintro _ rfl
      refine Wp.pos (by omega) ?_
      rw [w64 (x := (i : Int) + 1) (by omega) (by omega), Int.toNat_natCast]
      refine ih (i + 1) _ (by omega) (by rw [List.length_set]; exact hx) fun j hj => ?_
      rw [ll_set _ _ (by omega)]
      split
      · rename_i e; rw [e]
      · exact h j (by omega)
  exact key l.length 0 _ (by omega) (by simp) (fun j hj => by omega)
theorem w_eqIntSS (a b : List (List Int)) (hl : Small a) : Wp (fun k => laws_eqIntSS.f k a b) (fun r => r = decide (a = b)) := by
  obtain ⟨hl, hy⟩ := hl
  unfold laws_eqIntSS.f
  refine Wp.ite (fun he => ?_) (fun he => Wp.ret ?_)
  · have key : ∀ d (i : Nat), i + d = a.length → (∀ j, j < i → a.getD j [] = b.getD j []) → Wp (fun k => laws_eqIntSS.l0 k a b i) (fun r => r = decide (a = b)) := by
      intro d
      induction d with
      | zero =>
        intro i hd h
        refine Wp.step (fun k => laws_eqIntSS.l0.eq_2 ..) (Wp.neg (by omega) (Wp.ret ?_))
        exact (decide_eq_true (ll_ext (by omega) fun j hj => h j (by omega))).symm
      | succ d ih =>
        intro i hd h
        refine Wp.step (fun k => laws_eqIntSS.l0.eq_2 ..) (Wp.pos (by omega) (Wp.pos (by omega) (Wp.pos (by omega) ?_)))
        rw [ll_rd, ll_rd]
        refine Wp.call (w_eqIntS _ _ (Nat.le_trans (hy _ (ll_mem a i (by omega))) (by omega))) ?_
        rintro _ rfl
        refine Wp.ite (fun h1 => ?_) (fun h1 => Wp.ret ?_)
        · rw [w64 (x := (i : Int) + 1) (by omega) (by omega)]
          refine ih (i + 1) (by omega) fun j hj => ?_
          by_cases e : j = i
          · rw [e]; exact of_decide_eq_true h1
          · exact h j (by omega)
        · exact (decide_eq_false fun e => h1 (decide_eq_true (by rw [e]))).symm
    exact key a.length 0 (by omega) (fun j hj => by omega)
  · exact (decide_eq_false fun e => he (by rw [e])).symm
end Go.Proofs.Ytohbpilokmppbaa.P
namespace Go.Proofs.Ytohbpilokmppbaa.P
open Go.RowKit Go.Proofs.YtohbpilokmppbaaW.PrintWords Go.Proofs.YtohbpilokmppbaaW.PrintLast Go.Proofs.YtohbpilokmppbaaW.PrintMore Go.Proofs.Ytohbpilokmppbaa.Wp
set_option linter.unusedVariables false
set_option linter.unusedSimpArgs false
def PalOk (l : List (List Int)) (p : Nat) : Prop := l.length ≤ 16 ∧ ∀ c ∈ l, c.length = p ∧ ∀ v ∈ c, 0 ≤ v ∧ v ≤ 255
def palB (l : List (List Int)) (p : Int) : Bool := decide (l.length ≤ 16) && l.all fun c => decide ((c.length : Int) = p) && allB c
theorem palB_ok {l : List (List Int)} {p : Nat} (h : palB l p = true) : PalOk l p := by
  unfold palB at h
  rw [Bool.and_eq_true, decide_eq_true_eq, List.all_eq_true] at h
  refine ⟨h.1, fun c hc => ?_⟩
  have := h.2 c hc
  rw [Bool.and_eq_true, decide_eq_true_eq] at this
  exact ⟨by omega, allB_mem this.2⟩
theorem w_validColors (l : List (List Int)) (p : Int) (hl : Small l) : Wp (fun k => spec_validColors.f k l p) (fun r => r = palB l p) := by
  obtain ⟨hl, hy⟩ := hl
  unfold spec_validColors.f palB
  have key : ∀ (d i : Nat), i + d = l.length → (∀ j, j < i → (decide (((l.getD j []).length : Int) = p) && allB (l.getD j [])) = true) → Wp (fun k => spec_validColors.l0 k l p i) (fun r => r = (decide (l.length ≤ 16) && l.all fun c => decide ((c.length : Int) = p) && allB c)) := by
    intro d
    induction d with
    | zero =>
      intro i hi hj
      refine Wp.step (fun k => spec_validColors.l0.eq_2 ..) (Wp.neg (by omega) (Wp.ret ?_))
      have : (l.all fun c => decide ((c.length : Int) = p) && allB c) = true := List.all_eq_true.2 fun c hc => by
        obtain ⟨j, hj2, rfl⟩ := List.getElem_of_mem hc
        have := hj j (by omega)
        simpa [List.getD_eq_getElem?_getD, List.getElem?_eq_getElem hj2] using this
      rw [this, Bool.and_true, Bool.eq_iff_iff, decide_eq_true_eq, decide_eq_true_eq]
      omega
    | succ d ih =>
      intro i hi hj
      have no : ¬ (decide (((l.getD i []).length : Int) = p) && allB (l.getD i [])) = true → (decide (l.length ≤ 16) && l.all fun c => decide ((c.length : Int) = p) && allB c) = false := fun h => by
        have : (l.all fun c => decide ((c.length : Int) = p) && allB c) = false := by
          rw [List.all_eq_false]
          exact ⟨_, ll_mem l i (by omega), h⟩
        rw [this, Bool.and_false]
      refine Wp.step (fun k => spec_validColors.l0.eq_2 ..) (Wp.pos (by omega) (Wp.pos (by omega) ?_))
      rw [ll_rd]
      refine Wp.ite (fun h1 => ?_) (fun h1 => Wp.ret (no (by rw [decide_eq_false h1]; simp)).symm)
      refine Wp.call (w_allB _ (Nat.le_trans (hy _ (ll_mem l i (by omega))) (by omega))) ?_
      rintro _ rfl
      refine Wp.ite (fun h2 => ?_) (fun h2 => Wp.ret (no (by rw [decide_eq_true h1, Bool.true_and]; exact h2)).symm)
      rw [w64 (x := (i : Int) + 1) (by omega) (by omega)]
      refine ih (i + 1) (by omega) fun j hj2 => ?_
      by_cases e : j = i
      · rw [e, decide_eq_true h1, h2]; rfl
      · exact hj j (by omega)
  exact key l.length 0 (by omega) (fun j hj => by omega)
theorem bad_not (p : Int) (c : List Int) : (badColor p c = false) ↔ (decide ((c.length : Int) = p) && allB c) = true := by
  have hb : (c.any fun n => decide (n < 0) || decide (255 < n)) = !allB c := by
    obtain ⟨r, hr, K, hK⟩ := w_areBytes c
    have h := hK K (Nat.le_refl K)
    unfold impl_areBytes.f at h
    simp only [Option.some.injEq] at h
    rw [hr] at h
    rw [← h, Bool.not_not]
  unfold badColor
  rw [hb]
  by_cases h : (c.length : Int) = p
  · rw [decide_eq_true h, Bool.true_and, bne_eq_false_iff_eq.2 h, Bool.false_or, Bool.not_eq_false']
  · rw [decide_eq_false h, Bool.false_and, bne_iff_ne.2 h, Bool.true_or]
    simp
theorem w_isPalette (l : List (List Int)) (p : Int) : Wp (fun _ => impl_isPalette.f l p) (fun r => r = (decide (1 ≤ l.length ∧ 1 ≤ p ∧ p ≤ 4) && palB l p)) := by
  unfold impl_isPalette.f
  refine Wp.ret ?_
  unfold palB
  have e : (!l.any (badColor p)) = l.all fun c => decide ((c.length : Int) = p) && allB c := by
    rw [Bool.eq_iff_iff, Bool.not_eq_true', List.any_eq_false, List.all_eq_true]
    exact ⟨fun h c hc => (bad_not p c).1 (by simpa using h c hc), fun h c hc => by rw [(bad_not p c).2 (h c hc)]; decide⟩
  rw [e]
  by_cases h1 : (l.length : Int) < 1
  · rw [if_pos h1, decide_eq_false (by omega)]; rfl
  rw [if_neg h1]
  by_cases h2 : 16 < (l.length : Int)
  · rw [if_pos h2, decide_eq_false (p := l.length ≤ 16) (by omega), Bool.false_and, Bool.and_false]
  rw [if_neg h2, decide_eq_true (p := l.length ≤ 16) (by omega), Bool.true_and]
  by_cases h3 : p < 1
  · rw [if_pos h3, decide_eq_false (by omega)]; rfl
  rw [if_neg h3]
  by_cases h4 : 4 < p
  · rw [if_pos h4, decide_eq_false (by omega)]; rfl
  rw [if_neg h4, decide_eq_true (by omega), Bool.true_and]
end Go.Proofs.Ytohbpilokmppbaa.P
namespace Go.Proofs.Ytohbpilokmppbaa.P
open Go.RowKit Go.Proofs.YtohbpilokmppbaaW.PrintWords Go.Proofs.YtohbpilokmppbaaW.PrintLast Go.Proofs.YtohbpilokmppbaaW.PrintMore Go.Proofs.Ytohbpilokmppbaa.Wp
set_option linter.unusedVariables false
set_option linter.unusedSimpArgs false
def imgB (a b c : Int) (l : List Int) : Bool := decide ((1 ≤ a ∧ a ≤ 16) ∧ (1 ≤ b ∧ b ≤ 16) ∧ (1 ≤ c ∧ c ≤ 4)) && decide ((l.length : Int) = a * b * c) && allB l
theorem imgB_ok {a b c : Int} {l : List Int} : imgB a b c l = true ↔ ImgOk a b c l := by
  unfold imgB ImgOk
  rw [Bool.and_eq_true, Bool.and_eq_true, decide_eq_true_eq, decide_eq_true_eq]
  constructor
  · rintro ⟨⟨h1, h2⟩, h3⟩
    exact ⟨h1.1, h1.2.1, h1.2.2, h2, allB_mem h3⟩
  · rintro ⟨h1, h2, h3, h4, h5⟩
    exact ⟨⟨⟨h1, h2, h3⟩, h4⟩, allB_of h5⟩
theorem w_iImage (a b c : Int) (l : List Int) : Wp (fun _ => impl_isImage.f a b c l) (fun r => r = imgB a b c l) := by
  obtain ⟨r, hr, hi⟩ := isImage_some a b c l
  refine Wp.of (fun _ => hr) ?_
  rw [Bool.eq_iff_iff, hi, imgB_ok]
theorem w_sImage (a b c : Int) (l : List Int) (hl : l.length ≤ 1000000000) : Wp (fun k => spec_validImage.f k a b c l) (fun r => r = imgB a b c l) := by
  unfold spec_validImage.f spec_validShape.f imgB
  refine Wp.call (Q := fun r => r = decide ((1 ≤ a ∧ a ≤ 16) ∧ (1 ≤ b ∧ b ≤ 16) ∧ (1 ≤ c ∧ c ≤ 4))) ?_ ?_
  · refine Wp.call (w_inRange0 _ _ _) ?_
    rintro _ rfl
    refine Wp.ite (fun h => ?_) (fun h => Wp.ret ?_)
    · refine Wp.call (w_inRange0 _ _ _) ?_
      rintro _ rfl
      refine Wp.ite (fun h2 => ?_) (fun h2 => Wp.ret ?_)
      · refine Wp.call (w_inRange0 _ _ _) ?_
        rintro _ rfl
        refine Wp.ret ?_
        rw [decide_eq_true_eq] at h h2
        rw [Bool.eq_iff_iff, decide_eq_true_eq, decide_eq_true_eq]
        exact ⟨fun h3 => ⟨h, h2, h3⟩, fun h3 => h3.2.2⟩
      · rw [decide_eq_true_eq] at h2
        exact (decide_eq_false fun h3 => h2 h3.2.1).symm
    · rw [decide_eq_true_eq] at h
      exact (decide_eq_false fun h3 => h h3.1).symm
  · rintro _ rfl
    refine Wp.ite (fun h => ?_) (fun h => Wp.ret ?_)
    · rw [h, Bool.true_and]
      rw [decide_eq_true_eq] at h
      obtain ⟨h0, h1, h2⟩ := h
      have hB := img_bounds h0 h1 h2
      rw [w64 (x := a * b) (by omega) (by omega), w64 (x := a * b * c) (by omega) (by omega)]
      refine Wp.ite (fun h3 => ?_) (fun h3 => Wp.ret ?_)
      · rw [decide_eq_true h3, Bool.true_and]
        refine Wp.call (w_allB l hl) ?_
        rintro _ rfl
        exact Wp.ret rfl
      · rw [decide_eq_false h3]; rfl
    · rw [Bool.not_eq_true] at h
      rw [h]; rfl
theorem w_newImage (a b c : Int) (h0 : 0 ≤ a ∧ a ≤ 1000) (h1 : 0 ≤ b ∧ b ≤ 1000) (h2 : 0 ≤ c ∧ c ≤ 1000) : Wp (fun _ => spec_newImage.f a b c) (fun r => r = (a, b, c, List.replicate (a * b * c).toNat 0)) := by
  have m1 : 0 ≤ a * b := Int.mul_nonneg h0.1 h1.1
  have m2 : a * b ≤ 1000 * 1000 := Int.mul_le_mul h0.2 h1.2 h1.1 (by omega)
  have m3 : 0 ≤ a * b * c := Int.mul_nonneg m1 h2.1
  have m4 : a * b * c ≤ 1000000 * 1000 := Int.mul_le_mul m2 h2.2 h2.1 (by omega)
  unfold spec_newImage.f
  rw [w64 (x := a * b) (by omega) (by omega), w64 (x := a * b * c) (by omega) (by omega)]
  exact Wp.pos m3 (Wp.pos (by omega) (Wp.ret rfl))
end Go.Proofs.Ytohbpilokmppbaa.P
namespace Go.Proofs.Ytohbpilokmppbaa.P
open Go.RowKit Go.Proofs.YtohbpilokmppbaaW.PrintWords Go.Proofs.YtohbpilokmppbaaW.PrintLast Go.Proofs.YtohbpilokmppbaaW.PrintMore Go.Proofs.Ytohbpilokmppbaa.Wp
set_option linter.unusedVariables false
set_option linter.unusedSimpArgs false
theorem fm_len (h : Nat → List Int) (n p : Nat) (hf : ∀ i, i < n → (h i).length = p) : ((List.range n).flatMap h).length = n * p := by
  induction n with
  | zero => simp
  | succ n ih =>
    rw [List.range_succ, List.flatMap_append, List.length_append, ih fun i hi => hf i (by omega), Nat.succ_mul]
    simp [hf n (by omega)]
theorem fm_get (h : Nat → List Int) (n p j q : Nat) (hf : ∀ i, i < n → (h i).length = p) (hj : j < n) (hq : q < p) : ((List.range n).flatMap h).getD (j * p + q) 0 = (h j).getD q 0 := by
  induction n with
  | zero => omega
  | succ n ih =>
    have hlen := fm_len h n p fun i hi => hf i (by omega)
    rw [List.range_succ, List.flatMap_append, List.getD_eq_getElem?_getD]
    by_cases hjn : j < n
    · have : j * p + q < n * p := by
        have : (j + 1) * p ≤ n * p := Nat.mul_le_mul_right p (by omega)
        rw [Nat.succ_mul] at this
        omega
      rw [List.getElem?_append_left (by omega), ← List.getD_eq_getElem?_getD]
      exact ih (fun i hi => hf i (by omega)) hjn
    · have : j = n := by omega
      subst this
      rw [List.getElem?_append_right (by omega), hlen, show j * p + q - j * p = q by omega]
      simp [List.getD_eq_getElem?_getD]
theorem img_fm (f : Int → Int → List Int) (h : Nat → List Int) (n m : Nat) (hh : ∀ i j, j < n → i < m → f (j : Int) (i : Int) = h (i * n + j)) : imgOf f n m = (List.range (m * n)).flatMap h := by
  induction m with
  | zero => simp [imgOf]
  | succ m ih =>
    rw [imgOf_succ, ih fun i j hj hi => hh i j hj (by omega), Nat.succ_mul, List.range_add, List.flatMap_append]
    congr 1
    unfold imgRow
    rw [List.flatMap_map]
    have : ∀ (a : List Nat), (∀ x ∈ a, x < n) → a.flatMap (fun j : Nat => f (j : Int) (m : Int)) = a.flatMap (fun x => h (m * n + x)) := by
      intro a
      induction a with
      | nil => intro _; rfl
      | cons x a iha =>
        intro hx
        rw [List.flatMap_cons, List.flatMap_cons, iha fun y hy => hx y (List.mem_cons_of_mem _ hy), hh m x (hx x (List.mem_cons_self ..)) (by omega)]
    exact this _ fun x hx => List.mem_range.1 hx
end Go.Proofs.Ytohbpilokmppbaa.P
namespace Go.Proofs.Ytohbpilokmppbaa.P
open Go.RowKit Go.Proofs.YtohbpilokmppbaaW.PrintWords Go.Proofs.YtohbpilokmppbaaW.PrintLast Go.Proofs.YtohbpilokmppbaaW.PrintMore Go.Proofs.Ytohbpilokmppbaa.Wp
set_option linter.unusedVariables false
set_option linter.unusedSimpArgs false
theorem img_nat {a b c : Int} {l : List Int} (hi : imgB a b c l = true) : ∃ a' b' p : Nat, a = a' ∧ b = b' ∧ c = p ∧ (1 ≤ a' ∧ a' ≤ 16) ∧ (1 ≤ b' ∧ b' ≤ 16) ∧ (1 ≤ p ∧ p ≤ 4) ∧ l.length = b' * a' * p ∧ ∀ v ∈ l, 0 ≤ v ∧ v ≤ 255 := by
  obtain ⟨h0, h1, h2, hlen, hB⟩ := imgB_ok.1 hi
  obtain ⟨a, rfl⟩ := Int.eq_ofNat_of_zero_le (show 0 ≤ a by omega)
  obtain ⟨b, rfl⟩ := Int.eq_ofNat_of_zero_le (show 0 ≤ b by omega)
  obtain ⟨p, rfl⟩ := Int.eq_ofNat_of_zero_le (show 0 ≤ c by omega)
  refine ⟨a, b, p, rfl, rfl, rfl, by omega, by omega, by omega, ?_, hB⟩
  rw [← Int.natCast_mul, ← Int.natCast_mul, Nat.mul_comm a b] at hlen
  omega
end Go.Proofs.Ytohbpilokmppbaa.P
namespace Go.Proofs.Ytohbpilokmppbaa.P
open Go.RowKit Go.Proofs.YtohbpilokmppbaaW.PrintWords Go.Proofs.YtohbpilokmppbaaW.PrintLast Go.Proofs.YtohbpilokmppbaaW.PrintMore Go.Proofs.Ytohbpilokmppbaa.Wp
set_option linter.unusedVariables false
set_option linter.unusedSimpArgs false
theorem max_run (l : List Int) (hl : l.length ≤ 1000000000) : ∀ (d i k : Nat) (m : Int), i + d = l.length → d < k → ∃ r, slices_Max_int_int.l0 k l m i = some r ∧ (r = m ∨ r ∈ l) := by
  intro d
  induction d with
  | zero =>
    intro i k m hd hk
    obtain ⟨k, rfl⟩ : ∃ z, k = z + 1 := ⟨k - 1, by omega⟩
    rw [slices_Max_int_int.l0, if_neg (by omega)]
    exact ⟨m, rfl, Or.inl rfl⟩
  | succ d ih =>
    intro i k m hd hk
    obtain ⟨k, rfl⟩ : ∃ z, k = z + 1 := ⟨k - 1, by omega⟩
    rw [slices_Max_int_int.l0, if_pos (by omega), if_pos (by omega), w64 (x := (i : Int) + 1) (by omega) (by omega)]
    obtain ⟨r, h1, h2⟩ := ih (i + 1) k (mx m (rd l i)) (by omega) (by omega)
    refine ⟨r, h1, ?_⟩
    rcases h2 with h2 | h2
    · have hi : rd l (i : Int) ∈ l := by
        rw [bl_rd_lt l i (by omega)]
        exact List.getElem_mem _
      have : mx m (rd l i) = m ∨ mx m (rd l i) = rd l i := by unfold mx; split <;> simp
      rcases this with e | e
      · exact Or.inl (h2.trans e)
      · exact Or.inr (by rw [h2, e]; exact hi)
    · exact Or.inr h2
theorem maxBelow_val (l : List Int) (L : List (List Int)) (h0 : 1 ≤ l.length) (hl : l.length ≤ 1024) : maxBelow.f l L = some (l.all fun v => decide (v < (L.length : Int))) := by
  have hr : ∃ r, slices_Max_int_int.f 1030 l = some r ∧ r ∈ l := by
    unfold slices_Max_int_int.f
    rw [if_neg (by omega), if_pos (by omega)]
    obtain ⟨r, h1, h2⟩ := max_run l (by omega) (l.length - 1) 1 1030 (rd l 0) (by omega) (by omega)
    refine ⟨r, h1, ?_⟩
    rcases h2 with h2 | h2
    · rw [h2, show (0 : Int) = ((0 : Nat) : Int) from rfl, bl_rd_lt l 0 (by omega)]
      exact List.getElem_mem _
    · exact h2
  obtain ⟨r, h1, h2⟩ := hr
  have h3 := max_all l (by omega) 1030 r h1
  unfold maxBelow.f
  rw [h1]
  show some (decide (r < (L.length : Int))) = _
  congr 1
  rw [Bool.eq_iff_iff, decide_eq_true_eq, List.all_eq_true]
  exact ⟨fun h v hv => by have := h3 v hv; exact decide_eq_true (by omega), fun h => of_decide_eq_true (h r h2)⟩
def colI (a b c : Int) (l : List Int) (L : List (List Int)) (n : Int) : Int × Int × Int × List Int × Bool :=
  if imgB a b c l = true ∧ c = 1 ∧ (decide (1 ≤ L.length ∧ 1 ≤ n ∧ n ≤ 4) && palB L n) = true ∧ (l.all fun v => decide (v < (L.length : Int))) = true then
    (a, b, n, imgOf (fun x y => colPix L l a c x y) a.toNat b.toNat, true) else (0, 0, 0, [], false)
theorem w_iCol (a b c : Int) (l : List Int) (L : List (List Int)) (n : Int) : Wp (fun _ => impl_ColorImage.f a b c l L n) (fun r => r = colI a b c l L n) := by
  unfold impl_ColorImage.f colI
  refine Wp.call (w_iImage a b c l) ?_
  rintro _ rfl
  refine Wp.ite (fun hi => ?_) (fun hi => Wp.ret (by rw [if_neg fun h => hi h.1]))
  refine Wp.ite (fun h1 => ?_) (fun h1 => Wp.ret (by rw [if_neg fun h => h1 h.2.1]))
  refine Wp.call (w_isPalette L n) ?_
  rintro _ rfl
  refine Wp.ite (fun hp => ?_) (fun hp => Wp.ret (by rw [if_neg fun h => hp h.2.2.1]))
  have hlen : 1 ≤ l.length ∧ l.length ≤ 1024 := by
    have hI := imgB_ok.1 hi
    have := img_bounds hI.1 hI.2.1 hI.2.2.1
    have := hI.2.2.2.1
    omega
  rw [maxBelow_val l L hlen.1 hlen.2]
  refine Wp.call (Q := fun z => z = (l.all fun v => decide (v < (L.length : Int)))) (Wp.ret rfl) ?_
  rintro _ rfl
  exact Wp.ite (fun hm => Wp.ret (by rw [if_pos ⟨hi, h1, hp, hm⟩])) (fun hm => Wp.ret (by rw [if_neg fun h => hm h.2.2.2]))
end Go.Proofs.Ytohbpilokmppbaa.P
namespace Go.Proofs.Ytohbpilokmppbaa.P
open Go.RowKit Go.Proofs.YtohbpilokmppbaaW.PrintWords Go.Proofs.YtohbpilokmppbaaW.PrintLast Go.Proofs.YtohbpilokmppbaaW.PrintMore Go.Proofs.Ytohbpilokmppbaa.Wp
set_option linter.unusedVariables false
set_option linter.unusedSimpArgs false
def pxN (l : List Int) (p n : Nat) : List Int := (l.take (n * p + p)).drop (n * p)
theorem pxN_pix (l : List Int) (a p x y : Nat) : pixOf l a p x y = pxN l p (y * a + x) := by
  unfold pixOf pxN
  have e : ((y : Int) * a + x) * p = (((y * a + x) * p : Nat) : Int) := by rw [Int.natCast_mul (y * a + x) p, Int.natCast_add, Int.natCast_mul]
  rw [e, show (((y * a + x) * p : Nat) : Int) + (p : Int) = (((y * a + x) * p + p : Nat) : Int) by omega, Int.toNat_natCast, Int.toNat_natCast]
end Go.Proofs.Ytohbpilokmppbaa.P
namespace Go.Proofs.Ytohbpilokmppbaa.P
open Go.RowKit Go.Proofs.YtohbpilokmppbaaW.PrintWords Go.Proofs.YtohbpilokmppbaaW.PrintLast Go.Proofs.YtohbpilokmppbaaW.PrintMore Go.Proofs.Ytohbpilokmppbaa.Wp
set_option linter.unusedVariables false
set_option linter.unusedSimpArgs false
theorem two_at {i j p q n : Nat} (hp : p < n) (hq : q < n) (h : i * n + p = j * n + q) : i = j ∧ p = q := by
  have e : i = j := by
    rcases Nat.lt_trichotomy i j with h1 | h1 | h1
    · have : (i + 1) * n ≤ j * n := Nat.mul_le_mul_right n h1
      rw [Nat.succ_mul] at this
      omega
    · exact h1
    · have : (j + 1) * n ≤ i * n := Nat.mul_le_mul_right n h1
      rw [Nat.succ_mul] at this
      omega
  subst e
  exact ⟨rfl, by omega⟩
theorem w_sCol (a b c : Int) (l : List Int) (L : List (List Int)) (n : Int) (hl : l.length ≤ 1000000000) (hS : Small L) : Wp (fun k => spec_ColorImage.f k a b c l L n) (fun r => r = colI a b c l L n) := by
  have bad : ∀ (P : Int × Int × Int × List Int × Bool → Prop), P (0, 0, 0, [], false) → Wp (fun k => spec_ColorImage.j0 k L n true a b c l) P := fun P h => Wp.step (fun k => spec_ColorImage.j0.eq_2 ..) (Wp.pos rfl (Wp.ret h))
  unfold spec_ColorImage.f colI
  refine Wp.call (w_sImage a b c l hl) ?_
  rintro _ rfl
  refine Wp.ite (fun hi => ?_) (fun hi => bad _ (by rw [if_neg fun h => hi h.1]))
  refine Wp.ite (fun h1 => ?_) (fun h1 => bad _ (by rw [if_neg fun h => h1 h.2.1]))
  refine Wp.call (w_inRange0 _ _ _) ?_
  rintro _ rfl
  refine Wp.ite (fun hn => ?_) (fun hn => bad _ (by rw [if_neg fun h => hn ?_]; have h2 := h.2.2.1; rw [Bool.and_eq_true, decide_eq_true_eq] at h2; exact decide_eq_true h2.1.2))
  rw [decide_eq_true_eq] at hn
  refine Wp.call (w_validColors L n hS) ?_
  rintro _ rfl
  refine Wp.ite (fun hp => ?_) (fun hp => bad _ (by rw [if_neg fun h => hp ?_]; have h2 := h.2.2.1; rw [Bool.and_eq_true] at h2; exact h2.2))
  have hL0 := hS.1
  rw [w64 (x := (L.length : Int) - 1) (by omega) (by omega)]
  refine Wp.call (w_allIn l 0 _ hl) ?_
  rintro _ rfl
  have hi2 := hi
  obtain ⟨a', b', c', rfl, rfl, rfl, ha, hb, hpp, hlen, hB⟩ := img_nat hi
  have hc1 : c' = 1 := by omega
  subst hc1
  rw [Nat.mul_one] at hlen
  have hN : b' * a' ≤ 16 * 16 := Nat.mul_le_mul (by omega) (by omega)
  have hN1 : 1 ≤ b' * a' := Nat.mul_le_mul (show 1 ≤ b' by omega) (show 1 ≤ a' by omega)
  have hall : (l.all fun v => decide (0 ≤ v ∧ v ≤ (L.length : Int) - 1)) = (l.all fun v => decide (v < (L.length : Int))) := by
    rw [Bool.eq_iff_iff, List.all_eq_true, List.all_eq_true]
    exact ⟨fun h v hv => by have := of_decide_eq_true (h v hv); exact decide_eq_true (by omega), fun h v hv => by have := of_decide_eq_true (h v hv); have := hB v hv; exact decide_eq_true (by omega)⟩
  rw [hall]
  by_cases hm : (l.all fun v => decide (v < (L.length : Int))) = true
  · rw [hm]
    have hml : ∀ v ∈ l, v < (L.length : Int) := fun v hv => of_decide_eq_true (List.all_eq_true.1 hm v hv)
    have hL1 : 1 ≤ L.length := by
      have h1 := hml _ (show l[0]'(by omega) ∈ l from List.getElem_mem _)
      have h2 := hB _ (show l[0]'(by omega) ∈ l from List.getElem_mem _)
      omega
    obtain ⟨m, rfl⟩ := Int.eq_ofNat_of_zero_le (show 0 ≤ n by omega)
    have hL := palB_ok hp
    rw [if_pos ⟨hi2, rfl, by rw [hp, Bool.and_true]; exact decide_eq_true (by omega), rfl⟩]
    refine Wp.step (fun k => spec_ColorImage.j0.eq_2 ..) (Wp.neg (by decide) ?_)
    refine Wp.call (w_newImage a' b' m (by omega) (by omega) (by omega)) ?_
    rintro _ rfl
    dsimp only
    have hcol : ∀ i j : Nat, j < a' → i < b' → colPix L l a' ((1 : Nat) : Int) j i = (fun t => L.getD (l.getD t 0).toNat []) (i * a' + j) := fun i j hj hi => by
      have h1 : (i + 1) * a' ≤ b' * a' := Nat.mul_le_mul_right a' (by omega)
      rw [Nat.succ_mul] at h1
      have h2 : l.getD (i * a' + j) 0 ∈ l := by
        rw [List.getD_eq_getElem?_getD, List.getElem?_eq_getElem (by omega)]
        exact List.getElem_mem _
      have h3 := hB _ h2
      unfold colPix
      rw [pxN_pix]
      have e : rd (pxN l 1 (i * a' + j)) 0 = l.getD (i * a' + j) 0 := by
        rw [show (0 : Int) = ((0 : Nat) : Int) from rfl, bl_rd]
        unfold pxN
        rw [Nat.mul_one, List.getD_eq_getElem?_getD, List.getElem?_drop, List.getElem?_take, if_pos (by omega), ← List.getD_eq_getElem?_getD, Nat.add_zero]
        rfl
      show rd_L1 L (rd (pxN l 1 (i * a' + j)) 0) = L.getD (l.getD (i * a' + j) 0).toNat []
      rw [e]
      obtain ⟨z, hz⟩ := Int.eq_ofNat_of_zero_le h3.1
      rw [hz, ll_rd, Int.toNat_natCast]
    rw [Int.toNat_natCast, Int.toNat_natCast, img_fm (fun x y => colPix L l a' ((1 : Nat) : Int) x y) (fun t => L.getD (l.getD t 0).toNat []) a' b' hcol,
      show (a' : Int) * b' * m = ((b' * a' * m : Nat) : Int) by rw [Int.natCast_mul, Int.natCast_mul, Int.mul_comm (a' : Int) (b' : Int)], Int.toNat_natCast]
    generalize b' * a' = N at hN hN1 hlen ⊢
    have hidx : ∀ i, i < N → 0 ≤ l.getD i 0 ∧ (l.getD i 0).toNat < L.length ∧ l.getD i 0 = ((l.getD i 0).toNat : Nat) := fun i hi => by
      have h2 : l.getD i 0 ∈ l := by
        rw [List.getD_eq_getElem?_getD, List.getElem?_eq_getElem (by omega)]
        exact List.getElem_mem _
      have h3 := hB _ h2
      have h4 := hml _ h2
      omega
    have hrow : ∀ i, i < N → (L.getD (l.getD i 0).toNat []).length = m := fun i hi => (hL.2 _ (ll_mem L _ (hidx i hi).2.1)).1
    have hNm : N * m ≤ 256 * 4 := Nat.mul_le_mul hN (by omega)
    have inner : ∀ (i : Nat), i < N → (∀ x : List Int, x.length = N * m → (∀ j q, j < i + 1 → q < m → x.getD (j * m + q) 0 = (L.getD (l.getD j 0).toNat []).getD q 0) →
          Wp (fun k => spec_ColorImage.l0 k L m ((i : Int) + 1) a' b' 1 l a' b' m x) (fun r => r = ((a' : Int), (b' : Int), (m : Int), (List.range N).flatMap (fun t => L.getD (l.getD t 0).toNat []), true))) →
        ∀ (d p : Nat) (x : List Int), p + d = m → x.length = N * m → (∀ j q, q < m → (j < i ∨ j = i ∧ q < p) → x.getD (j * m + q) 0 = (L.getD (l.getD j 0).toNat []).getD q 0) →
          Wp (fun k => spec_ColorImage.l1 k L m i p a' b' 1 l a' b' m x) (fun r => r = ((a' : Int), (b' : Int), (m : Int), (List.range N).flatMap (fun t => L.getD (l.getD t 0).toNat []), true)) := by
      intro i hi next d
      induction d with
      | zero =>
        intro p x hd hx h
        refine Wp.step (fun k => spec_ColorImage.l1.eq_2 ..) (Wp.neg (by omega) ?_)
        rw [w64 (x := (i : Int) + 1) (by omega) (by omega)]
        exact next x hx fun j q hj hq => h j q hq (by omega)
      | succ d ih =>
        intro p x hd hx h
        obtain ⟨g0, g1, g2⟩ := hidx i hi
        have g3 := hrow i hi
        have h1 : (i + 1) * m ≤ N * m := Nat.mul_le_mul_right m (by omega)
        rw [Nat.succ_mul] at h1
        refine Wp.step (fun k => spec_ColorImage.l1.eq_2 ..) (Wp.pos (by omega) (Wp.pos (by omega) (Wp.pos (by omega) ?_)))
        rw [bl_rd]
        generalize hz : (l.getD i 0).toNat = z at g1 g2 g3
        rw [g2, ll_rd, show (i : Int) * m = ((i * m : Nat) : Int) by rw [Int.natCast_mul], w64 (x := ((i * m : Nat) : Int)) (by omega) (by omega), w64 (x := ((i * m : Nat) : Int) + (p : Int)) (by omega) (by omega),
          show ((i * m : Nat) : Int) + (p : Int) = ((i * m + p : Nat) : Int) by omega, Int.toNat_natCast, bl_rd, w64 (x := (p : Int) + 1) (by omega) (by omega)]
        refine Wp.pos (by omega) (Wp.pos (by omega) (Wp.pos (by omega) (Wp.pos (by omega) (Wp.pos (by omega) (Wp.pos (by omega) ?_)))))
        refine ih (p + 1) _ (by omega) (by rw [List.length_set]; exact hx) fun j q hq hjq => ?_
        rw [bl_set _ _ (by omega)]
        split
        · rename_i e
          obtain ⟨e1, e2⟩ := two_at hq (show p < m by omega) e
          rw [e1, e2, hz]
        · rename_i e
          refine h j q hq ?_
          rcases hjq with h2 | ⟨h2, h3⟩
          · exact Or.inl h2
          · refine Or.inr ⟨h2, ?_⟩
            by_cases e2 : q = p
            · exact absurd (by rw [h2, e2]) e
            · omega
    have key : ∀ (d i : Nat) (x : List Int), i + d = N → x.length = N * m → (∀ j q, j < i → q < m → x.getD (j * m + q) 0 = (L.getD (l.getD j 0).toNat []).getD q 0) →
        Wp (fun k => spec_ColorImage.l0 k L m i a' b' 1 l a' b' m x) (fun r => r = ((a' : Int), (b' : Int), (m : Int), (List.range N).flatMap (fun t => L.getD (l.getD t 0).toNat []), true)) := by
      intro d
      induction d with
      | zero =>
        intro i x hd hx h
        refine Wp.step (fun k => spec_ColorImage.l0.eq_2 ..) (Wp.neg (by omega) (Wp.ret ?_))
        have hfl := fm_len (fun t => L.getD (l.getD t 0).toNat []) N m hrow
        have hm0 : 0 < m := by omega
        rw [show x = (List.range N).flatMap (fun t => L.getD (l.getD t 0).toNat []) from bl_ext (by omega) fun j hj => ?_]
        have hj2 : j / m < N := (Nat.div_lt_iff_lt_mul hm0).2 (by omega)
        have hj3 : j % m < m := Nat.mod_lt _ hm0
        have ej : j / m * m + j % m = j := by rw [Nat.mul_comm]; exact Nat.div_add_mod j m
        have h2 := fm_get (fun t => L.getD (l.getD t 0).toNat []) N m (j / m) (j % m) hrow hj2 hj3
        have h3 := h (j / m) (j % m) (by omega) hj3
        rw [ej] at h2 h3
        rw [h2, h3]
      | succ d ih =>
        intro i x hd hx h
        refine Wp.step (fun k => spec_ColorImage.l0.eq_2 ..) (Wp.pos (by omega) ?_)
        exact inner i (by omega) (fun x2 hx2 h2 => ih (i + 1) x2 (by omega) hx2 h2) m 0 x (by omega) hx (fun j q hq hjq => h j q (by omega) hq)
    exact key N 0 _ (by omega) (by simp) (fun j q hj => by omega)
  · rw [Bool.not_eq_true] at hm
    rw [hm]
    exact bad _ (by rw [if_neg fun h => absurd h.2.2.2 (by decide)])
end Go.Proofs.Ytohbpilokmppbaa.P
namespace Go.Proofs.Ytohbpilokmppbaa.P
open Go.RowKit Go.Proofs.YtohbpilokmppbaaW.PrintWords Go.Proofs.YtohbpilokmppbaaW.PrintLast Go.Proofs.YtohbpilokmppbaaW.PrintMore Go.Proofs.Ytohbpilokmppbaa.Wp
set_option linter.unusedVariables false
set_option linter.unusedSimpArgs false
theorem w_toImage (a b c : Int) (l : List Int) (hl : l.length ≤ 1000000000) : Wp (fun k => laws_toImage.f k a b c l) (fun r => r = (a, b, c, l)) := by
  unfold laws_toImage.f
  refine Wp.call (w_toIntS l hl) ?_
  rintro _ rfl
  exact Wp.ret rfl
theorem w_eqImage (a b c : Int) (l : List Int) (a' b' c' : Int) (l' : List Int) (hl : l.length ≤ 1000000000) : Wp (fun k => laws_eqImage.f k a b c l a' b' c' l') (fun r => r = decide ((a, b, c, l) = (a', b', c', l'))) := by
  unfold laws_eqImage.f
  refine Wp.ite (fun h => ?_) (fun h => Wp.ret (decide_eq_false fun e => h (congrArg (·.1) e)).symm)
  refine Wp.ite (fun h1 => ?_) (fun h1 => Wp.ret (decide_eq_false fun e => h1 (congrArg (·.2.1) e)).symm)
  refine Wp.ite (fun h2 => ?_) (fun h2 => Wp.ret (decide_eq_false fun e => h2 (congrArg (·.2.2.1) e)).symm)
  refine Wp.call (w_eqIntS l l' hl) ?_
  rintro _ rfl
  refine Wp.ite (fun h3 => Wp.ret ?_) (fun h3 => Wp.ret (decide_eq_false fun e => h3 (decide_eq_true (congrArg (·.2.2.2) e))).symm)
  rw [decide_eq_true_eq] at h3
  rw [h, h1, h2, h3]
  exact (decide_eq_true rfl).symm
theorem w_markImage (a b c : Int) (l : List Int) (x : Int) (hl : l.length ≤ 1000000000) (h0 : 0 ≤ x) (h1 : x ≤ 1000000000) : Wp (fun k => laws_markImage.f k a b c l x) (fun r => r = (x + l.length, marks x l.length)) := by
  unfold laws_markImage.f
  refine Wp.call (w_markIntS l x hl h0 h1) ?_
  rintro _ rfl
  exact Wp.ret rfl
theorem w_heldImage (a b c : Int) (n : Nat) (x : Int) (hl : n ≤ 1000000000) (h0 : 0 ≤ x) (h1 : x ≤ 1000000000) : Wp (fun k => laws_heldImage.f k a b c (marks x n) x) (fun r => r = x + n) := by
  unfold laws_heldImage.f
  refine Wp.call (w_heldIntS n x hl h0 h1) ?_
  rintro _ rfl
  exact Wp.neg (by omega) (Wp.ret rfl)
end Go.Proofs.Ytohbpilokmppbaa.P
namespace Go.Proofs.Ytohbpilokmppbaa.P
open Go.RowKit Go.Proofs.YtohbpilokmppbaaW.PrintWords Go.Proofs.YtohbpilokmppbaaW.PrintLast Go.Proofs.YtohbpilokmppbaaW.PrintMore Go.Proofs.Ytohbpilokmppbaa.Wp
set_option linter.unusedVariables false
set_option linter.unusedSimpArgs false
def tot (L : List (List Int)) : Nat → Nat
  | 0 => 0
  | n + 1 => tot L n + (L.getD n []).length
theorem tot_le (L : List (List Int)) {m n : Nat} (h : m ≤ n) : tot L m ≤ tot L n := by
  induction n with
  | zero => rw [show m = 0 by omega]; exact Nat.le_refl _
  | succ n ih =>
    by_cases e : m = n + 1
    · rw [e]; exact Nat.le_refl _
    · have := ih (by omega)
      rw [tot]; omega
theorem w_szIntSSx (l : List (List Int)) (x : Int) (h0 : 0 ≤ x) (h1 : x ≤ 1048576) (hl : l.length ≤ maxLen) (hy : ∀ y ∈ l, y.length ≤ maxLen) : Wp (fun k => laws_szIntSS.f k l x) (fun r => r < 0 ∨ (Small l ∧ tot l l.length ≤ 1048576)) := by
  unfold laws_szIntSS.f
  have hl' := hl
  unfold maxLen at hl'
  rw [w64 (x := x - (l.length : Int)) (by omega) (by omega)]
  refine Wp.ite (fun _ => Wp.ret (by omega)) (fun h => ?_)
  have key : ∀ (d i : Nat) (x : Int), i + d = l.length → 0 ≤ x → x ≤ 1048576 → x + tot l i ≤ 1048576 → (∀ j, j < i → (l.getD j []).length ≤ 1048576) → Wp (fun k => laws_szIntSS.l0 k l x i) (fun r => r < 0 ∨ (Small l ∧ tot l l.length ≤ 1048576)) := by
    intro d
    induction d with
    | zero =>
      intro i x hd h0 h1 ht hj
      refine Wp.step (fun k => laws_szIntSS.l0.eq_2 ..) (Wp.neg (by omega) (Wp.ret (Or.inr ⟨⟨by omega, fun y hy2 => ?_⟩, ?_⟩)))
      · obtain ⟨j, hj2, rfl⟩ := List.getElem_of_mem hy2
        have := hj j (by omega)
        simpa [List.getD_eq_getElem?_getD, List.getElem?_eq_getElem hj2] using this
      · rw [show l.length = i by omega]; omega
    | succ d ih =>
      intro i x hd h0 h1 ht hj
      refine Wp.step (fun k => laws_szIntSS.l0.eq_2 ..) (Wp.pos (by omega) (Wp.pos (by omega) ?_))
      rw [ll_rd]
      have hm := hy _ (ll_mem l i (by omega))
      unfold maxLen at hm
      refine Wp.call (Q := fun r => r < 0 ∨ (r = x - ((l.getD i []).length : Int) ∧ 0 ≤ r)) ?_ ?_
      · unfold laws_szIntS.f
        rw [w64 (x := x - ((l.getD i []).length : Int)) (by omega) (by omega)]
        exact Wp.ite (fun _ => Wp.ret (by omega)) (fun _ => Wp.ret (by omega))
      intro r hr
      refine Wp.ite (fun _ => Wp.ret (by omega)) (fun h2 => ?_)
      rw [w64 (x := (i : Int) + 1) (by omega) (by omega)]
      refine ih (i + 1) r (by omega) (by omega) (by omega) (by rw [tot]; omega) fun j hj2 => ?_
      by_cases e : j = i
      · rw [e]; omega
      · exact hj j (by omega)
  exact key l.length 0 _ (by omega) (by omega) (by omega) (by rw [tot]; omega) (fun j hj => by omega)
def mkS (L : List (List Int)) (a : Int) : List (List Int) := (List.range L.length).map fun i => marks (a + (tot L i : Int)) (L.getD i []).length
theorem mkS_len (L : List (List Int)) (a : Int) : (mkS L a).length = L.length := by simp [mkS]
theorem mkS_get (L : List (List Int)) (a : Int) (i : Nat) (h : i < L.length) : (mkS L a).getD i [] = marks (a + (tot L i : Int)) (L.getD i []).length := by
  unfold mkS
  rw [List.getD_eq_getElem?_getD, List.getElem?_map, List.getElem?_range h]
  rfl
theorem w_markIntSS (L : List (List Int)) (a : Int) (h0 : 0 ≤ a) (h1 : a + (tot L L.length : Int) ≤ 1000000000) (hl : L.length ≤ 1048576) : Wp (fun k => laws_markIntSS.f k L a) (fun r => r = (a + (tot L L.length : Int), mkS L a)) := by
  unfold laws_markIntSS.f
  have key : ∀ d (i : Nat) (x : List (List Int)), i + d = L.length → x.length = L.length → (∀ j, j < i → x.getD j [] = marks (a + (tot L j : Int)) (L.getD j []).length) → (∀ j, i ≤ j → j < L.length → x.getD j [] = L.getD j []) →
      Wp (fun k => laws_markIntSS.l0 k x (a + (tot L i : Int)) i) (fun r => r = (a + (tot L L.length : Int), mkS L a)) := by
    intro d
    induction d with
    | zero =>
      intro i x hd hx h _
      have : i = L.length := by omega
      subst this
      refine Wp.step (fun k => laws_markIntSS.l0.eq_2 ..) (Wp.neg (by omega) (Wp.ret ?_))
      congr 1
      exact ll_ext (by rw [mkS_len]; exact hx) fun j hj => by rw [mkS_len] at hj; rw [mkS_get _ _ _ hj]; exact h j hj
    | succ d ih =>
      intro i x hd hx h hr
      have ht := tot_le L (show i + 1 ≤ L.length by omega)
      rw [tot] at ht
      refine Wp.step (fun k => laws_markIntSS.l0.eq_2 ..) (Wp.pos (by omega) (Wp.pos (by omega) ?_))
      rw [ll_rd, hr i (Nat.le_refl i) (by omega)]
      refine Wp.call (w_markIntS (L.getD i []) (a + (tot L i : Int)) (by omega) (by omega) (by omega)) ?_
      rintro _ rfl
      rw [w64 (x := (i : Int) + 1) (by omega) (by omega), Int.toNat_natCast]
      have := ih (i + 1) (x.set i (marks (a + (tot L i : Int)) (L.getD i []).length)) (by omega) (by rw [List.length_set]; exact hx) (fun j hj => ?_) (fun j hj hj2 => ?_)
      · rw [tot, Int.natCast_add, ← Int.add_assoc] at this
        exact this
      · rw [ll_set _ _ (by omega)]
        split
        · rename_i e; rw [e]
        · exact h j (by omega)
      · rw [ll_set _ _ (by omega), if_neg (by omega)]
        exact hr j (by omega) hj2
  have := key L.length 0 L (by omega) rfl (fun j hj => by omega) (fun j _ _ => rfl)
  rw [tot] at this
  simpa using this
end Go.Proofs.Ytohbpilokmppbaa.P
namespace Go.Proofs.Ytohbpilokmppbaa.Pure
open Go.RowKit Go.Proofs.Ytohbpilokmppbaa.P Go.Proofs.YtohbpilokmppbaaW.PrintWords Go.Proofs.YtohbpilokmppbaaW.PrintMore Go.Proofs.Ytohbpilokmppbaa.Wp
set_option linter.unusedVariables false
theorem w_szImage3 (a b c : Int) (l : List Int) (hl : l.length ≤ maxLen) : Wp (fun _ => laws_szImage.f a b c l 1048576) (fun r => r < 0 ∨ (l.length ≤ 1048576 ∧ r ≤ 1048576)) := by
  unfold maxLen at hl
  unfold laws_szImage.f laws_szIntS.f
  rw [w64 (x := 1048576 - (l.length : Int)) (by omega) (by omega)]
  refine Wp.call (Q := fun r => r < 0 ∨ (l.length ≤ 1048576 ∧ r ≤ 1048576)) ?_ ?_
  · exact Wp.ite (fun _ => Wp.ret (by omega)) (fun _ => Wp.ret (by omega))
  · intro r hr
    exact Wp.ite (fun _ => Wp.ret (by omega)) (fun _ => Wp.ret hr)
theorem col_len (a b c : Int) (l : List Int) (L : List (List Int)) (n : Int) : (colI a b c l L n).2.2.2.1.length ≤ 1000000 := by
  unfold colI
  split
  · rename_i h
    obtain ⟨h0, h1, _⟩ := imgB_ok.1 h.1
    have h2 := h.2.2.1
    rw [Bool.and_eq_true, decide_eq_true_eq] at h2
    obtain ⟨m, rfl⟩ := Int.eq_ofNat_of_zero_le (show 0 ≤ n by omega)
    have hL := palB_ok h2.2
    have := imgOf_len (fun x y => colPix L l a c x y) a.toNat b.toNat 100 (fun i j _ _ => colPix_len _ _ _ _ _ _ (fun z hz => by have := (hL.2 z hz).1; omega))
    have b1 : a.toNat * 100 ≤ 16 * 100 := Nat.mul_le_mul (by omega) (Nat.le_refl _)
    have b2 : b.toNat * (a.toNat * 100) ≤ 16 * 1600 := Nat.mul_le_mul (by omega) b1
    exact Nat.le_trans this (by omega)
  · simp
theorem FnExactColorImage : laws_FnExactColorImage.Pure := by
  intro a b c l L n _ _ _ hm _ hLm hLy _
  refine Wp.rounds ?_
  unfold laws_FnExactColorImage.f
  refine Wp.call (w_szImage3 a b c l hm) ?_
  intro sz hsz
  refine Wp.ite (fun _ => Wp.ret rfl) (fun h0 => ?_)
  refine Wp.call (w_szIntSSx L sz (by omega) (by omega) hLm hLy) ?_
  intro sz2 hsz2
  refine Wp.ite (fun _ => Wp.ret rfl) (fun h02 => ?_)
  have hl1 : l.length ≤ 1048576 := by omega
  have hl : l.length ≤ 1000000000 := by omega
  obtain ⟨hS, ht⟩ : Small L ∧ tot L L.length ≤ 1048576 := by
    rcases hsz2 with h | h
    · exact absurd h h02
    · exact h
  have hL0 := hS.1
  have hu := col_len a b c l L n
  generalize hg : colI a b c l L n = g at hu
  obtain ⟨g0, g1, g2, g3, g4⟩ := g
  simp only at hu
  have hu : g3.length ≤ 1000000000 := by omega
  have hs : ∀ P : Int × Int × Int × List Int × Bool → Prop, P (g0, g1, g2, g3, g4) → Wp (fun k => spec_ColorImage.f k a b c l L n) P := fun P hP => (w_sCol a b c l L n hl hS).mono fun r e => by rw [e, hg]; exact hP
  have hi : ∀ P : Int × Int × Int × List Int × Bool → Prop, P (g0, g1, g2, g3, g4) → Wp (fun _ => impl_ColorImage.f a b c l L n) P := fun P hP => (w_iCol a b c l L n).mono fun r e => by rw [e, hg]; exact hP
  have hne : (g4 != g4) = false := by simp
  have hmk : Wp (fun k => laws_markIntSS.f k L (1 + (l.length : Int))) (fun r => r = (1 + (l.length : Int) + (tot L L.length : Int), mkS L (1 + (l.length : Int)))) := w_markIntSS L _ (by omega) (by omega) hL0
  repeat' first
    | with_reducible exact Wp.ret rfl
    | with_reducible refine Wp.step (fun k => laws_FnExactColorImage.j0.eq_2 ..) ?_
    | with_reducible refine Wp.step (fun k => laws_FnExactColorImage.j1.eq_2 ..) ?_
    | with_reducible refine Wp.step (fun k => laws_FnExactColorImage.j2.eq_2 ..) ?_
    | ((with_reducible refine Wp.call (w_toImage _ _ _ _ hl) ?_); rintro _ rfl; dsimp only)
    | ((with_reducible refine Wp.call (w_toIntSS L hS) ?_); intro r_ e_; have e2_ := e_.symm; clear e_; subst e2_)
    | ((with_reducible refine Wp.call (hs (fun r => r = (g0, g1, g2, g3, g4)) rfl) ?_); rintro _ rfl; dsimp only; try rw [hne])
    | ((with_reducible refine Wp.call (hi (fun r => r = (g0, g1, g2, g3, g4)) rfl) ?_); rintro _ rfl; dsimp only; try rw [hne])
    | ((with_reducible refine Wp.call (w_eqImage _ _ _ _ _ _ _ _ hu) ?_); rintro _ rfl)
    | ((with_reducible refine Wp.call (w_eqImage _ _ _ _ _ _ _ _ hl) ?_); rintro _ rfl)
    | ((with_reducible refine Wp.call (w_eqIntSS L L hS) ?_); rintro _ rfl)
    | ((with_reducible refine Wp.call (w_markImage _ _ _ _ 1 hl (by omega) (by omega)) ?_); rintro _ rfl; dsimp only)
    | ((with_reducible refine Wp.call (w_markImage _ _ _ _ 1 hu (by omega) (by omega)) ?_); rintro _ rfl; dsimp only)
    | ((with_reducible refine Wp.call hmk ?_); rintro _ rfl; dsimp only)
    | ((with_reducible refine Wp.call (w_heldImage _ _ _ _ 1 hu (by omega) (by omega)) ?_); rintro _ rfl)
    | ((with_reducible refine Wp.pos ?c ?_); (case c => first | rfl | omega | (simp; done)))
    | ((with_reducible refine Wp.neg ?c ?_); (case c => first | omega | (simp; done)))
end Go.Proofs.Ytohbpilokmppbaa.Pure
