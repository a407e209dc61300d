/- Pure lemmas: what the printed functions answer, for every input; no Go, no memory, no condition but those that each lemma names. -/
import Derived.Test.YtohbpilokmppbaaVWords
import Derived.Test.YtohbpilokmppbaaK1
import Derived.Test.YtohbpilokmppbaaK2
import Derived.Test.YtohbpilokmppbaaK3
import Derived.Test.YtohbpilokmppbaaK4
import Derived.Test.YtohbpilokmppbaaK5
import Derived.Test.YtohbpilokmppbaaK6
import Derived.Test.YtohbpilokmppbaaK7
namespace Go.Proofs.Ytohbpilokmppbaa.Wp
open Go.RowKit Go.Proofs.YtohbpilokmppbaaW.PrintWords
set_option linter.unusedVariables false
def Wp {α : Type} (g : Nat → Option α) (P : α → Prop) : Prop := ∃ r, P r ∧ ∃ K, ∀ k, K ≤ k → g k = some r
theorem Wp.mono {α : Type} {g : Nat → Option α} {P Q : α → Prop} (h : Wp g P) (hi : ∀ a, P a → Q a) : Wp g Q := by
  obtain ⟨r, hp, K, hk⟩ := h
  exact ⟨r, hi r hp, K, hk⟩
theorem Wp.ret {α : Type} {P : α → Prop} {r : α} (h : P r) : Wp (fun _ => some r) P := ⟨r, h, 0, fun _ _ => rfl⟩
theorem Wp.bind {α β : Type} {g : Nat → Option α} {f : Nat → α → Option β} {P : β → Prop} (h : Wp g (fun a => Wp (fun k => f k a) P)) : Wp (fun k => (g k).bind (f k)) P := by
  obtain ⟨a, ⟨r, hp, K, hk⟩, K', hk'⟩ := h
  refine ⟨r, hp, max K K', fun k hkk => ?_⟩
  show (g k).bind (f k) = some r
  rw [hk' k (by omega)]
  exact hk k (by omega)
theorem Wp.call {α β : Type} {g : Nat → Option α} {f : Nat → α → Option β} {Q : α → Prop} {P : β → Prop} (h : Wp g Q) (hf : ∀ a, Q a → Wp (fun k => f k a) P) : Wp (fun k => (g k).bind (f k)) P :=
  Wp.bind (h.mono hf)
theorem Wp.ite {α : Type} {c : Prop} [Decidable c] {g h : Nat → Option α} {P : α → Prop} (h1 : c → Wp g P) (h2 : ¬ c → Wp h P) : Wp (fun k => if c then g k else h k) P := by
  by_cases hc : c
  · simpa only [if_pos hc] using h1 hc
  · simpa only [if_neg hc] using h2 hc
theorem Wp.pos {α : Type} {c : Prop} [Decidable c] {g h : Nat → Option α} {P : α → Prop} (hc : c) (h1 : Wp g P) : Wp (fun k => if c then g k else h k) P := Wp.ite (fun _ => h1) (fun h => absurd hc h)
theorem Wp.neg {α : Type} {c : Prop} [Decidable c] {g h : Nat → Option α} {P : α → Prop} (hc : ¬ c) (h1 : Wp h P) : Wp (fun k => if c then g k else h k) P := Wp.ite (fun h => absurd h hc) (fun _ => h1)
theorem Wp.step {α : Type} {g f : Nat → Option α} {P : α → Prop} (h : ∀ k, g (k + 1) = f k) (hf : Wp f P) : Wp g P := by
  obtain ⟨r, hp, K, hk⟩ := hf
  refine ⟨r, hp, K + 1, fun k hkk => ?_⟩
  obtain ⟨k, rfl⟩ : ∃ m, k = m + 1 := ⟨k - 1, by omega⟩
  rw [h k]
  exact hk k (by omega)
theorem Wp.of {α : Type} {g : Nat → Option α} {P : α → Prop} {r : α} (h : ∀ k, g k = some r) (hp : P r) : Wp g P := ⟨r, hp, 0, fun k _ => h k⟩
theorem Wp.rounds {α : Type} {g : Nat → Option α} {r : α} (h : Wp g (fun a => a = r)) : ∃ k, g k = some r := by
  obtain ⟨r', rfl, K, hk⟩ := h
  exact ⟨K, hk K (Nat.le_refl K)⟩
theorem w64 {x : Int} (h0 : -9223372036854775808 ≤ x) (h1 : x ≤ 9223372036854775807) : wrap64 x = x := by
  unfold wrap64
  omega
end Go.Proofs.Ytohbpilokmppbaa.Wp
namespace Go.Proofs.Ytohbpilokmppbaa.P
open Go.RowKit Go.Proofs.YtohbpilokmppbaaW.PrintWords Go.Proofs.YtohbpilokmppbaaW.PrintLast Go.Proofs.YtohbpilokmppbaaW.PrintMore Go.Proofs.Ytohbpilokmppbaa.Wp
set_option linter.unusedVariables false
set_option linter.unusedSimpArgs false
theorem bl_rd (l : List Int) (i : Nat) : rd l (i : Int) = l.getD i 0 := by simp [rd]
theorem bl_ext {x l : List Int} (hx : x.length = l.length) (h : ∀ j, j < l.length → x.getD j 0 = l.getD j 0) : x = l := by
  apply List.ext_getElem hx
  intro j h1 h2
  have := h j h2
  simpa [List.getD_eq_getElem?_getD, List.getElem?_eq_getElem h1, List.getElem?_eq_getElem h2] using this
theorem bl_set {x : List Int} {i : Nat} (v : Int) (j : Nat) (hi : i < x.length) : (x.set i v).getD j 0 = if j = i then v else x.getD j 0 := by
  simp only [List.getD_eq_getElem?_getD, List.getElem?_set]
  by_cases h : i = j
  · subst h; simp [hi]
  · simp [h, Ne.symm h, eq_comm]
theorem bl_map_range (f : Nat → Int) (n j : Nat) (hj : j < n) : ((List.range n).map f).getD j 0 = f j := by
  simp [List.getD_eq_getElem?_getD, hj]
theorem bl_all_drop (l : List Int) (p : Int → Bool) (i : Nat) (h : i < l.length) : (l.drop i).all p = (p (l.getD i 0) && (l.drop (i + 1)).all p) := by
  rw [List.drop_eq_getElem_cons h, List.all_cons]
  simp [List.getD_eq_getElem?_getD, List.getElem?_eq_getElem h]
def allB (l : List Int) : Bool := l.all fun n => decide (0 ≤ n ∧ n ≤ 255)
theorem allB_mem {l : List Int} (h : allB l = true) : ∀ x ∈ l, 0 ≤ x ∧ x ≤ 255 := fun x hx => of_decide_eq_true (List.all_eq_true.1 h x hx)
theorem w_inRange0 (a b c : Int) : Wp (fun _ => spec_inRange.f a b c) (fun r => r = decide (b ≤ a ∧ a ≤ c)) := by
  unfold spec_inRange.f
  refine Wp.ite (fun h => Wp.ret ?_) (fun h => Wp.ret ?_)
  · simp [h]
  · simp [h]
theorem w_allIn (l : List Int) (a b : Int) (hl : l.length ≤ 1000000000) : Wp (fun k => spec_allIn.f k l a b) (fun r => r = l.all fun n => decide (a ≤ n ∧ n ≤ b)) := by
  unfold spec_allIn.f
  have key : ∀ d (i : Nat), i + d = l.length → Wp (fun k => spec_allIn.l0 k l a b i) (fun r => r = (l.drop i).all fun n => decide (a ≤ n ∧ n ≤ b)) := by
    intro d
    induction d with
    | zero =>
      intro i hd
      refine Wp.step (fun k => spec_allIn.l0.eq_2 ..) (Wp.neg (by omega) (Wp.ret ?_))
      rw [List.drop_of_length_le (by omega)]
      rfl
    | succ d ih =>
      intro i hd
      refine Wp.step (fun k => spec_allIn.l0.eq_2 ..) (Wp.pos (by omega) (Wp.pos (by omega) ?_))
      refine Wp.call (w_inRange0 _ _ _) ?_
      rintro _ rfl
      rw [bl_all_drop l _ i (by omega), bl_rd]
      refine Wp.ite (fun h => ?_) (fun h => Wp.ret ?_)
      · rw [h, Bool.true_and, w64 (x := (i : Int) + 1) (by omega) (by omega)]
        exact ih (i + 1) (by omega)
      · rw [Bool.not_eq_true] at h
        rw [h, Bool.false_and]
  exact key l.length 0 (by omega)
theorem w_allB (l : List Int) (hl : l.length ≤ 1000000000) : Wp (fun k => spec_allIn.f k l 0 255) (fun r => r = allB l) := w_allIn l 0 255 hl
theorem w_areBytes (l : List Int) : Wp (fun _ => impl_areBytes.f l) (fun r => r = allB l) := by
  unfold impl_areBytes.f
  refine Wp.ret ?_
  unfold allB
  induction l with
  | nil => rfl
  | cons x l ih =>
    simp only [List.any_cons, List.all_cons, Bool.not_or, ← ih]
    congr 1
    by_cases h0 : x < 0 <;> by_cases h1 : 255 < x <;> simp [h0, h1] <;> omega
theorem w_toIntS (l : List Int) (hl : l.length ≤ 1000000000) : Wp (fun k => laws_toIntS.f k l) (fun r => r = l) := by
  unfold laws_toIntS.f
  refine Wp.pos (by omega) (Wp.pos (by omega) ?_)
  have key : ∀ d (i : Nat) (x : List Int), i + d = l.length → x.length = l.length → (∀ j, j < i → x.getD j 0 = l.getD j 0) → Wp (fun k => laws_toIntS.l0 k l x i) (fun r => r = l) := by
    intro d
    induction d with
    | zero =>
      intro i x hd hx h
      refine Wp.step (fun k => laws_toIntS.l0.eq_2 ..) (Wp.neg (by omega) (Wp.ret ?_))
      exact bl_ext hx fun j hj => h j (by omega)
    | succ d ih =>
      intro i x hd hx h
      refine Wp.step (fun k => laws_toIntS.l0.eq_2 ..) (Wp.pos (by omega) (Wp.pos (by omega) (Wp.pos (by omega) ?_)))
      rw [w64 (x := (i : Int) + 1) (by omega) (by omega), bl_rd, Int.toNat_natCast]
      refine ih (i + 1) _ (by omega) (by rw [List.length_set]; exact hx) fun j hj => ?_
      rw [bl_set _ _ (by omega)]
      split
      · rename_i e; rw [e]
      · exact h j (by omega)
  exact key l.length 0 _ (by omega) (by simp) (fun j hj => by omega)
theorem w_eqIntS (a b : List Int) (hl : a.length ≤ 1000000000) : Wp (fun k => laws_eqIntS.f k a b) (fun r => r = decide (a = b)) := by
  unfold laws_eqIntS.f
  refine Wp.ite (fun he => ?_) (fun he => Wp.ret ?_)
  · have key : ∀ d (i : Nat), i + d = a.length → (∀ j, j < i → a.getD j 0 = b.getD j 0) → Wp (fun k => laws_eqIntS.l0 k a b i) (fun r => r = decide (a = b)) := by
      intro d
      induction d with
      | zero =>
        intro i hd h
        refine Wp.step (fun k => laws_eqIntS.l0.eq_2 ..) (Wp.neg (by omega) (Wp.ret ?_))
        exact (decide_eq_true (bl_ext (by omega) fun j hj => h j (by omega))).symm
      | succ d ih =>
        intro i hd h
        refine Wp.step (fun k => laws_eqIntS.l0.eq_2 ..) (Wp.pos (by omega) (Wp.pos (by omega) (Wp.pos (by omega) ?_)))
        rw [bl_rd, bl_rd]
        refine Wp.ite (fun h1 => ?_) (fun h1 => Wp.ret ?_)
        · rw [w64 (x := (i : Int) + 1) (by omega) (by omega)]
          refine ih (i + 1) (by omega) fun j hj => ?_
          by_cases e : j = i
          · rw [e]; exact h1
          · exact h j (by omega)
        · exact (decide_eq_false fun e => h1 (by rw [e])).symm
    exact key a.length 0 (by omega) (fun j hj => by omega)
  · exact (decide_eq_false fun e => he (by rw [e])).symm
def marks (a : Int) (n : Nat) : List Int := (List.range n).map fun j : Nat => a + (j : Int)
theorem marks_length (a : Int) (n : Nat) : (marks a n).length = n := by simp [marks]
theorem marks_get (a : Int) (n j : Nat) (hj : j < n) : (marks a n).getD j 0 = a + j := bl_map_range _ n j hj
theorem w_markIntS (l : List Int) (a : Int) (hl : l.length ≤ 1000000000) (h0 : 0 ≤ a) (h1 : a ≤ 1000000000) : Wp (fun k => laws_markIntS.f k l a) (fun r => r = (a + l.length, marks a l.length)) := by
  unfold laws_markIntS.f
  have key : ∀ d (i : Nat) (x : List Int), i + d = l.length → x.length = l.length → (∀ j, j < i → x.getD j 0 = a + j) → Wp (fun k => laws_markIntS.l0 k x (a + i) i) (fun r => r = (a + l.length, marks a l.length)) := by
    intro d
    induction d with
    | zero =>
      intro i x hd hx h
      refine Wp.step (fun k => laws_markIntS.l0.eq_2 ..) (Wp.neg (by omega) (Wp.ret ?_))
      rw [show (i : Int) = l.length by omega]
      congr 1
      exact bl_ext (by rw [marks_length]; exact hx) fun j hj => by rw [marks_length] at hj; rw [marks_get _ _ _ hj]; exact h j (by omega)
    | succ d ih =>
      intro i x hd hx h
      refine Wp.step (fun k => laws_markIntS.l0.eq_2 ..) (Wp.pos (by omega) (Wp.pos (by omega) ?_))
      rw [w64 (x := (i : Int) + 1) (by omega) (by omega), w64 (x := a + (i : Int) + 1) (by omega) (by omega), Int.toNat_natCast]
      have := ih (i + 1) (x.set i (a + i)) (by omega) (by rw [List.length_set]; exact hx) fun j hj => by
        rw [bl_set _ _ (by omega)]
        split
        · rename_i e; rw [e]
        · exact h j (by omega)
      rw [show a + ((i + 1 : Nat) : Int) = a + (i : Int) + 1 by omega] at this
      exact this
  have := key l.length 0 l (by omega) rfl (fun j hj => by omega)
  simpa using this
theorem w_heldIntS (n : Nat) (a : Int) (hl : n ≤ 1000000000) (h0 : 0 ≤ a) (h1 : a ≤ 1000000000) : Wp (fun k => laws_heldIntS.f k (marks a n) a) (fun r => r = a + n) := by
  unfold laws_heldIntS.f
  have hlen : (marks a n).length = n := marks_length a n
  have key : ∀ d (i : Nat), i + d = n → Wp (fun k => laws_heldIntS.l0 k (marks a n) (a + i) i) (fun r => r = a + n) := by
    intro d
    induction d with
    | zero =>
      intro i hd
      refine Wp.step (fun k => laws_heldIntS.l0.eq_2 ..) (Wp.neg (by omega) (Wp.ret ?_))
      omega
    | succ d ih =>
      intro i hd
      refine Wp.step (fun k => laws_heldIntS.l0.eq_2 ..) (Wp.pos (by omega) (Wp.pos (by omega) ?_))
      rw [bl_rd, marks_get _ _ _ (by omega)]
      refine Wp.pos rfl ?_
      rw [w64 (x := (i : Int) + 1) (by omega) (by omega), w64 (x := a + (i : Int) + 1) (by omega) (by omega)]
      have := ih (i + 1) (by omega)
      rw [show a + ((i + 1 : Nat) : Int) = a + (i : Int) + 1 by omega] at this
      exact this
  have := key n 0 (by omega)
  simpa using this
end Go.Proofs.Ytohbpilokmppbaa.P
namespace Go.Proofs.Ytohbpilokmppbaa.P
open Go.RowKit Go.Proofs.YtohbpilokmppbaaW.PrintWords Go.Proofs.YtohbpilokmppbaaW.PrintLast Go.Proofs.YtohbpilokmppbaaW.PrintMore Go.Proofs.Ytohbpilokmppbaa.Wp
set_option linter.unusedVariables false
set_option linter.unusedSimpArgs false
def Small (l : List (List Int)) : Prop := l.length ≤ 1048576 ∧ ∀ y ∈ l, y.length ≤ 1048576
theorem ll_rd (l : List (List Int)) (i : Nat) : rd_L1 l (i : Int) = l.getD i [] := by simp [rd_L1]
theorem ll_mem (l : List (List Int)) (i : Nat) (h : i < l.length) : l.getD i [] ∈ l := by
  rw [List.getD_eq_getElem?_getD, List.getElem?_eq_getElem h]
  exact List.getElem_mem _
theorem ll_ext {x l : List (List Int)} (hx : x.length = l.length) (h : ∀ j, j < l.length → x.getD j [] = l.getD j []) : x = l := by
  apply List.ext_getElem hx
  intro j h1 h2
  have := h j h2
  simpa [List.getD_eq_getElem?_getD, List.getElem?_eq_getElem h1, List.getElem?_eq_getElem h2] using this
theorem ll_set {x : List (List Int)} {i : Nat} (v : List Int) (j : Nat) (hi : i < x.length) : (x.set i v).getD j [] = if j = i then v else x.getD j [] := by
  simp only [List.getD_eq_getElem?_getD, List.getElem?_set]
  by_cases h : i = j
  · subst h; simp [hi]
  · simp [h, Ne.symm h, eq_comm]
theorem w_toIntSS (l : List (List Int)) (hl : Small l) : Wp (fun k => laws_toIntSS.f k l) (fun r => r = l) := by
  obtain ⟨hl, hy⟩ := hl
  unfold laws_toIntSS.f
  refine Wp.pos (by omega) (Wp.pos (by omega) ?_)
  have key : ∀ d (i : Nat) (x : List (List Int)), i + d = l.length → x.length = l.length → (∀ j, j < i → x.getD j [] = l.getD j []) → Wp (fun k => laws_toIntSS.l0 k l x i) (fun r => r = l) := by
    intro d
    induction d with
    | zero =>
      intro i x hd hx h
      refine Wp.step (fun k => laws_toIntSS.l0.eq_2 ..) (Wp.neg (by omega) (Wp.ret ?_))
      exact ll_ext hx fun j hj => h j (by omega)
    | succ d ih =>
      intro i x hd hx h
      refine Wp.step (fun k => laws_toIntSS.l0.eq_2 ..) (Wp.pos (by omega) (Wp.pos (by omega) ?_))
      rw [ll_rd]
      refine Wp.call (w_toIntS _ (Nat.le_trans (hy _ (ll_mem l i (by omega))) (by omega))) ?_
      rintro _ rfl
      refine Wp.pos (by omega) ?_
      rw [w64 (x := (i : Int) + 1) (by omega) (by omega), Int.toNat_natCast]
      refine ih (i + 1) _ (by omega) (by rw [List.length_set]; exact hx) fun j hj => ?_
      rw [ll_set _ _ (by omega)]
      split
      · rename_i e; rw [e]
      · exact h j (by omega)
  exact key l.length 0 _ (by omega) (by simp) (fun j hj => by omega)
theorem w_eqIntSS (a b : List (List Int)) (hl : Small a) : Wp (fun k => laws_eqIntSS.f k a b) (fun r => r = decide (a = b)) := by
  obtain ⟨hl, hy⟩ := hl
  unfold laws_eqIntSS.f
  refine Wp.ite (fun he => ?_) (fun he => Wp.ret ?_)
  · have key : ∀ d (i : Nat), i + d = a.length → (∀ j, j < i → a.getD j [] = b.getD j []) → Wp (fun k => laws_eqIntSS.l0 k a b i) (fun r => r = decide (a = b)) := by
      intro d
      induction d with
      | zero =>
        intro i hd h
        refine Wp.step (fun k => laws_eqIntSS.l0.eq_2 ..) (Wp.neg (by omega) (Wp.ret ?_))
        exact (decide_eq_true (ll_ext (by omega) fun j hj => h j (by omega))).symm
      | succ d ih =>
        intro i hd h
        refine Wp.step (fun k => laws_eqIntSS.l0.eq_2 ..) (Wp.pos (by omega) (Wp.pos (by omega) (Wp.pos (by omega) ?_)))
        rw [ll_rd, ll_rd]
        refine Wp.call (w_eqIntS _ _ (Nat.le_trans (hy _ (ll_mem a i (by omega))) (by omega))) ?_
        rintro _ rfl
        refine Wp.ite (fun h1 => ?_) (fun h1 => Wp.ret ?_)
        · rw [w64 (x := (i : Int) + 1) (by omega) (by omega)]
          refine ih (i + 1) (by omega) fun j hj => ?_
          by_cases e : j = i
          · rw [e]; exact of_decide_eq_true h1
          · exact h j (by omega)
        · exact (decide_eq_false fun e => h1 (decide_eq_true (by rw [e]))).symm
    exact key a.length 0 (by omega) (fun j hj => by omega)
  · exact (decide_eq_false fun e => he (by rw [e])).symm
end Go.Proofs.Ytohbpilokmppbaa.P
namespace Go.Proofs.Ytohbpilokmppbaa.P
open Go.RowKit Go.Proofs.YtohbpilokmppbaaW.PrintWords Go.Proofs.YtohbpilokmppbaaW.PrintLast Go.Proofs.YtohbpilokmppbaaW.PrintMore Go.Proofs.Ytohbpilokmppbaa.Wp
set_option linter.unusedVariables false
set_option linter.unusedSimpArgs false
def PalOk (l : List (List Int)) (p : Nat) : Prop := l.length ≤ 16 ∧ ∀ c ∈ l, c.length = p ∧ ∀ v ∈ c, 0 ≤ v ∧ v ≤ 255
def palB (l : List (List Int)) (p : Int) : Bool := decide (l.length ≤ 16) && l.all fun c => decide ((c.length : Int) = p) && allB c
theorem palB_ok {l : List (List Int)} {p : Nat} (h : palB l p = true) : PalOk l p := by
  unfold palB at h
  rw [Bool.and_eq_true, decide_eq_true_eq, List.all_eq_true] at h
  refine ⟨h.1, fun c hc => ?_⟩
  have := h.2 c hc
  rw [Bool.and_eq_true, decide_eq_true_eq] at this
  exact ⟨by omega, allB_mem this.2⟩
theorem w_validColors (l : List (List Int)) (p : Int) (hl : Small l) : Wp (fun k => spec_validColors.f k l p) (fun r => r = palB l p) := by
  obtain ⟨hl, hy⟩ := hl
  unfold spec_validColors.f palB
  have key : ∀ (d i : Nat), i + d = l.length → (∀ j, j < i → (decide (((l.getD j []).length : Int) = p) && allB (l.getD j [])) = true) → Wp (fun k => spec_validColors.l0 k l p i) (fun r => r = (decide (l.length ≤ 16) && l.all fun c => decide ((c.length : Int) = p) && allB c)) := by
    intro d
    induction d with
    | zero =>
      intro i hi hj
      refine Wp.step (fun k => spec_validColors.l0.eq_2 ..) (Wp.neg (by omega) (Wp.ret ?_))
      have : (l.all fun c => decide ((c.length : Int) = p) && allB c) = true := List.all_eq_true.2 fun c hc => by
        obtain ⟨j, hj2, rfl⟩ := List.getElem_of_mem hc
        have := hj j (by omega)
        simpa [List.getD_eq_getElem?_getD, List.getElem?_eq_getElem hj2] using this
      rw [this, Bool.and_true, Bool.eq_iff_iff, decide_eq_true_eq, decide_eq_true_eq]
      omega
    | succ d ih =>
      intro i hi hj
      have no : ¬ (decide (((l.getD i []).length : Int) = p) && allB (l.getD i [])) = true → (decide (l.length ≤ 16) && l.all fun c => decide ((c.length : Int) = p) && allB c) = false := fun h => by
        have : (l.all fun c => decide ((c.length : Int) = p) && allB c) = false := by
          rw [List.all_eq_false]
          exact ⟨_, ll_mem l i (by omega), h⟩
        rw [this, Bool.and_false]
      refine Wp.step (fun k => spec_validColors.l0.eq_2 ..) (Wp.pos (by omega) (Wp.pos (by omega) ?_))
      rw [ll_rd]
      refine Wp.ite (fun h1 => ?_) (fun h1 => Wp.ret (no (by rw [decide_eq_false h1]; simp)).symm)
      refine Wp.call (w_allB _ (Nat.le_trans (hy _ (ll_mem l i (by omega))) (by omega))) ?_
      rintro _ rfl
      refine Wp.ite (fun h2 => ?_) (fun h2 => Wp.ret (no (by rw [decide_eq_true h1, Bool.true_and]; exact h2)).symm)
      rw [w64 (x := (i : Int) + 1) (by omega) (by omega)]
      refine ih (i + 1) (by omega) fun j hj2 => ?_
      by_cases e : j = i
      · rw [e, decide_eq_true h1, h2]; rfl
      · exact hj j (by omega)
  exact key l.length 0 (by omega) (fun j hj => by omega)
theorem bad_not (p : Int) (c : List Int) : (badColor p c = false) ↔ (decide ((c.length : Int) = p) && allB c) = true := by
  have hb : (c.any fun n => decide (n < 0) || decide (255 < n)) = !allB c := by
    obtain ⟨r, hr, K, hK⟩ := w_areBytes c
    have h := hK K (Nat.le_refl K)
    unfold impl_areBytes.f at h
    simp only [Option.some.injEq] at h
    rw [hr] at h
    rw [← h, Bool.not_not]
  unfold badColor
  rw [hb]
  by_cases h : (c.length : Int) = p
  · rw [decide_eq_true h, Bool.true_and, bne_eq_false_iff_eq.2 h, Bool.false_or, Bool.not_eq_false']
  · rw [decide_eq_false h, Bool.false_and, bne_iff_ne.2 h, Bool.true_or]
    simp
theorem w_isPalette (l : List (List Int)) (p : Int) : Wp (fun _ => impl_isPalette.f l p) (fun r => r = (decide (1 ≤ l.length ∧ 1 ≤ p ∧ p ≤ 4) && palB l p)) := by
  unfold impl_isPalette.f
  refine Wp.ret ?_
  unfold palB
  have e : (!l.any (badColor p)) = l.all fun c => decide ((c.length : Int) = p) && allB c := by
    rw [Bool.eq_iff_iff, Bool.not_eq_true', List.any_eq_false, List.all_eq_true]
    exact ⟨fun h c hc => (bad_not p c).1 (by simpa using h c hc), fun h c hc => by rw [(bad_not p c).2 (h c hc)]; decide⟩
  rw [e]
  by_cases h1 : (l.length : Int) < 1
  · rw [if_pos h1, decide_eq_false (by omega)]; rfl
  rw [if_neg h1]
  by_cases h2 : 16 < (l.length : Int)
  · rw [if_pos h2, decide_eq_false (p := l.length ≤ 16) (by omega), Bool.false_and, Bool.and_false]
  rw [if_neg h2, decide_eq_true (p := l.length ≤ 16) (by omega), Bool.true_and]
  by_cases h3 : p < 1
  · rw [if_pos h3, decide_eq_false (by omega)]; rfl
  rw [if_neg h3]
  by_cases h4 : 4 < p
  · rw [if_pos h4, decide_eq_false (by omega)]; rfl
  rw [if_neg h4, decide_eq_true (by omega), Bool.true_and]
end Go.Proofs.Ytohbpilokmppbaa.P
namespace Go.Proofs.Ytohbpilokmppbaa.P
open Go.RowKit Go.Proofs.YtohbpilokmppbaaW.PrintWords Go.Proofs.YtohbpilokmppbaaW.PrintLast Go.Proofs.YtohbpilokmppbaaW.PrintMore Go.Proofs.Ytohbpilokmppbaa.Wp
set_option linter.unusedVariables false
set_option linter.unusedSimpArgs false
def RowsOk (m : Nat) (rows : List (List Int)) : Prop := ∀ x ∈ rows, x.length = m ∧ ∀ v ∈ x, 0 ≤ v ∧ v ≤ 255
theorem row_B {m : Nat} {rows : List (List Int)} (h : RowsOk m rows) (j q : Nat) (hj : j < rows.length) (hq : q < m) : 0 ≤ rd (rows.getD j []) (q : Int) ∧ rd (rows.getD j []) (q : Int) ≤ 255 := by
  have hx := h _ (ll_mem rows j hj)
  refine hx.2 _ ?_
  unfold rd
  generalize rows.getD j [] = x at hx ⊢
  rw [Int.toNat_natCast, List.getD_eq_getElem?_getD, List.getElem?_eq_getElem (by omega)]
  exact List.getElem_mem _
theorem row_len {m : Nat} {rows : List (List Int)} (h : RowsOk m rows) (j : Nat) (hj : j < rows.length) : (rows.getD j []).length = m := (h _ (ll_mem rows j hj)).1
def loQ (rows : List (List Int)) (q : Nat) : Nat → Int
  | 0 => 255
  | j + 1 => mn (loQ rows q j) (rd (rows.getD j []) (q : Int))
def hiQ (rows : List (List Int)) (q : Nat) : Nat → Int
  | 0 => 0
  | j + 1 => mx (hiQ rows q j) (rd (rows.getD j []) (q : Int))
def rng (rows : List (List Int)) (q : Nat) : Int := hiQ rows q rows.length - loQ rows q rows.length
theorem lohi_B {m : Nat} {rows : List (List Int)} (h : RowsOk m rows) (q : Nat) (hq : q < m) : ∀ j, j ≤ rows.length → 0 ≤ loQ rows q j ∧ loQ rows q j ≤ 255 ∧ 0 ≤ hiQ rows q j ∧ hiQ rows q j ≤ 255
  | 0, _ => ⟨by show (0 : Int) ≤ 255; omega, by show (255 : Int) ≤ 255; omega, by show (0 : Int) ≤ 0; omega, by show (0 : Int) ≤ 255; omega⟩
  | j + 1, hj => by
    have ih := lohi_B h q hq j (by omega)
    have hb := row_B h j q (by omega) hq
    unfold loQ hiQ mn mx
    (repeat' split) <;> omega
theorem rng_B {m : Nat} {rows : List (List Int)} (h : RowsOk m rows) (q : Nat) (hq : q < m) : -255 ≤ rng rows q ∧ rng rows q ≤ 255 := by
  have := lohi_B h q hq rows.length (Nat.le_refl _)
  unfold rng
  omega
def bst (rows : List (List Int)) : Nat → Int × Int
  | 0 => (0, -1)
  | q + 1 => if rng rows q > (bst rows q).2 then ((q : Int), rng rows q) else bst rows q
theorem bst_B {m : Nat} {rows : List (List Int)} (h : RowsOk m rows) : ∀ q, q ≤ m → -1 ≤ (bst rows q).2 ∧ (bst rows q).2 ≤ 255 ∧ 0 ≤ (bst rows q).1 ∧ ((bst rows q).2 ≠ -1 → (bst rows q).1 < q)
  | 0, _ => ⟨by show (-1 : Int) ≤ -1; omega, by show (-1 : Int) ≤ 255; omega, by show (0 : Int) ≤ 0; omega, fun h => absurd rfl h⟩
  | q + 1, hq => by
    have ih := bst_B h q (by omega)
    have hr := rng_B h q (by omega)
    unfold bst
    split
    · simp only
      omega
    · omega
theorem w_rangeOf (m : Nat) (rows : List (List Int)) (h : RowsOk m rows) (q : Nat) (hq : q < m) (hl : rows.length ≤ 1000) : Wp (fun k => impl_rangeOf.f k rows (q : Int)) (fun r => r = rng rows q) := by
  unfold impl_rangeOf.f
  have key : ∀ d (j : Nat), j + d = rows.length → Wp (fun k => impl_rangeOf.l0 k (q : Int) (loQ rows q j) (hiQ rows q j) rows (rows.length : Int) j) (fun r => r = rng rows q) := by
    intro d
    induction d with
    | zero =>
      intro j hd
      refine Wp.step (fun k => impl_rangeOf.l0.eq_2 ..) (Wp.neg (by omega) (Wp.ret ?_))
      have e : j = rows.length := by omega
      subst e
      have := lohi_B h q hq rows.length (Nat.le_refl _)
      rw [w64 (by omega) (by omega)]
      rfl
    | succ d ih =>
      intro j hd
      refine Wp.step (fun k => impl_rangeOf.l0.eq_2 ..) (Wp.pos (by omega) (Wp.pos (by omega) (Wp.pos (by omega) (Wp.pos (by omega) ?_))))
      rw [ll_rd]
      refine Wp.pos (by rw [row_len h j (by omega)]; omega) ?_
      rw [w64 (x := (j : Int) + 1) (by omega) (by omega)]
      exact ih (j + 1) (by omega)
  exact key rows.length 0 (by omega)
theorem w_spread (m : Nat) (rows : List (List Int)) (h : RowsOk m rows) (hm : m ≤ 4) (h1 : 0 < rows.length) (hl : rows.length ≤ 1000) : Wp (fun k => spec_spread.f k rows) (fun r => r = bst rows m) := by
  unfold spec_spread.f
  have h0 : (rows.getD 0 []).length = m := row_len h 0 h1
  have inner : ∀ (q : Nat), q < m → Wp (fun k => spec_spread.l0 k rows (bst rows (q + 1)).1 (bst rows (q + 1)).2 ((q : Int) + 1)) (fun r => r = bst rows m) → ∀ d (j : Nat), j + d = rows.length → Wp (fun k => spec_spread.l1 k rows (bst rows q).1 (bst rows q).2 q (loQ rows q j) (hiQ rows q j) j) (fun r => r = bst rows m) := by
    intro q hq next d
    induction d with
    | zero =>
      intro j hd
      have e : j = rows.length := by omega
      subst e
      have hb := lohi_B h q hq rows.length (Nat.le_refl _)
      have e2 : wrap64 (hiQ rows q rows.length - loQ rows q rows.length) = rng rows q := w64 (by omega) (by omega)
      refine Wp.step (fun k => spec_spread.l1.eq_2 ..) (Wp.neg (by omega) ?_)
      rw [e2, w64 (x := (q : Int) + 1) (by omega) (by omega)]
      refine Wp.ite (fun hc => ?_) (fun hc => ?_)
      · rw [bst, if_pos hc] at next
        exact next
      · rw [bst, if_neg hc] at next
        exact next
    | succ d ih =>
      intro j hd
      refine Wp.step (fun k => spec_spread.l1.eq_2 ..) (Wp.pos (by omega) (Wp.pos (by omega) (Wp.pos (by omega) ?_)))
      rw [ll_rd]
      refine Wp.pos (by rw [row_len h j (by omega)]; omega) ?_
      rw [w64 (x := (j : Int) + 1) (by omega) (by omega)]
      exact ih (j + 1) (by omega)
  have key : ∀ d (q : Nat), q + d = m → Wp (fun k => spec_spread.l0 k rows (bst rows q).1 (bst rows q).2 q) (fun r => r = bst rows m) := by
    intro d
    induction d with
    | zero =>
      intro q hd
      have e : q = m := by omega
      subst e
      refine Wp.step (fun k => spec_spread.l0.eq_2 ..) (Wp.pos (by omega) (Wp.neg ?_ (Wp.ret rfl)))
      have e2 : rd_L1 rows 0 = rows.getD 0 [] := ll_rd rows 0
      rw [e2, h0]
      omega
    | succ d ih =>
      intro q hd
      refine Wp.step (fun k => spec_spread.l0.eq_2 ..) (Wp.pos (by omega) (Wp.pos ?_ ?_))
      · have e2 : rd_L1 rows 0 = rows.getD 0 [] := ll_rd rows 0
        rw [e2, h0]
        omega
      · have hn := ih (q + 1) (by omega)
        exact inner q (by omega) hn rows.length 0 (by omega)
  exact key m 0 (by omega)
theorem w_redC (m : Nat) (rows : List (List Int)) (h : RowsOk m rows) (hl : rows.length ≤ 1000) (i : Nat) (s : Int × Int × Int) (hs : 0 ≤ s.2.2) : ∀ q, q ≤ m → Wp (fun k => redC k rows i s q) (fun t => t = if (bst rows q).2 > s.2.2 then ((i : Int), (bst rows q).1, (bst rows q).2) else s)
  | 0, _ => by
    unfold redC
    refine Wp.ret ?_
    rw [if_neg]
    show ¬ (-1 : Int) > s.2.2
    omega
  | q + 1, hq => by
    unfold redC
    refine Wp.call (w_redC m rows h hl i s hs q (by omega)) ?_
    rintro _ rfl
    refine Wp.call (w_rangeOf m rows h q (by omega) hl) ?_
    rintro _ rfl
    by_cases h1 : (bst rows q).2 > s.2.2
    · rw [if_pos h1]
      refine Wp.ite (fun h2 => Wp.ret ?_) (fun h2 => Wp.ret ?_)
      · simp only at h2
        simp only [bst, if_pos h2, if_pos (show rng rows q > s.2.2 by omega)]
      · simp only at h2
        simp only [bst, if_neg h2, if_pos h1]
    · rw [if_neg h1]
      refine Wp.ite (fun h2 => Wp.ret ?_) (fun h2 => Wp.ret ?_)
      · by_cases h3 : rng rows q > (bst rows q).2
        · simp only [bst, if_pos h3, if_pos h2]
        · exact absurd h2 (by omega)
      · by_cases h3 : rng rows q > (bst rows q).2
        · simp only [bst, if_pos h3, if_neg h2]
        · simp only [bst, if_neg h3, if_neg h1]
end Go.Proofs.Ytohbpilokmppbaa.P
namespace Go.Proofs.Ytohbpilokmppbaa.P
open Go.RowKit Go.Proofs.YtohbpilokmppbaaW.PrintWords Go.Proofs.YtohbpilokmppbaaW.PrintLast Go.Proofs.YtohbpilokmppbaaW.PrintMore Go.Proofs.Ytohbpilokmppbaa.Wp
set_option linter.unusedVariables false
set_option linter.unusedSimpArgs false
def insL (q : Nat) : Nat → List (List Int) → List (List Int)
  | 0, X => X
  | j + 1, X => if rd (X.getD (j + 1) []) (q : Int) < rd (X.getD j []) (q : Int) then insL q j ((X.set (j + 1) (X.getD j [])).set j (X.getD (j + 1) [])) else X
def outL (q : Nat) : Nat → Nat → List (List Int) → List (List Int)
  | 0, _, X => X
  | d + 1, i, X => outL q d (i + 1) (insL q i X)
theorem swp_perm (X : List (List Int)) (i j : Nat) (hi : i < X.length) (hj : j < X.length) : ((X.set i (X.getD j [])).set j (X.getD i [])).Perm X := by
  rw [List.getD_eq_getElem?_getD, List.getD_eq_getElem?_getD, List.getElem?_eq_getElem hi, List.getElem?_eq_getElem hj]
  exact List.set_set_perm hi hj
theorem insL_perm (q : Nat) : ∀ (j : Nat) (X : List (List Int)), j < X.length → (insL q j X).Perm X
  | 0, X, _ => List.Perm.refl _
  | j + 1, X, hj => by
    unfold insL
    split
    · refine (insL_perm q j _ ?_).trans (swp_perm X (j + 1) j hj (by omega))
      rw [List.length_set, List.length_set]
      omega
    · exact List.Perm.refl _
theorem outL_perm (q : Nat) : ∀ (d i : Nat) (X : List (List Int)), i + d ≤ X.length → (outL q d i X).Perm X
  | 0, _, X, _ => List.Perm.refl _
  | d + 1, i, X, h => by
    have h1 := insL_perm q i X (by omega)
    exact (outL_perm q d (i + 1) (insL q i X) (by rw [h1.length_eq]; omega)).trans h1
theorem rows_perm {m : Nat} {X Y : List (List Int)} (h : RowsOk m X) (hp : Y.Perm X) : RowsOk m Y := fun x hx => h x (hp.mem_iff.1 hx)
theorem rowLt_B {m : Nat} {X : List (List Int)} (h : RowsOk m X) (q i j : Nat) (hq : q < m) (hi : i < X.length) (hj : j < X.length) : rowLt (q : Int) (X.getD i []) (X.getD j []) = decide (rd (X.getD i []) (q : Int) < rd (X.getD j []) (q : Int)) := by
  have h1 := row_B h i q hi hq
  have h2 := row_B h j q hj hq
  unfold rowLt
  rw [w64 (by omega) (by omega)]
  by_cases e : rd (X.getD i []) (q : Int) < rd (X.getD j []) (q : Int)
  · rw [decide_eq_true e, decide_eq_true (by omega)]
  · rw [decide_eq_false e, decide_eq_false (by omega)]
theorem arr_at (X : List (List Int)) (i : Nat) (h : i < X.length) : X.toArray[i]! = X.getD i [] := by
  rw [getElem!_pos _ i (by simpa using h), List.getD_eq_getElem?_getD, List.getElem?_eq_getElem h]
  rfl
theorem ins_eq {m : Nat} (q : Nat) (hq : q < m) : ∀ (j : Nat) (X : List (List Int)), RowsOk m X → j < X.length → (Go.Sort.insInner (rowLt (q : Int)) 0 j X.toArray) = (insL q j X).toArray
  | 0, X, _, _ => rfl
  | j + 1, X, h, hj => by
    unfold Go.Sort.insInner insL
    rw [arr_at X (j + 1) hj, arr_at X j (by omega), rowLt_B h q (j + 1) j hq hj (by omega)]
    by_cases e : rd (X.getD (j + 1) []) (q : Int) < rd (X.getD j []) (q : Int)
    · have e2 : Go.Sort.swp X.toArray (j + 1) j = ((X.set (j + 1) (X.getD j [])).set j (X.getD (j + 1) [])).toArray := by
        unfold Go.Sort.swp
        rw [arr_at X (j + 1) hj, arr_at X j (by omega), List.setIfInBounds_toArray, List.setIfInBounds_toArray]
      rw [if_pos e, if_pos (by rw [decide_eq_true e]; simp), e2]
      refine ins_eq q hq j _ (rows_perm h (swp_perm X (j + 1) j hj (by omega))) ?_
      rw [List.length_set, List.length_set]
      omega
    · rw [if_neg e, if_neg (by rw [decide_eq_false e]; simp)]
theorem out_eq {m : Nat} (q : Nat) (hq : q < m) (n : Nat) : ∀ (d i : Nat) (X : List (List Int)), RowsOk m X → X.length = n → i + d = n → Go.Sort.insOuter (rowLt (q : Int)) 0 n i X.toArray = (outL q d i X).toArray
  | 0, i, X, _, _, hd => by
    rw [Go.Proofs.insOuter_stop _ _ _ _ _ (by omega)]
    rfl
  | d + 1, i, X, h, hn, hd => by
    have h1 := insL_perm q i X (by omega)
    rw [Go.Proofs.insOuter_go _ _ _ _ _ (by omega), ins_eq q hq i X h (by omega)]
    exact out_eq q hq n d (i + 1) (insL q i X) (rows_perm h h1) (by rw [h1.length_eq]; exact hn) (by omega)
theorem srt_eq {m : Nat} (q : Nat) (hq : q < m) (X : List (List Int)) (h : RowsOk m X) (h1 : 0 < X.length) : srt (q : Int) X = outL q (X.length - 1) 1 X := by
  unfold srt Go.Sort.insertionSort
  rw [out_eq q hq X.length (X.length - 1) 1 X h rfl (by omega)]
theorem srt_perm {m : Nat} (q : Nat) (hq : q < m) (X : List (List Int)) (h : RowsOk m X) (h1 : 0 < X.length) : (srt (q : Int) X).Perm X := by
  rw [srt_eq q hq X h h1]
  exact outL_perm q _ _ _ (by omega)
theorem w_ordered (m : Nat) (X : List (List Int)) (h : RowsOk m X) (q : Nat) (hq : q < m) (h1 : 0 < X.length) (hl : X.length ≤ 1000) : Wp (fun k => spec_ordered.f k X (q : Int)) (fun r => r = srt (q : Int) X) := by
  rw [srt_eq q hq X h h1]
  have inner : ∀ (Y : List (List Int)) (i : Nat) (Q : List (List Int) → Prop) (j : Nat) (Z : List (List Int)), RowsOk m Z → Z.length ≤ 1000 → i < Z.length → j < Z.length → insL q j Z = Y → Wp (fun k => spec_ordered.l0 k (q : Int) Y ((i : Int) + 1)) Q → Wp (fun k => spec_ordered.l1 k (q : Int) Z i j) Q := by
    intro Y i Q j
    induction j with
    | zero =>
      intro Z hZ hl hi hj e next
      refine Wp.step (fun k => spec_ordered.l1.eq_2 ..) (Wp.neg (by omega) ?_)
      rw [w64 (x := (i : Int) + 1) (by omega) (by omega)]
      rw [show Z = Y from e]
      exact next
    | succ j ih =>
      intro Z hZ hl hi hj e next
      have ej : wrap64 (((j + 1 : Nat) : Int) - 1) = (j : Int) := by rw [w64 (by omega) (by omega)]; omega
      refine Wp.step (fun k => spec_ordered.l1.eq_2 ..) (Wp.pos (by omega) (Wp.pos (by omega) (Wp.pos (by omega) (Wp.pos (by omega) ?_))))
      rw [ej, ll_rd, ll_rd]
      refine Wp.pos (by rw [row_len hZ (j + 1) hj]; omega) (Wp.pos (by omega) (Wp.pos (by omega) (Wp.pos (by rw [row_len hZ j (by omega)]; omega) ?_)))
      rw [Int.toNat_natCast, Int.toNat_natCast]
      unfold insL at e
      refine Wp.ite (fun hc => ?_) (fun hc => ?_)
      · rw [if_pos hc] at e
        have hp := swp_perm Z (j + 1) j hj (by omega)
        exact ih _ (rows_perm hZ hp) (by rw [hp.length_eq]; exact hl) (by rw [hp.length_eq]; exact hi) (by rw [hp.length_eq]; omega) e next
      · rw [if_neg hc] at e
        rw [w64 (x := (i : Int) + 1) (by omega) (by omega), e]
        exact next
  have key : ∀ (d i : Nat) (Z : List (List Int)), RowsOk m Z → Z.length ≤ 1000 → i + d = Z.length → Wp (fun k => spec_ordered.l0 k (q : Int) Z i) (fun r => r = outL q d i Z) := by
    intro d
    induction d with
    | zero =>
      intro i Z hZ hl hd
      exact Wp.step (fun k => spec_ordered.l0.eq_2 ..) (Wp.neg (by omega) (Wp.ret rfl))
    | succ d ih =>
      intro i Z hZ hl hd
      have hp := insL_perm q i Z (by omega)
      refine Wp.step (fun k => spec_ordered.l0.eq_2 ..) (Wp.pos (by omega) ?_)
      refine inner (insL q i Z) i _ i Z hZ hl (by omega) (by omega) rfl ?_
      exact ih (i + 1) (insL q i Z) (rows_perm hZ hp) (by rw [hp.length_eq]; exact hl) (by rw [hp.length_eq]; omega)
  unfold spec_ordered.f
  refine Wp.call (Wp.ret (P := fun y => y = []) rfl) ?_
  rintro _ rfl
  refine Wp.pos (by rw [List.length_nil]; omega) ?_
  rw [List.nil_append]
  exact key (X.length - 1) 1 X h hl (by omega)
end Go.Proofs.Ytohbpilokmppbaa.P
namespace Go.Proofs.Ytohbpilokmppbaa.P
open Go.RowKit Go.Proofs.YtohbpilokmppbaaW.PrintWords Go.Proofs.YtohbpilokmppbaaW.PrintLast Go.Proofs.YtohbpilokmppbaaW.PrintMore Go.Proofs.Ytohbpilokmppbaa.Wp
set_option linter.unusedVariables false
set_option linter.unusedSimpArgs false
def wdT (m : Nat) (ps : List (List (List Int))) : Nat → Int × Int
  | 0 => (-1, 0)
  | i + 1 => if (bst (ps.getD i []) m).2 > (wdT m ps i).2 then ((i : Int), (bst (ps.getD i []) m).2) else wdT m ps i
def cutT (ps : List (List (List Int))) (b q : Nat) : List (List (List Int)) := ps.set b ((srt (q : Int) (ps.getD b [])).take ((ps.getD b []).length / 2)) ++ [(srt (q : Int) (ps.getD b [])).drop ((ps.getD b []).length / 2)]
def oneT (m : Nat) (ps : List (List (List Int))) : Option (List (List (List Int))) := if (wdT m ps ps.length).1 < 0 then none else some (cutT ps (wdT m ps ps.length).1.toNat (bst (ps.getD (wdT m ps ps.length).1.toNat []) m).1.toNat)
def goT (m : Nat) (n : Int) : Nat → List (List (List Int)) → List (List (List Int))
  | 0, ps => ps
  | j + 1, ps => if (ps.length : Int) < n then (match oneT m ps with | none => ps | some q => goT m n j q) else ps
def PsOk (m : Nat) (l : List (List Int)) (ps : List (List (List Int))) : Prop := RowsOk m l ∧ l.length ≤ 16 ∧ ps.flatten.Perm l ∧ ∀ p ∈ ps, 0 < p.length
theorem ps_mem (ps : List (List (List Int))) (i : Nat) (h : i < ps.length) : ps.getD i [] ∈ ps := by
  rw [List.getD_eq_getElem?_getD, List.getElem?_eq_getElem h]
  exact List.getElem_mem _
theorem flat_len : ∀ (ps : List (List (List Int))) (p : List (List Int)), p ∈ ps → p.length ≤ ps.flatten.length
  | [], p, h => by simp at h
  | x :: ps, p, h => by
    rw [List.flatten_cons, List.length_append]
    rcases List.mem_cons.1 h with rfl | h
    · omega
    · have := flat_len ps p h
      omega
theorem flat_few : ∀ (ps : List (List (List Int))), (∀ p ∈ ps, 0 < p.length) → ps.length ≤ ps.flatten.length
  | [], _ => Nat.le_refl _
  | x :: ps, h => by
    rw [List.flatten_cons, List.length_append, List.length_cons]
    have := flat_few ps (fun p hp => h p (List.mem_cons_of_mem _ hp))
    have := h x List.mem_cons_self
    omega
theorem ps_part {m : Nat} {l : List (List Int)} {ps : List (List (List Int))} (h : PsOk m l ps) {p : List (List Int)} (hp : p ∈ ps) : RowsOk m p ∧ 0 < p.length ∧ p.length ≤ 16 := by
  obtain ⟨h1, h2, h3, h4⟩ := h
  refine ⟨fun x hx => h1 x (h3.mem_iff.1 (List.mem_flatten.2 ⟨p, hp, hx⟩)), h4 p hp, ?_⟩
  have := flat_len ps p hp
  rw [h3.length_eq] at this
  omega
theorem ps_few {m : Nat} {l : List (List Int)} {ps : List (List (List Int))} (h : PsOk m l ps) : ps.length ≤ 16 ∧ ps.length ≤ l.length := by
  have := flat_few ps h.2.2.2
  rw [h.2.2.1.length_eq] at this
  have := h.2.1
  omega
theorem flat_set (u v : List (List Int)) : ∀ (ps : List (List (List Int))) (b : Nat), b < ps.length → (u ++ v).Perm (ps.getD b []) → (ps.set b u ++ [v]).flatten.Perm ps.flatten
  | [], b, h, _ => by simp at h
  | p :: ps, 0, _, h => by
    have h' : (u ++ v).Perm p := h
    show ((u :: ps) ++ [v]).flatten.Perm (p :: ps).flatten
    rw [List.cons_append, List.flatten_cons, List.flatten_append, List.flatten_cons, List.flatten_cons, List.flatten_nil, List.append_nil]
    refine (List.Perm.append_left u (List.perm_append_comm (l₁ := ps.flatten) (l₂ := v))).trans ?_
    rw [← List.append_assoc]
    exact List.Perm.append_right _ h'
  | p :: ps, b + 1, hb, h => by
    have h' : (u ++ v).Perm (ps.getD b []) := h
    show ((p :: ps.set b u) ++ [v]).flatten.Perm (p :: ps).flatten
    rw [List.cons_append, List.flatten_cons, List.flatten_cons]
    exact List.Perm.append_left p (flat_set u v ps b (by simpa using hb) h')
theorem rng_one {m : Nat} {rows : List (List Int)} (h : RowsOk m rows) (q : Nat) (hq : q < m) (h1 : rows.length = 1) : rng rows q = 0 := by
  have hb := row_B h 0 q (by omega) hq
  unfold rng
  rw [h1]
  simp only [hiQ, loQ, mx, mn]
  (repeat' split) <;> omega
theorem bst_one {m : Nat} {rows : List (List Int)} (h : RowsOk m rows) (h1 : rows.length = 1) : ∀ q, q ≤ m → (bst rows q).2 ≤ 0
  | 0, _ => by show (-1 : Int) ≤ 0; omega
  | q + 1, hq => by
    have ih := bst_one h h1 q (by omega)
    have := rng_one h q (by omega) h1
    unfold bst
    split
    · simp only
      omega
    · exact ih
theorem wdT_in (m : Nat) (ps : List (List (List Int))) : ∀ i, -1 ≤ (wdT m ps i).1 ∧ (wdT m ps i).1 < i ∧ 0 ≤ (wdT m ps i).2 ∧ ((wdT m ps i).1 < 0 → wdT m ps i = (-1, 0)) ∧ (0 ≤ (wdT m ps i).1 → 0 < (wdT m ps i).2 ∧ (wdT m ps i).2 = (bst (ps.getD (wdT m ps i).1.toNat []) m).2)
  | 0 => ⟨by show (-1 : Int) ≤ -1; omega, by show (-1 : Int) < ((0 : Nat) : Int); omega, by show (0 : Int) ≤ 0; omega, fun _ => rfl, fun h => by have h' : (0 : Int) ≤ -1 := h; omega⟩
  | i + 1 => by
    have ih := wdT_in m ps i
    unfold wdT
    split
    · rename_i hc
      simp only [Int.toNat_natCast]
      exact ⟨by omega, by omega, by omega, fun h => by omega, fun _ => ⟨by omega, by first | trivial | rfl⟩⟩
    · exact ⟨ih.1, by omega, ih.2.2.1, ih.2.2.2.1, ih.2.2.2.2⟩
theorem pick_in {m : Nat} {l : List (List Int)} {ps : List (List (List Int))} (h : PsOk m l ps) (hb : 0 ≤ (wdT m ps ps.length).1) : (wdT m ps ps.length).1.toNat < ps.length ∧ 2 ≤ (ps.getD (wdT m ps ps.length).1.toNat []).length ∧ 0 ≤ (bst (ps.getD (wdT m ps ps.length).1.toNat []) m).1 ∧ (bst (ps.getD (wdT m ps ps.length).1.toNat []) m).1 < m := by
  have hw := wdT_in m ps ps.length
  have hlt : (wdT m ps ps.length).1.toNat < ps.length := by omega
  have hp := ps_part h (ps_mem ps _ hlt)
  have hB := bst_B hp.1 m (Nat.le_refl m)
  have h2 := hw.2.2.2.2 hb
  refine ⟨hlt, ?_, hB.2.2.1, hB.2.2.2 (by omega)⟩
  by_cases e : (ps.getD (wdT m ps ps.length).1.toNat []).length = 1
  · have := bst_one hp.1 e m (Nat.le_refl m)
    omega
  · have := hp.2.1
    omega
theorem cutT_ok {m : Nat} {l : List (List Int)} {ps : List (List (List Int))} (h : PsOk m l ps) (b q : Nat) (hb : b < ps.length) (hq : q < m) (h2 : 2 ≤ (ps.getD b []).length) : PsOk m l (cutT ps b q) := by
  have hp := ps_part h (ps_mem ps b hb)
  have hs := srt_perm q hq _ hp.1 hp.2.1
  refine ⟨h.1, h.2.1, ?_, ?_⟩
  · refine (flat_set _ _ ps b hb ?_).trans h.2.2.1
    rw [List.take_append_drop]
    exact hs
  · intro p hpm
    unfold cutT at hpm
    rcases List.mem_append.1 hpm with hm | hm
    · rcases List.mem_or_eq_of_mem_set hm with hm | rfl
      · exact h.2.2.2 p hm
      · rw [List.length_take, hs.length_eq]
        omega
    · rw [List.mem_singleton] at hm
      subst hm
      rw [List.length_drop, hs.length_eq]
      omega
theorem oneT_ok {m : Nat} {l : List (List Int)} {ps ps' : List (List (List Int))} (h : PsOk m l ps) (e : oneT m ps = some ps') : PsOk m l ps' ∧ ps'.length = ps.length + 1 := by
  unfold oneT at e
  split at e
  · cases e
  · rename_i hc
    have hi := pick_in h (by omega)
    cases e
    refine ⟨cutT_ok h _ _ hi.1 (by omega) hi.2.1, ?_⟩
    unfold cutT
    rw [List.length_append, List.length_set, List.length_singleton]
theorem goT_ok {m : Nat} {l : List (List Int)} (n : Int) : ∀ (j : Nat) (ps : List (List (List Int))), PsOk m l ps → (ps.length : Int) ≤ n → PsOk m l (goT m n j ps) ∧ ((goT m n j ps).length : Int) ≤ n
  | 0, ps, h, hn => ⟨h, hn⟩
  | j + 1, ps, h, hn => by
    unfold goT
    split
    · cases e : oneT m ps with
      | none => exact ⟨h, hn⟩
      | some q =>
        have h1 := oneT_ok h e
        exact goT_ok n j q h1.1 (by omega)
    · exact ⟨h, hn⟩
theorem w_splWd {m : Nat} {l : List (List Int)} {ps : List (List (List Int))} (h : PsOk m l ps) (hm : m ≤ 4) : ∀ i, i ≤ ps.length → Wp (fun k => splWd k ps i) (fun t => t = wdT m ps i)
  | 0, _ => by
    unfold splWd
    exact Wp.ret rfl
  | i + 1, hi => by
    have hp := ps_part h (ps_mem ps i (by omega))
    unfold splWd
    refine Wp.call (w_splWd h hm i (by omega)) ?_
    rintro _ rfl
    refine Wp.call (w_spread m _ hp.1 hm hp.2.1 (by omega)) ?_
    rintro _ rfl
    refine Wp.ite (fun hc => Wp.ret ?_) (fun hc => Wp.ret ?_)
    · rw [wdT, if_pos hc]
    · rw [wdT, if_neg hc]
theorem w_splOne {m : Nat} {l : List (List Int)} {ps : List (List (List Int))} (h : PsOk m l ps) (hm : m ≤ 4) : Wp (fun k => splOne k ps) (fun o => o = oneT m ps) := by
  unfold splOne
  refine Wp.call (w_splWd h hm ps.length (Nat.le_refl _)) ?_
  rintro _ rfl
  unfold oneT
  refine Wp.ite (fun hc => Wp.ret ?_) (fun hc => ?_)
  · rw [if_pos hc]
  · rw [if_neg hc]
    have hi := pick_in h (by omega)
    have hf := (ps_few h).1
    generalize (wdT m ps ps.length).1.toNat = b at hi ⊢
    have hp := ps_part h (ps_mem ps b hi.1)
    refine Wp.call (w_spread m _ hp.1 hm hp.2.1 (by omega)) ?_
    rintro _ rfl
    have hq : (bst (ps.getD b []) m).1 = (((bst (ps.getD b []) m).1.toNat : Nat) : Int) := by omega
    have hql : (bst (ps.getD b []) m).1.toNat < m := by omega
    generalize (bst (ps.getD b []) m).1.toNat = q at hq hql ⊢
    rw [hq]
    refine Wp.call (w_ordered m _ hp.1 q hql hp.2.1 (by omega)) ?_
    rintro _ rfl
    refine Wp.pos (by omega) (Wp.ret ?_)
    rw [(srt_perm q hql _ hp.1 hp.2.1).length_eq]
    rfl
theorem w_splGo {m : Nat} {l : List (List Int)} (hm : m ≤ 4) (n : Int) : ∀ (j : Nat) (ps : List (List (List Int))), PsOk m l ps → Wp (fun k => splGo k n j ps) (fun r => r = goT m n j ps)
  | 0, ps, h => by
    unfold splGo
    exact Wp.ret rfl
  | j + 1, ps, h => by
    unfold splGo goT
    refine Wp.ite (fun hc => ?_) (fun hc => Wp.ret ?_)
    · rw [if_pos hc]
      refine Wp.call (w_splOne h hm) ?_
      rintro _ rfl
      cases e : oneT m ps with
      | none => exact Wp.ret rfl
      | some q => exact w_splGo hm n j q (oneT_ok h e).1
    · rw [if_neg hc]
end Go.Proofs.Ytohbpilokmppbaa.P
namespace Go.Proofs.Ytohbpilokmppbaa.P
open Go.RowKit Go.Proofs.YtohbpilokmppbaaW.PrintWords Go.Proofs.YtohbpilokmppbaaW.PrintLast Go.Proofs.YtohbpilokmppbaaW.PrintMore Go.Proofs.Ytohbpilokmppbaa.Wp
set_option linter.unusedVariables false
set_option linter.unusedSimpArgs false
theorem segR_at (L : List (List Int)) (t : Nat × Nat) (j : Nat) : (segR L t)[j]? = if j < t.2 then L[t.1 + j]? else none := by
  unfold segR
  split
  · rename_i h
    rw [List.getElem?_take_of_lt h, List.getElem?_drop]
  · rename_i h
    rw [List.getElem?_eq_none]
    rw [List.length_take]
    omega
theorem segR_len (L : List (List Int)) (t : Nat × Nat) (h : t.1 + t.2 ≤ L.length) : (segR L t).length = t.2 := by
  unfold segR
  rw [List.length_take, List.length_drop]
  omega
theorem srtSeg_at (p : Int) (L : List (List Int)) (o n i : Nat) (h : o + n ≤ L.length) : (srtSeg p L o n)[i]? = if i < o then L[i]? else if i < o + n then (srt p (segR L (o, n)))[i - o]? else L[i]? := by
  have h1 : (L.take o).length = o := by rw [List.length_take]; omega
  have h2 : (srt p (segR L (o, n))).length = n := by rw [srt_length]; exact segR_len L (o, n) h
  have e : srtSeg p L o n = L.take o ++ srt p (segR L (o, n)) ++ L.drop (o + n) := rfl
  rw [e]
  by_cases c1 : i < o
  · rw [if_pos c1, List.getElem?_append_left (by rw [List.length_append]; omega), List.getElem?_append_left (by omega), List.getElem?_take_of_lt c1]
  · rw [if_neg c1]
    by_cases c2 : i < o + n
    · rw [if_pos c2, List.getElem?_append_left (by rw [List.length_append]; omega), List.getElem?_append_right (by omega), h1]
    · rw [if_neg c2, List.getElem?_append_right (by rw [List.length_append]; omega), List.length_append, h1, h2, List.getElem?_drop]
      congr 1
      omega
theorem segR_far (p : Int) (L : List (List Int)) (o n : Nat) (t : Nat × Nat) (h : o + n ≤ L.length) (hd : t.1 + t.2 ≤ o ∨ o + n ≤ t.1) : segR (srtSeg p L o n) t = segR L t := by
  refine List.ext_getElem? fun j => ?_
  rw [segR_at, segR_at]
  split
  · rw [srtSeg_at p L o n _ h]
    rcases hd with hd | hd
    · rw [if_pos (by omega)]
    · rw [if_neg (by omega), if_neg (by omega)]
  · rfl
theorem segR_lo (p : Int) (L : List (List Int)) (o n a : Nat) (h : o + n ≤ L.length) (ha : a ≤ n) : segR (srtSeg p L o n) (o, a) = (srt p (segR L (o, n))).take a := by
  refine List.ext_getElem? fun j => ?_
  rw [segR_at]
  split
  · rename_i hj
    simp only at hj
    rw [srtSeg_at p L o n _ h, if_neg (by simp only; omega), if_pos (by simp only; omega), List.getElem?_take_of_lt hj]
    congr 1
    simp only
    omega
  · rename_i hj
    simp only at hj
    rw [List.getElem?_eq_none]
    rw [List.length_take]
    omega
theorem segR_hi (p : Int) (L : List (List Int)) (o n a : Nat) (h : o + n ≤ L.length) (ha : a ≤ n) : segR (srtSeg p L o n) (o + a, n - a) = (srt p (segR L (o, n))).drop a := by
  have h2 : (srt p (segR L (o, n))).length = n := by rw [srt_length]; exact segR_len L (o, n) h
  refine List.ext_getElem? fun j => ?_
  rw [segR_at]
  split
  · rename_i hj
    simp only at hj
    rw [srtSeg_at p L o n _ h, if_neg (by simp only; omega), if_pos (by simp only; omega), List.getElem?_drop]
    congr 1
    simp only
    omega
  · rename_i hj
    simp only at hj
    rw [List.getElem?_eq_none]
    rw [List.length_drop]
    omega
def Rel (m : Nat) (l : List (List Int)) (ts : List (Nat × Nat)) (L : List (List Int)) (ps : List (List (List Int))) : Prop := ps = ts.map (segR L) ∧ (∀ t ∈ ts, t.1 + t.2 ≤ L.length) ∧ (∀ i j, i < ts.length → j < ts.length → i ≠ j → (ts.getD i (0, 0)).1 + (ts.getD i (0, 0)).2 ≤ (ts.getD j (0, 0)).1 ∨ (ts.getD j (0, 0)).1 + (ts.getD j (0, 0)).2 ≤ (ts.getD i (0, 0)).1) ∧ PsOk m l ps
theorem ts_mem (ts : List (Nat × Nat)) (i : Nat) (h : i < ts.length) : ts.getD i (0, 0) ∈ ts := by
  rw [List.getD_eq_getElem?_getD, List.getElem?_eq_getElem h]
  exact List.getElem_mem _
theorem ps_get (ts : List (Nat × Nat)) (L : List (List Int)) (i : Nat) (h : i < ts.length) : (ts.map (segR L)).getD i [] = segR L (ts.getD i (0, 0)) := by
  rw [List.getD_eq_getElem?_getD, List.getD_eq_getElem?_getD, List.getElem?_map, List.getElem?_eq_getElem h]
  rfl
theorem ts_set (ts : List (Nat × Nat)) (b : Nat) (u v : Nat × Nat) (i : Nat) (hb : b < ts.length) : (ts.set b u ++ [v]).getD i (0, 0) = if i = b then u else if i < ts.length then ts.getD i (0, 0) else if i = ts.length then v else (0, 0) := by
  rw [List.getD_eq_getElem?_getD]
  by_cases c1 : i < ts.length
  · rw [List.getElem?_append_left (by rw [List.length_set]; exact c1), List.getElem?_set, if_pos c1]
    by_cases c2 : b = i
    · rw [if_pos c2, if_pos hb, if_pos c2.symm]
      rfl
    · rw [if_neg c2, if_neg (fun e => c2 e.symm), List.getD_eq_getElem?_getD]
  · rw [List.getElem?_append_right (by rw [List.length_set]; omega), List.length_set, if_neg (by omega), if_neg c1]
    by_cases c2 : i = ts.length
    · rw [if_pos c2, c2, Nat.sub_self]
      rfl
    · rw [if_neg c2, List.getElem?_eq_none (by rw [List.length_singleton]; omega)]
      rfl
theorem rel_cut {m : Nat} {l : List (List Int)} {ts : List (Nat × Nat)} {L : List (List Int)} {ps : List (List (List Int))} (h : Rel m l ts L ps) (b q : Nat) (hb : b < ts.length) (hq : q < m) (h2 : 2 ≤ (ps.getD b []).length) :
    Rel m l (ts.set b ((ts.getD b (0, 0)).1, (ts.getD b (0, 0)).2 / 2) ++ [((ts.getD b (0, 0)).1 + (ts.getD b (0, 0)).2 / 2, (ts.getD b (0, 0)).2 - (ts.getD b (0, 0)).2 / 2)]) (srtSeg (q : Int) L (ts.getD b (0, 0)).1 (ts.getD b (0, 0)).2) (cutT ps b q) := by
  obtain ⟨e, hB, hD, hP⟩ := h
  have hbp : b < ps.length := by rw [e, List.length_map]; exact hb
  have hok := cutT_ok hP b q hbp hq h2
  have hg : ps.getD b [] = segR L (ts.getD b (0, 0)) := by rw [e]; exact ps_get ts L b hb
  have hBb := hB _ (ts_mem ts b hb)
  have hDb : ∀ i, i < ts.length → i ≠ b → (ts.getD i (0, 0)).1 + (ts.getD i (0, 0)).2 ≤ (ts.getD b (0, 0)).1 ∨ (ts.getD b (0, 0)).1 + (ts.getD b (0, 0)).2 ≤ (ts.getD i (0, 0)).1 := fun i hi hne => hD i b hi hb hne
  have hset := ts_set ts b ((ts.getD b (0, 0)).1, (ts.getD b (0, 0)).2 / 2) ((ts.getD b (0, 0)).1 + (ts.getD b (0, 0)).2 / 2, (ts.getD b (0, 0)).2 - (ts.getD b (0, 0)).2 / 2)
  generalize ts.getD b (0, 0) = tb at hg hBb hDb hset ⊢
  obtain ⟨o, n⟩ := tb
  simp only at hg hBb hDb hset ⊢
  have hlen : (ps.getD b []).length = n := by rw [hg]; exact segR_len L (o, n) hBb
  have hL' : (srtSeg (q : Int) L o n).length = L.length := srtSeg_length _ _ _ _ hBb
  refine ⟨?_, ?_, ?_, hok⟩
  · unfold cutT
    rw [List.map_append, hg, segR_len L (o, n) hBb]
    congr 1
    · refine List.ext_getElem? fun i => ?_
      rw [List.getElem?_map, List.getElem?_set, List.getElem?_set]
      by_cases c : b = i
      · rw [if_pos c, if_pos c, if_pos hbp, if_pos hb, Option.map_some, segR_lo _ L o n _ hBb (by omega)]
      · rw [if_neg c, if_neg c, e, List.getElem?_map]
        by_cases ci : i < ts.length
        · have hd := hDb i ci (fun e => c e.symm)
          rw [List.getD_eq_getElem?_getD] at hd
          rw [List.getElem?_eq_getElem ci] at hd ⊢
          rw [Option.map_some, Option.map_some, segR_far _ L o n ts[i] hBb hd]
        · rw [List.getElem?_eq_none (by omega)]
          rfl
    · rw [List.map_cons, List.map_nil, segR_hi _ L o n _ hBb (by omega)]
  · intro t ht
    rw [hL']
    rcases List.mem_append.1 ht with ht | ht
    · rcases List.mem_or_eq_of_mem_set ht with ht | rfl
      · exact hB t ht
      · simp only
        omega
    · rw [List.mem_singleton] at ht
      subst ht
      simp only
      omega
  · intro i j hi hj hne
    rw [List.length_append, List.length_set, List.length_singleton] at hi hj
    rw [hset i hb, hset j hb]
    by_cases ci : i = b
    · rw [if_pos ci]
      by_cases cj : j = b
      · omega
      · rw [if_neg cj]
        by_cases cl : j < ts.length
        · rw [if_pos cl]
          have := hDb j cl cj
          simp only
          omega
        · rw [if_neg cl, if_pos (by omega)]
          simp only
          omega
    · rw [if_neg ci]
      by_cases cl : i < ts.length
      · rw [if_pos cl]
        have hi2 := hDb i cl ci
        by_cases cj : j = b
        · rw [if_pos cj]
          simp only
          omega
        · rw [if_neg cj]
          by_cases cl2 : j < ts.length
          · rw [if_pos cl2]
            exact hD i j cl cl2 hne
          · rw [if_neg cl2, if_pos (by omega)]
            simp only
            omega
      · rw [if_neg cl, if_pos (by omega)]
        by_cases cj : j = b
        · rw [if_pos cj]
          simp only
          omega
        · rw [if_neg cj]
          by_cases cl2 : j < ts.length
          · rw [if_pos cl2]
            have := hDb j cl2 cj
            simp only
            omega
          · omega
end Go.Proofs.Ytohbpilokmppbaa.P
namespace Go.Proofs.Ytohbpilokmppbaa.P
open Go.RowKit Go.Proofs.YtohbpilokmppbaaW.PrintWords Go.Proofs.YtohbpilokmppbaaW.PrintLast Go.Proofs.YtohbpilokmppbaaW.PrintMore Go.Proofs.Ytohbpilokmppbaa.Wp
set_option linter.unusedVariables false
set_option linter.unusedSimpArgs false
def rbT (m : Nat) (ps : List (List (List Int))) : Nat → Int × Int × Int
  | 0 => (0, 0, 0)
  | i + 1 => if (bst (ps.getD i []) m).2 > (rbT m ps i).2.2 then ((i : Int), (bst (ps.getD i []) m).1, (bst (ps.getD i []) m).2) else rbT m ps i
theorem rbT_wdT (m : Nat) (ps : List (List (List Int))) : ∀ i, (rbT m ps i).2.2 = (wdT m ps i).2 ∧ ((wdT m ps i).1 < 0 → rbT m ps i = (0, 0, 0)) ∧ (0 ≤ (wdT m ps i).1 → (rbT m ps i).1 = (wdT m ps i).1 ∧ (rbT m ps i).2.1 = (bst (ps.getD (wdT m ps i).1.toNat []) m).1)
  | 0 => ⟨rfl, fun _ => rfl, fun h => by have h' : (0 : Int) ≤ -1 := h; omega⟩
  | i + 1 => by
    have ih := rbT_wdT m ps i
    by_cases hc : (bst (ps.getD i []) m).2 > (wdT m ps i).2
    · have hc2 : (bst (ps.getD i []) m).2 > (rbT m ps i).2.2 := by omega
      rw [wdT, rbT, if_pos hc, if_pos hc2]
      refine ⟨rfl, fun h => ?_, fun _ => ⟨rfl, ?_⟩⟩
      · simp only at h
        omega
      · simp only [Int.toNat_natCast]
    · have hc2 : ¬ (bst (ps.getD i []) m).2 > (rbT m ps i).2.2 := by omega
      rw [wdT, rbT, if_neg hc, if_neg hc2]
      exact ih
theorem w_redB {m : Nat} {l : List (List Int)} {ts : List (Nat × Nat)} {L : List (List Int)} {ps : List (List (List Int))} (h : Rel m l ts L ps) : ∀ i, i ≤ ts.length → Wp (fun k => redB k L ts m i) (fun t => t = rbT m ps i)
  | 0, _ => by
    unfold redB
    exact Wp.ret rfl
  | i + 1, hi => by
    have hip : i < ps.length := by rw [h.1, List.length_map]; omega
    have hp := ps_part h.2.2.2 (ps_mem ps i hip)
    have hg : ps.getD i [] = segR L (ts.getD i (0, 0)) := by rw [h.1]; exact ps_get ts L i (by omega)
    unfold redB
    refine Wp.call (w_redB h i (by omega)) ?_
    rintro _ rfl
    rw [← hg]
    have hw := wdT_in m ps i
    have hr := rbT_wdT m ps i
    refine Wp.mono (w_redC m _ hp.1 (by omega) i (rbT m ps i) (by omega) m (Nat.le_refl m)) ?_
    rintro _ rfl
    rw [rbT]
theorem w_redOne {m : Nat} {l : List (List Int)} {ts : List (Nat × Nat)} {L : List (List Int)} {ps : List (List (List Int))} (h : Rel m l ts L ps) : Wp (fun k => redOne k m ts L) (fun o => (o = none ∧ oneT m ps = none) ∨ ∃ s ps', o = some s ∧ oneT m ps = some ps' ∧ Rel m l s.1 s.2 ps') := by
  unfold redOne
  refine Wp.call (w_redB h ts.length (Nat.le_refl _)) ?_
  rintro _ rfl
  have el : ps.length = ts.length := by rw [h.1, List.length_map]
  have hw := wdT_in m ps ps.length
  have hr := rbT_wdT m ps ps.length
  rw [← el]
  by_cases hc : (wdT m ps ps.length).1 < 0
  · have e0 := hr.2.1 hc
    rw [e0]
    refine Wp.pos rfl (Wp.ret (.inl ⟨rfl, ?_⟩))
    unfold oneT
    rw [if_pos hc]
  · have hi := pick_in h.2.2.2 (by omega)
    have h1 := hw.2.2.2.2 (by omega)
    have h2 := hr.2.2 (by omega)
    refine Wp.neg (by omega) ?_
    have hb : (wdT m ps ps.length).1.toNat < ts.length := by omega
    have hg : ps.getD (wdT m ps ps.length).1.toNat [] = segR L (ts.getD (wdT m ps ps.length).1.toNat (0, 0)) := by
      have := ps_get ts L _ hb
      rw [← h.1] at this
      exact this
    have hl := segR_len L _ (h.2.1 _ (ts_mem ts _ hb))
    rw [← hg] at hl
    rw [h2.1, h2.2]
    have hq : (bst (ps.getD (wdT m ps ps.length).1.toNat []) m).1 = (((bst (ps.getD (wdT m ps ps.length).1.toNat []) m).1.toNat : Nat) : Int) := by omega
    refine Wp.pos ⟨by omega, by omega⟩ (Wp.ret (.inr ?_))
    refine ⟨_, cutT ps (wdT m ps ps.length).1.toNat (bst (ps.getD (wdT m ps ps.length).1.toNat []) m).1.toNat, rfl, ?_, ?_⟩
    · unfold oneT
      rw [if_neg hc]
    · have := rel_cut h (wdT m ps ps.length).1.toNat (bst (ps.getD (wdT m ps ps.length).1.toNat []) m).1.toNat hb (by omega) hi.2.1
      rw [← hq] at this
      exact this
theorem w_redGo {m : Nat} {l : List (List Int)} (n : Int) : ∀ (j : Nat) (ts : List (Nat × Nat)) (L : List (List Int)) (ps : List (List (List Int))), Rel m l ts L ps → Wp (fun k => redGo k m n j ts L) (fun s => Rel m l s.1 s.2 (goT m n j ps))
  | 0, ts, L, ps, h => by
    unfold redGo
    exact Wp.ret h
  | j + 1, ts, L, ps, h => by
    have el : ps.length = ts.length := by rw [h.1, List.length_map]
    unfold redGo goT
    rw [el]
    refine Wp.ite (fun hc => ?_) (fun hc => Wp.ret ?_)
    · rw [if_pos hc]
      refine Wp.call (w_redOne h) ?_
      rintro o (⟨rfl, e⟩ | ⟨s, ps', rfl, e, hR⟩)
      · rw [e]
        exact Wp.ret h
      · rw [e]
        exact w_redGo n j s.1 s.2 ps' hR
    · rw [if_neg hc]
      exact h
theorem w_meanColor (m : Nat) (rows : List (List Int)) (h : RowsOk m rows) (hm : m ≤ 4) (h1 : 0 < rows.length) (hl : rows.length ≤ 1000) : Wp (fun k => spec_meanColor.f k rows) (fun r => r = meanR rows m) := by
  have h0 : (rows.getD 0 []).length = m := row_len h 0 h1
  have e0 : rd_L1 rows 0 = rows.getD 0 [] := ll_rd rows 0
  have hml : ∀ q, (meanR rows q).length = q := fun q => meanR_len rows q
  have inner : ∀ (q : Nat), q < m → Wp (fun k => spec_meanColor.l0 k rows (meanR rows (q + 1)) ((q : Int) + 1)) (fun r => r = meanR rows m) → ∀ d (j : Nat), j + d = rows.length → Wp (fun k => spec_meanColor.l1 k rows (meanR rows q) q (sumR rows q j) j) (fun r => r = meanR rows m) := by
    intro q hq next d
    induction d with
    | zero =>
      intro j hd
      have e : j = rows.length := by omega
      subst e
      refine Wp.step (fun k => spec_meanColor.l1.eq_2 ..) (Wp.neg (by omega) (Wp.neg ?_ (Wp.pos ?_ ?_)))
      · rw [w64 (by omega) (by omega)]
        omega
      · rw [hml]
        omega
      · rw [w64 (x := (q : Int) + 1) (by omega) (by omega)]
        exact next
    | succ d ih =>
      intro j hd
      refine Wp.step (fun k => spec_meanColor.l1.eq_2 ..) (Wp.pos (by omega) (Wp.pos (by omega) (Wp.pos (by omega) ?_)))
      rw [ll_rd]
      refine Wp.pos (by rw [row_len h j (by omega)]; omega) ?_
      rw [w64 (x := (j : Int) + 1) (by omega) (by omega)]
      exact ih (j + 1) (by omega)
  have key : ∀ d (q : Nat), q + d = m → Wp (fun k => spec_meanColor.l0 k rows (meanR rows q) q) (fun r => r = meanR rows m) := by
    intro d
    induction d with
    | zero =>
      intro q hd
      have e : q = m := by omega
      subst e
      refine Wp.step (fun k => spec_meanColor.l0.eq_2 ..) (Wp.pos (by omega) (Wp.neg ?_ (Wp.ret rfl)))
      rw [e0, h0]
      omega
    | succ d ih =>
      intro q hd
      refine Wp.step (fun k => spec_meanColor.l0.eq_2 ..) (Wp.pos (by omega) (Wp.pos ?_ ?_))
      · rw [e0, h0]
        omega
      · exact inner q (by omega) (ih (q + 1) (by omega)) rows.length 0 (by omega)
  unfold spec_meanColor.f
  exact key m 0 (by omega)
theorem take_1 (ps : List (List (List Int))) (i : Nat) (h : i < ps.length) : ps.take (i + 1) = ps.take i ++ [ps.getD i []] := by
  rw [List.take_add_one, List.getD_eq_getElem?_getD, List.getElem?_eq_getElem h]
  rfl
theorem w_meanAll {m : Nat} {l : List (List Int)} {ps : List (List (List Int))} (h : PsOk m l ps) (hm : m ≤ 4) : ∀ i, i ≤ ps.length → Wp (fun k => meanAll k ps i) (fun r => r = (ps.take i).map fun p => meanR p m)
  | 0, _ => by
    unfold meanAll
    exact Wp.ret (by rw [List.take_zero]; rfl)
  | i + 1, hi => by
    have hp := ps_part h (ps_mem ps i (by omega))
    have hf := (ps_few h).1
    unfold meanAll
    refine Wp.call (w_meanAll h hm i (by omega)) ?_
    rintro _ rfl
    refine Wp.call (w_meanColor m _ hp.1 hm hp.2.1 (by omega)) ?_
    rintro _ rfl
    refine Wp.pos ?_ (Wp.ret ?_)
    · rw [List.length_map, List.length_take]
      omega
    · rw [take_1 ps i (by omega), List.map_append]
      rfl
theorem allR_eq {m : Nat} {l : List (List Int)} {ts : List (Nat × Nat)} {L : List (List Int)} {ps : List (List (List Int))} (h : Rel m l ts L ps) : ∀ i, i ≤ ts.length → allR m ts L i = some ((ps.take i).map fun p => meanR p m)
  | 0, _ => by rw [allR, List.take_zero]; rfl
  | i + 1, hi => by
    have hip : i < ps.length := by rw [h.1, List.length_map]; omega
    have hp := ps_part h.2.2.2 (ps_mem ps i hip)
    have hg : ps.getD i [] = segR L (ts.getD i (0, 0)) := by rw [h.1]; exact ps_get ts L i (by omega)
    have hl := segR_len L _ (h.2.1 _ (ts_mem ts i (by omega)))
    rw [← hg] at hl
    rw [allR, allR_eq h i (by omega), Option.bind_some, if_pos (by omega), take_1 ps i hip, List.map_append, hg]
    rfl
def redT (l : List (List Int)) (n : Int) : List (List Int) := (goT (l.getD 0 []).length n n.toNat [l]).map fun p => meanR p (l.getD 0 []).length
def redOk (l : List (List Int)) (n : Int) : Bool := decide ((1 ≤ n ∧ n ≤ 16) ∧ 1 ≤ l.length ∧ 1 ≤ (l.getD 0 []).length ∧ (l.getD 0 []).length ≤ 4) && palB l ((l.getD 0 []).length : Int)
def redI (l : List (List Int)) (n : Int) : List (List Int) := if redOk l n = true then redT l n else []
theorem redOk_ok {l : List (List Int)} {n : Int} (h : redOk l n = true) : ((1 ≤ n ∧ n ≤ 16) ∧ 1 ≤ l.length ∧ 1 ≤ (l.getD 0 []).length ∧ (l.getD 0 []).length ≤ 4) ∧ PsOk (l.getD 0 []).length l [l] := by
  unfold redOk at h
  rw [Bool.and_eq_true, decide_eq_true_eq] at h
  have hp := palB_ok h.2
  refine ⟨h.1, hp.2, hp.1, ?_, fun p hm => ?_⟩
  · rw [List.flatten_cons, List.flatten_nil, List.append_nil]
  · rw [List.mem_singleton] at hm
    subst hm
    omega
theorem rel_0 {m : Nat} {l : List (List Int)} (h : PsOk m l [l]) : Rel m l [(0, l.length)] l [l] := by
  refine ⟨?_, fun t ht => ?_, fun i j hi hj hne => ?_, h⟩
  · unfold segR
    rw [List.map_cons, List.map_nil, List.drop_zero, List.take_length]
  · rw [List.mem_singleton] at ht
    subst ht
    simp
  · rw [List.length_singleton] at hi hj
    omega
theorem w_iRed (l : List (List Int)) (n : Int) : Wp (fun k => impl_ReducePalette.f k l n) (fun r => r = redI l n) := by
  unfold impl_ReducePalette.f redI
  have no : ∀ c : ¬ ((1 ≤ n ∧ n ≤ 16) ∧ 1 ≤ l.length), ([] : List (List Int)) = if redOk l n = true then redT l n else [] := fun c => by
    rw [if_neg]
    intro h
    have := (redOk_ok h).1
    exact c ⟨this.1, this.2.1⟩
  refine Wp.ite (fun c => Wp.ret (no (by omega))) (fun c1 => ?_)
  refine Wp.ite (fun c => Wp.ret (no (by omega))) (fun c2 => ?_)
  refine Wp.ite (fun c => Wp.ret (no (by omega))) (fun c3 => ?_)
  refine Wp.call (w_isPalette l _) ?_
  rintro _ rfl
  refine Wp.ite (fun hc => ?_) (fun hc => Wp.ret ?_)
  · have hok : redOk l n = true := by
      rw [Bool.and_eq_true, decide_eq_true_eq] at hc
      unfold redOk
      rw [Bool.and_eq_true, decide_eq_true_eq]
      exact ⟨⟨⟨by omega, by omega⟩, by omega, by omega, by omega⟩, hc.2⟩
    rw [if_pos hok]
    have hp := redOk_ok hok
    refine Wp.call (w_redGo n n.toNat _ _ _ (rel_0 hp.2)) ?_
    intro s hs
    have el : (goT (l.getD 0 []).length n n.toNat [l]).length = s.1.length := by rw [hs.1, List.length_map]
    refine Wp.of (fun k => allR_eq hs s.1.length (Nat.le_refl _)) ?_
    rw [← el, List.take_length]
    rfl
  · rw [if_neg]
    intro h
    apply hc
    have hp := (redOk_ok h).1
    unfold redOk at h
    rw [Bool.and_eq_true, decide_eq_true_eq] at h
    rw [Bool.and_eq_true, decide_eq_true_eq]
    exact ⟨⟨by omega, by omega, by omega⟩, h.2⟩
theorem w_sRed (l : List (List Int)) (n : Int) (hS : Small l) : Wp (fun k => spec_ReducePalette.f k l n) (fun r => r = redI l n) := by
  unfold spec_ReducePalette.f redI
  refine Wp.ite (fun c => Wp.ret ?_) (fun c3 => ?_)
  · rw [if_neg]
    intro h
    have := (redOk_ok h).1
    omega
  refine Wp.call (w_inRange0 _ _ _) ?_
  rintro _ rfl
  refine Wp.ite (fun c1 => ?_) (fun c1 => Wp.ret ?_)
  · rw [decide_eq_true_eq] at c1
    refine Wp.call (w_validColors l _ hS) ?_
    rintro _ rfl
    refine Wp.ite (fun c2 => ?_) (fun c2 => Wp.ret ?_)
    · refine Wp.call (w_inRange0 _ _ _) ?_
      rintro _ rfl
      refine Wp.ite (fun c4 => ?_) (fun c4 => Wp.ret ?_)
      · rw [decide_eq_true_eq] at c4
        have hok : redOk l n = true := by
          unfold redOk
          rw [Bool.and_eq_true, decide_eq_true_eq]
          exact ⟨⟨⟨by omega, by omega⟩, by omega, by omega, by omega⟩, c2⟩
        rw [if_pos hok]
        have hp := redOk_ok hok
        unfold spec_splitColors.f
        refine Wp.call (w_splGo hp.1.2.2.2 n n.toNat [l] hp.2) ?_
        rintro _ rfl
        have hg := goT_ok n n.toNat [l] hp.2 (by rw [List.length_singleton]; omega)
        refine Wp.mono (w_meanAll hg.1 hp.1.2.2.2 _ (Nat.le_refl _)) ?_
        rintro _ rfl
        rw [List.take_length]
        rfl
      · rw [if_neg]
        intro h
        apply c4
        have := (redOk_ok h).1
        rw [decide_eq_true_eq]
        omega
    · rw [if_neg]
      intro h
      apply c2
      unfold redOk at h
      rw [Bool.and_eq_true] at h
      exact h.2
  · rw [if_neg]
    intro h
    apply c1
    have := (redOk_ok h).1
    rw [decide_eq_true_eq]
    omega
end Go.Proofs.Ytohbpilokmppbaa.P
namespace Go.Proofs.Ytohbpilokmppbaa.P
open Go.RowKit Go.Proofs.YtohbpilokmppbaaW.PrintWords Go.Proofs.YtohbpilokmppbaaW.PrintLast Go.Proofs.YtohbpilokmppbaaW.PrintMore Go.Proofs.Ytohbpilokmppbaa.Wp
set_option linter.unusedVariables false
set_option linter.unusedSimpArgs false
def tot (L : List (List Int)) : Nat → Nat
  | 0 => 0
  | n + 1 => tot L n + (L.getD n []).length
theorem tot_le (L : List (List Int)) {m n : Nat} (h : m ≤ n) : tot L m ≤ tot L n := by
  induction n with
  | zero => rw [show m = 0 by omega]; exact Nat.le_refl _
  | succ n ih =>
    by_cases e : m = n + 1
    · rw [e]; exact Nat.le_refl _
    · have := ih (by omega)
      rw [tot]; omega
theorem w_szIntSSx (l : List (List Int)) (x : Int) (h0 : 0 ≤ x) (h1 : x ≤ 1048576) (hl : l.length ≤ maxLen) (hy : ∀ y ∈ l, y.length ≤ maxLen) : Wp (fun k => laws_szIntSS.f k l x) (fun r => r < 0 ∨ (Small l ∧ tot l l.length ≤ 1048576)) := by
  unfold laws_szIntSS.f
  have hl' := hl
  unfold maxLen at hl'
  rw [w64 (x := x - (l.length : Int)) (by omega) (by omega)]
  refine Wp.ite (fun _ => Wp.ret (by omega)) (fun h => ?_)
  have key : ∀ (d i : Nat) (x : Int), i + d = l.length → 0 ≤ x → x ≤ 1048576 → x + tot l i ≤ 1048576 → (∀ j, j < i → (l.getD j []).length ≤ 1048576) → Wp (fun k => laws_szIntSS.l0 k l x i) (fun r => r < 0 ∨ (Small l ∧ tot l l.length ≤ 1048576)) := by
    intro d
    induction d with
    | zero =>
      intro i x hd h0 h1 ht hj
      refine Wp.step (fun k => laws_szIntSS.l0.eq_2 ..) (Wp.neg (by omega) (Wp.ret (Or.inr ⟨⟨by omega, fun y hy2 => ?_⟩, ?_⟩)))
      · obtain ⟨j, hj2, rfl⟩ := List.getElem_of_mem hy2
        have := hj j (by omega)
        simpa [List.getD_eq_getElem?_getD, List.getElem?_eq_getElem hj2] using this
      · rw [show l.length = i by omega]; omega
    | succ d ih =>
      intro i x hd h0 h1 ht hj
      refine Wp.step (fun k => laws_szIntSS.l0.eq_2 ..) (Wp.pos (by omega) (Wp.pos (by omega) ?_))
      rw [ll_rd]
      have hm := hy _ (ll_mem l i (by omega))
      unfold maxLen at hm
      refine Wp.call (Q := fun r => r < 0 ∨ (r = x - ((l.getD i []).length : Int) ∧ 0 ≤ r)) ?_ ?_
      · unfold laws_szIntS.f
        rw [w64 (x := x - ((l.getD i []).length : Int)) (by omega) (by omega)]
        exact Wp.ite (fun _ => Wp.ret (by omega)) (fun _ => Wp.ret (by omega))
      intro r hr
      refine Wp.ite (fun _ => Wp.ret (by omega)) (fun h2 => ?_)
      rw [w64 (x := (i : Int) + 1) (by omega) (by omega)]
      refine ih (i + 1) r (by omega) (by omega) (by omega) (by rw [tot]; omega) fun j hj2 => ?_
      by_cases e : j = i
      · rw [e]; omega
      · exact hj j (by omega)
  exact key l.length 0 _ (by omega) (by omega) (by omega) (by rw [tot]; omega) (fun j hj => by omega)
def mkS (L : List (List Int)) (a : Int) : List (List Int) := (List.range L.length).map fun i => marks (a + (tot L i : Int)) (L.getD i []).length
theorem mkS_len (L : List (List Int)) (a : Int) : (mkS L a).length = L.length := by simp [mkS]
theorem mkS_get (L : List (List Int)) (a : Int) (i : Nat) (h : i < L.length) : (mkS L a).getD i [] = marks (a + (tot L i : Int)) (L.getD i []).length := by
  unfold mkS
  rw [List.getD_eq_getElem?_getD, List.getElem?_map, List.getElem?_range h]
  rfl
theorem w_markIntSS (L : List (List Int)) (a : Int) (h0 : 0 ≤ a) (h1 : a + (tot L L.length : Int) ≤ 1000000000) (hl : L.length ≤ 1048576) : Wp (fun k => laws_markIntSS.f k L a) (fun r => r = (a + (tot L L.length : Int), mkS L a)) := by
  unfold laws_markIntSS.f
  have key : ∀ d (i : Nat) (x : List (List Int)), i + d = L.length → x.length = L.length → (∀ j, j < i → x.getD j [] = marks (a + (tot L j : Int)) (L.getD j []).length) → (∀ j, i ≤ j → j < L.length → x.getD j [] = L.getD j []) →
      Wp (fun k => laws_markIntSS.l0 k x (a + (tot L i : Int)) i) (fun r => r = (a + (tot L L.length : Int), mkS L a)) := by
    intro d
    induction d with
    | zero =>
      intro i x hd hx h _
      have : i = L.length := by omega
      subst this
      refine Wp.step (fun k => laws_markIntSS.l0.eq_2 ..) (Wp.neg (by omega) (Wp.ret ?_))
      congr 1
      exact ll_ext (by rw [mkS_len]; exact hx) fun j hj => by rw [mkS_len] at hj; rw [mkS_get _ _ _ hj]; exact h j hj
    | succ d ih =>
      intro i x hd hx h hr
      have ht := tot_le L (show i + 1 ≤ L.length by omega)
      rw [tot] at ht
      refine Wp.step (fun k => laws_markIntSS.l0.eq_2 ..) (Wp.pos (by omega) (Wp.pos (by omega) ?_))
      rw [ll_rd, hr i (Nat.le_refl i) (by omega)]
      refine Wp.call (w_markIntS (L.getD i []) (a + (tot L i : Int)) (by omega) (by omega) (by omega)) ?_
      rintro _ rfl
      rw [w64 (x := (i : Int) + 1) (by omega) (by omega), Int.toNat_natCast]
      have := ih (i + 1) (x.set i (marks (a + (tot L i : Int)) (L.getD i []).length)) (by omega) (by rw [List.length_set]; exact hx) (fun j hj => ?_) (fun j hj hj2 => ?_)
      · rw [tot, Int.natCast_add, ← Int.add_assoc] at this
        exact this
      · rw [ll_set _ _ (by omega)]
        split
        · rename_i e; rw [e]
        · exact h j (by omega)
      · rw [ll_set _ _ (by omega), if_neg (by omega)]
        exact hr j (by omega) hj2
  have := key L.length 0 L (by omega) rfl (fun j hj => by omega) (fun j _ _ => rfl)
  rw [tot] at this
  simpa using this
theorem w_heldIntSS (L : List (List Int)) (a : Int) (h0 : 0 ≤ a) (h1 : a + (tot L L.length : Int) ≤ 1000000000) (hl : L.length ≤ 1048576) : Wp (fun k => laws_heldIntSS.f k (mkS L a) a) (fun r => r = a + (tot L L.length : Int)) := by
  unfold laws_heldIntSS.f
  have hlen := mkS_len L a
  have key : ∀ d (i : Nat), i + d = L.length → Wp (fun k => laws_heldIntSS.l0 k (mkS L a) (a + (tot L i : Int)) i) (fun r => r = a + (tot L L.length : Int)) := by
    intro d
    induction d with
    | zero =>
      intro i hd
      have : i = L.length := by omega
      subst this
      exact Wp.step (fun k => laws_heldIntSS.l0.eq_2 ..) (Wp.neg (by omega) (Wp.ret rfl))
    | succ d ih =>
      intro i hd
      have ht := tot_le L (show i + 1 ≤ L.length by omega)
      rw [tot] at ht
      refine Wp.step (fun k => laws_heldIntSS.l0.eq_2 ..) (Wp.pos (by omega) (Wp.pos (by omega) ?_))
      rw [ll_rd, mkS_get _ _ _ (by omega)]
      refine Wp.call (w_heldIntS (L.getD i []).length (a + (tot L i : Int)) (by omega) (by omega) (by omega)) ?_
      rintro _ rfl
      refine Wp.neg (by omega) ?_
      rw [w64 (x := (i : Int) + 1) (by omega) (by omega)]
      have := ih (i + 1) (by omega)
      rw [tot, Int.natCast_add, ← Int.add_assoc] at this
      exact this
  have := key L.length 0 (by omega)
  rw [tot] at this
  simpa using this
end Go.Proofs.Ytohbpilokmppbaa.P
namespace Go.Proofs.Ytohbpilokmppbaa.Pure
open Go.RowKit Go.Proofs.Ytohbpilokmppbaa.P Go.Proofs.YtohbpilokmppbaaW.PrintWords Go.Proofs.YtohbpilokmppbaaW.PrintMore Go.Proofs.Ytohbpilokmppbaa.Wp
set_option linter.unusedVariables false
theorem tot_B (L : List (List Int)) (b : Nat) (hb : ∀ m ∈ L, m.length ≤ b) : ∀ n, n ≤ L.length → tot L n ≤ n * b
  | 0, _ => by rw [tot]; omega
  | n + 1, h => by
    have h1 := tot_B L b hb n (by omega)
    have h2 := hb (L.getD n []) (ll_mem L n (by omega))
    rw [tot, Nat.succ_mul]
    omega
theorem red_len (l : List (List Int)) (n : Int) : (redI l n).length ≤ 16 ∧ ∀ y ∈ redI l n, y.length ≤ 4 := by
  unfold redI
  split
  · rename_i h
    have hp := redOk_ok h
    have hg := goT_ok n n.toNat [l] hp.2 (by rw [List.length_singleton]; omega)
    have hf := ps_few hg.1
    unfold redT
    refine ⟨by rw [List.length_map]; omega, fun y hy => ?_⟩
    obtain ⟨p, _, rfl⟩ := List.mem_map.1 hy
    rw [meanR_len]
    omega
  · simp
theorem FnExactReducePalette : laws_FnExactReducePalette.Pure := by
  intro l n hlm hym _
  refine Wp.rounds ?_
  unfold laws_FnExactReducePalette.f
  refine Wp.call (w_szIntSSx l 1048576 (by omega) (by omega) hlm hym) ?_
  intro sz hsz
  refine Wp.ite (fun _ => Wp.ret rfl) (fun h0 => ?_)
  obtain ⟨hS, hT⟩ : Small l ∧ tot l l.length ≤ 1048576 := by
    rcases hsz with h | h
    · exact absurd h h0
    · exact h
  have hl1 := hS.1
  obtain ⟨p1, p2⟩ := red_len l n
  have hTg := tot_B (redI l n) 4 p2 _ (Nat.le_refl _)
  have hs : ∀ P : List (List Int) → Prop, P (redI l n) → Wp (fun k => spec_ReducePalette.f k l n) P := fun P hP => (w_sRed l n hS).mono fun r e => by rw [e]; exact hP
  have hi : ∀ P : List (List Int) → Prop, P (redI l n) → Wp (fun k => impl_ReducePalette.f k l n) P := fun P hP => (w_iRed l n).mono fun r e => by rw [e]; exact hP
  generalize redI l n = g at *
  have hSg : Small g := ⟨by omega, fun y hy => Nat.le_trans (p2 y hy) (by omega)⟩
  repeat' first
    | with_reducible exact Wp.ret rfl
    | with_reducible refine Wp.step (fun k => laws_FnExactReducePalette.j0.eq_2 ..) ?_
    | ((with_reducible refine Wp.call (w_toIntSS l hS) ?_); intro r_ e_; have e2_ := e_.symm; clear e_; subst e2_)
    | ((with_reducible refine Wp.call (hs (fun r => r = g) rfl) ?_); intro r_ e_; have e2_ := e_.symm; clear e_; subst e2_)
    | ((with_reducible refine Wp.call (hi (fun r => r = g) rfl) ?_); intro r_ e_; have e2_ := e_.symm; clear e_; subst e2_)
    | ((with_reducible refine Wp.call (w_eqIntSS g g hSg) ?_); rintro _ rfl)
    | ((with_reducible refine Wp.call (w_eqIntSS l l hS) ?_); rintro _ rfl)
    | ((with_reducible refine Wp.call (w_markIntSS _ 1 (by omega) (by omega) (by omega)) ?_); rintro _ rfl; dsimp only)
    | ((with_reducible refine Wp.call (w_heldIntSS _ 1 (by omega) (by omega) (by omega)) ?_); rintro _ rfl)
    | ((with_reducible refine Wp.pos ?c ?_); (case c => first | rfl | omega | (simp; done)))
    | ((with_reducible refine Wp.neg ?c ?_); (case c => first | omega | (simp; done)))
end Go.Proofs.Ytohbpilokmppbaa.Pure
