/- Pure lemmas: what the printed functions answer, for every input; no Go, no memory, no condition but those that each lemma names. -/
import Derived.Test.YtchahbdmdcllaaaVWords
import Derived.Test.YtchahbdmdcllaaaK1
import Derived.Test.YtchahbdmdcllaaaK2
import Derived.Test.YtchahbdmdcllaaaK3
import Derived.Test.YtchahbdmdcllaaaK4
namespace Go.Proofs.Ytchahbdmdcllaaa.Wp
open Go.RowKit Go.Proofs.YtchahbdmdcllaaaW.PrintWords
set_option linter.unusedVariables false
def Wp {α : Type} (g : Nat → Option α) (P : α → Prop) : Prop := ∃ r, P r ∧ ∃ K, ∀ k, K ≤ k → g k = some r
theorem Wp.mono {α : Type} {g : Nat → Option α} {P Q : α → Prop} (h : Wp g P) (hi : ∀ a, P a → Q a) : Wp g Q := by
  obtain ⟨r, hp, K, hk⟩ := h
  exact ⟨r, hi r hp, K, hk⟩
theorem Wp.ret {α : Type} {P : α → Prop} {r : α} (h : P r) : Wp (fun _ => some r) P := ⟨r, h, 0, fun _ _ => rfl⟩
theorem Wp.bind {α β : Type} {g : Nat → Option α} {f : Nat → α → Option β} {P : β → Prop} (h : Wp g (fun a => Wp (fun k => f k a) P)) : Wp (fun k => (g k).bind (f k)) P := by
  obtain ⟨a, ⟨r, hp, K, hk⟩, K', hk'⟩ := h
  refine ⟨r, hp, max K K', fun k hkk => ?_⟩
  show (g k).bind (f k) = some r
  rw [hk' k (by omega)]
  exact hk k (by omega)
theorem Wp.call {α β : Type} {g : Nat → Option α} {f : Nat → α → Option β} {Q : α → Prop} {P : β → Prop} (h : Wp g Q) (hf : ∀ a, Q a → Wp (fun k => f k a) P) : Wp (fun k => (g k).bind (f k)) P :=
  Wp.bind (h.mono hf)
theorem Wp.ite {α : Type} {c : Prop} [Decidable c] {g h : Nat → Option α} {P : α → Prop} (h1 : c → Wp g P) (h2 : ¬ c → Wp h P) : Wp (fun k => if c then g k else h k) P := by
  by_cases hc : c
  · simpa only [if_pos hc] using h1 hc
  · simpa only [if_neg hc] using h2 hc
theorem Wp.pos {α : Type} {c : Prop} [Decidable c] {g h : Nat → Option α} {P : α → Prop} (hc : c) (h1 : Wp g P) : Wp (fun k => if c then g k else h k) P := Wp.ite (fun _ => h1) (fun h => absurd hc h)
theorem Wp.neg {α : Type} {c : Prop} [Decidable c] {g h : Nat → Option α} {P : α → Prop} (hc : ¬ c) (h1 : Wp h P) : Wp (fun k => if c then g k else h k) P := Wp.ite (fun h => absurd h hc) (fun _ => h1)
theorem Wp.step {α : Type} {g f : Nat → Option α} {P : α → Prop} (h : ∀ k, g (k + 1) = f k) (hf : Wp f P) : Wp g P := by
  obtain ⟨r, hp, K, hk⟩ := hf
  refine ⟨r, hp, K + 1, fun k hkk => ?_⟩
  obtain ⟨k, rfl⟩ : ∃ m, k = m + 1 := ⟨k - 1, by omega⟩
  rw [h k]
  exact hk k (by omega)
theorem Wp.of {α : Type} {g : Nat → Option α} {P : α → Prop} {r : α} (h : ∀ k, g k = some r) (hp : P r) : Wp g P := ⟨r, hp, 0, fun k _ => h k⟩
theorem Wp.rounds {α : Type} {g : Nat → Option α} {r : α} (h : Wp g (fun a => a = r)) : ∃ k, g k = some r := by
  obtain ⟨r', rfl, K, hk⟩ := h
  exact ⟨K, hk K (Nat.le_refl K)⟩
theorem w64 {x : Int} (h0 : -9223372036854775808 ≤ x) (h1 : x ≤ 9223372036854775807) : wrap64 x = x := by
  unfold wrap64
  omega
end Go.Proofs.Ytchahbdmdcllaaa.Wp
namespace Go.Proofs.Ytchahbdmdcllaaa.P
open Go.RowKit Go.Proofs.YtchahbdmdcllaaaW.PrintWords Go.Proofs.YtchahbdmdcllaaaW.PrintLast Go.Proofs.YtchahbdmdcllaaaW.PrintMore Go.Proofs.Ytchahbdmdcllaaa.Wp
set_option linter.unusedVariables false
set_option linter.unusedSimpArgs false
theorem bl_rd (l : List Int) (i : Nat) : rd l (i : Int) = l.getD i 0 := by simp [rd]
theorem bl_ext {x l : List Int} (hx : x.length = l.length) (h : ∀ j, j < l.length → x.getD j 0 = l.getD j 0) : x = l := by
  apply List.ext_getElem hx
  intro j h1 h2
  have := h j h2
  simpa [List.getD_eq_getElem?_getD, List.getElem?_eq_getElem h1, List.getElem?_eq_getElem h2] using this
theorem bl_set {x : List Int} {i : Nat} (v : Int) (j : Nat) (hi : i < x.length) : (x.set i v).getD j 0 = if j = i then v else x.getD j 0 := by
  simp only [List.getD_eq_getElem?_getD, List.getElem?_set]
  by_cases h : i = j
  · subst h; simp [hi]
  · simp [h, Ne.symm h, eq_comm]
theorem bl_map_range (f : Nat → Int) (n j : Nat) (hj : j < n) : ((List.range n).map f).getD j 0 = f j := by
  simp [List.getD_eq_getElem?_getD, hj]
theorem bl_all_drop (l : List Int) (p : Int → Bool) (i : Nat) (h : i < l.length) : (l.drop i).all p = (p (l.getD i 0) && (l.drop (i + 1)).all p) := by
  rw [List.drop_eq_getElem_cons h, List.all_cons]
  simp [List.getD_eq_getElem?_getD, List.getElem?_eq_getElem h]
def allB (l : List Int) : Bool := l.all fun n => decide (0 ≤ n ∧ n ≤ 255)
theorem allB_mem {l : List Int} (h : allB l = true) : ∀ x ∈ l, 0 ≤ x ∧ x ≤ 255 := fun x hx => of_decide_eq_true (List.all_eq_true.1 h x hx)
theorem allB_of {l : List Int} (h : ∀ x ∈ l, 0 ≤ x ∧ x ≤ 255) : allB l = true := List.all_eq_true.2 fun x hx => decide_eq_true (h x hx)
theorem rd_leB {l : List Int} (h : allB l = true) (i : Nat) (hi : i < l.length) : 0 ≤ l.getD i 0 ∧ l.getD i 0 ≤ 255 := by
  have := allB_mem h l[i] (List.getElem_mem hi)
  simpa [List.getD_eq_getElem?_getD, List.getElem?_eq_getElem hi] using this
theorem w_inRange0 (a b c : Int) : Wp (fun _ => spec_inRange.f a b c) (fun r => r = decide (b ≤ a ∧ a ≤ c)) := by
  unfold spec_inRange.f
  refine Wp.ite (fun h => Wp.ret ?_) (fun h => Wp.ret ?_)
  · simp [h]
  · simp [h]
theorem w_allIn (l : List Int) (a b : Int) (hl : l.length ≤ 1000000000) : Wp (fun k => spec_allIn.f k l a b) (fun r => r = l.all fun n => decide (a ≤ n ∧ n ≤ b)) := by
  unfold spec_allIn.f
  have key : ∀ d (i : Nat), i + d = l.length → Wp (fun k => spec_allIn.l0 k l a b i) (fun r => r = (l.drop i).all fun n => decide (a ≤ n ∧ n ≤ b)) := by
    intro d
    induction d with
    | zero =>
      intro i hd
      refine Wp.step (fun k => spec_allIn.l0.eq_2 ..) (Wp.neg (by omega) (Wp.ret ?_))
      rw [List.drop_of_length_le (by omega)]
      rfl
    | succ d ih =>
      intro i hd
      refine Wp.step (fun k => spec_allIn.l0.eq_2 ..) (Wp.pos (by omega) (Wp.pos (by omega) ?_))
      refine Wp.call (w_inRange0 _ _ _) ?_
      rintro _ rfl
      rw [bl_all_drop l _ i (by omega), bl_rd]
      refine Wp.ite (fun h => ?_) (fun h => Wp.ret ?_)
      · rw [h, Bool.true_and, w64 (x := (i : Int) + 1) (by omega) (by omega)]
        exact ih (i + 1) (by omega)
      · rw [Bool.not_eq_true] at h
        rw [h, Bool.false_and]
  exact key l.length 0 (by omega)
theorem w_allB (l : List Int) (hl : l.length ≤ 1000000000) : Wp (fun k => spec_allIn.f k l 0 255) (fun r => r = allB l) := w_allIn l 0 255 hl
theorem w_areBytes (l : List Int) : Wp (fun _ => impl_areBytes.f l) (fun r => r = allB l) := by
  unfold impl_areBytes.f
  refine Wp.ret ?_
  unfold allB
  induction l with
  | nil => rfl
  | cons x l ih =>
    simp only [List.any_cons, List.all_cons, Bool.not_or, ← ih]
    congr 1
    by_cases h0 : x < 0 <;> by_cases h1 : 255 < x <;> simp [h0, h1] <;> omega
def marks (a : Int) (n : Nat) : List Int := (List.range n).map fun j : Nat => a + (j : Int)
theorem w_equalInts (a b : List Int) (hl : a.length ≤ 1000000000) : Wp (fun k => laws_equalInts.f k a b) (fun r => r = decide (a = b)) := by
  unfold laws_equalInts.f
  refine Wp.ite (fun he => ?_) (fun he => Wp.ret ?_)
  · have key : ∀ d (i : Nat), i + d = a.length → (∀ j, j < i → a.getD j 0 = b.getD j 0) → Wp (fun k => laws_equalInts.l0 k a b i) (fun r => r = decide (a = b)) := by
      intro d
      induction d with
      | zero =>
        intro i hd h
        refine Wp.step (fun k => laws_equalInts.l0.eq_2 ..) (Wp.neg (by omega) (Wp.ret ?_))
        exact (decide_eq_true (bl_ext (by omega) fun j hj => h j (by omega))).symm
      | succ d ih =>
        intro i hd h
        refine Wp.step (fun k => laws_equalInts.l0.eq_2 ..) (Wp.pos (by omega) (Wp.pos (by omega) (Wp.pos (by omega) ?_)))
        rw [bl_rd, bl_rd]
        refine Wp.ite (fun h1 => ?_) (fun h1 => Wp.ret ?_)
        · rw [w64 (x := (i : Int) + 1) (by omega) (by omega)]
          refine ih (i + 1) (by omega) fun j hj => ?_
          by_cases e : j = i
          · rw [e]; exact h1
          · exact h j (by omega)
        · exact (decide_eq_false fun e => h1 (by rw [e])).symm
    exact key a.length 0 (by omega) (fun j hj => by omega)
  · exact (decide_eq_false fun e => he (by rw [e])).symm
end Go.Proofs.Ytchahbdmdcllaaa.P
namespace Go.Proofs.Ytchahbdmdcllaaa.P
open Go.RowKit Go.Proofs.YtchahbdmdcllaaaW.PrintWords Go.Proofs.YtchahbdmdcllaaaW.PrintLast Go.Proofs.YtchahbdmdcllaaaW.PrintMore Go.Proofs.Ytchahbdmdcllaaa.Wp
set_option linter.unusedVariables false
set_option linter.unusedSimpArgs false
def mFrom (l : List Int) (p b : Nat) : Nat → Nat → Nat
  | 0, n => n
  | f + 1, n => if p + n < l.length ∧ l.getD (p + n) 0 = l.getD (p + n - b) 0 then mFrom l p b f (n + 1) else n
def mLen (l : List Int) (p b : Nat) : Nat := mFrom l p b 18 0
theorem mFrom_spec (l : List Int) (p b f n : Nat) (h : ∀ j, j < n → l.getD (p + j) 0 = l.getD (p + j - b) 0) (h1 : n = 0 ∨ p + n ≤ l.length) :
    (n ≤ mFrom l p b f n ∧ mFrom l p b f n ≤ n + f) ∧ (mFrom l p b f n = 0 ∨ p + mFrom l p b f n ≤ l.length) ∧ ∀ j, j < mFrom l p b f n → l.getD (p + j) 0 = l.getD (p + j - b) 0 := by
  induction f generalizing n with
  | zero => exact ⟨⟨Nat.le_refl _, Nat.le_refl _⟩, h1, h⟩
  | succ f ih =>
    unfold mFrom
    split
    · rename_i hc
      obtain ⟨h2, h3, h4⟩ := ih (n + 1) (fun j hj => by
        by_cases e : j = n
        · rw [e]; exact hc.2
        · exact h j (by omega)) (.inr (by omega))
      exact ⟨⟨by omega, by omega⟩, h3, h4⟩
    · exact ⟨⟨Nat.le_refl _, by omega⟩, h1, h⟩
theorem mLen_spec (l : List Int) (p b : Nat) : mLen l p b ≤ 18 ∧ (mLen l p b = 0 ∨ p + mLen l p b ≤ l.length) ∧ ∀ j, j < mLen l p b → l.getD (p + j) 0 = l.getD (p + j - b) 0 := by
  obtain ⟨h1, h2, h3⟩ := mFrom_spec l p b 18 0 (fun j hj => absurd hj (Nat.not_lt_zero _)) (.inl rfl)
  exact ⟨by have := h1.2; show mFrom l p b 18 0 ≤ 18; omega, h2, h3⟩
theorem w_matchLength (l : List Int) (p b : Nat) (hl : l.length ≤ 1000000) (hp : p < l.length) (hb : b ≤ p) : Wp (fun k => spec_matchLength.f k l p b) (fun r => r = (mLen l p b : Int)) := by
  unfold spec_matchLength.f mLen
  have key : ∀ (f n : Nat), n + f = 18 → Wp (fun k => spec_matchLength.l0 k l p b n) (fun r => r = (mFrom l p b f n : Int)) := by
    intro f
    induction f with
    | zero =>
      intro n hn
      exact Wp.step (fun k => spec_matchLength.l0.eq_2 ..) (Wp.neg (by omega) (Wp.ret rfl))
    | succ f ih =>
      intro n hn
      refine Wp.step (fun k => spec_matchLength.l0.eq_2 ..) (Wp.pos (by omega) ?_)
      rw [w64 (x := (p : Int) + n) (by omega) (by omega), w64 (x := (p : Int) + n - b) (by omega) (by omega), w64 (x := (n : Int) + 1) (by omega) (by omega)]
      unfold mFrom
      refine Wp.ite (fun h => ?_) (fun h => Wp.ret (by rw [if_neg (by omega)]))
      refine Wp.pos (by omega) (Wp.pos (by omega) (Wp.pos (by omega) ?_))
      rw [show (p : Int) + n = ((p + n : Nat) : Int) by omega, show ((p + n : Nat) : Int) - b = ((p + n - b : Nat) : Int) by omega, bl_rd, bl_rd]
      refine Wp.ite (fun h2 => ?_) (fun h2 => Wp.ret (by rw [if_neg (fun e => h2 e.2)]))
      rw [if_pos ⟨by omega, h2⟩]
      exact ih (n + 1) (by omega)
  exact key 18 0 (by omega)
def lmS (l : List Int) (p : Nat) : Nat → Int × Int
  | 0 => (0, 0)
  | d + 1 => if (mLen l p (d + 1) : Int) > (lmS l p d).1 then ((mLen l p (d + 1) : Int), ((d + 1 : Nat) : Int)) else lmS l p d
def lmN (t : Int × Int) : Int × Int := if t.1 < 3 then (0, 0) else t
def lm (l : List Int) (p : Nat) : Int × Int := lmN (lmS l p (min 64 p))
theorem lmS_spec (l : List Int) (p d : Nat) : (0 ≤ (lmS l p d).1 ∧ (lmS l p d).1 ≤ 18) ∧ (lmS l p d = (0, 0) ∨ ∃ b : Nat, 1 ≤ b ∧ b ≤ d ∧ lmS l p d = ((mLen l p b : Int), (b : Int)) ∧ 1 ≤ mLen l p b) := by
  induction d with
  | zero => exact ⟨⟨Int.le_refl _, by show (0 : Int) ≤ 18; omega⟩, .inl rfl⟩
  | succ d ih =>
    unfold lmS
    split
    · have := (mLen_spec l p (d + 1)).1
      rename_i h
      exact ⟨⟨by simp only; omega, by simp only; omega⟩, .inr ⟨d + 1, by omega, Nat.le_refl _, rfl, by omega⟩⟩
    · refine ⟨ih.1, ih.2.imp id ?_⟩
      rintro ⟨b, h1, h2, h3, h4⟩
      exact ⟨b, h1, by omega, h3, h4⟩
theorem lm_spec (l : List Int) (p : Nat) : lm l p = (0, 0) ∨ ∃ n b : Nat, lm l p = ((n : Int), (b : Int)) ∧ 3 ≤ n ∧ n ≤ 18 ∧ 1 ≤ b ∧ b ≤ 64 ∧ b ≤ p ∧ p + n ≤ l.length ∧ ∀ j, j < n → l.getD (p + j) 0 = l.getD (p + j - b) 0 := by
  unfold lm lmN
  obtain ⟨h0, h⟩ := lmS_spec l p (min 64 p)
  split
  · exact .inl rfl
  · rename_i h3
    rcases h with h | ⟨b, h1, h2, h4, h5⟩
    · rw [h] at h3; exact absurd (show (0 : Int) < 3 by omega) h3
    · rw [h4] at h3
      obtain ⟨m1, m2, m3⟩ := mLen_spec l p b
      simp only at h3
      exact .inr ⟨_, b, h4, by omega, m1, h1, by omega, by omega, by omega, m3⟩
theorem w_longest (l : List Int) (p : Nat) (hl : l.length ≤ 1000000) (hp : p < l.length) : Wp (fun k => spec_longest.f k l p) (fun r => r = lm l p) := by
  unfold spec_longest.f lm
  have last : Wp (fun k => spec_longest.j1 k l p (lmS l p (min 64 p)).1 (lmS l p (min 64 p)).2 ((min 64 p + 1 : Nat) : Int) false) (fun r => r = lmN (lmS l p (min 64 p))) := by
    refine Wp.step (fun k => spec_longest.j1.eq_2 ..) (Wp.neg (by decide) ?_)
    unfold lmN
    exact Wp.ite (fun h => Wp.ret (if_pos h).symm) (fun h => Wp.ret (if_neg h).symm)
  have key : ∀ (f d : Nat), d + f = min 64 p → Wp (fun k => spec_longest.l0 k l p (lmS l p d).1 (lmS l p d).2 ((d + 1 : Nat) : Int)) (fun r => r = lmN (lmS l p (min 64 p))) := by
    intro f
    induction f with
    | zero =>
      intro d hd
      have : d = min 64 p := by omega
      subst this
      refine Wp.step (fun k => spec_longest.l0.eq_2 ..) (Wp.ite (fun h => ?_) (fun h => last))
      rw [decide_eq_false (by omega)]
      exact last
    | succ f ih =>
      intro d hd
      have h := ih (d + 1) (by omega)
      refine Wp.step (fun k => spec_longest.l0.eq_2 ..) (Wp.pos (by omega) ?_)
      rw [decide_eq_true (by omega)]
      refine Wp.step (fun k => spec_longest.j1.eq_2 ..) (Wp.pos rfl ?_)
      refine Wp.call (w_matchLength l p (d + 1) hl hp (by omega)) ?_
      rintro _ rfl
      rw [w64 (x := ((d + 1 : Nat) : Int) + 1) (by omega) (by omega), show ((d + 1 : Nat) : Int) + 1 = ((d + 1 + 1 : Nat) : Int) by omega]
      refine Wp.ite (fun hg => ?_) (fun hg => ?_)
      · rw [show lmS l p (d + 1) = ((mLen l p (d + 1) : Int), ((d + 1 : Nat) : Int)) from if_pos hg] at h
        exact h
      · rw [show lmS l p (d + 1) = lmS l p d from if_neg hg] at h
        exact h
  exact key (min 64 p) 0 (by omega)
theorem lmN_step (l : List Int) (p d : Nat) : lmN (lmS l p (d + 1)) = if 3 ≤ (mLen l p (d + 1) : Int) ∧ (mLen l p (d + 1) : Int) > (lmN (lmS l p d)).1 then ((mLen l p (d + 1) : Int), ((d + 1 : Nat) : Int)) else lmN (lmS l p d) := by
  have h0 := (lmS_spec l p d).1
  have e : lmS l p (d + 1) = if (mLen l p (d + 1) : Int) > (lmS l p d).1 then ((mLen l p (d + 1) : Int), ((d + 1 : Nat) : Int)) else lmS l p d := rfl
  rw [e]
  by_cases h1 : (mLen l p (d + 1) : Int) > (lmS l p d).1
  · rw [if_pos h1]
    by_cases h2 : (3 : Int) ≤ (mLen l p (d + 1) : Int)
    · have e1 : lmN ((mLen l p (d + 1) : Int), ((d + 1 : Nat) : Int)) = ((mLen l p (d + 1) : Int), ((d + 1 : Nat) : Int)) := if_neg (by simp only; omega)
      have hl : (mLen l p (d + 1) : Int) > (lmN (lmS l p d)).1 := by
        unfold lmN
        split
        · simp only; omega
        · exact h1
      rw [e1, if_pos ⟨h2, hl⟩]
    · have e1 : lmN ((mLen l p (d + 1) : Int), ((d + 1 : Nat) : Int)) = (0, 0) := if_pos (by simp only; omega)
      have e2 : lmN (lmS l p d) = (0, 0) := if_pos (by omega)
      rw [e1, if_neg (fun e => h2 e.1), e2]
  · rw [if_neg h1, if_neg]
    rintro ⟨e1, e2⟩
    unfold lmN at e2
    split at e2
    · simp only at e2; omega
    · exact h1 e2
theorem w_longestMatch (l : List Int) (p : Nat) (hl : l.length ≤ 1000000) (hp : p < l.length) : Wp (fun k => impl_longestMatch.f k l p) (fun r => r = lm l p) := by
  unfold impl_longestMatch.f lm
  have hmn : mn 64 (p : Int) = ((min 64 p : Nat) : Int) := by unfold mn; split <;> omega
  have key : ∀ (f d : Nat), d + f = min 64 p → Wp (fun k => impl_longestMatch.l0 k l p (lmN (lmS l p d)).1 (lmN (lmS l p d)).2 ((d + 1 : Nat) : Int)) (fun r => r = lmN (lmS l p (min 64 p))) := by
    intro f
    induction f with
    | zero =>
      intro d hd
      have : d = min 64 p := by omega
      subst this
      exact Wp.step (fun k => impl_longestMatch.l0.eq_2 ..) (Wp.neg (by rw [hmn]; omega) (Wp.ret rfl))
    | succ f ih =>
      intro d hd
      have h := ih (d + 1) (by omega)
      rw [lmN_step] at h
      refine Wp.step (fun k => impl_longestMatch.l0.eq_2 ..) (Wp.pos (by rw [hmn]; omega) ?_)
      have fin : ∀ n : Nat, n = mLen l p (d + 1) → Wp (fun k => if (n : Int) ≥ 3 then (if (n : Int) > (lmN (lmS l p d)).1 then (impl_longestMatch.l0 k l p n ((d + 1 : Nat) : Int) (wrap64 (((d + 1 : Nat) : Int) + 1))) else (impl_longestMatch.l0 k l p (lmN (lmS l p d)).1 (lmN (lmS l p d)).2 (wrap64 (((d + 1 : Nat) : Int) + 1)))) else (impl_longestMatch.l0 k l p (lmN (lmS l p d)).1 (lmN (lmS l p d)).2 (wrap64 (((d + 1 : Nat) : Int) + 1)))) (fun r => r = lmN (lmS l p (min 64 p))) := by
        intro n hn
        subst hn
        rw [w64 (x := ((d + 1 : Nat) : Int) + 1) (by omega) (by omega), show ((d + 1 : Nat) : Int) + 1 = ((d + 1 + 1 : Nat) : Int) by omega]
        refine Wp.ite (fun h3 => Wp.ite (fun hg => ?_) (fun hg => ?_)) (fun h3 => ?_)
        · rw [if_pos ⟨by omega, hg⟩] at h; exact h
        · rw [if_neg (fun e => hg e.2)] at h; exact h
        · rw [if_neg (fun e => h3 (by omega))] at h; exact h
      have inner : ∀ (g n : Nat), n + g = 18 → mFrom l p (d + 1) g n = mLen l p (d + 1) → Wp (fun k => impl_longestMatch.l1 k l p (lmN (lmS l p d)).1 (lmN (lmS l p d)).2 ((d + 1 : Nat) : Int) n) (fun r => r = lmN (lmS l p (min 64 p))) := by
        intro g
        induction g with
        | zero =>
          intro n hn he
          exact Wp.step (fun k => impl_longestMatch.l1.eq_2 ..) (Wp.neg (by omega) (fin n he))
        | succ g ihg =>
          intro n hn he
          unfold mFrom at he
          refine Wp.step (fun k => impl_longestMatch.l1.eq_2 ..) (Wp.pos (by omega) ?_)
          rw [w64 (x := (p : Int) + n) (by omega) (by omega), w64 (x := (p : Int) + n - ((d + 1 : Nat) : Int)) (by omega) (by omega), w64 (x := (n : Int) + 1) (by omega) (by omega)]
          refine Wp.ite (fun h1 => ?_) (fun h1 => fin n (by rw [if_neg (by omega)] at he; exact he))
          refine Wp.pos (by omega) (Wp.pos (by omega) (Wp.pos (by omega) ?_))
          rw [show (p : Int) + n = ((p + n : Nat) : Int) by omega, show ((p + n : Nat) : Int) - ((d + 1 : Nat) : Int) = ((p + n - (d + 1) : Nat) : Int) by omega, bl_rd, bl_rd]
          refine Wp.ite (fun h2 => ?_) (fun h2 => fin n (by rw [if_neg (fun e => h2 e.2)] at he; exact he))
          rw [if_pos ⟨by omega, h2⟩] at he
          exact ihg (n + 1) (by omega) he
      exact inner 18 0 (by omega) rfl
  exact key (min 64 p) 0 (by omega)
def pkTo (c : List Int) (p : Nat) : Nat → Int × Int
  | 0 => (9 + c.getD (p + 1) 0, 0)
  | m + 1 => if 11 + c.getD (p + (m + 3)) 0 ≤ (pkTo c p m).1 then (11 + c.getD (p + (m + 3)) 0, ((m + 3 : Nat) : Int)) else pkTo c p m
def pk (l c : List Int) (p : Nat) : Int × Int := pkTo c p ((lm l p).1.toNat - 2)
def ck (l : List Int) : Nat → List Int × List Int
  | 0 => (List.replicate (l.length + 1) 0, List.replicate (l.length + 1) 0)
  | d + 1 => ((ck l d).1.set (l.length - 1 - d) (pk l (ck l d).1 (l.length - 1 - d)).1, (ck l d).2.set (l.length - 1 - d) (pk l (ck l d).1 (l.length - 1 - d)).2)
theorem ck_len (l : List Int) (d : Nat) : (ck l d).1.length = l.length + 1 ∧ (ck l d).2.length = l.length + 1 := by
  induction d with
  | zero => simp [ck]
  | succ d ih => simp [ck, ih]
theorem pkTo_fst (c : List Int) (p m : Nat) : (pkTo c p m).1 ≤ 9 + c.getD (p + 1) 0 ∧ (0 ≤ (pkTo c p m).2 ∧ (pkTo c p m).2 ≤ m + 2) ∧ ((pkTo c p m).2 = 0 ∨ 3 ≤ (pkTo c p m).2) := by
  induction m with
  | zero => exact ⟨Int.le_refl _, ⟨Int.le_refl _, by show (0 : Int) ≤ ((0 : Nat) : Int) + 2; omega⟩, .inl rfl⟩
  | succ m ih =>
    unfold pkTo
    split
    · exact ⟨by simp only; omega, ⟨by simp only; omega, by simp only; omega⟩, .inr (by simp only; omega)⟩
    · exact ⟨ih.1, ⟨ih.2.1.1, by omega⟩, ih.2.2⟩
def CostOk (c : List Int) (B : Int) : Prop := ∀ x ∈ c, 0 ≤ x ∧ x ≤ B
theorem CostOk.get {c : List Int} {B : Int} (h : CostOk c B) (hB : 0 ≤ B) (i : Nat) : 0 ≤ c.getD i 0 ∧ c.getD i 0 ≤ B := by
  rcases Nat.lt_or_ge i c.length with hi | hi
  · have := h _ (List.getElem_mem hi)
    simpa [List.getD_eq_getElem?_getD, List.getElem?_eq_getElem hi] using this
  · simp [List.getD_eq_getElem?_getD, List.getElem?_eq_none hi, hB]
theorem pkTo_nonneg {c : List Int} {B : Int} (h : CostOk c B) (hB : 0 ≤ B) (p m : Nat) : 0 ≤ (pkTo c p m).1 := by
  induction m with
  | zero => have := h.get hB (p + 1); show 0 ≤ 9 + c.getD (p + 1) 0; omega
  | succ m ih =>
    unfold pkTo
    split
    · have := h.get hB (p + (m + 3)); simp only; omega
    · exact ih
theorem ck_ok (l : List Int) (d : Nat) : CostOk (ck l d).1 (9 * d) := by
  induction d with
  | zero => intro x hx; rw [List.eq_of_mem_replicate hx]; omega
  | succ d ih =>
    intro x hx
    rcases List.mem_or_eq_of_mem_set hx with h | h
    · have := ih x h; omega
    · have h1 := pkTo_nonneg ih (by omega) (l.length - 1 - d) ((lm l (l.length - 1 - d)).1.toNat - 2)
      have h2 := (pkTo_fst (ck l d).1 (l.length - 1 - d) ((lm l (l.length - 1 - d)).1.toNat - 2)).1
      have h3 := ih.get (by omega) (l.length - 1 - d + 1)
      have e : x = (pkTo (ck l d).1 (l.length - 1 - d) ((lm l (l.length - 1 - d)).1.toNat - 2)).1 := h
      rw [e]
      omega
def tkAt (l : List Int) (p : Nat) (n : Int) : S54 := if n = 0 then ⟨l.getD p 0, 0, 0⟩ else ⟨0, n, (lm l p).2⟩
def wk (l k : List Int) : Nat → Nat → List S54
  | 0, _ => []
  | f + 1, p => if p < l.length then tkAt l p (k.getD p 0) :: wk l k f (p + max (k.getD p 0).toNat 1) else []
def bt (l : List Int) : List S54 := wk l (ck l l.length).2 l.length 0
theorem kOk (l : List Int) (d : Nat) : ∀ p, (ck l d).2.getD p 0 = 0 ∨ (3 ≤ (ck l d).2.getD p 0 ∧ (ck l d).2.getD p 0 ≤ (lm l p).1) := by
  induction d with
  | zero =>
    intro p
    left
    show (List.replicate (l.length + 1) (0 : Int)).getD p 0 = 0
    simp only [List.getD_eq_getElem?_getD, List.getElem?_replicate]
    split <;> rfl
  | succ d ih =>
    intro p
    show ((ck l d).2.set (l.length - 1 - d) (pk l (ck l d).1 (l.length - 1 - d)).2).getD p 0 = 0 ∨ _
    have hg : (ck l (d + 1)).2.getD p 0 = ((ck l d).2.set (l.length - 1 - d) (pk l (ck l d).1 (l.length - 1 - d)).2).getD p 0 := rfl
    rw [hg, bl_set _ _ (by rw [(ck_len l d).2]; omega)]
    split
    · rename_i e
      obtain ⟨_, h1, h2⟩ := pkTo_fst (ck l d).1 (l.length - 1 - d) ((lm l (l.length - 1 - d)).1.toNat - 2)
      unfold pk
      rw [e]
      have h0 := lm_spec l (l.length - 1 - d)
      rcases h2 with h2 | h2
      · exact .inl h2
      · refine .inr ⟨h2, ?_⟩
        rcases h0 with h0 | ⟨n, b, h0, h3, _⟩
        · rw [h0] at h1 h2 ⊢
          simp at h1
          simp at h2
          omega
        · rw [h0] at h1 ⊢
          simp only at h1 ⊢
          omega
    · exact ih p
theorem w_sBestTokens (l : List Int) (hl : l.length ≤ 1000000) : Wp (fun k => spec_bestTokens.f k l) (fun r => r = bt l) := by
  unfold spec_bestTokens.f
  rw [w64 (x := (l.length : Int) + 1) (by omega) (by omega), w64 (x := (l.length : Int) - 1) (by omega) (by omega), show ((l.length : Int) + 1).toNat = l.length + 1 by omega]
  refine Wp.pos (by omega) (Wp.pos (by omega) ?_)
  have walk : ∀ (f p : Nat) (a : List S54), l.length ≤ p + f → p ≤ 2000000 → a.length ≤ p → Wp (fun k => spec_bestTokens.l2 k l l.length (ck l l.length).2 a p) (fun r => r = a ++ wk l (ck l l.length).2 f p) := by
    intro f
    induction f with
    | zero =>
      intro p a hp hp2 ha
      exact Wp.step (fun k => spec_bestTokens.l2.eq_2 ..) (Wp.neg (by omega) (Wp.ret (by simp [wk])))
    | succ f ih =>
      intro p a hp hp2 ha
      have hk := kOk l l.length p
      have hlen := (ck_len l l.length).2
      unfold wk
      refine Wp.step (fun k => spec_bestTokens.l2.eq_2 ..) (Wp.ite (fun h => Wp.pos (by omega) (Wp.pos (by omega) ?_)) (fun h => Wp.ret (by rw [if_neg (by omega)]; simp)))
      rw [if_pos (by omega), bl_rd, bl_rd]
      have h0 := lm_spec l p
      have h18 : (lm l p).1 ≤ 18 := by rcases h0 with h0 | ⟨n, b, h0, h3, h4, _⟩ <;> rw [h0] <;> (try simp only) <;> omega
      refine Wp.ite (fun h0 => Wp.pos (by omega) (Wp.pos (by omega) ?_)) (fun h0 => ?_)
      · have := ih (p + 1) (a ++ [⟨l.getD p 0, 0, 0⟩]) (by omega) (by omega) (by rw [List.length_append]; simp; omega)
        rw [w64 (x := (p : Int) + 1) (by omega) (by omega), h0]
        rw [List.append_assoc] at this
        exact this
      · refine Wp.call (w_longest l p hl (by omega)) ?_
        rintro _ rfl
        refine Wp.pos (by omega) ?_
        have := ih (p + max ((ck l l.length).2.getD p 0).toNat 1) (a ++ [⟨0, (ck l l.length).2.getD p 0, (lm l p).2⟩]) (by omega) (by omega) (by rw [List.length_append]; simp; omega)
        rw [w64 (x := (p : Int) + _) (by omega) (by omega)]
        rw [List.append_assoc, show ((p + max ((ck l l.length).2.getD p 0).toNat 1 : Nat) : Int) = (p : Int) + (ck l l.length).2.getD p 0 by omega] at this
        unfold tkAt
        rw [if_neg h0]
        exact this
  have fin : Wp (fun k => spec_bestTokens.l0 k l l.length (ck l l.length).1 (ck l l.length).2 (-1)) (fun r => r = bt l) := by
    refine Wp.step (fun k => spec_bestTokens.l0.eq_2 ..) (Wp.neg (by omega) ?_)
    exact walk l.length 0 [] (by omega) (by omega) (by simp)
  have step : ∀ (d : Nat), d < l.length → Wp (fun k => spec_bestTokens.l0 k l l.length (ck l (d + 1)).1 (ck l (d + 1)).2 ((l.length : Int) - 1 - ((d + 1 : Nat) : Int))) (fun r => r = bt l) →
      Wp (fun k => spec_bestTokens.l0 k l l.length (ck l d).1 (ck l d).2 ((l.length : Int) - 1 - (d : Int))) (fun r => r = bt l) := by
    intro d hd next
    obtain ⟨p, hp⟩ : ∃ p : Nat, p = l.length - 1 - d := ⟨_, rfl⟩
    rw [show (l.length : Int) - 1 - ((d + 1 : Nat) : Int) = (p : Int) - 1 by omega] at next
    rw [show (l.length : Int) - 1 - (d : Int) = (p : Int) by omega]
    have e1 : (ck l (d + 1)).1 = (ck l d).1.set p (pk l (ck l d).1 p).1 := by rw [hp]; rfl
    have e2 : (ck l (d + 1)).2 = (ck l d).2.set p (pk l (ck l d).1 p).2 := by rw [hp]; rfl
    rw [e1, e2] at next
    obtain ⟨n1, n2⟩ := ck_len l d
    have hc := ck_ok l d
    generalize (ck l d).1 = c at *
    generalize (ck l d).2 = t at *
    refine Wp.step (fun k => spec_bestTokens.l0.eq_2 ..) (Wp.pos (by omega) ?_)
    rw [w64 (x := (p : Int) + 1) (by omega) (by omega)]
    refine Wp.pos (by omega) (Wp.pos (by omega) (Wp.pos (by omega) (Wp.pos (by omega) (Wp.pos (by omega) ?_))))
    refine Wp.call (w_longest l p hl (by omega)) ?_
    rintro _ rfl
    have g1 := hc.get (by omega) (p + 1)
    rw [show (p : Int) + 1 = ((p + 1 : Nat) : Int) by omega, bl_rd, w64 (x := 9 + _) (by omega) (by omega), Int.toNat_natCast]
    have inner : ∀ (f m : Nat), m + f = (lm l p).1.toNat - 2 → Wp (fun k => spec_bestTokens.l1 k l l.length (c.set p (pkTo c p m).1) (t.set p (pkTo c p m).2) p (lm l p).1 ((m + 3 : Nat) : Int)) (fun r => r = bt l) := by
      have h0 := lm_spec l p
      intro f
      induction f with
      | zero =>
        intro m hm
        refine Wp.step (fun k => spec_bestTokens.l1.eq_2 ..) (Wp.neg ?_ ?_)
        · rcases h0 with h0 | ⟨n, b, h0, h3, h4, _⟩ <;> rw [h0] at hm ⊢ <;> (try simp only at hm) <;> (try simp only) <;> omega
        · rw [w64 (x := (p : Int) - 1) (by omega) (by omega)]
          have : m = (lm l p).1.toNat - 2 := by omega
          subst this
          exact next
      | succ f ih =>
        intro m hm
        have h := ih (m + 1) (by omega)
        have hn : (m + 3 : Nat) ≤ (lm l p).1 ∧ p + (m + 3) ≤ l.length := by
          rcases h0 with h0 | ⟨n, b, h0, h3, h4, _, _, _, h5, _⟩ <;> rw [h0] at hm ⊢ <;> (try simp only at hm) <;> (try simp only) <;> omega
        refine Wp.step (fun k => spec_bestTokens.l1.eq_2 ..) (Wp.pos (by omega) ?_)
        have g2 := hc.get (by omega) (p + (m + 3))
        rw [w64 (x := (p : Int) + _) (by omega) (by omega), show (p : Int) + ((m + 3 : Nat) : Int) = ((p + (m + 3) : Nat) : Int) by omega, bl_rd, bl_rd, bl_set _ _ (by omega), if_neg (by omega), bl_set _ _ (by omega), if_pos rfl, w64 (x := 11 + _) (by omega) (by omega), Int.toNat_natCast, w64 (x := ((m + 3 : Nat) : Int) + 1) (by omega) (by omega), show ((m + 3 : Nat) : Int) + 1 = ((m + 1 + 3 : Nat) : Int) by omega]
        refine Wp.pos (by omega) (Wp.pos (by rw [List.length_set]; omega) (Wp.pos (by omega) (Wp.pos (by rw [List.length_set]; omega) (Wp.ite (fun hle => Wp.pos (by rw [List.length_set]; omega) ?_) (fun hle => ?_)))))
        · rw [show pkTo c p (m + 1) = (11 + c.getD (p + (m + 3)) 0, ((m + 3 : Nat) : Int)) from if_pos hle] at h
          rw [List.set_set, List.set_set]
          exact h
        · rw [show pkTo c p (m + 1) = pkTo c p m from if_neg hle] at h
          exact h
    exact inner ((lm l p).1.toNat - 2) 0 (by omega)
  have key : ∀ (f d : Nat), d + f = l.length → Wp (fun k => spec_bestTokens.l0 k l l.length (ck l d).1 (ck l d).2 ((l.length : Int) - 1 - (d : Int))) (fun r => r = bt l) := by
    intro f
    induction f with
    | zero =>
      intro d hd
      have : d = l.length := by omega
      subst this
      rw [show (l.length : Int) - 1 - (l.length : Int) = -1 by omega]
      exact fin
    | succ f ih => intro d hd; exact step d (by omega) (ih (d + 1) (by omega))
  have := key l.length 0 (by omega)
  rw [show (l.length : Int) - 1 - ((0 : Nat) : Int) = (l.length : Int) - 1 by omega] at this
  exact this
theorem rdT_get (ts : List S54) (i : Nat) : rd_T54 ts (i : Int) = ts.getD i z54 := by simp [rd_T54]
theorem w_iBestTokens (l : List Int) (hl : l.length ≤ 1000000) : Wp (fun k => impl_bestTokens.f k l) (fun r => r = bt l) := by
  unfold impl_bestTokens.f
  rw [w64 (x := (l.length : Int) + 1) (by omega) (by omega), w64 (x := (l.length : Int) - 1) (by omega) (by omega), show ((l.length : Int) + 1).toNat = l.length + 1 by omega, Int.toNat_natCast]
  refine Wp.pos (by omega) (Wp.pos (by omega) (Wp.pos (by omega) (Wp.pos (by omega) ?_)))
  have walk : ∀ (ts : List S54), ts.length = l.length → (∀ p, p < l.length → ts.getD p z54 = tkAt l p ((ck l l.length).2.getD p 0)) → ∀ (f p : Nat) (a : List S54), l.length ≤ p + f → p ≤ 2000000 → a.length ≤ p → Wp (fun k => impl_bestTokens.l2 k l ts a p) (fun r => r = a ++ wk l (ck l l.length).2 f p) := by
    intro ts hts htk f
    induction f with
    | zero =>
      intro p a hp hp2 ha
      exact Wp.step (fun k => impl_bestTokens.l2.eq_2 ..) (Wp.neg (by omega) (Wp.ret (by simp [wk])))
    | succ f ih =>
      intro p a hp hp2 ha
      have hk := kOk l l.length p
      unfold wk
      refine Wp.step (fun k => impl_bestTokens.l2.eq_2 ..) (Wp.ite (fun h => Wp.pos (by omega) (Wp.pos (by omega) (Wp.pos (by omega) ?_))) (fun h => Wp.ret (by rw [if_neg (by omega)]; simp)))
      have h0 := lm_spec l p
      have h18 : (lm l p).1 ≤ 18 := by rcases h0 with h0 | ⟨n, b, h0, h3, h4, _⟩ <;> rw [h0] <;> (try simp only) <;> omega
      have e1 : (tkAt l p ((ck l l.length).2.getD p 0)).f1 = (ck l l.length).2.getD p 0 := by
        unfold tkAt
        split
        · rename_i h; rw [h]
        · rfl
      have emx : mx ((ck l l.length).2.getD p 0) 1 = ((max ((ck l l.length).2.getD p 0).toNat 1 : Nat) : Int) := by unfold mx; split <;> omega
      have e3 : (⟨(tkAt l p ((ck l l.length).2.getD p 0)).f0, (ck l l.length).2.getD p 0, (tkAt l p ((ck l l.length).2.getD p 0)).f2⟩ : S54) = tkAt l p ((ck l l.length).2.getD p 0) := by
        unfold tkAt
        split
        · rename_i h; rw [h]
        · rfl
      rw [if_pos (by omega), rdT_get, htk p (by omega), e1, emx, w64 (x := (p : Int) + _) (by omega) (by omega), e3]
      have := ih (p + max ((ck l l.length).2.getD p 0).toNat 1) (a ++ [tkAt l p ((ck l l.length).2.getD p 0)]) (by omega) (by omega) (by rw [List.length_append]; simp; omega)
      rw [List.append_assoc, show ((p + max ((ck l l.length).2.getD p 0).toNat 1 : Nat) : Int) = (p : Int) + ((max ((ck l l.length).2.getD p 0).toNat 1 : Nat) : Int) by omega] at this
      exact this
  have step : ∀ (d : Nat) (ts : List S54), d < l.length → ts.length = l.length → (∀ p, l.length - d ≤ p → p < l.length → ts.getD p z54 = tkAt l p ((ck l d).2.getD p 0)) →
      (∀ ts : List S54, ts.length = l.length → (∀ p, l.length - (d + 1) ≤ p → p < l.length → ts.getD p z54 = tkAt l p ((ck l (d + 1)).2.getD p 0)) → Wp (fun k => impl_bestTokens.l0 k l (ck l (d + 1)).1 ts ((l.length : Int) - 1 - ((d + 1 : Nat) : Int))) (fun r => r = bt l)) →
      Wp (fun k => impl_bestTokens.l0 k l (ck l d).1 ts ((l.length : Int) - 1 - (d : Int))) (fun r => r = bt l) := by
    intro d ts hd hts htk next
    obtain ⟨p, hp⟩ : ∃ p : Nat, p = l.length - 1 - d := ⟨_, rfl⟩
    rw [show (l.length : Int) - 1 - ((d + 1 : Nat) : Int) = (p : Int) - 1 by omega] at next
    rw [show (l.length : Int) - 1 - (d : Int) = (p : Int) by omega]
    have e1 : (ck l (d + 1)).1 = (ck l d).1.set p (pk l (ck l d).1 p).1 := by rw [hp]; rfl
    have e2 : (ck l (d + 1)).2 = (ck l d).2.set p (pk l (ck l d).1 p).2 := by rw [hp]; rfl
    rw [e1, e2] at next
    obtain ⟨n1, n2⟩ := ck_len l d
    have hc := ck_ok l d
    generalize (ck l d).1 = c at *
    generalize (ck l d).2 = t at *
    refine Wp.step (fun k => impl_bestTokens.l0.eq_2 ..) (Wp.pos (by omega) ?_)
    rw [w64 (x := (p : Int) + 1) (by omega) (by omega)]
    refine Wp.pos (by omega) (Wp.pos (by omega) (Wp.pos (by omega) (Wp.pos (by omega) ?_)))
    refine Wp.call (w_longestMatch l p hl (by omega)) ?_
    rintro _ rfl
    have g1 := hc.get (by omega) (p + 1)
    rw [show (p : Int) + 1 = ((p + 1 : Nat) : Int) by omega, bl_rd, bl_rd, w64 (x := 9 + _) (by omega) (by omega)]
    have inner : ∀ (f m : Nat) (b0 b1 b2 : Int), m + f = (lm l p).1.toNat - 2 → (⟨b0, b1, b2⟩ : S54) = tkAt l p (pkTo c p m).2 → Wp (fun k => impl_bestTokens.l1 k l c ts p (pkTo c p m).1 (lm l p).1 (lm l p).2 ((m + 3 : Nat) : Int) b0 b1 b2) (fun r => r = bt l) := by
      have h0 := lm_spec l p
      intro f
      induction f with
      | zero =>
        intro m b0 b1 b2 hm hb
        refine Wp.step (fun k => impl_bestTokens.l1.eq_2 ..) (Wp.neg ?_ ?_)
        · rcases h0 with h0 | ⟨n, b, h0, h3, h4, _⟩ <;> rw [h0] at hm ⊢ <;> (try simp only at hm) <;> (try simp only) <;> omega
        · rw [w64 (x := (p : Int) - 1) (by omega) (by omega), Int.toNat_natCast, hb]
          have : m = (lm l p).1.toNat - 2 := by omega
          subst this
          refine Wp.pos (by omega) (Wp.pos (by omega) (Wp.pos (by omega) (next _ (by rw [List.length_set]; exact hts) fun q hq hq2 => ?_)))
          have eg : ∀ v : S54, (ts.set p v).getD q z54 = if q = p then v else ts.getD q z54 := fun v => by
            simp only [List.getD_eq_getElem?_getD, List.getElem?_set]
            by_cases h : p = q
            · subst h; simp [show p < ts.length by omega]
            · simp [h, Ne.symm h, eq_comm]
          rw [eg, bl_set _ _ (by omega)]
          split
          · rename_i e; rw [e]; rfl
          · exact htk q (by omega) hq2
      | succ f ih =>
        intro m b0 b1 b2 hm hb
        have hn : (m + 3 : Nat) ≤ (lm l p).1 ∧ p + (m + 3) ≤ l.length := by
          rcases h0 with h0 | ⟨n, b, h0, h3, h4, _, _, _, h5, _⟩ <;> rw [h0] at hm ⊢ <;> (try simp only at hm) <;> (try simp only) <;> omega
        refine Wp.step (fun k => impl_bestTokens.l1.eq_2 ..) (Wp.pos (by omega) ?_)
        have g2 := hc.get (by omega) (p + (m + 3))
        rw [w64 (x := (p : Int) + _) (by omega) (by omega), show (p : Int) + ((m + 3 : Nat) : Int) = ((p + (m + 3) : Nat) : Int) by omega, bl_rd, w64 (x := 11 + _) (by omega) (by omega), w64 (x := ((m + 3 : Nat) : Int) + 1) (by omega) (by omega), show ((m + 3 : Nat) : Int) + 1 = ((m + 1 + 3 : Nat) : Int) by omega]
        refine Wp.pos (by omega) (Wp.pos (by omega) (Wp.ite (fun hle => ?_) (fun hle => ?_)))
        · have e : pkTo c p (m + 1) = (11 + c.getD (p + (m + 3)) 0, ((m + 3 : Nat) : Int)) := if_pos hle
          have h := ih (m + 1) 0 ((m + 3 : Nat) : Int) (lm l p).2 (by omega) (by rw [e]; unfold tkAt; rw [if_neg (by simp only; omega)])
          rw [e] at h
          exact h
        · have e : pkTo c p (m + 1) = pkTo c p m := if_neg hle
          have h := ih (m + 1) b0 b1 b2 (by omega) (by rw [e]; exact hb)
          rw [e] at h
          exact h
    exact inner ((lm l p).1.toNat - 2) 0 (l.getD p 0) 0 0 (by omega) rfl
  have key : ∀ (f d : Nat) (ts : List S54), d + f = l.length → ts.length = l.length → (∀ p, l.length - d ≤ p → p < l.length → ts.getD p z54 = tkAt l p ((ck l d).2.getD p 0)) → Wp (fun k => impl_bestTokens.l0 k l (ck l d).1 ts ((l.length : Int) - 1 - (d : Int))) (fun r => r = bt l) := by
    intro f
    induction f with
    | zero =>
      intro d ts hd hts htk
      have : d = l.length := by omega
      subst this
      refine Wp.step (fun k => impl_bestTokens.l0.eq_2 ..) (Wp.neg (by omega) ?_)
      exact walk ts hts (fun p hp => htk p (by omega) hp) l.length 0 [] (by omega) (by omega) (by simp)
    | succ f ih => intro d ts hd hts htk; exact step d ts (by omega) hts htk (fun ts h1 h2 => ih (d + 1) ts (by omega) h1 h2)
  have := key l.length 0 (List.replicate l.length z54) (by omega) (by simp) (fun p h1 h2 => by omega)
  rw [show (l.length : Int) - 1 - ((0 : Nat) : Int) = (l.length : Int) - 1 by omega] at this
  exact this
end Go.Proofs.Ytchahbdmdcllaaa.P
namespace Go.Proofs.Ytchahbdmdcllaaa.P
open Go.RowKit Go.Proofs.YtchahbdmdcllaaaW.PrintWords Go.Proofs.YtchahbdmdcllaaaW.PrintLast Go.Proofs.YtchahbdmdcllaaaW.PrintMore Go.Proofs.Ytchahbdmdcllaaa.Wp
set_option linter.unusedVariables false
set_option linter.unusedSimpArgs false
def TkOk (t : S54) (h : Nat) : Prop := (t.f1 = 0 ∧ t.f2 = 0 ∧ 0 ≤ t.f0 ∧ t.f0 ≤ 255) ∨ (t.f0 = 0 ∧ (3 ≤ t.f1 ∧ t.f1 ≤ 18) ∧ 1 ≤ t.f2 ∧ t.f2 ≤ 64 ∧ t.f2 ≤ h)
instance (t : S54) (h : Nat) : Decidable (TkOk t h) := inferInstanceAs (Decidable (_ ∨ _))
def cpy (o : List Int) (b : Nat) : Nat → List Int
  | 0 => o
  | m + 1 => cpy (o ++ [o.getD (o.length - b) 0]) b m
def grow (t : S54) (o : List Int) : List Int := if t.f1 = 0 then o ++ [t.f0] else cpy o t.f2.toNat t.f1.toNat
theorem cpy_len (o : List Int) (b m : Nat) : (cpy o b m).length = o.length + m := by
  induction m generalizing o with
  | zero => rfl
  | succ m ih =>
    unfold cpy
    rw [ih, List.length_append]
    simp
    omega
theorem grow_len {t : S54} {o : List Int} (h : TkOk t o.length) : (grow t o).length ≤ o.length + 18 := by
  unfold grow
  split
  · rw [List.length_append]; simp
  · rw [cpy_len]
    rcases h with h | h
    · exact absurd h.1 ‹_›
    · omega
def exF : List S54 → List Int → Option (List Int)
  | [], o => some o
  | t :: ts, o => if TkOk t o.length then (if (grow t o).length > 1200 then none else exF ts (grow t o)) else none
def exR : Option (List Int) → List Int × Bool
  | none => ([], false)
  | some o => (o, true)
theorem exF_drop (ts : List S54) (i : Nat) (o : List Int) (h : i < ts.length) : exF (ts.drop i) o = if TkOk (ts.getD i z54) o.length then (if (grow (ts.getD i z54) o).length > 1200 then none else exF (ts.drop (i + 1)) (grow (ts.getD i z54) o)) else none := by
  rw [List.drop_eq_getElem_cons h]
  simp [exF, List.getD_eq_getElem?_getD, List.getElem?_eq_getElem h]
theorem w_validToken (t : S54) (h : Nat) (hh : h ≤ 1000000) : Wp (fun _ => spec_validToken.f t.f0 t.f1 t.f2 h) (fun r => r = decide (TkOk t h)) := by
  unfold spec_validToken.f
  have hmn : mn (h : Int) 64 = ((min h 64 : Nat) : Int) := by unfold mn; split <;> omega
  refine Wp.ite (fun h1 => Wp.ite (fun h2 => ?_) (fun h2 => Wp.ret ?_)) (fun h1 => Wp.ite (fun h2 => ?_) (fun h2 => Wp.ret ?_))
  · refine Wp.call (w_inRange0 _ _ _) ?_
    rintro _ rfl
    refine Wp.ret ?_
    rw [Bool.eq_iff_iff, decide_eq_true_eq, decide_eq_true_eq]
    unfold TkOk
    omega
  · exact (decide_eq_false (by unfold TkOk; omega)).symm
  · refine Wp.call (w_inRange0 _ _ _) ?_
    rintro _ rfl
    refine Wp.ite (fun h3 => ?_) (fun h3 => Wp.ret ?_)
    · have h3 := of_decide_eq_true h3
      refine Wp.call (w_inRange0 _ _ _) ?_
      rintro _ rfl
      refine Wp.ret ?_
      rw [hmn, Bool.eq_iff_iff, decide_eq_true_eq, decide_eq_true_eq]
      unfold TkOk
      omega
    · have h3 : ¬ (3 ≤ t.f1 ∧ t.f1 ≤ 18) := fun e => h3 (decide_eq_true e)
      exact (decide_eq_false (by unfold TkOk; omega)).symm
  · exact (decide_eq_false (by unfold TkOk; omega)).symm
theorem w_sExpand (ts : List S54) (hts : ts.length ≤ 1000000) : Wp (fun k => spec_ExpandTokens.f k ts) (fun r => r = exR (exF ts [])) := by
  unfold spec_ExpandTokens.f
  have key : ∀ d (i : Nat) (o : List Int), i + d = ts.length → o.length ≤ 1200 → Wp (fun k => spec_ExpandTokens.l0 k ts o i) (fun r => r = exR (exF (ts.drop i) o)) := by
    intro d
    induction d with
    | zero =>
      intro i o hd ho
      refine Wp.step (fun k => spec_ExpandTokens.l0.eq_2 ..) (Wp.neg (by omega) (Wp.ret ?_))
      rw [List.drop_of_length_le (by omega)]
      rfl
    | succ d ih =>
      intro i o hd ho
      refine Wp.step (fun k => spec_ExpandTokens.l0.eq_2 ..) (Wp.pos (by omega) (Wp.pos (by omega) ?_))
      have et : rd_T54 ts (i : Int) = ts.getD i z54 := rdT_get ts i
      rw [exF_drop ts i o (by omega), et]
      generalize ts.getD i z54 = t at et
      refine Wp.call (w_validToken t o.length (by omega)) ?_
      rintro _ rfl
      by_cases hv : TkOk t o.length
      · rw [decide_eq_true hv, if_pos hv]
        have gl := grow_len hv
        refine Wp.pos rfl ?_
        have fin : ∀ j : Int, j = t.f1 ∨ t.f1 = 0 → ¬ j < t.f1 → Wp (fun k => spec_ExpandTokens.l1 k ts (grow t o) i j) (fun r => r = exR (if (grow t o).length > 1200 then none else exF (ts.drop (i + 1)) (grow t o))) := by
          intro j _ hj
          refine Wp.step (fun k => spec_ExpandTokens.l1.eq_2 ..) (Wp.pos (by omega) (Wp.pos (by omega) ?_))
          rw [et]
          refine Wp.neg hj ?_
          refine Wp.ite (fun hg => Wp.ret (by rw [if_pos (by omega)]; rfl)) (fun hg => ?_)
          rw [if_neg (by omega), w64 (x := (i : Int) + 1) (by omega) (by omega)]
          exact ih (i + 1) _ (by omega) (by omega)
        refine Wp.ite (fun h0 => Wp.pos (by omega) ?_) (fun h0 => ?_)
        · refine Wp.step (fun k => spec_ExpandTokens.j1.eq_2 ..) ?_
          have eg : grow t o = o ++ [t.f0] := if_pos h0
          rw [← eg]
          exact fin 0 (.inr h0) (by omega)
        · refine Wp.step (fun k => spec_ExpandTokens.j1.eq_2 ..) ?_
          have eg : grow t o = cpy o t.f2.toNat t.f1.toNat := if_neg h0
          have hv2 : t.f0 = 0 ∧ (3 ≤ t.f1 ∧ t.f1 ≤ 18) ∧ 1 ≤ t.f2 ∧ t.f2 ≤ 64 ∧ t.f2 ≤ o.length := hv.resolve_left fun e => h0 e.1
          have inner : ∀ (m j : Nat) (x : List Int), (j : Int) + m = t.f1 → cpy x t.f2.toNat m = grow t o → o.length ≤ x.length → x.length ≤ o.length + j → Wp (fun k => spec_ExpandTokens.l1 k ts x i j) (fun r => r = exR (if (grow t o).length > 1200 then none else exF (ts.drop (i + 1)) (grow t o))) := by
            intro m
            induction m with
            | zero =>
              intro j x hj hx _ _
              have hx : x = grow t o := hx
              rw [hx]
              exact fin j (.inl (by omega)) (by omega)
            | succ m ihm =>
              intro j x hj hx hxl hxu
              refine Wp.step (fun k => spec_ExpandTokens.l1.eq_2 ..) (Wp.pos (by omega) (Wp.pos (by omega) ?_))
              rw [et]
              refine Wp.pos (by omega) ?_
              rw [w64 (x := (x.length : Int) - t.f2) (by omega) (by omega), w64 (x := (j : Int) + 1) (by omega) (by omega), show (x.length : Int) - t.f2 = ((x.length - t.f2.toNat : Nat) : Int) by omega, bl_rd]
              refine Wp.pos (by omega) (Wp.pos (by omega) (Wp.pos (by omega) ?_))
              exact ihm (j + 1) _ (by omega) hx (by rw [List.length_append]; simp; omega) (by rw [List.length_append]; simp; omega)
          exact inner t.f1.toNat 0 o (by omega) eg.symm (Nat.le_refl _) (by omega)
      · rw [decide_eq_false hv, if_neg hv]
        exact Wp.neg (by decide) (Wp.ret rfl)
  exact key ts.length 0 [] (by omega) (by simp)
theorem w_iExpand (ts : List S54) (hts : ts.length ≤ 1000000) : Wp (fun k => impl_expandTokens.f k ts) (fun r => r = exR (exF ts [])) := by
  unfold impl_expandTokens.f
  have key : ∀ d (i : Nat) (o : List Int), i + d = ts.length → o.length ≤ 1200 → Wp (fun k => impl_expandTokens.l0 k o ts ts.length i) (fun r => r = exR (exF (ts.drop i) o)) := by
    intro d
    induction d with
    | zero =>
      intro i o hd ho
      refine Wp.step (fun k => impl_expandTokens.l0.eq_2 ..) (Wp.neg (by omega) (Wp.ret ?_))
      rw [List.drop_of_length_le (by omega)]
      rfl
    | succ d ih =>
      intro i o hd ho
      refine Wp.step (fun k => impl_expandTokens.l0.eq_2 ..) (Wp.pos (by omega) (Wp.pos (by omega) (Wp.pos (by omega) ?_)))
      rw [exF_drop ts i o (by omega), rdT_get ts i]
      generalize ts.getD i z54 = t
      have good : ∀ hv : TkOk t o.length, t.f1 = 0 → Wp (fun k => impl_expandTokens.j1 k o ts ts.length i true t.f0 t.f1 t.f2) (fun r => r = exR (if TkOk t o.length then (if (grow t o).length > 1200 then none else exF (ts.drop (i + 1)) (grow t o)) else none)) := by
        intro hv h0
        have eg : grow t o = o ++ [t.f0] := if_pos h0
        have gl := grow_len hv
        rw [if_pos hv]
        refine Wp.step (fun k => impl_expandTokens.j1.eq_2 ..) (Wp.pos rfl (Wp.pos (by omega) ?_))
        refine Wp.call (Q := fun r => r = grow t o) (Wp.ret eg.symm) ?_
        rintro _ rfl
        refine Wp.ite (fun hg => Wp.ret (by rw [if_pos (by omega)]; rfl)) (fun hg => ?_)
        rw [if_neg (by omega), w64 (x := (i : Int) + 1) (by omega) (by omega)]
        exact ih (i + 1) _ (by omega) (by omega)
      have bad2 : ¬ TkOk t o.length → Wp (fun k => impl_expandTokens.j2 k o ts ts.length i false t.f0 t.f1 t.f2) (fun r => r = exR (if TkOk t o.length then (if (grow t o).length > 1200 then none else exF (ts.drop (i + 1)) (grow t o)) else none)) := by
        intro hv
        refine Wp.step (fun k => impl_expandTokens.j2.eq_2 ..) (Wp.neg (by decide) (Wp.ret ?_))
        rw [if_neg hv]
        rfl
      have other : ¬ (t.f1 = 0 ∧ t.f2 = 0 ∧ 0 ≤ t.f0 ∧ t.f0 ≤ 255) → Wp (fun k => impl_expandTokens.j1 k o ts ts.length i false t.f0 t.f1 t.f2) (fun r => r = exR (if TkOk t o.length then (if (grow t o).length > 1200 then none else exF (ts.drop (i + 1)) (grow t o)) else none)) := by
        intro hn
        refine Wp.step (fun k => impl_expandTokens.j1.eq_2 ..) (Wp.neg (by decide) ?_)
        refine Wp.ite (fun a0 => ?_) (fun a0 => bad2 (by unfold TkOk; omega))
        refine Wp.ite (fun a1 => ?_) (fun a1 => bad2 (by unfold TkOk; omega))
        refine Wp.ite (fun a2 => ?_) (fun a2 => bad2 (by unfold TkOk; omega))
        refine Wp.ite (fun a3 => ?_) (fun a3 => bad2 (by unfold TkOk; omega))
        refine Wp.ite (fun a4 => ?_) (fun a4 => bad2 (by unfold TkOk; omega))
        by_cases a5 : t.f2 ≤ (o.length : Int)
        · rw [decide_eq_true a5]
          have hv : TkOk t o.length := .inr ⟨a0, ⟨by omega, a2⟩, by omega, a4, a5⟩
          have gl := grow_len hv
          have eg : grow t o = cpy o t.f2.toNat t.f1.toNat := if_neg (by omega)
          rw [if_pos hv]
          refine Wp.step (fun k => impl_expandTokens.j2.eq_2 ..) (Wp.pos rfl ?_)
          have inner : ∀ (m j : Nat) (x : List Int), (j : Int) + m = t.f1 → cpy x t.f2.toNat m = grow t o → o.length ≤ x.length → x.length ≤ o.length + j → Wp (fun k => impl_expandTokens.l1 k x ts ts.length i t.f1 j t.f0 t.f1 t.f2) (fun r => r = exR (if (grow t o).length > 1200 then none else exF (ts.drop (i + 1)) (grow t o))) := by
            intro m
            induction m with
            | zero =>
              intro j x hj hx _ _
              have hx : x = grow t o := hx
              rw [hx]
              refine Wp.step (fun k => impl_expandTokens.l1.eq_2 ..) (Wp.neg (by omega) ?_)
              refine Wp.ite (fun hg => Wp.ret (by rw [if_pos (by omega)]; rfl)) (fun hg => ?_)
              rw [if_neg (by omega), w64 (x := (i : Int) + 1) (by omega) (by omega)]
              exact ih (i + 1) _ (by omega) (by omega)
            | succ m ihm =>
              intro j x hj hx hxl hxu
              refine Wp.step (fun k => impl_expandTokens.l1.eq_2 ..) (Wp.pos (by omega) ?_)
              rw [w64 (x := (x.length : Int) - t.f2) (by omega) (by omega), w64 (x := (j : Int) + 1) (by omega) (by omega), show (x.length : Int) - t.f2 = ((x.length - t.f2.toNat : Nat) : Int) by omega, bl_rd]
              refine Wp.pos (by omega) (Wp.pos (by omega) (Wp.pos (by omega) ?_))
              exact ihm (j + 1) _ (by omega) hx (by rw [List.length_append]; simp; omega) (by rw [List.length_append]; simp; omega)
          exact inner t.f1.toNat 0 o (by omega) eg.symm (Nat.le_refl _) (by omega)
        · rw [decide_eq_false a5]
          exact bad2 (by unfold TkOk; omega)
      refine Wp.ite (fun h1 => Wp.ite (fun h2 => Wp.ite (fun h3 => ?_) (fun h3 => other (by omega))) (fun h2 => other (by omega))) (fun h1 => other (by omega))
      by_cases h4 : t.f0 ≤ 255
      · rw [decide_eq_true h4]
        exact good (.inl ⟨h1, h2, h3, h4⟩) h1
      · rw [decide_eq_false h4]
        exact other (by omega)
  exact key ts.length 0 [] (by omega) (by simp)
def pk2 (t : S54) : List Int := if t.f1 = 0 then [0, t.f0] else [t.f1, t.f2]
def pkT (ts : List S54) : List Int := ts.flatMap pk2
theorem pkT_len (ts : List S54) : (pkT ts).length = 2 * ts.length := by
  induction ts with
  | nil => rfl
  | cons t ts ih =>
    have e : (pk2 t).length = 2 := by unfold pk2; split <;> rfl
    show (pk2 t ++ pkT ts).length = _
    rw [List.length_append, ih, e, List.length_cons]
    omega
theorem pkT_drop (ts : List S54) (i : Nat) (h : i < ts.length) : pkT (ts.drop i) = pk2 (ts.getD i z54) ++ pkT (ts.drop (i + 1)) := by
  rw [List.drop_eq_getElem_cons h]
  unfold pkT
  rw [List.flatMap_cons]
  simp only [List.getD_eq_getElem?_getD, List.getElem?_eq_getElem h, Option.getD_some]
def un2 (a b : Int) : S54 := if a = 0 then ⟨b, 0, 0⟩ else ⟨0, a, b⟩
def unT : List Int → List S54
  | a :: b :: x => un2 a b :: unT x
  | _ => []
def TkForm (t : S54) : Prop := (t.f1 = 0 ∧ t.f2 = 0) ∨ (t.f1 ≠ 0 ∧ t.f0 = 0)
theorem wk_form (l k : List Int) (hb : ∀ x ∈ l, 0 ≤ x ∧ x ≤ 255) (hk : ∀ p, k.getD p 0 = 0 ∨ (3 ≤ k.getD p 0 ∧ k.getD p 0 ≤ (lm l p).1)) : ∀ (f p : Nat), (wk l k f p).length ≤ f ∧ ∀ t ∈ wk l k f p, TkForm t ∧ (0 ≤ t.f0 ∧ t.f0 ≤ 255) ∧ (0 ≤ t.f1 ∧ t.f1 ≤ 255) ∧ (0 ≤ t.f2 ∧ t.f2 ≤ 255) := by
  intro f
  induction f with
  | zero => intro p; exact ⟨Nat.le_refl _, fun t ht => by simp [wk] at ht⟩
  | succ f ih =>
    intro p
    unfold wk
    split
    · rename_i hlt
      obtain ⟨i1, i2⟩ := ih (p + max (k.getD p 0).toNat 1)
      refine ⟨by simp only [List.length_cons]; omega, fun t ht => ?_⟩
      rcases List.mem_cons.1 ht with e | e
      · subst e
        have hB : 0 ≤ l.getD p 0 ∧ l.getD p 0 ≤ 255 := by
          have := hb _ (List.getElem_mem hlt)
          simpa [List.getD_eq_getElem?_getD, List.getElem?_eq_getElem hlt] using this
        unfold tkAt
        split
        · exact ⟨.inl ⟨rfl, rfl⟩, hB, by simp only; omega, by simp only; omega⟩
        · rename_i h0
          have h1 := (hk p).resolve_left h0
          rcases lm_spec l p with e | ⟨n, b, e, n3, n18, b1, b64, _⟩
          · rw [e] at h1; simp only at h1; omega
          · rw [e] at h1 ⊢
            simp only at h1
            exact ⟨.inr ⟨h0, rfl⟩, by simp only; omega, by simp only; omega, by simp only; omega⟩
      · exact i2 t e
    · exact ⟨by simp, fun t ht => by simp at ht⟩
theorem bt_form (l : List Int) (hb : ∀ x ∈ l, 0 ≤ x ∧ x ≤ 255) : (bt l).length ≤ l.length ∧ ∀ t ∈ bt l, TkForm t ∧ (0 ≤ t.f0 ∧ t.f0 ≤ 255) ∧ (0 ≤ t.f1 ∧ t.f1 ≤ 255) ∧ (0 ≤ t.f2 ∧ t.f2 ≤ 255) := wk_form l _ hb (kOk l l.length) l.length 0
theorem pkT_B (ts : List S54) (h : ∀ t ∈ ts, (0 ≤ t.f0 ∧ t.f0 ≤ 255) ∧ (0 ≤ t.f1 ∧ t.f1 ≤ 255) ∧ (0 ≤ t.f2 ∧ t.f2 ≤ 255)) : ∀ x ∈ pkT ts, 0 ≤ x ∧ x ≤ 255 := by
  intro x hx
  obtain ⟨t, ht, hx⟩ := List.mem_flatMap.1 hx
  have := h t ht
  unfold pk2 at hx
  split at hx <;> simp only [List.mem_cons, List.not_mem_nil, or_false] at hx <;> rcases hx with rfl | rfl <;> omega
theorem w_packTokens (ts : List S54) (hts : ts.length ≤ 1000000) : Wp (fun k => spec_packTokens.f k ts) (fun r => r = pkT ts) := by
  unfold spec_packTokens.f
  have key : ∀ d (i : Nat) (a : List Int), i + d = ts.length → a.length ≤ 2 * i → Wp (fun k => spec_packTokens.l0 k ts a i) (fun r => r = a ++ pkT (ts.drop i)) := by
    intro d
    induction d with
    | zero =>
      intro i a hd ha
      refine Wp.step (fun k => spec_packTokens.l0.eq_2 ..) (Wp.neg (by omega) (Wp.ret ?_))
      rw [List.drop_of_length_le (by omega)]
      simp [pkT]
    | succ d ih =>
      intro i a hd ha
      refine Wp.step (fun k => spec_packTokens.l0.eq_2 ..) (Wp.pos (by omega) (Wp.pos (by omega) ?_))
      rw [rdT_get ts i, pkT_drop ts i (by omega), w64 (x := (i : Int) + 1) (by omega) (by omega)]
      generalize ts.getD i z54 = t
      refine Wp.ite (fun h0 => ?_) (fun h0 => ?_)
      · refine Wp.call (Q := fun r => r = pk2 t) (Wp.ret (if_pos h0).symm) ?_
        rintro _ rfl
        have e : (pk2 t).length = 2 := by unfold pk2; split <;> rfl
        refine Wp.pos (by omega) ?_
        rw [← List.append_assoc]
        exact ih (i + 1) _ (by omega) (by rw [List.length_append]; omega)
      · refine Wp.call (Q := fun r => r = pk2 t) (Wp.ret (if_neg h0).symm) ?_
        rintro _ rfl
        have e : (pk2 t).length = 2 := by unfold pk2; split <;> rfl
        refine Wp.pos (by omega) ?_
        rw [← List.append_assoc]
        exact ih (i + 1) _ (by omega) (by rw [List.length_append]; omega)
  exact key ts.length 0 [] (by omega) (by simp)
end Go.Proofs.Ytchahbdmdcllaaa.P
namespace Go.Proofs.Ytchahbdmdcllaaa.P
open Go.RowKit Go.Proofs.YtchahbdmdcllaaaW.PrintWords Go.Proofs.YtchahbdmdcllaaaW.PrintLast Go.Proofs.YtchahbdmdcllaaaW.PrintMore Go.Proofs.Ytchahbdmdcllaaa.Wp
set_option linter.unusedVariables false
set_option linter.unusedSimpArgs false
def ckStep (s : Int × Int) (n : Int) : Int × Int := ((s.1 + n) % 251, (s.2 + (s.1 + n) % 251) % 251)
def ckOf (l : List Int) : Int := 256 * (l.foldl ckStep (1, 0)).2 + (l.foldl ckStep (1, 0)).1
def CkOk (s : Int × Int) : Prop := 0 ≤ s.1 ∧ s.1 ≤ 250 ∧ 0 ≤ s.2 ∧ s.2 ≤ 250
theorem ckStep_ok (s : Int × Int) (n : Int) : CkOk (ckStep s n) := by
  unfold CkOk ckStep
  refine ⟨?_, ?_, ?_, ?_⟩ <;> simp only <;> omega
theorem ckFold_ok (l : List Int) (s : Int × Int) (h : CkOk s) : CkOk (l.foldl ckStep s) := by
  induction l generalizing s with
  | nil => exact h
  | cons x l ih => exact ih _ (ckStep_ok s x)
theorem ck0 : CkOk (1, 0) := by unfold CkOk; simp
theorem ckOf_range (l : List Int) : 0 ≤ ckOf l ∧ ckOf l < 65536 := by
  have := ckFold_ok l (1, 0) ck0
  unfold CkOk at this
  unfold ckOf
  omega
theorem ck_take (l : List Int) (i : Nat) (h : i < l.length) : (l.take (i + 1)).foldl ckStep (1, 0) = ckStep ((l.take i).foldl ckStep (1, 0)) (l.getD i 0) := by
  rw [List.take_succ_eq_append_getElem h, List.foldl_append]
  simp [List.getD_eq_getElem?_getD, List.getElem?_eq_getElem h]
theorem w_adler (l : List Int) (hb : allB l = true) (hl : l.length ≤ 1000000) : Wp (fun k => spec_adler.f k l) (fun r => r = ckOf l) := by
  unfold spec_adler.f
  have key : ∀ d (i : Nat), i + d = l.length → Wp (fun k => spec_adler.l0 k l ((l.take i).foldl ckStep (1, 0)).1 ((l.take i).foldl ckStep (1, 0)).2 i) (fun r => r = ckOf l) := by
    intro d
    induction d with
    | zero =>
      intro i hd
      have hk := ckFold_ok (l.take i) (1, 0) ck0
      unfold CkOk at hk
      refine Wp.step (fun k => spec_adler.l0.eq_2 ..) (Wp.neg (by omega) (Wp.ret ?_))
      rw [w64 (x := 256 * _) (by omega) (by omega), w64 (by omega) (by omega), List.take_of_length_le (by omega)]
      rfl
    | succ d ih =>
      intro i hd
      have hk := ckFold_ok (l.take i) (1, 0) ck0
      unfold CkOk at hk
      have hr := rd_leB hb i (by omega)
      refine Wp.step (fun k => spec_adler.l0.eq_2 ..) (Wp.pos (by omega) (Wp.pos (by omega) ?_))
      have := ih (i + 1) (by omega)
      rw [ck_take l i (by omega)] at this
      rw [bl_rd, w64 (x := (i : Int) + 1) (by omega) (by omega), w64 (x := _ + l.getD i 0) (by omega) (by omega), Int.tmod_eq_emod_of_nonneg (by omega), w64 (x := _ + _ % 251) (by omega) (by omega), Int.tmod_eq_emod_of_nonneg (by omega)]
      exact this
  exact key l.length 0 (by omega)
theorem w_checkOf (l : List Int) (hb : allB l = true) (hl : l.length ≤ 1000000) : Wp (fun k => impl_checkOf.f k l) (fun r => r = ckOf l) := by
  unfold impl_checkOf.f
  have key : ∀ d (i : Nat), i + d = l.length → Wp (fun k => impl_checkOf.l0 k ((l.take i).foldl ckStep (1, 0)).1 ((l.take i).foldl ckStep (1, 0)).2 l l.length i) (fun r => r = ckOf l) := by
    intro d
    induction d with
    | zero =>
      intro i hd
      have hk := ckFold_ok (l.take i) (1, 0) ck0
      unfold CkOk at hk
      refine Wp.step (fun k => impl_checkOf.l0.eq_2 ..) (Wp.neg (by omega) (Wp.ret ?_))
      rw [w64 (x := 256 * _) (by omega) (by omega), w64 (by omega) (by omega), List.take_of_length_le (by omega)]
      rfl
    | succ d ih =>
      intro i hd
      have hk := ckFold_ok (l.take i) (1, 0) ck0
      unfold CkOk at hk
      have hr := rd_leB hb i (by omega)
      refine Wp.step (fun k => impl_checkOf.l0.eq_2 ..) (Wp.pos (by omega) (Wp.pos (by omega) (Wp.pos (by omega) ?_)))
      have := ih (i + 1) (by omega)
      rw [ck_take l i (by omega)] at this
      rw [bl_rd, w64 (x := (i : Int) + 1) (by omega) (by omega), w64 (x := _ + l.getD i 0) (by omega) (by omega), Int.tmod_eq_emod_of_nonneg (by omega), w64 (x := _ + _ % 251) (by omega) (by omega), Int.tmod_eq_emod_of_nonneg (by omega)]
      exact this
  exact key l.length 0 (by omega)
theorem ck_differ (l : List Int) (s t : Int × Int) (h : (s.1 - t.1) % 251 ≠ 0) : ((l.foldl ckStep s).1 - (l.foldl ckStep t).1) % 251 ≠ 0 := by
  induction l generalizing s t with
  | nil => exact h
  | cons x l ih =>
    refine ih _ _ ?_
    unfold ckStep
    simp only
    omega
theorem ck_change (l : List Int) (i : Nat) (v : Int) (hi : i < l.length) (hv : v = l.getD i 0 + 1 ∨ v = l.getD i 0 - 1) : ckOf (l.set i v) ≠ ckOf l := by
  have e1 : l = l.take i ++ l.getD i 0 :: l.drop (i + 1) := by
    conv => lhs; rw [← List.take_append_drop i l]
    rw [List.drop_eq_getElem_cons hi]
    simp [List.getD_eq_getElem?_getD, List.getElem?_eq_getElem hi]
  have e2 : l.set i v = l.take i ++ v :: l.drop (i + 1) := by rw [List.set_eq_take_append_cons_drop, if_pos hi]
  intro he
  have d := ck_differ (l.drop (i + 1)) (ckStep ((l.take i).foldl ckStep (1, 0)) v) (ckStep ((l.take i).foldl ckStep (1, 0)) (l.getD i 0)) (by
    unfold ckStep
    simp only
    omega)
  have f1 : l.foldl ckStep (1, 0) = (l.drop (i + 1)).foldl ckStep (ckStep ((l.take i).foldl ckStep (1, 0)) (l.getD i 0)) := by
    conv => lhs; rw [e1]
    rw [List.foldl_append, List.foldl_cons]
  have f2 : (l.set i v).foldl ckStep (1, 0) = (l.drop (i + 1)).foldl ckStep (ckStep ((l.take i).foldl ckStep (1, 0)) v) := by
    rw [e2, List.foldl_append, List.foldl_cons]
  have k1 := ckFold_ok l (1, 0) ck0
  have k2 := ckFold_ok (l.set i v) (1, 0) ck0
  rw [← f1, ← f2] at d
  unfold CkOk at k1 k2
  unfold ckOf at he
  omega
end Go.Proofs.Ytchahbdmdcllaaa.P
namespace Go.Proofs.Ytchahbdmdcllaaa.P
open Go.RowKit Go.Proofs.YtchahbdmdcllaaaW.PrintWords Go.Proofs.YtchahbdmdcllaaaW.PrintLast Go.Proofs.YtchahbdmdcllaaaW.PrintMore Go.Proofs.Ytchahbdmdcllaaa.Wp
set_option linter.unusedVariables false
set_option linter.unusedSimpArgs false
theorem rd_cut (l : List Int) (a b i : Int) (ha : 0 ≤ a) (hi : 0 ≤ i) (hb : a + i < b) : rd ((l.take b.toNat).drop a.toNat) i = rd l (a + i) := by
  unfold rd
  rw [List.getD_eq_getElem?_getD, List.getD_eq_getElem?_getD, List.getElem?_drop, List.getElem?_take, if_pos (by omega)]
  congr 2
  omega
theorem rd_B {l : List Int} (h : ∀ x ∈ l, 0 ≤ x ∧ x ≤ 255) (i : Int) (h0 : 0 ≤ i) (h1 : i < (l.length : Int)) : 0 ≤ rd l i ∧ rd l i ≤ 255 := by
  refine h _ ?_
  unfold rd
  rw [List.getD_eq_getElem?_getD, List.getElem?_eq_getElem (by omega)]
  exact List.getElem_mem _
def imgB (a b c : Int) (l : List Int) : Bool := decide ((1 ≤ a ∧ a ≤ 16) ∧ (1 ≤ b ∧ b ≤ 16) ∧ (1 ≤ c ∧ c ≤ 4)) && decide ((l.length : Int) = a * b * c) && allB l
theorem imgB_ok {a b c : Int} {l : List Int} : imgB a b c l = true ↔ ImgOk a b c l := by
  unfold imgB ImgOk
  rw [Bool.and_eq_true, Bool.and_eq_true, decide_eq_true_eq, decide_eq_true_eq]
  constructor
  · rintro ⟨⟨h1, h2⟩, h3⟩
    exact ⟨h1.1, h1.2.1, h1.2.2, h2, allB_mem h3⟩
  · rintro ⟨h1, h2, h3, h4, h5⟩
    exact ⟨⟨⟨h1, h2, h3⟩, h4⟩, allB_of h5⟩
theorem w_sImage (a b c : Int) (l : List Int) (hl : l.length ≤ 1000000000) : Wp (fun k => spec_validImage.f k a b c l) (fun r => r = imgB a b c l) := by
  unfold spec_validImage.f spec_validShape.f imgB
  refine Wp.call (Q := fun r => r = decide ((1 ≤ a ∧ a ≤ 16) ∧ (1 ≤ b ∧ b ≤ 16) ∧ (1 ≤ c ∧ c ≤ 4))) ?_ ?_
  · refine Wp.call (w_inRange0 _ _ _) ?_
    rintro _ rfl
    refine Wp.ite (fun h => ?_) (fun h => Wp.ret ?_)
    · refine Wp.call (w_inRange0 _ _ _) ?_
      rintro _ rfl
      refine Wp.ite (fun h2 => ?_) (fun h2 => Wp.ret ?_)
      · refine Wp.call (w_inRange0 _ _ _) ?_
        rintro _ rfl
        refine Wp.ret ?_
        rw [decide_eq_true_eq] at h h2
        rw [Bool.eq_iff_iff, decide_eq_true_eq, decide_eq_true_eq]
        exact ⟨fun h3 => ⟨h, h2, h3⟩, fun h3 => h3.2.2⟩
      · rw [decide_eq_true_eq] at h2
        exact (decide_eq_false fun h3 => h2 h3.2.1).symm
    · rw [decide_eq_true_eq] at h
      exact (decide_eq_false fun h3 => h h3.1).symm
  · rintro _ rfl
    refine Wp.ite (fun h => ?_) (fun h => Wp.ret ?_)
    · rw [h, Bool.true_and]
      rw [decide_eq_true_eq] at h
      obtain ⟨h0, h1, h2⟩ := h
      have hB := img_bounds h0 h1 h2
      rw [w64 (x := a * b) (by omega) (by omega), w64 (x := a * b * c) (by omega) (by omega)]
      refine Wp.ite (fun h3 => ?_) (fun h3 => Wp.ret ?_)
      · rw [decide_eq_true h3, Bool.true_and]
        refine Wp.call (w_allB l hl) ?_
        rintro _ rfl
        exact Wp.ret rfl
      · rw [decide_eq_false h3]; rfl
    · rw [Bool.not_eq_true] at h
      rw [h]; rfl
theorem w_newImage (a b c : Int) (h0 : 0 ≤ a ∧ a ≤ 1000) (h1 : 0 ≤ b ∧ b ≤ 1000) (h2 : 0 ≤ c ∧ c ≤ 1000) : Wp (fun _ => spec_newImage.f a b c) (fun r => r = (a, b, c, List.replicate (a * b * c).toNat 0)) := by
  have m1 : 0 ≤ a * b := Int.mul_nonneg h0.1 h1.1
  have m2 : a * b ≤ 1000 * 1000 := Int.mul_le_mul h0.2 h1.2 h1.1 (by omega)
  have m3 : 0 ≤ a * b * c := Int.mul_nonneg m1 h2.1
  have m4 : a * b * c ≤ 1000000 * 1000 := Int.mul_le_mul m2 h2.2 h2.1 (by omega)
  unfold spec_newImage.f
  rw [w64 (x := a * b) (by omega) (by omega), w64 (x := a * b * c) (by omega) (by omega)]
  exact Wp.pos m3 (Wp.pos (by omega) (Wp.ret rfl))
end Go.Proofs.Ytchahbdmdcllaaa.P
namespace Go.Proofs.Ytchahbdmdcllaaa.P
open Go.RowKit Go.Proofs.YtchahbdmdcllaaaW.PrintWords Go.Proofs.YtchahbdmdcllaaaW.PrintLast Go.Proofs.YtchahbdmdcllaaaW.PrintMore Go.Proofs.Ytchahbdmdcllaaa.Wp
set_option linter.unusedVariables false
set_option linter.unusedSimpArgs false
def dst (x : Int) : Int := if x < 0 then -x else x
def pth (l u c : Int) : Int := if dst (l + u - c - l) ≤ dst (l + u - c - u) ∧ dst (l + u - c - l) ≤ dst (l + u - c - c) then l else if dst (l + u - c - u) ≤ dst (l + u - c - c) then u else c
def gval (f l u c : Int) : Int := if f = 1 then l else if f = 2 then u else if f = 3 then (l + u) / 2 else if f = 4 then pth l u c else 0
def gsv (f : Int) (row prev : List Int) (p i : Nat) : Int := gval f (if p ≤ i then row.getD (i - p) 0 else 0) (prev.getD i 0) (if p ≤ i then prev.getD (i - p) 0 else 0)
theorem gval_B {f l u c : Int} (hl : 0 ≤ l ∧ l ≤ 255) (hu : 0 ≤ u ∧ u ≤ 255) (hc : 0 ≤ c ∧ c ≤ 255) : 0 ≤ gval f l u c ∧ gval f l u c ≤ 255 := by
  unfold gval pth
  split
  · exact hl
  · split
    · exact hu
    · split
      · omega
      · split
        · split
          · exact hl
          · split
            · exact hu
            · exact hc
        · omega
theorem getD_B {l : List Int} (h : ∀ x ∈ l, 0 ≤ x ∧ x ≤ 255) (i : Nat) : 0 ≤ l.getD i 0 ∧ l.getD i 0 ≤ 255 := by
  by_cases hi : i < l.length
  · rw [← bl_rd]
    exact rd_B h i (by omega) (by omega)
  · rw [List.getD_eq_getElem?_getD, List.getElem?_eq_none (by omega)]
    simp
theorem gsv_B {f : Int} {row prev : List Int} {p i : Nat} (hr : ∀ x ∈ row, 0 ≤ x ∧ x ≤ 255) (hp : ∀ x ∈ prev, 0 ≤ x ∧ x ≤ 255) : 0 ≤ gsv f row prev p i ∧ gsv f row prev p i ≤ 255 := by
  unfold gsv
  refine gval_B ?_ (getD_B hp i) ?_
  · split
    · exact getD_B hr _
    · omega
  · split
    · exact getD_B hp _
    · omega
theorem w_distance (x : Int) (h0 : -1000000 ≤ x) (h1 : x ≤ 1000000) : Wp (fun _ => spec_distance.f x) (fun r => r = dst x) := by
  unfold spec_distance.f dst
  rw [w64 (x := -x) (by omega) (by omega)]
  exact Wp.ite (fun h => Wp.ret (by rw [if_pos h])) (fun h => Wp.ret (by rw [if_neg h]))
theorem w_paeth (l u c : Int) (hl : 0 ≤ l ∧ l ≤ 255) (hu : 0 ≤ u ∧ u ≤ 255) (hc : 0 ≤ c ∧ c ≤ 255) : Wp (fun k => spec_paeth.f k l u c) (fun r => r = pth l u c) := by
  unfold spec_paeth.f pth
  rw [w64 (x := l + u) (by omega) (by omega), w64 (x := l + u - c) (by omega) (by omega), w64 (x := l + u - c - l) (by omega) (by omega), w64 (x := l + u - c - u) (by omega) (by omega), w64 (x := l + u - c - c) (by omega) (by omega)]
  refine Wp.call (w_distance _ (by omega) (by omega)) ?_
  rintro _ rfl
  refine Wp.call (w_distance _ (by omega) (by omega)) ?_
  rintro _ rfl
  refine Wp.call (w_distance _ (by omega) (by omega)) ?_
  rintro _ rfl
  generalize dst (l + u - c - l) = d0
  generalize dst (l + u - c - u) = d1
  generalize dst (l + u - c - c) = d2
  have last : ∀ (P : Int → Prop), (d1 ≤ d2 → P u) → (¬ d1 ≤ d2 → P c) → Wp (fun _ => if d1 ≤ d2 then some u else some c) P := fun P h1 h2 => Wp.ite (fun h => Wp.ret (h1 h)) (fun h => Wp.ret (h2 h))
  refine Wp.ite (fun h1 => ?_) (fun h1 => ?_)
  · refine Wp.step (fun k => spec_paeth.j0.eq_2 ..) ?_
    refine Wp.ite (fun h2 => Wp.ret ?_) (fun h2 => ?_)
    · rw [if_pos ⟨h1, of_decide_eq_true h2⟩]
    · rw [decide_eq_true_eq] at h2
      rw [if_neg (show ¬ (d0 ≤ d1 ∧ d0 ≤ d2) from fun h => h2 h.2)]
      exact last _ (fun h => by rw [if_pos h]) (fun h => by rw [if_neg h])
  · refine Wp.step (fun k => spec_paeth.j0.eq_2 ..) (Wp.neg (by simp) ?_)
    rw [if_neg (show ¬ (d0 ≤ d1 ∧ d0 ≤ d2) from fun h => h1 h.1)]
    exact last _ (fun h => by rw [if_pos h]) (fun h => by rw [if_neg h])
theorem dst_flip (l u c v : Int) : dst (v - l - u + c) = dst (l + u - c - v) := by
  unfold dst
  split <;> split <;> omega
theorem pth_two (l u c b : Int) (hb : b = if dst (u - l - u + c) < dst (l - l - u + c) then u else l) : (if dst (c - l - u + c) < dst (b - l - u + c) then c else b) = pth l u c := by
  rw [dst_flip, dst_flip] at hb
  rw [dst_flip, dst_flip]
  unfold pth
  by_cases h : dst (l + u - c - u) < dst (l + u - c - l)
  · rw [if_pos h] at hb
    rw [hb]
    generalize dst (l + u - c - l) = d0 at *
    generalize dst (l + u - c - u) = d1 at *
    generalize dst (l + u - c - c) = d2 at *
    rw [if_neg (show ¬ (d0 ≤ d1 ∧ d0 ≤ d2) by omega)]
    by_cases h2 : d1 ≤ d2
    · rw [if_pos h2, if_neg (by omega)]
    · rw [if_neg h2, if_pos (by omega)]
  · rw [if_neg h] at hb
    rw [hb]
    generalize dst (l + u - c - l) = d0 at *
    generalize dst (l + u - c - u) = d1 at *
    generalize dst (l + u - c - c) = d2 at *
    by_cases h2 : d0 ≤ d2
    · rw [if_pos (show d0 ≤ d1 ∧ d0 ≤ d2 by omega), if_neg (by omega)]
    · rw [if_neg (show ¬ (d0 ≤ d1 ∧ d0 ≤ d2) by omega), if_pos (by omega), if_neg (by omega)]
theorem w_guess (f : Int) (row prev : List Int) (p i : Nat) (hp : i < prev.length) (hr : p ≤ i → i - p < row.length) (hl : prev.length ≤ 1000000) (hp2 : p ≤ 1000000) (hrb : ∀ x ∈ row, 0 ≤ x ∧ x ≤ 255) (hpb : ∀ x ∈ prev, 0 ≤ x ∧ x ≤ 255) :
    Wp (fun k => spec_guess.f k f row prev p i) (fun r => r = gsv f row prev p i) := by
  have main : ∀ (l c : Int), (0 ≤ l ∧ l ≤ 255) → (0 ≤ c ∧ c ≤ 255) → Wp (fun k => spec_guess.j0 k f prev i l c) (fun r => r = gval f l (prev.getD i 0) c) := by
    intro l c hlb hcb
    have hu := getD_B hpb i
    refine Wp.step (fun k => spec_guess.j0.eq_2 ..) ?_
    unfold gval
    rw [bl_rd]
    refine Wp.ite (fun h => Wp.ret (by rw [if_pos h])) (fun h => ?_)
    rw [if_neg h]
    refine Wp.ite (fun h => Wp.pos (by omega) (Wp.pos (by omega) (Wp.ret (by rw [if_pos h])))) (fun h => ?_)
    rw [if_neg h]
    refine Wp.ite (fun h => Wp.pos (by omega) (Wp.pos (by omega) (Wp.ret ?_))) (fun h => ?_)
    · rw [if_pos h, w64 (x := l + prev.getD i 0) (by omega) (by omega), Int.tdiv_eq_ediv_of_nonneg (by omega), w64 (by omega) (by omega)]
    rw [if_neg h]
    refine Wp.ite (fun h => Wp.pos (by omega) (Wp.pos (by omega) ?_)) (fun h => Wp.ret (by rw [if_neg h]))
    rw [if_pos h]
    refine Wp.call (w_paeth l _ c hlb hu hcb) ?_
    rintro _ rfl
    exact Wp.ret rfl
  unfold spec_guess.f gsv
  refine Wp.ite (fun h => ?_) (fun h => ?_)
  · rw [w64 (x := (i : Int) - p) (by omega) (by omega), if_pos (by omega), if_pos (by omega), show (i : Int) - p = ((i - p : Nat) : Int) by omega]
    have := hr (by omega)
    refine Wp.pos (by omega) (Wp.pos (by omega) (Wp.pos (by omega) ?_))
    rw [bl_rd, bl_rd]
    exact main _ _ (getD_B hrb _) (getD_B hpb _)
  · rw [if_neg (by omega), if_neg (by omega)]
    exact main 0 0 (by omega) (by omega)
theorem size_eq (x : Int) (h0 : -1000000 ≤ x) (h1 : x ≤ 1000000) : impl_size.f x = some (dst x) := by
  unfold impl_size.f mx dst
  rw [w64 (x := -x) (by omega) (by omega)]
  congr 1
  split <;> split <;> omega
theorem w_predicted (f : Int) (row prev : List Int) (p i : Nat) (hp : i < prev.length) (hr : p ≤ i → i - p < row.length) (hl : prev.length ≤ 1000000) (hp2 : p ≤ 1000000) (hrb : ∀ x ∈ row, 0 ≤ x ∧ x ≤ 255) (hpb : ∀ x ∈ prev, 0 ≤ x ∧ x ≤ 255) :
    Wp (fun k => impl_predicted.f k f row prev p i) (fun r => r = gsv f row prev p i) := by
  have main : ∀ (l u c : Int), (0 ≤ l ∧ l ≤ 255) → (0 ≤ u ∧ u ≤ 255) → (0 ≤ c ∧ c ≤ 255) → Wp (fun k => impl_predicted.j0 k f l u c) (fun r => r = gval f l u c) := by
    intro l u c hlb hu hcb
    refine Wp.step (fun k => impl_predicted.j0.eq_2 ..) ?_
    unfold gval
    refine Wp.ite (fun h => Wp.ret (by rw [if_pos h])) (fun h => ?_)
    rw [if_neg h]
    refine Wp.ite (fun h => Wp.ret (by rw [if_pos h])) (fun h => ?_)
    rw [if_neg h]
    refine Wp.ite (fun h => Wp.ret ?_) (fun h => ?_)
    · rw [if_pos h, w64 (x := l + u) (by omega) (by omega), Int.tdiv_eq_ediv_of_nonneg (by omega), w64 (by omega) (by omega)]
    rw [if_neg h]
    refine Wp.ite (fun h => ?_) (fun h => Wp.ret (by rw [if_neg h]))
    rw [if_pos h]
    have step : ∀ (b : Int) (i : Nat) (v : Int), (0 ≤ b ∧ b ≤ 255) → i < 2 → rd [u, c] i = v → (0 ≤ v ∧ v ≤ 255) → ∀ (P : Int → Prop),
        Wp (fun k => impl_predicted.l0 k l u c (if dst (v - l - u + c) < dst (b - l - u + c) then v else b) [u, c] 2 ((i + 1 : Nat) : Int)) P → Wp (fun k => impl_predicted.l0 k l u c b [u, c] 2 i) P := by
      intro b i v hb hi hv hvb P h
      refine Wp.step (fun k => impl_predicted.l0.eq_2 ..) (Wp.pos (by omega) (Wp.pos (by omega) (Wp.pos (by show (i : Int) < 2; omega) ?_)))
      rw [hv, w64 (x := v - l) (by omega) (by omega), w64 (x := v - l - u) (by omega) (by omega), w64 (x := v - l - u + c) (by omega) (by omega), w64 (x := b - l) (by omega) (by omega), w64 (x := b - l - u) (by omega) (by omega), w64 (x := b - l - u + c) (by omega) (by omega),
        w64 (x := (i : Int) + 1) (by omega) (by omega), size_eq _ (by omega) (by omega), size_eq _ (by omega) (by omega)]
      simp only [Option.bind_some]
      refine Wp.ite (fun h1 => ?_) (fun h1 => ?_)
      · rw [if_pos h1] at h; exact h
      · rw [if_neg h1] at h; exact h
    simp only [Option.bind_some]
    refine step l 0 u hlb (by omega) rfl hu _ ?_
    refine step _ 1 c (by split <;> omega) (by omega) rfl hcb _ ?_
    refine Wp.step (fun k => impl_predicted.l0.eq_2 ..) (Wp.neg (by omega) (Wp.ret ?_))
    exact pth_two l u c _ rfl
  have hu := getD_B hpb i
  unfold impl_predicted.f gsv
  refine Wp.pos (by omega) (Wp.pos (by omega) ?_)
  rw [bl_rd]
  refine Wp.ite (fun h => ?_) (fun h => ?_)
  · rw [w64 (x := (i : Int) - p) (by omega) (by omega), if_pos (by omega), if_pos (by omega), show (i : Int) - p = ((i - p : Nat) : Int) by omega]
    have := hr (by omega)
    refine Wp.pos (by omega) (Wp.pos (by omega) (Wp.pos (by omega) ?_))
    rw [bl_rd, bl_rd]
    exact main _ _ _ (getD_B hrb _) hu (getD_B hpb _)
  · rw [if_neg (by omega), if_neg (by omega)]
    exact main 0 _ 0 (by omega) hu (by omega)
def fR (f : Int) (row prev : List Int) (p : Nat) : List Int := (List.range row.length).map fun i => (row.getD i 0 - gsv f row prev p i + 256) % 256
theorem fR_len (f : Int) (row prev : List Int) (p : Nat) : (fR f row prev p).length = row.length := by simp [fR]
theorem fR_B (f : Int) (row prev : List Int) (p : Nat) : ∀ x ∈ fR f row prev p, 0 ≤ x ∧ x ≤ 255 := by
  intro x hx
  unfold fR at hx
  obtain ⟨i, _, rfl⟩ := List.mem_map.1 hx
  omega
theorem map_range_take (g : Nat → Int) (n i : Nat) (h : i < n) : ((List.range n).map g).take (i + 1) = ((List.range n).map g).take i ++ [g i] := by
  rw [List.take_add_one]
  congr 1
  simp [h]
theorem w_sFilterRow (f : Int) (row prev : List Int) (p : Nat) (hp1 : 1 ≤ p) (hl : row.length ≤ prev.length) (hl2 : prev.length ≤ 1000000) (hp2 : p ≤ 1000000) (hrb : ∀ x ∈ row, 0 ≤ x ∧ x ≤ 255) (hpb : ∀ x ∈ prev, 0 ≤ x ∧ x ≤ 255) :
    Wp (fun k => spec_filterRow.f k f row prev p) (fun r => r = fR f row prev p) := by
  unfold spec_filterRow.f
  have hlen := fR_len f row prev p
  have key : ∀ (d i : Nat), i + d = row.length → Wp (fun k => spec_filterRow.l0 k f row prev p ((fR f row prev p).take i) i) (fun r => r = fR f row prev p) := by
    intro d
    induction d with
    | zero =>
      intro i hd
      refine Wp.step (fun k => spec_filterRow.l0.eq_2 ..) (Wp.neg (by omega) (Wp.ret ?_))
      exact List.take_of_length_le (by omega)
    | succ d ih =>
      intro i hd
      refine Wp.step (fun k => spec_filterRow.l0.eq_2 ..) (Wp.pos (by omega) (Wp.pos (by omega) ?_))
      refine Wp.call (w_guess f row prev p i (by omega) (fun h => by omega) hl2 hp2 hrb hpb) ?_
      rintro _ rfl
      have hg := gsv_B (f := f) (p := p) (i := i) hrb hpb
      have hr := getD_B hrb i
      refine Wp.pos (by rw [List.length_take]; omega) ?_
      rw [bl_rd, w64 (x := row.getD i 0 - gsv f row prev p i) (by omega) (by omega), w64 (x := row.getD i 0 - gsv f row prev p i + 256) (by omega) (by omega), Int.tmod_eq_emod_of_nonneg (by omega), w64 (x := (i : Int) + 1) (by omega) (by omega)]
      have := ih (i + 1) (by omega)
      unfold fR at this ⊢
      rw [map_range_take _ _ _ (by omega)] at this
      exact this
  have := key row.length 0 (by omega)
  rw [List.take_zero] at this
  exact this
theorem w_iFilterRow (f : Int) (row prev : List Int) (p : Nat) (hp1 : 1 ≤ p) (hl : row.length ≤ prev.length) (hl2 : prev.length ≤ 1000000) (hp2 : p ≤ 1000000) (hrb : ∀ x ∈ row, 0 ≤ x ∧ x ≤ 255) (hpb : ∀ x ∈ prev, 0 ≤ x ∧ x ≤ 255) :
    Wp (fun k => impl_filterRow.f k f row prev p) (fun r => r = fR f row prev p) := by
  unfold impl_filterRow.f
  have hlen := fR_len f row prev p
  have key : ∀ (d i : Nat), i + d = row.length → Wp (fun k => impl_filterRow.l0 k f row prev p ((fR f row prev p).take i) row row.length i) (fun r => r = fR f row prev p) := by
    intro d
    induction d with
    | zero =>
      intro i hd
      refine Wp.step (fun k => impl_filterRow.l0.eq_2 ..) (Wp.neg (by omega) (Wp.ret ?_))
      exact List.take_of_length_le (by omega)
    | succ d ih =>
      intro i hd
      refine Wp.step (fun k => impl_filterRow.l0.eq_2 ..) (Wp.pos (by omega) (Wp.pos (by omega) (Wp.pos (by omega) ?_)))
      refine Wp.call (w_predicted f row prev p i (by omega) (fun h => by omega) hl2 hp2 hrb hpb) ?_
      rintro _ rfl
      have hg := gsv_B (f := f) (p := p) (i := i) hrb hpb
      have hr := getD_B hrb i
      refine Wp.pos (by rw [List.length_take]; omega) ?_
      rw [bl_rd, w64 (x := row.getD i 0 - gsv f row prev p i) (by omega) (by omega), w64 (x := row.getD i 0 - gsv f row prev p i + 256) (by omega) (by omega), Int.tmod_eq_emod_of_nonneg (by omega), w64 (x := (i : Int) + 1) (by omega) (by omega)]
      have := ih (i + 1) (by omega)
      unfold fR at this ⊢
      rw [map_range_take _ _ _ (by omega)] at this
      exact this
  have := key row.length 0 (by omega)
  rw [List.take_zero] at this
  exact this
def csum (l : List Int) : Nat → Int
  | 0 => 0
  | i + 1 => csum l i + mn (l.getD i 0) (256 - l.getD i 0)
theorem csum_B {l : List Int} (h : ∀ x ∈ l, 0 ≤ x ∧ x ≤ 255) (i : Nat) : 0 ≤ csum l i ∧ csum l i ≤ 256 * i := by
  induction i with
  | zero => simp [csum]
  | succ i ih =>
    have hr := getD_B h i
    unfold csum mn
    split <;> omega
theorem w_cost (l : List Int) (h : ∀ x ∈ l, 0 ≤ x ∧ x ≤ 255) (hl : l.length ≤ 1000000) : Wp (fun k => spec_filterCost.f k l) (fun r => r = csum l l.length) := by
  unfold spec_filterCost.f
  have key : ∀ (d i : Nat), i + d = l.length → Wp (fun k => spec_filterCost.l0 k l (csum l i) i) (fun r => r = csum l l.length) := by
    intro d
    induction d with
    | zero =>
      intro i hd
      refine Wp.step (fun k => spec_filterCost.l0.eq_2 ..) (Wp.neg (by omega) (Wp.ret ?_))
      rw [show i = l.length by omega]
    | succ d ih =>
      intro i hd
      have hr := getD_B h i
      have hc := csum_B h i
      have hm : 0 ≤ mn (l.getD i 0) (256 - l.getD i 0) ∧ mn (l.getD i 0) (256 - l.getD i 0) ≤ 256 := by unfold mn; split <;> omega
      refine Wp.step (fun k => spec_filterCost.l0.eq_2 ..) (Wp.pos (by omega) (Wp.pos (by omega) ?_))
      rw [bl_rd, w64 (x := 256 - l.getD i 0) (by omega) (by omega), w64 (x := csum l i + mn (l.getD i 0) (256 - l.getD i 0)) (by omega) (by omega), w64 (x := (i : Int) + 1) (by omega) (by omega)]
      exact ih (i + 1) (by omega)
  exact key l.length 0 (by omega)
def cst (row prev : List Int) (p : Nat) (f : Int) : Int := csum (fR f row prev p) row.length
def bet (row prev : List Int) (p : Nat) (b f : Int) : Int := if cst row prev p f < cst row prev p b then f else b
def bst (row prev : List Int) (p : Nat) : Int := bet row prev p (bet row prev p (bet row prev p (bet row prev p 0 1) 2) 3) 4
theorem bet_B {row prev : List Int} {p : Nat} {b f : Int} (hb : 0 ≤ b ∧ b ≤ 4) (hf : 0 ≤ f ∧ f ≤ 4) : 0 ≤ bet row prev p b f ∧ bet row prev p b f ≤ 4 := by unfold bet; split <;> assumption
theorem bst_B (row prev : List Int) (p : Nat) : 0 ≤ bst row prev p ∧ bst row prev p ≤ 4 := by
  unfold bst
  exact bet_B (bet_B (bet_B (bet_B (by omega) (by omega)) (by omega)) (by omega)) (by omega)
theorem w_sBest (row prev : List Int) (p : Nat) (hp1 : 1 ≤ p) (hl : row.length ≤ prev.length) (hl2 : prev.length ≤ 1000000) (hp2 : p ≤ 1000000) (hrb : ∀ x ∈ row, 0 ≤ x ∧ x ≤ 255) (hpb : ∀ x ∈ prev, 0 ≤ x ∧ x ≤ 255) :
    Wp (fun k => spec_bestFilter.f k row prev p) (fun r => r = bst row prev p) := by
  unfold spec_bestFilter.f
  have step : ∀ (b i : Int) (P : Int → Prop), i ≤ 4 → 0 ≤ i → Wp (fun k => spec_bestFilter.l0 k row prev p (bet row prev p b i) (i + 1)) P → Wp (fun k => spec_bestFilter.l0 k row prev p b i) P := by
    intro b i P hi hi0 h
    refine Wp.step (fun k => spec_bestFilter.l0.eq_2 ..) (Wp.pos hi ?_)
    refine Wp.call (w_sFilterRow i row prev p hp1 hl hl2 hp2 hrb hpb) ?_
    rintro _ rfl
    refine Wp.call (w_cost _ (fR_B _ _ _ _) (by rw [fR_len]; omega)) ?_
    rintro _ rfl
    refine Wp.call (w_sFilterRow b row prev p hp1 hl hl2 hp2 hrb hpb) ?_
    rintro _ rfl
    refine Wp.call (w_cost _ (fR_B _ _ _ _) (by rw [fR_len]; omega)) ?_
    rintro _ rfl
    rw [w64 (x := i + 1) (by omega) (by omega)]
    unfold bet cst at h
    rw [fR_len, fR_len]
    refine Wp.ite (fun h1 => ?_) (fun h1 => ?_)
    · rw [if_pos h1] at h; exact h
    · rw [if_neg h1] at h; exact h
  refine step 0 1 _ (by omega) (by omega) (step _ 2 _ (by omega) (by omega) (step _ 3 _ (by omega) (by omega) (step _ 4 _ (by omega) (by omega) ?_)))
  exact Wp.step (fun k => spec_bestFilter.l0.eq_2 ..) (Wp.neg (by omega) (Wp.ret rfl))
theorem w_iBest (row prev : List Int) (p : Nat) (hp1 : 1 ≤ p) (hl : row.length ≤ prev.length) (hl2 : prev.length ≤ 1000000) (hp2 : p ≤ 1000000) (hrb : ∀ x ∈ row, 0 ≤ x ∧ x ≤ 255) (hpb : ∀ x ∈ prev, 0 ≤ x ∧ x ≤ 255) :
    Wp (fun k => impl_bestFilter.f k row prev p) (fun r => r = bst row prev p) := by
  unfold impl_bestFilter.f
  have hcB : ∀ f, 0 ≤ cst row prev p f := fun f => (csum_B (fR_B f row prev p) _).1
  have inner : ∀ (b c f : Int) (P : Int → Prop), f ≤ 4 → 0 ≤ f → Wp (fun k => impl_bestFilter.l0 k row prev p (if c < 0 ∨ cst row prev p f < c then f else b) (if c < 0 ∨ cst row prev p f < c then cst row prev p f else c) (f + 1)) P → Wp (fun k => impl_bestFilter.l0 k row prev p b c f) P := by
    intro b c f P hf hf0 h
    refine Wp.step (fun k => impl_bestFilter.l0.eq_2 ..) (Wp.pos hf ?_)
    refine Wp.call (w_iFilterRow f row prev p hp1 hl hl2 hp2 hrb hpb) ?_
    rintro _ rfl
    have hB := fR_B f row prev p
    have hlen := fR_len f row prev p
    unfold cst at h
    rw [← hlen] at h
    generalize fR f row prev p = t at h hB hlen ⊢
    have key : ∀ (d i : Nat), i + d = t.length → Wp (fun k => impl_bestFilter.l1 k row prev p b c f (csum t i) t t.length i) P := by
      intro d
      induction d with
      | zero =>
        intro i hd
        rw [show i = t.length by omega]
        refine Wp.step (fun k => impl_bestFilter.l1.eq_2 ..) (Wp.neg (by omega) ?_)
        rw [w64 (x := f + 1) (by omega) (by omega)]
        refine Wp.ite (fun h1 => ?_) (fun h1 => Wp.ite (fun h2 => ?_) (fun h2 => ?_))
        · rw [if_pos (.inl h1), if_pos (.inl h1)] at h; exact h
        · rw [if_pos (.inr h2), if_pos (.inr h2)] at h; exact h
        · rw [if_neg (by rintro (h | h) <;> contradiction), if_neg (by rintro (h | h) <;> contradiction)] at h; exact h
      | succ d ih =>
        intro i hd
        have hr := getD_B hB i
        have hc := csum_B hB i
        have hm : 0 ≤ mn (t.getD i 0) (256 - t.getD i 0) ∧ mn (t.getD i 0) (256 - t.getD i 0) ≤ 256 := by unfold mn; split <;> omega
        refine Wp.step (fun k => impl_bestFilter.l1.eq_2 ..) (Wp.pos (by omega) (Wp.pos (by omega) (Wp.pos (by omega) ?_)))
        rw [bl_rd, w64 (x := 256 - t.getD i 0) (by omega) (by omega), w64 (x := csum t i + mn (t.getD i 0) (256 - t.getD i 0)) (by omega) (by omega), w64 (x := (i : Int) + 1) (by omega) (by omega)]
        exact ih (i + 1) (by omega)
    exact key t.length 0 (by omega)
  have next : ∀ (b f : Int) (P : Int → Prop), f ≤ 4 → 0 ≤ f → Wp (fun k => impl_bestFilter.l0 k row prev p (bet row prev p b f) (cst row prev p (bet row prev p b f)) (f + 1)) P → Wp (fun k => impl_bestFilter.l0 k row prev p b (cst row prev p b) f) P := by
    intro b f P hf hf0 h
    refine inner b _ f P hf hf0 ?_
    have h0 := hcB b
    unfold bet at h
    by_cases h1 : cst row prev p f < cst row prev p b
    · rw [if_pos h1] at h
      rw [if_pos (.inr h1), if_pos (.inr h1)]
      exact h
    · rw [if_neg h1] at h
      rw [if_neg (by omega), if_neg (by omega)]
      exact h
  refine inner 0 (-1) 0 _ (by omega) (by omega) ?_
  rw [if_pos (.inl (by omega)), if_pos (.inl (by omega))]
  refine next 0 1 _ (by omega) (by omega) (next _ 2 _ (by omega) (by omega) (next _ 3 _ (by omega) (by omega) (next _ 4 _ (by omega) (by omega) ?_)))
  exact Wp.step (fun k => impl_bestFilter.l0.eq_2 ..) (Wp.neg (by omega) (Wp.ret rfl))
end Go.Proofs.Ytchahbdmdcllaaa.P
namespace Go.Proofs.Ytchahbdmdcllaaa.P
open Go.RowKit Go.Proofs.YtchahbdmdcllaaaW.PrintWords Go.Proofs.YtchahbdmdcllaaaW.PrintLast Go.Proofs.YtchahbdmdcllaaaW.PrintMore Go.Proofs.Ytchahbdmdcllaaa.Wp
set_option linter.unusedVariables false
set_option linter.unusedSimpArgs false
def uR (f : Int) (row prev : List Int) (p : Nat) : Nat → List Int
  | 0 => []
  | n + 1 => uR f row prev p n ++ [(row.getD n 0 + gsv f (uR f row prev p n) prev p n) % 256]
theorem uR_len (f : Int) (row prev : List Int) (p n : Nat) : (uR f row prev p n).length = n := by
  induction n with
  | zero => rfl
  | succ n ih => rw [uR, List.length_append, ih]; rfl
theorem uR_B (f : Int) (row prev : List Int) (p n : Nat) : ∀ x ∈ uR f row prev p n, 0 ≤ x ∧ x ≤ 255 := by
  induction n with
  | zero => intro x hx; simp [uR] at hx
  | succ n ih =>
    intro x hx
    rw [uR, List.mem_append, List.mem_singleton] at hx
    rcases hx with hx | rfl
    · exact ih x hx
    · omega
theorem uR_fR (f : Int) (row prev : List Int) (p n : Nat) (hp1 : 1 ≤ p) (hn : n ≤ row.length) (hrb : ∀ x ∈ row, 0 ≤ x ∧ x ≤ 255) (hpb : ∀ x ∈ prev, 0 ≤ x ∧ x ≤ 255) : uR f (fR f row prev p) prev p n = row.take n := by
  induction n with
  | zero => rfl
  | succ n ih =>
    rw [uR, ih (by omega), List.take_add_one]
    congr 1
    have hg : gsv f (row.take n) prev p n = gsv f row prev p n := by
      unfold gsv
      congr 1
      split
      · rw [List.getD_eq_getElem?_getD, List.getElem?_take, if_pos (by omega), ← List.getD_eq_getElem?_getD]
      · rfl
    have hB := gsv_B (f := f) (p := p) (i := n) hrb hpb
    have hr := getD_B hrb n
    rw [hg]
    unfold fR
    rw [bl_map_range _ _ _ (by omega), List.getElem?_eq_getElem (by omega)]
    have e : row.getD n 0 = row[n] := by rw [List.getD_eq_getElem?_getD, List.getElem?_eq_getElem (by omega)]; rfl
    rw [e] at hr ⊢
    simp only [Option.toList_some, List.cons.injEq, and_true]
    omega
theorem w_iUnRow (f : Int) (row prev : List Int) (p : Nat) (hp1 : 1 ≤ p) (hl : row.length ≤ prev.length) (hl2 : prev.length ≤ 1000000) (hp2 : p ≤ 1000000) (hrb : ∀ x ∈ row, 0 ≤ x ∧ x ≤ 255) (hpb : ∀ x ∈ prev, 0 ≤ x ∧ x ≤ 255) :
    Wp (fun k => impl_unfilterRow.f k f row prev p) (fun r => r = uR f row prev p row.length) := by
  unfold impl_unfilterRow.f
  have key : ∀ (d i : Nat), i + d = row.length → Wp (fun k => impl_unfilterRow.l0 k f prev p (uR f row prev p i) row row.length i) (fun r => r = uR f row prev p row.length) := by
    intro d
    induction d with
    | zero =>
      intro i hd
      refine Wp.step (fun k => impl_unfilterRow.l0.eq_2 ..) (Wp.neg (by omega) (Wp.ret ?_))
      rw [show i = row.length by omega]
    | succ d ih =>
      intro i hd
      have hlen := uR_len f row prev p i
      have hub := uR_B f row prev p i
      refine Wp.step (fun k => impl_unfilterRow.l0.eq_2 ..) (Wp.pos (by omega) (Wp.pos (by omega) (Wp.pos (by omega) ?_)))
      refine Wp.call (w_predicted f _ prev p i (by omega) (fun h => by omega) hl2 hp2 hub hpb) ?_
      rintro _ rfl
      have hg := gsv_B (f := f) (p := p) (i := i) hub hpb
      have hr := getD_B hrb i
      refine Wp.pos (by omega) ?_
      rw [bl_rd, w64 (x := row.getD i 0 + gsv f (uR f row prev p i) prev p i) (by omega) (by omega), Int.tmod_eq_emod_of_nonneg (by omega), w64 (x := (i : Int) + 1) (by omega) (by omega)]
      exact ih (i + 1) (by omega)
  exact key row.length 0 (by omega)
theorem w_sUnRow (f : Int) (row prev : List Int) (p : Nat) (hp1 : 1 ≤ p) (hl : row.length ≤ prev.length) (hl2 : prev.length ≤ 1000000) (hp2 : p ≤ 1000000) (hrb : ∀ x ∈ row, 0 ≤ x ∧ x ≤ 255) (hpb : ∀ x ∈ prev, 0 ≤ x ∧ x ≤ 255) :
    Wp (fun k => spec_unfilterRow.f k f row prev p) (fun r => r = uR f row prev p row.length) := by
  unfold spec_unfilterRow.f
  refine Wp.pos (by omega) (Wp.pos (by omega) ?_)
  have key : ∀ (d i : Nat) (x : List Int), i + d = row.length → x.length = row.length → x.take i = uR f row prev p i → (∀ v ∈ x, 0 ≤ v ∧ v ≤ 255) → Wp (fun k => spec_unfilterRow.l0 k f row prev p x i) (fun r => r = uR f row prev p row.length) := by
    intro d
    induction d with
    | zero =>
      intro i x hd hx h hb
      refine Wp.step (fun k => spec_unfilterRow.l0.eq_2 ..) (Wp.neg (by omega) (Wp.ret ?_))
      rw [← show i = row.length by omega, ← h, List.take_of_length_le (by omega)]
    | succ d ih =>
      intro i x hd hx h hb
      refine Wp.step (fun k => spec_unfilterRow.l0.eq_2 ..) (Wp.pos (by omega) (Wp.pos (by omega) ?_))
      refine Wp.call (w_guess f x prev p i (by omega) (fun h => by omega) hl2 hp2 hb hpb) ?_
      rintro _ rfl
      have hg := gsv_B (f := f) (p := p) (i := i) hb hpb
      have hr := getD_B hrb i
      have he : gsv f x prev p i = gsv f (uR f row prev p i) prev p i := by
        rw [← h]
        unfold gsv
        congr 1
        split
        · rw [List.getD_eq_getElem?_getD (l := x.take i), List.getElem?_take, if_pos (by omega), ← List.getD_eq_getElem?_getD]
        · rfl
      refine Wp.pos (by omega) ?_
      rw [bl_rd, w64 (x := row.getD i 0 + gsv f x prev p i) (by omega) (by omega), Int.tmod_eq_emod_of_nonneg (by omega), w64 (x := (i : Int) + 1) (by omega) (by omega), Int.toNat_natCast]
      refine ih (i + 1) _ (by omega) (by rw [List.length_set]; exact hx) ?_ (fun v hv => ?_)
      · rw [uR, ← he, ← h, List.take_add_one, List.take_set_of_le (Nat.le_refl i)]
        congr 1
        simp [hx, show i < row.length by omega]
      · rcases List.mem_or_eq_of_mem_set hv with h1 | h1
        · exact hb v h1
        · rw [h1]; omega
  exact key row.length 0 _ (by omega) (by simp) (by simp [uR]) (fun v hv => by rw [List.eq_of_mem_replicate hv]; omega)
end Go.Proofs.Ytchahbdmdcllaaa.P
namespace Go.Proofs.Ytchahbdmdcllaaa.P
open Go.RowKit Go.Proofs.YtchahbdmdcllaaaW.PrintWords Go.Proofs.YtchahbdmdcllaaaW.PrintLast Go.Proofs.YtchahbdmdcllaaaW.PrintMore Go.Proofs.Ytchahbdmdcllaaa.Wp
set_option linter.unusedVariables false
set_option linter.unusedSimpArgs false
theorem w_copyInts (l : List Int) (hl : l.length ≤ 1000000000) : Wp (fun _ => spec_copyInts.f l) (fun r => r = l) := by
  unfold spec_copyInts.f
  exact Wp.pos (by simp; omega) (Wp.ret (by simp))
end Go.Proofs.Ytchahbdmdcllaaa.P
namespace Go.Proofs.Ytchahbdmdcllaaa.P
open Go.RowKit Go.Proofs.YtchahbdmdcllaaaW.PrintWords Go.Proofs.YtchahbdmdcllaaaW.PrintLast Go.Proofs.YtchahbdmdcllaaaW.PrintMore Go.Proofs.Ytchahbdmdcllaaa.Wp
set_option linter.unusedVariables false
set_option linter.unusedSimpArgs false
def rowOf (l : List Int) (w i : Nat) : List Int := (l.take ((i + 1) * w)).drop (i * w)
theorem rowOf_len {l : List Int} {w i m : Nat} (h : l.length = m * w) (hi : i < m) : (rowOf l w i).length = w := by
  have : (i + 1) * w ≤ m * w := Nat.mul_le_mul_right w hi
  rw [Nat.succ_mul] at this
  unfold rowOf
  rw [List.length_drop, List.length_take, Nat.succ_mul]
  omega
theorem rowOf_B {l : List Int} (h : ∀ x ∈ l, 0 ≤ x ∧ x ≤ 255) (w i : Nat) : ∀ x ∈ rowOf l w i, 0 ≤ x ∧ x ≤ 255 := fun x hx => h x (List.mem_of_mem_take (List.mem_of_mem_drop hx))
def fSt (l : List Int) (w p : Nat) : Nat → List Int × List Int
  | 0 => ([], List.replicate w 0)
  | i + 1 => ((fSt l w p i).1 ++ [bst (rowOf l w i) (fSt l w p i).2 p] ++ fR (bst (rowOf l w i) (fSt l w p i).2 p) (rowOf l w i) (fSt l w p i).2 p, rowOf l w i)
theorem fSt_prev {l : List Int} {w p m : Nat} (hl : l.length = m * w) (hb : ∀ x ∈ l, 0 ≤ x ∧ x ≤ 255) (i : Nat) (hi : i ≤ m) : (fSt l w p i).2.length = w ∧ ∀ x ∈ (fSt l w p i).2, 0 ≤ x ∧ x ≤ 255 := by
  cases i with
  | zero => exact ⟨by simp [fSt], fun x hx => by rw [List.eq_of_mem_replicate hx]; omega⟩
  | succ i => exact ⟨rowOf_len hl hi, rowOf_B hb w i⟩
theorem fSt_len {l : List Int} {w p m : Nat} (hl : l.length = m * w) (i : Nat) (hi : i ≤ m) : (fSt l w p i).1.length = i * (w + 1) := by
  induction i with
  | zero => simp [fSt]
  | succ i ih =>
    have h0 := rowOf_len hl (i := i) (by omega)
    rw [fSt, List.length_append, List.length_append, ih (by omega), fR_len, h0, Nat.succ_mul]
    simp only [List.length_singleton]
    omega
theorem fSt_B {l : List Int} {w p : Nat} (i : Nat) : ∀ x ∈ (fSt l w p i).1, 0 ≤ x ∧ x ≤ 255 := by
  induction i with
  | zero => intro x hx; simp [fSt] at hx
  | succ i ih =>
    intro x hx
    rw [fSt, List.mem_append, List.mem_append, List.mem_singleton] at hx
    rcases hx with (hx | rfl) | hx
    · exact ih x hx
    · have := bst_B (rowOf l w i) (fSt l w p i).2 p
      omega
    · exact fR_B _ _ _ _ x hx
def fltI (a b c : Int) (l : List Int) : List Int := if imgB a b c l = true then (fSt l (a * c).toNat c.toNat b.toNat).1 else []
theorem img_parts {a b c : Int} {l : List Int} (h : imgB a b c l = true) : ∃ n m p : Nat, a = n ∧ b = m ∧ c = p ∧ (1 ≤ n ∧ n ≤ 16) ∧ (1 ≤ m ∧ m ≤ 16) ∧ (1 ≤ p ∧ p ≤ 4) ∧ l.length = m * (n * p) ∧ (1 ≤ n * p ∧ n * p ≤ 64) ∧ m * (n * p) ≤ 1024 ∧ ∀ x ∈ l, 0 ≤ x ∧ x ≤ 255 := by
  obtain ⟨h0, h1, h2, h3, h4⟩ := imgB_ok.1 h
  obtain ⟨n, rfl⟩ := Int.eq_ofNat_of_zero_le (show 0 ≤ a by omega)
  obtain ⟨m, rfl⟩ := Int.eq_ofNat_of_zero_le (show 0 ≤ b by omega)
  obtain ⟨p, rfl⟩ := Int.eq_ofNat_of_zero_le (show 0 ≤ c by omega)
  have b1 : n * p ≤ 16 * 4 := Nat.mul_le_mul (by omega) (by omega)
  have b2 : 1 * 1 ≤ n * p := Nat.mul_le_mul (by omega) (by omega)
  have b3 : m * (n * p) ≤ 16 * 64 := Nat.mul_le_mul (by omega) (by omega)
  refine ⟨n, m, p, rfl, rfl, rfl, by omega, by omega, by omega, ?_, by omega, by omega, h4⟩
  rw [← Int.natCast_mul, ← Int.natCast_mul, Nat.mul_comm n m, Nat.mul_assoc] at h3
  omega
theorem w_rowData (n m p : Nat) (l : List Int) (i : Nat) (hi : i < m) (hm16 : m ≤ 16) (hl : l.length = m * (n * p)) (hw : n * p ≤ 64) (hm : m * (n * p) ≤ 1024) : Wp (fun _ => spec_rowData.f n m p l i) (fun r => r = rowOf l (n * p) i) := by
  unfold spec_rowData.f rowOf
  have b1 : (i + 1) * (n * p) ≤ m * (n * p) := Nat.mul_le_mul_right _ hi
  have b2 : (i + 1) * (n * p) = i * (n * p) + n * p := Nat.succ_mul ..
  have hx := hm
  generalize hA : n * p = w at *
  have e1 : (n : Int) * p = (w : Int) := by rw [← Int.natCast_mul, hA]
  have e2 : (i : Int) * w = ((i * w : Nat) : Int) := by rw [Int.natCast_mul]
  have e3 : ((i : Int) + 1) * w = (((i + 1) * w : Nat) : Int) := by rw [Int.natCast_mul]; rfl
  rw [e1, w64 (x := (w : Int)) (by omega) (by omega), w64 (x := (i : Int) + 1) (by omega) (by omega), e2, e3, w64 (x := ((i * w : Nat) : Int)) (by omega) (by omega), w64 (x := (((i + 1) * w : Nat) : Int)) (by omega) (by omega)]
  refine Wp.pos (by omega) (Wp.pos (by omega) (Wp.pos (by omega) ?_))
  simp only [Int.toNat_natCast]
  refine Wp.call (w_copyInts _ (by rw [List.length_drop, List.length_take]; omega)) ?_
  rintro _ rfl
  exact Wp.ret rfl
theorem w_sFilterI (a b c : Int) (l : List Int) (h : imgB a b c l = true) : Wp (fun k => spec_filterImage.f k a b c l) (fun r => r = (fSt l (a * c).toNat c.toNat b.toNat).1) := by
  obtain ⟨n, m, p, rfl, rfl, rfl, hn, hm, hp, hl, hw, hs, hB⟩ := img_parts h
  unfold spec_filterImage.f
  have e1 : (n : Int) * p = ((n * p : Nat) : Int) := by rw [Int.natCast_mul]
  rw [e1, w64 (x := ((n * p : Nat) : Int)) (by omega) (by omega)]
  refine Wp.pos (by omega) (Wp.pos (by omega) ?_)
  simp only [Int.toNat_natCast]
  have key : ∀ (d i : Nat), i + d = m → Wp (fun k => spec_filterImage.l0 k (fSt l (n * p) p i).1 (fSt l (n * p) p i).2 i n m p l) (fun r => r = (fSt l (n * p) p m).1) := by
    intro d
    induction d with
    | zero =>
      intro i hd
      refine Wp.step (fun k => spec_filterImage.l0.eq_2 ..) (Wp.neg (by omega) (Wp.ret ?_))
      rw [show i = m by omega]
    | succ d ih =>
      intro i hd
      have hpv := fSt_prev (p := p) hl hB i (by omega)
      have hfl := fSt_len (p := p) hl i (by omega)
      have hrl := rowOf_len hl (i := i) (by omega)
      have hrb := rowOf_B hB (n * p) i
      have hb1 : i * (n * p + 1) ≤ 16 * 65 := Nat.mul_le_mul (by omega) (by omega)
      refine Wp.step (fun k => spec_filterImage.l0.eq_2 ..) (Wp.pos (by omega) ?_)
      refine Wp.call (w_rowData n m p l i (by omega) hm.2 hl (by omega) hs) ?_
      rintro _ rfl
      refine Wp.call (w_sBest _ _ p hp.1 (by omega) (by omega) (by omega) hrb hpv.2) ?_
      rintro _ rfl
      refine Wp.pos (by omega) ?_
      refine Wp.call (Wp.ret (P := fun r => r = (fSt l (n * p) p i).1 ++ [bst (rowOf l (n * p) i) (fSt l (n * p) p i).2 p]) rfl) ?_
      rintro _ rfl
      refine Wp.call (w_sFilterRow _ _ _ p hp.1 (by omega) (by omega) (by omega) hrb hpv.2) ?_
      rintro _ rfl
      refine Wp.pos (by rw [List.length_append, fR_len]; simp only [List.length_singleton]; omega) ?_
      rw [w64 (x := (i : Int) + 1) (by omega) (by omega)]
      exact ih (i + 1) (by omega)
  exact key m 0 (by omega)
theorem w_iFilterI (a b c : Int) (l : List Int) (h : imgB a b c l = true) : Wp (fun k => impl_filterImage.f k a b c l) (fun r => r = (fSt l (a * c).toNat c.toNat b.toNat).1) := by
  obtain ⟨n, m, p, rfl, rfl, rfl, hn, hm, hp, hl, hw, hs, hB⟩ := img_parts h
  unfold impl_filterImage.f
  have e1 : (n : Int) * p = ((n * p : Nat) : Int) := by rw [Int.natCast_mul]
  rw [e1, w64 (x := ((n * p : Nat) : Int)) (by omega) (by omega)]
  refine Wp.pos (by omega) (Wp.pos (by omega) ?_)
  simp only [Int.toNat_natCast]
  have key : ∀ (d i : Nat), i + d = m → Wp (fun k => impl_filterImage.l0 k (fSt l (n * p) p i).1 ((n * p : Nat) : Int) (fSt l (n * p) p i).2 m i n m p l) (fun r => r = (fSt l (n * p) p m).1) := by
    intro d
    induction d with
    | zero =>
      intro i hd
      refine Wp.step (fun k => impl_filterImage.l0.eq_2 ..) (Wp.neg (by omega) (Wp.ret ?_))
      rw [show i = m by omega]
    | succ d ih =>
      intro i hd
      have hpv := fSt_prev (p := p) hl hB i (by omega)
      have hfl := fSt_len (p := p) hl i (by omega)
      have hrl := rowOf_len hl (i := i) (by omega)
      have hrb := rowOf_B hB (n * p) i
      have hb1 : i * (n * p + 1) ≤ 16 * 65 := Nat.mul_le_mul (by omega) (by omega)
      have b1 : (i + 1) * (n * p) ≤ m * (n * p) := Nat.mul_le_mul_right _ (by omega)
      have b2 : (i + 1) * (n * p) = i * (n * p) + n * p := Nat.succ_mul ..
      have e2 : (i : Int) * ((n * p : Nat) : Int) = ((i * (n * p) : Nat) : Int) := by rw [Int.natCast_mul i (n * p)]
      have e3 : ((i : Int) + 1) * ((n * p : Nat) : Int) = (((i + 1) * (n * p) : Nat) : Int) := by rw [Int.natCast_mul (i + 1) (n * p)]; rfl
      refine Wp.step (fun k => impl_filterImage.l0.eq_2 ..) (Wp.pos (by omega) ?_)
      rw [w64 (x := (i : Int) + 1) (by omega) (by omega), e2, e3, w64 (x := ((i * (n * p) : Nat) : Int)) (by omega) (by omega), w64 (x := (((i + 1) * (n * p) : Nat) : Int)) (by omega) (by omega)]
      refine Wp.pos (by omega) (Wp.pos (by omega) (Wp.pos (by omega) ?_))
      simp only [Int.toNat_natCast]
      refine Wp.call (Wp.ret (P := fun r => r = rowOf l (n * p) i) rfl) ?_
      rintro _ rfl
      refine Wp.call (w_iBest _ _ p hp.1 (by omega) (by omega) (by omega) hrb hpv.2) ?_
      rintro _ rfl
      refine Wp.pos (by omega) ?_
      refine Wp.call (Wp.ret (P := fun r => r = (fSt l (n * p) p i).1 ++ [bst (rowOf l (n * p) i) (fSt l (n * p) p i).2 p]) rfl) ?_
      rintro _ rfl
      refine Wp.call (w_iFilterRow _ _ _ p hp.1 (by omega) (by omega) (by omega) hrb hpv.2) ?_
      rintro _ rfl
      refine Wp.pos (by rw [List.length_append, fR_len]; simp only [List.length_singleton]; omega) ?_
      exact ih (i + 1) (by omega)
  exact key m 0 (by omega)
end Go.Proofs.Ytchahbdmdcllaaa.P
namespace Go.Proofs.Ytchahbdmdcllaaa.P
open Go.RowKit Go.Proofs.YtchahbdmdcllaaaW.PrintWords Go.Proofs.YtchahbdmdcllaaaW.PrintLast Go.Proofs.YtchahbdmdcllaaaW.PrintMore Go.Proofs.Ytchahbdmdcllaaa.Wp
set_option linter.unusedVariables false
set_option linter.unusedSimpArgs false
theorem w_validShape (a b c : Int) : Wp (fun _ => spec_validShape.f a b c) (fun r => r = decide ((1 ≤ a ∧ a ≤ 16) ∧ (1 ≤ b ∧ b ≤ 16) ∧ (1 ≤ c ∧ c ≤ 4))) := by
  unfold spec_validShape.f
  refine Wp.call (w_inRange0 _ _ _) ?_
  rintro _ rfl
  refine Wp.ite (fun h => ?_) (fun h => Wp.ret ?_)
  · refine Wp.call (w_inRange0 _ _ _) ?_
    rintro _ rfl
    refine Wp.ite (fun h2 => ?_) (fun h2 => Wp.ret ?_)
    · refine Wp.call (w_inRange0 _ _ _) ?_
      rintro _ rfl
      refine Wp.ret ?_
      rw [decide_eq_true_eq] at h h2
      rw [Bool.eq_iff_iff, decide_eq_true_eq, decide_eq_true_eq]
      exact ⟨fun h3 => ⟨h, h2, h3⟩, fun h3 => h3.2.2⟩
    · rw [decide_eq_true_eq] at h2
      exact (decide_eq_false fun h3 => h2 h3.2.1).symm
  · rw [decide_eq_true_eq] at h
    exact (decide_eq_false fun h3 => h h3.1).symm
end Go.Proofs.Ytchahbdmdcllaaa.P
namespace Go.Proofs.Ytchahbdmdcllaaa.P
open Go.RowKit Go.Proofs.YtchahbdmdcllaaaW.PrintWords Go.Proofs.YtchahbdmdcllaaaW.PrintLast Go.Proofs.YtchahbdmdcllaaaW.PrintMore Go.Proofs.Ytchahbdmdcllaaa.Wp
set_option linter.unusedVariables false
set_option linter.unusedSimpArgs false
def uGo (l : List Int) (w p : Nat) : Nat → Nat → List Int → List Int → Option (List Int)
  | 0, i, o, pr => some o
  | d + 1, i, o, pr => if l.getD (i * (w + 1)) 0 > 4 then none else uGo l w p d (i + 1) (o ++ uR (l.getD (i * (w + 1)) 0) ((l.take ((i + 1) * (w + 1))).drop (i * (w + 1) + 1)) pr p w) (uR (l.getD (i * (w + 1)) 0) ((l.take ((i + 1) * (w + 1))).drop (i * (w + 1) + 1)) pr p w)
def unfR (a b c : Int) : Option (List Int) → Int × Int × Int × List Int × Bool
  | some o => (a, b, c, o, true)
  | none => (0, 0, 0, [], false)
def unfI (a b c : Int) (l : List Int) : Int × Int × Int × List Int × Bool :=
  if ((1 ≤ a ∧ a ≤ 16) ∧ (1 ≤ b ∧ b ≤ 16) ∧ (1 ≤ c ∧ c ≤ 4)) ∧ (l.length : Int) = b * (a * c + 1) ∧ allB l = true then unfR a b c (uGo l (a * c).toNat c.toNat b.toNat 0 [] (List.replicate (a * c).toNat 0)) else (0, 0, 0, [], false)
theorem unf_parts {a b c : Int} {l : List Int} (h : ((1 ≤ a ∧ a ≤ 16) ∧ (1 ≤ b ∧ b ≤ 16) ∧ (1 ≤ c ∧ c ≤ 4)) ∧ (l.length : Int) = b * (a * c + 1) ∧ allB l = true) :
    ∃ n m p : Nat, a = n ∧ b = m ∧ c = p ∧ (1 ≤ n ∧ n ≤ 16) ∧ (1 ≤ m ∧ m ≤ 16) ∧ (1 ≤ p ∧ p ≤ 4) ∧ l.length = m * (n * p + 1) ∧ (1 ≤ n * p ∧ n * p ≤ 64) ∧ m * (n * p + 1) ≤ 1040 ∧ (∀ x ∈ l, 0 ≤ x ∧ x ≤ 255) ∧ m * (n * p) ≤ 1024 := by
  obtain ⟨⟨h0, h1, h2⟩, h3, h4⟩ := h
  obtain ⟨n, rfl⟩ := Int.eq_ofNat_of_zero_le (show 0 ≤ a by omega)
  obtain ⟨m, rfl⟩ := Int.eq_ofNat_of_zero_le (show 0 ≤ b by omega)
  obtain ⟨p, rfl⟩ := Int.eq_ofNat_of_zero_le (show 0 ≤ c by omega)
  have b1 : n * p ≤ 16 * 4 := Nat.mul_le_mul (by omega) (by omega)
  have b2 : 1 * 1 ≤ n * p := Nat.mul_le_mul (by omega) (by omega)
  have b3 : m * (n * p) ≤ 16 * 64 := Nat.mul_le_mul (by omega) (by omega)
  have b4 : m * (n * p + 1) ≤ 16 * 65 := Nat.mul_le_mul (by omega) (by omega)
  refine ⟨n, m, p, rfl, rfl, rfl, by omega, by omega, by omega, ?_, by omega, by omega, allB_mem h4, by omega⟩
  have e : (m : Int) * ((n : Int) * p + 1) = ((m * (n * p + 1) : Nat) : Int) := by rw [Int.natCast_mul m, Int.natCast_add, Int.natCast_mul]; rfl
  rw [e] at h3
  omega
theorem cut_len {l : List Int} {w i m : Nat} (hl : l.length = m * (w + 1)) (hi : i < m) : ((l.take ((i + 1) * (w + 1))).drop (i * (w + 1) + 1)).length = w ∧ (i + 1) * (w + 1) = i * (w + 1) + (w + 1) ∧ (i + 1) * (w + 1) ≤ l.length := by
  have h1 : (i + 1) * (w + 1) ≤ m * (w + 1) := Nat.mul_le_mul_right _ hi
  have h2 : (i + 1) * (w + 1) = i * (w + 1) + (w + 1) := Nat.succ_mul ..
  refine ⟨?_, h2, by omega⟩
  rw [List.length_drop, List.length_take]
  omega
theorem take_set_succ (x : List Int) (t : Nat) (v : Int) (h : t < x.length) : (x.set t v).take (t + 1) = x.take t ++ [v] := by
  rw [List.take_add_one, List.take_set_of_le (Nat.le_refl t)]
  congr 1
  simp [h]
theorem take_succ_getD (x : List Int) (t : Nat) (h : t < x.length) : x.take (t + 1) = x.take t ++ [x.getD t 0] := by
  rw [List.take_add_one]
  congr 1
  simp [List.getD_eq_getElem?_getD, h]
theorem w_sUnfI (n m p : Nat) (l : List Int) (hn : 1 ≤ n ∧ n ≤ 16) (hm : 1 ≤ m ∧ m ≤ 16) (hp : 1 ≤ p ∧ p ≤ 4) (hl : l.length = m * (n * p + 1)) (hw : 1 ≤ n * p ∧ n * p ≤ 64) (hs : m * (n * p + 1) ≤ 1040) (hB : ∀ x ∈ l, 0 ≤ x ∧ x ≤ 255) (hs2 : m * (n * p) ≤ 1024) :
    Wp (fun k => spec_unfilterImage.f k n m p l) (fun r => r = unfR n m p (uGo l (n * p) p m 0 [] (List.replicate (n * p) 0))) := by
  unfold spec_unfilterImage.f
  refine Wp.call (w_newImage n m p (by omega) (by omega) (by omega)) ?_
  rintro _ rfl
  have e0 : ((n : Int) * m * p).toNat = m * (n * p) := by rw [← Int.natCast_mul, ← Int.natCast_mul, Int.toNat_natCast, Nat.mul_comm n m, Nat.mul_assoc]
  have e1 : (n : Int) * p = ((n * p : Nat) : Int) := by rw [Int.natCast_mul]
  rw [e0, e1, w64 (x := ((n * p : Nat) : Int)) (by omega) (by omega)]
  refine Wp.pos (by omega) (Wp.pos (by omega) ?_)
  simp only [Int.toNat_natCast]
  generalize n * p = w at *
  have ew : (w : Int) + 1 = ((w + 1 : Nat) : Int) := rfl
  have key : ∀ (d i : Nat) (o pr x : List Int), i + d = m → pr.length = w → (∀ v ∈ pr, 0 ≤ v ∧ v ≤ 255) → x.length = m * w → x.take (i * w) = o → Wp (fun k => spec_unfilterImage.l0 k m p l w pr i n m p x) (fun r => r = unfR n m p (uGo l w p d i o pr)) := by
    intro d
    induction d with
    | zero =>
      intro i o pr x hd hpr hpb hx ho
      refine Wp.step (fun k => spec_unfilterImage.l0.eq_2 ..) (Wp.neg (by omega) (Wp.ret ?_))
      rw [show i = m by omega, List.take_of_length_le (by omega)] at ho
      rw [ho]
      rfl
    | succ d ih =>
      intro i o pr x hd hpr hpb hx ho
      obtain ⟨hc1, hc2, hc3⟩ := cut_len hl (i := i) (by omega)
      have hb1 : i * (w + 1) ≤ 16 * 65 := Nat.mul_le_mul (by omega) (by omega)
      have hb2 : i * w ≤ 16 * 64 := Nat.mul_le_mul (by omega) (by omega)
      have hb3 : (i + 1) * w ≤ m * w := Nat.mul_le_mul_right w (by omega)
      have hb4 : (i + 1) * w = i * w + w := Nat.succ_mul ..
      have e2 : (i : Int) * ((w + 1 : Nat) : Int) = ((i * (w + 1) : Nat) : Int) := by rw [Int.natCast_mul]
      have e3 : (i : Int) * (w : Int) = ((i * w : Nat) : Int) := by rw [Int.natCast_mul]
      refine Wp.step (fun k => spec_unfilterImage.l0.eq_2 ..) (Wp.pos (by omega) ?_)
      rw [w64 (x := (w : Int) + 1) (by omega) (by omega), ew, e2, w64 (x := ((i * (w + 1) : Nat) : Int)) (by omega) (by omega), bl_rd]
      have hv := getD_B hB (i * (w + 1))
      refine Wp.pos (by omega) (Wp.pos (by omega) ?_)
      refine Wp.call (w_inRange0 _ _ _) ?_
      rintro _ rfl
      rw [uGo]
      generalize hf : l.getD (i * (w + 1)) 0 = f at hv
      refine Wp.ite (fun h4 => ?_) (fun h4 => Wp.ret ?_)
      · rw [decide_eq_true_eq] at h4
        rw [if_neg (by omega), w64 (x := ((i * (w + 1) : Nat) : Int) + 1) (by omega) (by omega), w64 (x := ((i * (w + 1) : Nat) : Int) + 1 + w) (by omega) (by omega)]
        refine Wp.pos (by omega) (Wp.pos (by omega) (Wp.pos (by omega) ?_))
        rw [show (((i * (w + 1) : Nat) : Int) + 1 + w).toNat = (i + 1) * (w + 1) by omega, show (((i * (w + 1) : Nat) : Int) + 1).toNat = i * (w + 1) + 1 by omega]
        refine Wp.call (w_sUnRow f _ pr p hp.1 (by omega) (by omega) (by omega) (fun v hv => hB v (List.mem_of_mem_take (List.mem_of_mem_drop hv))) hpb) ?_
        rintro _ rfl
        rw [hc1]
        have hul := uR_len f ((l.take ((i + 1) * (w + 1))).drop (i * (w + 1) + 1)) pr p w
        have hub := uR_B f ((l.take ((i + 1) * (w + 1))).drop (i * (w + 1) + 1)) pr p w
        generalize uR f ((l.take ((i + 1) * (w + 1))).drop (i * (w + 1) + 1)) pr p w = row at hul hub ⊢
        have inner : ∀ (e j : Nat) (x : List Int), j + e = w → x.length = m * w → x.take (i * w + j) = o ++ row.take j → Wp (fun k => spec_unfilterImage.l1 k m p l w i row j n m p x) (fun r => r = unfR n m p (uGo l w p d (i + 1) (o ++ row) row)) := by
          intro e
          induction e with
          | zero =>
            intro j x hj hx ht
            refine Wp.step (fun k => spec_unfilterImage.l1.eq_2 ..) (Wp.neg (by omega) ?_)
            rw [w64 (x := (i : Int) + 1) (by omega) (by omega)]
            refine ih (i + 1) _ row x (by omega) hul hub hx ?_
            rw [show (i + 1) * w = i * w + j by omega, ht, List.take_of_length_le (by omega)]
          | succ e ih2 =>
            intro j x hj hx ht
            refine Wp.step (fun k => spec_unfilterImage.l1.eq_2 ..) (Wp.pos (by omega) (Wp.pos (by omega) (Wp.pos (by omega) ?_)))
            rw [e3, w64 (x := ((i * w : Nat) : Int)) (by omega) (by omega), w64 (x := ((i * w : Nat) : Int) + j) (by omega) (by omega), w64 (x := (j : Int) + 1) (by omega) (by omega), bl_rd, show (((i * w : Nat) : Int) + j).toNat = i * w + j by omega]
            refine Wp.pos (by omega) (Wp.pos (by omega) ?_)
            refine ih2 (j + 1) _ (by omega) (by rw [List.length_set]; exact hx) ?_
            rw [show i * w + (j + 1) = i * w + j + 1 by omega, take_set_succ _ _ _ (by omega), ht, take_succ_getD row j (by omega), List.append_assoc]
        exact inner w 0 x (by omega) hx (by rw [Nat.add_zero, ho]; simp)
      · rw [decide_eq_true_eq] at h4
        rw [if_pos (by omega)]
        rfl
  exact key m 0 [] _ _ (by omega) (by simp) (fun v hv => by rw [List.eq_of_mem_replicate hv]; omega) (by simp) (by simp)
theorem w_iUnf0 (a b c : Int) (l : List Int) : Wp (fun k => impl_unfilterImage.f k a b c l) (fun r => r = unfI a b c l) := by
  unfold impl_unfilterImage.f unfI
  have bad : Wp (fun k => impl_unfilterImage.j0 k a b c l true) (fun r => r = (0, 0, 0, [], false)) := Wp.step (fun k => impl_unfilterImage.j0.eq_2 ..) (Wp.pos rfl (Wp.ret rfl))
  rw [isShape_some]
  simp only [Option.bind_some]
  refine Wp.ite (fun hsh => ?_) (fun hsh => bad.mono fun r h => ?_)
  · rw [decide_eq_true_eq] at hsh
    have m1 : 1 * 1 ≤ a * c := Int.mul_le_mul hsh.1.1 hsh.2.2.1 (by omega) (by omega)
    have m2 : a * c ≤ 16 * 4 := Int.mul_le_mul hsh.1.2 hsh.2.2.2 (by omega) (by omega)
    have m3 : 1 * 1 ≤ b * (a * c + 1) := Int.mul_le_mul hsh.2.1.1 (by omega) (by omega) (by omega)
    have m4 : b * (a * c + 1) ≤ 16 * 65 := Int.mul_le_mul hsh.2.1.2 (by omega) (by omega) (by omega)
    refine Wp.call (w_areBytes l) ?_
    rintro _ rfl
    refine Wp.ite (fun h2 => ?_) (fun h2 => bad.mono fun r h => by rw [h, if_neg fun h => h2 h.2.2])
    refine Wp.step (fun k => impl_unfilterImage.j0.eq_2 ..) ?_
    rw [w64 (x := a * c) (by omega) (by omega), w64 (x := 1 + a * c) (by omega) (by omega), Int.add_comm 1, w64 (x := b * (a * c + 1)) (by omega) (by omega)]
    refine Wp.ite (fun h1 => Wp.ret ?_) (fun h1 => ?_)
    · rw [if_neg]
      rintro ⟨_, h, _⟩
      rw [h] at h1
      simp at h1
    · have h1 : (l.length : Int) = b * (a * c + 1) := by simpa using h1
      rw [if_pos ⟨hsh, h1, h2⟩]
      obtain ⟨n, m, p, rfl, rfl, rfl, hn, hm, hp, hl, hw, hs, hB, hs2⟩ := unf_parts ⟨hsh, h1, h2⟩
      have e1 : ((n : Int) * p).toNat = n * p := by rw [← Int.natCast_mul, Int.toNat_natCast]
      have e0 : (n : Int) * p = ((n * p : Nat) : Int) := by rw [Int.natCast_mul]
      simp only [e1, Int.toNat_natCast]
      refine Wp.pos (by omega) (Wp.pos (by omega) ?_)
      rw [e0]
      clear h1 e0 e1 m1 m2 m3 m4 bad hsh h2
      generalize n * p = w at *
      have key : ∀ (d i : Nat) (o pr : List Int), i + d = m → pr.length = w → (∀ v ∈ pr, 0 ≤ v ∧ v ≤ 255) → o.length = i * w → Wp (fun k => impl_unfilterImage.l0 k p l w pr m i n m p o) (fun r => r = unfR n m p (uGo l w p d i o pr)) := by
        intro d
        induction d with
        | zero =>
          intro i o pr hd hpr hpb ho
          refine Wp.step (fun k => impl_unfilterImage.l0.eq_2 ..) (Wp.neg (by omega) (Wp.ret rfl))
        | succ d ih =>
          intro i o pr hd hpr hpb ho
          obtain ⟨hc1, hc2, hc3⟩ := cut_len hl (i := i) (by omega)
          have hb1 : i * (w + 1) ≤ 16 * 65 := Nat.mul_le_mul (by omega) (by omega)
          have hb2 : i * w ≤ 16 * 64 := Nat.mul_le_mul (by omega) (by omega)
          have hb4 : (i + 1) * w = i * w + w := Nat.succ_mul ..
          have e2 : (i : Int) * ((w : Int) + 1) = ((i * (w + 1) : Nat) : Int) := by rw [Int.natCast_mul]; rfl
          have e3 : ((i : Int) + 1) * ((w : Int) + 1) = (((i + 1) * (w + 1) : Nat) : Int) := by rw [Int.natCast_mul]; rfl
          refine Wp.step (fun k => impl_unfilterImage.l0.eq_2 ..) (Wp.pos (by omega) ?_)
          rw [w64 (x := 1 + (w : Int)) (by omega) (by omega), Int.add_comm 1, w64 (x := (i : Int) + 1) (by omega) (by omega), e2, e3, w64 (x := ((i * (w + 1) : Nat) : Int)) (by omega) (by omega), w64 (x := (((i + 1) * (w + 1) : Nat) : Int)) (by omega) (by omega)]
          have hv := getD_B hB (i * (w + 1))
          refine Wp.pos (by omega) (Wp.pos (by omega) (Wp.pos (by omega) ?_))
          simp only [Int.toNat_natCast]
          have h0 : rd ((l.take ((i + 1) * (w + 1))).drop (i * (w + 1))) 0 = l.getD (i * (w + 1)) 0 := by
            have := rd_cut l ((i * (w + 1) : Nat) : Int) (((i + 1) * (w + 1) : Nat) : Int) 0 (by omega) (by omega) (by omega)
            simp only [Int.toNat_natCast] at this
            rw [this, Int.add_zero, bl_rd]
          have hcl : ((l.take ((i + 1) * (w + 1))).drop (i * (w + 1))).length = w + 1 := by rw [List.length_drop, List.length_take]; omega
          rw [h0, hcl]
          refine Wp.pos (by omega) ?_
          rw [uGo]
          generalize hf : l.getD (i * (w + 1)) 0 = f at hv
          refine Wp.ite (fun h4 => Wp.ret ?_) (fun h4 => Wp.pos (by omega) ?_)
          · rw [if_pos h4]; rfl
          rw [if_neg h4, List.drop_drop]
          refine Wp.call (w_iUnRow f _ pr p hp.1 (by omega) (by omega) (by omega) (fun v hv => hB v (List.mem_of_mem_take (List.mem_of_mem_drop hv))) hpb) ?_
          rintro _ rfl
          rw [hc1]
          have hul := uR_len f ((l.take ((i + 1) * (w + 1))).drop (i * (w + 1) + 1)) pr p w
          have hub := uR_B f ((l.take ((i + 1) * (w + 1))).drop (i * (w + 1) + 1)) pr p w
          refine Wp.pos (by omega) ?_
          exact ih (i + 1) _ _ (by omega) hul hub (by rw [List.length_append]; omega)
      exact key m 0 [] _ (by omega) (by simp) (fun v hv => by rw [List.eq_of_mem_replicate hv]; omega) (by simp)
  · rw [decide_eq_true_eq] at hsh
    rw [h, if_neg fun h => hsh h.1]
theorem unf_flt (a b c : Int) (l : List Int) (h : imgB a b c l = true) : unfI a b c (fltI a b c l) = (a, b, c, l, true) ∧ ((fltI a b c l).length : Int) = b * (a * c + 1) ∧ 1 ≤ (fltI a b c l).length := by
  unfold unfI fltI
  rw [if_pos h]
  obtain ⟨n, m, p, rfl, rfl, rfl, hn, hm, hp, hl, hw, hs, hB⟩ := img_parts h
  have e1 : ((n : Int) * p).toNat = n * p := by rw [← Int.natCast_mul, Int.toNat_natCast]
  simp only [e1, Int.toNat_natCast]
  have hFl := fSt_len (p := p) hl m (Nat.le_refl m)
  have hFB := fSt_B (l := l) (w := n * p) (p := p) m
  have e2 : (m : Int) * ((n : Int) * p + 1) = ((m * (n * p + 1) : Nat) : Int) := by rw [Int.natCast_mul m, Int.natCast_add, Int.natCast_mul]; rfl
  have b4 : 1 * 1 ≤ m * (n * p + 1) := Nat.mul_le_mul hm.1 (by omega)
  refine ⟨?_, by rw [e2]; omega, by omega⟩
  rw [if_pos ⟨by omega, by rw [e2]; omega, allB_of hFB⟩]
  generalize n * p = w at *
  have pre : ∀ (d i : Nat), i + d = m → ∃ t, (fSt l w p m).1 = (fSt l w p i).1 ++ t := by
    intro d
    induction d with
    | zero => intro i hd; exact ⟨[], by rw [show i = m by omega]; simp⟩
    | succ d ih =>
      intro i hd
      obtain ⟨t, ht⟩ := ih (i + 1) (by omega)
      exact ⟨_, by rw [ht, fSt, List.append_assoc, List.append_assoc]⟩
  have key : ∀ (d i : Nat), i + d = m → uGo (fSt l w p m).1 w p d i (l.take (i * w)) (fSt l w p i).2 = some l := by
    intro d
    induction d with
    | zero =>
      intro i hd
      rw [uGo, show i = m by omega, List.take_of_length_le (by omega)]
    | succ d ih =>
      intro i hd
      obtain ⟨t, ht⟩ := pre d (i + 1) (by omega)
      have hil := fSt_len (p := p) hl i (by omega)
      have hil1 := fSt_len (p := p) hl (i + 1) (by omega)
      have hpv := fSt_prev (p := p) hl hB i (by omega)
      have hrl := rowOf_len hl (i := i) (by omega)
      have hrb := rowOf_B hB w i
      have hb := bst_B (rowOf l w i) (fSt l w p i).2 p
      have hc2 : (i + 1) * (w + 1) = i * (w + 1) + (w + 1) := Nat.succ_mul ..
      have b5 : (i + 1) * w = i * w + w := Nat.succ_mul ..
      have b6 : (i + 1) * w ≤ m * w := Nat.mul_le_mul_right w (by omega)
      have hrow : (fSt l w p m).1.take ((i + 1) * (w + 1)) = (fSt l w p (i + 1)).1 := by rw [ht, ← hil1, List.take_left']; rfl
      have hget : (fSt l w p m).1.getD (i * (w + 1)) 0 = bst (rowOf l w i) (fSt l w p i).2 p := by
        rw [ht, fSt, List.append_assoc, List.append_assoc, List.getD_eq_getElem?_getD, List.getElem?_append_right (by omega), hil, Nat.sub_self]
        rfl
      have hcut : ((fSt l w p m).1.take ((i + 1) * (w + 1))).drop (i * (w + 1) + 1) = fR (bst (rowOf l w i) (fSt l w p i).2 p) (rowOf l w i) (fSt l w p i).2 p := by
        rw [hrow, fSt, List.drop_left' (by rw [List.length_append, hil]; rfl)]
      have hu := uR_fR (bst (rowOf l w i) (fSt l w p i).2 p) (rowOf l w i) (fSt l w p i).2 p w hp.1 (by omega) hrb hpv.2
      rw [List.take_of_length_le (by omega)] at hu
      rw [uGo, hget, if_neg (by omega), hcut, hu]
      have := ih (i + 1) (by omega)
      rw [fSt] at this
      simp only at this
      have ht2 : l.take ((i + 1) * w) = l.take (i * w) ++ rowOf l w i := by
        unfold rowOf
        have := List.take_append_drop (i * w) (l.take ((i + 1) * w))
        rw [List.take_take, Nat.min_eq_left (by omega)] at this
        exact this.symm
      rw [ht2] at this
      exact this
  have := key m 0 (by omega)
  rw [Nat.zero_mul, List.take_zero] at this
  rw [show List.replicate w (0 : Int) = (fSt l w p 0).2 from rfl, this]
  rfl
theorem uGo_B (l : List Int) (w p : Nat) : ∀ (d i : Nat) (o pr r : List Int), uGo l w p d i o pr = some r → o.length = i * w → (∀ x ∈ o, 0 ≤ x ∧ x ≤ 255) → r.length = (i + d) * w ∧ ∀ x ∈ r, 0 ≤ x ∧ x ≤ 255 := by
  intro d
  induction d with
  | zero =>
    intro i o pr r h ho hb
    rw [uGo] at h
    obtain rfl := Option.some.inj h
    exact ⟨ho, hb⟩
  | succ d ih =>
    intro i o pr r h ho hb
    rw [uGo] at h
    by_cases h4 : l.getD (i * (w + 1)) 0 > 4
    · rw [if_pos h4] at h; cases h
    · rw [if_neg h4] at h
      have b5 : (i + 1) * w = i * w + w := Nat.succ_mul ..
      have := ih (i + 1) _ _ r h (by rw [List.length_append, uR_len]; omega) (fun x hx => by
        rcases List.mem_append.1 hx with hx | hx
        · exact hb x hx
        · exact uR_B _ _ _ _ _ x hx)
      rw [show i + (d + 1) = i + 1 + d by omega]
      exact this
theorem unfI_ok (a b c : Int) (l : List Int) : unfI a b c l = (0, 0, 0, [], false) ∨ ∃ o, unfI a b c l = (a, b, c, o, true) ∧ imgB a b c o = true := by
  unfold unfI
  split
  · rename_i h
    obtain ⟨n, m, p, rfl, rfl, rfl, hn, hm, hp, hl, hw, hs, hB, hs2⟩ := unf_parts h
    have e1 : ((n : Int) * p).toNat = n * p := by rw [← Int.natCast_mul, Int.toNat_natCast]
    simp only [e1, Int.toNat_natCast]
    cases hu : uGo l (n * p) p m 0 [] (List.replicate (n * p) 0) with
    | none => exact .inl rfl
    | some o =>
      refine .inr ⟨o, rfl, ?_⟩
      obtain ⟨h1, h2⟩ := uGo_B l (n * p) p m 0 [] _ o hu (by simp) (by simp)
      refine imgB_ok.2 ⟨by omega, by omega, by omega, ?_, h2⟩
      rw [h1, Nat.zero_add, Int.natCast_mul, Int.natCast_mul, ← Int.mul_assoc, Int.mul_comm (m : Int)]
  · exact .inl rfl
theorem unfI_len (a b c : Int) (l : List Int) : (unfI a b c l).2.2.2.1.length ≤ 2000 := by
  rcases unfI_ok a b c l with h | ⟨o, h, hi⟩
  · rw [h]; simp
  · rw [h]
    obtain ⟨n, m, p, rfl, rfl, rfl, hn, hm, hp, hl, hw, hs, hB⟩ := img_parts hi
    simp only
    omega
end Go.Proofs.Ytchahbdmdcllaaa.P
namespace Go.Proofs.Ytchahbdmdcllaaa.P
open Go.RowKit Go.Proofs.YtchahbdmdcllaaaW.PrintWords Go.Proofs.YtchahbdmdcllaaaW.PrintLast Go.Proofs.YtchahbdmdcllaaaW.PrintMore Go.Proofs.Ytchahbdmdcllaaa.Wp
set_option linter.unusedVariables false
set_option linter.unusedSimpArgs false
def wrO (a b c : Int) (l : List Int) : List Int := [112, 120, a, b, c] ++ pkT (bt (fltI a b c l))
def wrI (a b c : Int) (l : List Int) : List Int := wrO a b c l ++ [ckOf (wrO a b c l) / 256, ckOf (wrO a b c l) % 256]
def wrAll (a b c : Int) (l : List Int) : List Int × Bool := if imgB a b c l = true then (if (wrI a b c l).length > 1200 then ([], false) else (wrI a b c l, true)) else ([], false)
theorem flt_B {a b c : Int} {l : List Int} (h : imgB a b c l = true) : (∀ x ∈ fltI a b c l, 0 ≤ x ∧ x ≤ 255) ∧ (fltI a b c l).length ≤ 1040 := by
  refine ⟨?_, ?_⟩
  · unfold fltI
    rw [if_pos h]
    exact fSt_B _
  · obtain ⟨_, h2, _⟩ := unf_flt a b c l h
    obtain ⟨g0, g1, g2, _⟩ := imgB_ok.1 h
    have m2 : a * c ≤ 16 * 4 := Int.mul_le_mul g0.2 g2.2 (by omega) (by omega)
    have m1 : 1 * 1 ≤ a * c := Int.mul_le_mul g0.1 g2.1 (by omega) (by omega)
    have m4 : b * (a * c + 1) ≤ 16 * 65 := Int.mul_le_mul g1.2 (by omega) (by omega) (by omega)
    omega
theorem wrO_B {a b c : Int} {l : List Int} (h : imgB a b c l = true) : (∀ x ∈ wrO a b c l, 0 ≤ x ∧ x ≤ 255) ∧ (wrO a b c l).length ≤ 2085 ∧ (wrO a b c l).length % 2 = 1 ∧ 5 ≤ (wrO a b c l).length := by
  obtain ⟨f1, f2⟩ := flt_B h
  obtain ⟨g0, g1, g2, _⟩ := imgB_ok.1 h
  obtain ⟨b1, b2⟩ := bt_form _ f1
  have hl : (wrO a b c l).length = 5 + 2 * (bt (fltI a b c l)).length := by
    unfold wrO
    rw [List.length_append, pkT_len]
    simp
  refine ⟨fun x hx => ?_, by omega, by omega, by omega⟩
  rcases List.mem_append.1 hx with h1 | h1
  · simp only [List.mem_cons, List.not_mem_nil, or_false] at h1
    rcases h1 with rfl | rfl | rfl | rfl | rfl <;> omega
  · exact pkT_B _ (fun t ht => (b2 t ht).2) x h1
theorem wrI_B {a b c : Int} {l : List Int} (h : imgB a b c l = true) : (∀ x ∈ wrI a b c l, 0 ≤ x ∧ x ≤ 255) ∧ (wrI a b c l).length ≤ 2087 ∧ (wrI a b c l).length % 2 = 1 ∧ 7 ≤ (wrI a b c l).length := by
  obtain ⟨h1, h2, h3, h4⟩ := wrO_B h
  have hl : (wrI a b c l).length = (wrO a b c l).length + 2 := by
    unfold wrI
    rw [List.length_append]
    rfl
  have hc := ckOf_range (wrO a b c l)
  refine ⟨fun x hx => ?_, by omega, by omega, by omega⟩
  rcases List.mem_append.1 hx with h5 | h5
  · exact h1 x h5
  · simp only [List.mem_cons, List.not_mem_nil, or_false] at h5
    rcases h5 with rfl | rfl <;> omega
theorem wrAll_len (a b c : Int) (l : List Int) : (wrAll a b c l).1.length ≤ 1200 := by
  unfold wrAll
  split
  · split
    · simp
    · simp only; omega
  · simp
theorem flt_eq {a b c : Int} {l : List Int} (h : imgB a b c l = true) : (fSt l (a * c).toNat c.toNat b.toNat).1 = fltI a b c l := by
  unfold fltI
  rw [if_pos h]
theorem w_sWrite0 (a b c : Int) (l : List Int) (h : imgB a b c l = true) : Wp (fun k => spec_writeImage.f k a b c l) (fun r => r = wrI a b c l) := by
  unfold spec_writeImage.f
  refine Wp.call (w_sFilterI a b c l h) ?_
  rintro _ rfl
  rw [flt_eq h]
  obtain ⟨f1, f2⟩ := flt_B h
  obtain ⟨b1, b2⟩ := bt_form _ f1
  obtain ⟨o1, o2, _⟩ := wrO_B h
  refine Wp.call (w_sBestTokens _ (by omega)) ?_
  rintro _ rfl
  refine Wp.call (w_packTokens _ (by omega)) ?_
  rintro _ rfl
  refine Wp.call (Q := fun r => r = [112, 120, a, b, c]) (Wp.ret rfl) ?_
  rintro _ rfl
  refine Wp.pos (by rw [pkT_len]; simp; omega) ?_
  refine Wp.call (Q := fun r => r = wrO a b c l) (Wp.ret rfl) ?_
  rintro _ rfl
  refine Wp.call (w_adler _ (allB_of o1) (by omega)) ?_
  rintro _ rfl
  have hc := ckOf_range (wrO a b c l)
  rw [Int.tdiv_eq_ediv_of_nonneg hc.1, Int.tmod_eq_emod_of_nonneg hc.1, w64 (x := ckOf (wrO a b c l) / 256) (by omega) (by omega)]
  refine Wp.call (Q := fun r => r = [ckOf (wrO a b c l) / 256, ckOf (wrO a b c l) % 256]) (Wp.ret rfl) ?_
  rintro _ rfl
  exact Wp.pos (by simp; omega) (Wp.ret rfl)
theorem w_iWrite0 (a b c : Int) (l : List Int) (h : imgB a b c l = true) : Wp (fun k => impl_writeImage.f k a b c l) (fun r => r = if (wrI a b c l).length > 1200 then ([], false) else (wrI a b c l, true)) := by
  unfold impl_writeImage.f
  refine Wp.call (w_iFilterI a b c l h) ?_
  rintro _ rfl
  rw [flt_eq h]
  obtain ⟨f1, f2⟩ := flt_B h
  obtain ⟨b1, b2⟩ := bt_form _ f1
  obtain ⟨o1, o2, _⟩ := wrO_B h
  refine Wp.call (w_iBestTokens _ (by omega)) ?_
  rintro _ rfl
  have ho : wrO a b c l = [112, 120, a, b, c] ++ pkT (bt (fltI a b c l)) := rfl
  generalize bt (fltI a b c l) = ts at b1 ho
  have key : ∀ d (i : Nat) (x : List Int), i + d = ts.length → x.length ≤ 5 + 2 * i → x ++ pkT (ts.drop i) = wrO a b c l → Wp (fun k => impl_writeImage.l0 k x ts ts.length i) (fun r => r = if (wrI a b c l).length > 1200 then ([], false) else (wrI a b c l, true)) := by
    intro d
    induction d with
    | zero =>
      intro i x hd hx he
      rw [List.drop_of_length_le (by omega), show pkT [] = [] from rfl, List.append_nil] at he
      subst he
      refine Wp.step (fun k => impl_writeImage.l0.eq_2 ..) (Wp.neg (by omega) ?_)
      refine Wp.call (w_checkOf _ (allB_of o1) (by omega)) ?_
      rintro _ rfl
      have hc := ckOf_range (wrO a b c l)
      rw [Int.tdiv_eq_ediv_of_nonneg hc.1, Int.tmod_eq_emod_of_nonneg hc.1, w64 (x := ckOf (wrO a b c l) / 256) (by omega) (by omega)]
      refine Wp.call (Q := fun r => r = [ckOf (wrO a b c l) / 256, ckOf (wrO a b c l) % 256]) (Wp.ret rfl) ?_
      rintro _ rfl
      refine Wp.pos (by simp; omega) ?_
      refine Wp.call (Q := fun r => r = wrI a b c l) (Wp.ret rfl) ?_
      rintro _ rfl
      refine Wp.ite (fun hg => Wp.ret ?_) (fun hg => Wp.ret ?_)
      · rw [if_pos (by omega)]
      · rw [if_neg (by omega)]
    | succ d ih =>
      intro i x hd hx he
      rw [pkT_drop ts i (by omega), ← List.append_assoc] at he
      refine Wp.step (fun k => impl_writeImage.l0.eq_2 ..) (Wp.pos (by omega) (Wp.pos (by omega) (Wp.pos (by omega) ?_)))
      rw [rdT_get ts i, w64 (x := (i : Int) + 1) (by omega) (by omega)]
      generalize ts.getD i z54 = t at he
      have e : (pk2 t).length = 2 := by unfold pk2; split <;> rfl
      refine Wp.ite (fun h0 => ?_) (fun h0 => ?_)
      · refine Wp.call (Q := fun r => r = pk2 t) (Wp.ret (if_pos h0).symm) ?_
        rintro _ rfl
        exact Wp.pos (by omega) (ih (i + 1) _ (by omega) (by rw [List.length_append]; omega) he)
      · refine Wp.call (Q := fun r => r = pk2 t) (Wp.ret (if_neg h0).symm) ?_
        rintro _ rfl
        exact Wp.pos (by omega) (ih (i + 1) _ (by omega) (by rw [List.length_append]; omega) he)
  exact key ts.length 0 _ (by omega) (by simp) ho.symm
theorem w_sWrite (a b c : Int) (l : List Int) (hl : l.length ≤ 1000000000) : Wp (fun k => spec_WriteImage.f k a b c l) (fun r => r = wrAll a b c l) := by
  unfold spec_WriteImage.f wrAll
  refine Wp.call (w_sImage a b c l hl) ?_
  rintro _ rfl
  refine Wp.ite (fun h => ?_) (fun h => Wp.ret (by rw [if_neg h]))
  rw [if_pos h]
  refine Wp.call (w_sFilterI a b c l h) ?_
  rintro _ rfl
  rw [flt_eq h]
  obtain ⟨f1, f2⟩ := flt_B h
  refine Wp.neg (by omega) ?_
  refine Wp.call (w_sWrite0 a b c l h) ?_
  rintro _ rfl
  refine Wp.ite (fun hg => Wp.ret (by rw [if_pos (by omega)])) (fun hg => ?_)
  refine Wp.call (w_sWrite0 a b c l h) ?_
  rintro _ rfl
  exact Wp.ret (by rw [if_neg (by omega)])
end Go.Proofs.Ytchahbdmdcllaaa.P
namespace Go.Proofs.Ytchahbdmdcllaaa.P
open Go.RowKit Go.Proofs.YtchahbdmdcllaaaW.PrintWords Go.Proofs.YtchahbdmdcllaaaW.PrintLast Go.Proofs.YtchahbdmdcllaaaW.PrintMore Go.Proofs.Ytchahbdmdcllaaa.Wp
set_option linter.unusedVariables false
set_option linter.unusedSimpArgs false
abbrev ImgB5 := Int × Int × Int × List Int × Bool
def noImg : ImgB5 := (0, 0, 0, [], false)
def rdU (l : List Int) (u : ImgB5) : ImgB5 := if u.2.2.2.2 = true ∧ wrI u.1 u.2.1 u.2.2.1 u.2.2.2.1 = l then u else noImg
def rdE (l : List Int) : Option (List Int) → ImgB5
  | none => noImg
  | some r => rdU l (unfI (l.getD 2 0) (l.getD 3 0) (l.getD 4 0) r)
def bodyOf (l : List Int) : List Int := (l.take (l.length - 2)).drop 5
def rdI (l : List Int) : ImgB5 := if l.length ≤ 1200 ∧ allB l = true ∧ 7 ≤ l.length then rdE l (exF (unT (bodyOf l)) []) else noImg
theorem rdU_even {l : List Int} (h : l.length % 2 = 0) (r : List Int) : rdU l (unfI (l.getD 2 0) (l.getD 3 0) (l.getD 4 0) r) = noImg := by
  unfold rdU
  rw [if_neg]
  rintro ⟨h1, h2⟩
  rcases unfI_ok (l.getD 2 0) (l.getD 3 0) (l.getD 4 0) r with e | ⟨o, e, hi⟩
  · rw [e] at h1; cases h1
  · rw [e] at h2
    have := (wrI_B hi).2.2.1
    simp only at h2
    rw [h2] at this
    omega
theorem rdI_even {l : List Int} (h : l.length % 2 = 0) : rdI l = noImg := by
  unfold rdI
  split
  · cases exF (unT (bodyOf l)) [] with
    | none => rfl
    | some r => exact rdU_even h r
  · rfl
theorem rdU_len (l : List Int) (hl : l.length ≤ 1200) (a b c : Int) (r : List Int) : (rdU l (unfI a b c r)).2.2.2.1.length ≤ 2000 := by
  unfold rdU
  split
  · exact unfI_len a b c r
  · simp [noImg]
theorem rdI_len (l : List Int) : (rdI l).2.2.2.1.length ≤ 2000 := by
  unfold rdI
  split
  · rename_i h
    cases exF (unT (bodyOf l)) [] with
    | none => simp [rdE, noImg]
    | some r => exact rdU_len l h.1 _ _ _ r
  · simp [noImg]
theorem rdI_ok (l : List Int) : rdI l = noImg ∨ ∃ a b c o, rdI l = (a, b, c, o, true) ∧ imgB a b c o = true ∧ wrI a b c o = l ∧ l.length ≤ 1200 := by
  unfold rdI
  split
  · rename_i h
    cases exF (unT (bodyOf l)) [] with
    | none => exact .inl rfl
    | some r =>
      show rdU l _ = noImg ∨ ∃ a b c o, rdU l _ = _ ∧ _
      unfold rdU
      split
      · rename_i hw
        rcases unfI_ok (l.getD 2 0) (l.getD 3 0) (l.getD 4 0) r with e | ⟨o, e, hi⟩
        · rw [e] at hw; exact absurd hw.1 (by decide)
        · rw [e] at hw ⊢
          exact .inr ⟨_, _, _, o, rfl, hi, hw.2, h.1⟩
      · exact .inl rfl
  · exact .inl rfl
theorem unT_drop (l : List Int) (i : Nat) (h : i + 1 < l.length) : unT (l.drop i) = un2 (l.getD i 0) (l.getD (i + 1) 0) :: unT (l.drop (i + 2)) := by
  rw [List.drop_eq_getElem_cons (show i < l.length by omega), List.drop_eq_getElem_cons h]
  simp [unT, List.getD_eq_getElem?_getD, List.getElem?_eq_getElem h, List.getElem?_eq_getElem (show i < l.length by omega)]
theorem unT_end (l : List Int) (i : Nat) (h : l.length ≤ i + 1) : unT (l.drop i) = [] := by
  rcases Nat.lt_or_ge i l.length with hi | hi
  · rw [List.drop_eq_getElem_cons hi, List.drop_of_length_le (by omega)]
    rfl
  · rw [List.drop_of_length_le hi]
    rfl
theorem unT_len (l : List Int) : (unT l).length ≤ l.length := by
  match l with
  | [] => exact Nat.le_refl _
  | [a] => simp [unT]
  | a :: b :: x =>
    have := unT_len x
    simp only [unT, List.length_cons]
    omega
theorem w_unpack (l : List Int) (hl : l.length ≤ 1000000) : Wp (fun k => spec_unpackTokens.f k l) (fun r => r = unT l) := by
  unfold spec_unpackTokens.f
  have key : ∀ d (i : Nat) (a : List S54), l.length ≤ i + d → i ≤ l.length + 2 → a.length ≤ i → Wp (fun k => spec_unpackTokens.l0 k l a i) (fun r => r = a ++ unT (l.drop i)) := by
    intro d
    induction d with
    | zero =>
      intro i a hd hi ha
      refine Wp.step (fun k => spec_unpackTokens.l0.eq_2 ..) (Wp.neg (by rw [w64 (by omega) (by omega)]; omega) (Wp.ret ?_))
      rw [unT_end l i (by omega), List.append_nil]
    | succ d ih =>
      intro i a hd hi ha
      refine Wp.step (fun k => spec_unpackTokens.l0.eq_2 ..) ?_
      rw [w64 (x := (i : Int) + 1) (by omega) (by omega), w64 (x := (i : Int) + 2) (by omega) (by omega), show (i : Int) + 1 = ((i + 1 : Nat) : Int) by omega, show (i : Int) + 2 = ((i + 2 : Nat) : Int) by omega, bl_rd, bl_rd]
      refine Wp.ite (fun h => ?_) (fun h => Wp.ret (by rw [unT_end l i (by omega), List.append_nil]))
      have n := ih (i + 2) (a ++ [un2 (l.getD i 0) (l.getD (i + 1) 0)]) (by omega) (by omega) (by rw [List.length_append]; simp; omega)
      rw [List.append_assoc] at n
      rw [unT_drop l i (by omega)]
      refine Wp.pos (by omega) (Wp.pos (by omega) (Wp.ite (fun h0 => Wp.pos (by omega) (Wp.pos (by omega) ?_)) (fun h0 => Wp.pos (by omega) (Wp.pos (by omega) ?_))))
      · rw [show un2 (l.getD i 0) (l.getD (i + 1) 0) = ⟨l.getD (i + 1) 0, 0, 0⟩ from if_pos h0] at n ⊢
        exact n
      · rw [show un2 (l.getD i 0) (l.getD (i + 1) 0) = ⟨0, l.getD i 0, l.getD (i + 1) 0⟩ from if_neg h0] at n ⊢
        exact n
  exact key l.length 0 [] (by omega) (by omega) (by simp)
theorem w_slEqual (a b : List Int) (hl : a.length ≤ 1000000000) : Wp (fun k => slices_Equal_int_int.f k a b) (fun r => r = decide (a = b)) := by
  unfold slices_Equal_int_int.f
  refine Wp.ite (fun he => ?_) (fun he => Wp.ret ?_)
  · have key : ∀ d (i : Nat), i + d = a.length → (∀ j, j < i → a.getD j 0 = b.getD j 0) → Wp (fun k => slices_Equal_int_int.l0 k a b a.length i) (fun r => r = decide (a = b)) := by
      intro d
      induction d with
      | zero =>
        intro i hd h
        refine Wp.step (fun k => slices_Equal_int_int.l0.eq_2 ..) (Wp.neg (by omega) (Wp.ret ?_))
        exact (decide_eq_true (bl_ext (by omega) fun j hj => h j (by omega))).symm
      | succ d ih =>
        intro i hd h
        refine Wp.step (fun k => slices_Equal_int_int.l0.eq_2 ..) (Wp.pos (by omega) (Wp.pos (by omega) (Wp.pos (by omega) (Wp.pos (by omega) ?_))))
        rw [bl_rd, bl_rd]
        refine Wp.ite (fun h1 => ?_) (fun h1 => Wp.ret ?_)
        · rw [w64 (x := (i : Int) + 1) (by omega) (by omega)]
          refine ih (i + 1) (by omega) fun j hj => ?_
          by_cases e : j = i
          · rw [e]; exact h1
          · exact h j (by omega)
        · exact (decide_eq_false fun e => h1 (by rw [e])).symm
    exact key a.length 0 (by omega) (fun j hj => by omega)
  · exact (decide_eq_false fun e => he (by rw [e])).symm
theorem w_sEqual (a b : List Int) (hl : a.length ≤ 1000000000) : Wp (fun k => spec_equalInts.f k a b) (fun r => r = decide (a = b)) := by
  unfold spec_equalInts.f
  refine Wp.ite (fun he => ?_) (fun he => Wp.ret ?_)
  · have key : ∀ d (i : Nat), i + d = a.length → (∀ j, j < i → a.getD j 0 = b.getD j 0) → Wp (fun k => spec_equalInts.l0 k a b i) (fun r => r = decide (a = b)) := by
      intro d
      induction d with
      | zero =>
        intro i hd h
        refine Wp.step (fun k => spec_equalInts.l0.eq_2 ..) (Wp.neg (by omega) (Wp.ret ?_))
        exact (decide_eq_true (bl_ext (by omega) fun j hj => h j (by omega))).symm
      | succ d ih =>
        intro i hd h
        refine Wp.step (fun k => spec_equalInts.l0.eq_2 ..) (Wp.pos (by omega) (Wp.pos (by omega) (Wp.pos (by omega) ?_)))
        rw [bl_rd, bl_rd]
        refine Wp.ite (fun h1 => ?_) (fun h1 => Wp.ret ?_)
        · rw [w64 (x := (i : Int) + 1) (by omega) (by omega)]
          refine ih (i + 1) (by omega) fun j hj => ?_
          by_cases e : j = i
          · rw [e]; exact h1
          · exact h j (by omega)
        · exact (decide_eq_false fun e => h1 (by rw [e])).symm
    exact key a.length 0 (by omega) (fun j hj => by omega)
  · exact (decide_eq_false fun e => he (by rw [e])).symm
theorem cpy_B (o : List Int) (b m : Nat) (h : ∀ x ∈ o, 0 ≤ x ∧ x ≤ 255) : ∀ x ∈ cpy o b m, 0 ≤ x ∧ x ≤ 255 := by
  induction m generalizing o with
  | zero => exact h
  | succ m ih =>
    refine ih _ fun x hx => ?_
    rcases List.mem_append.1 hx with h1 | h1
    · exact h x h1
    · rw [List.mem_singleton] at h1
      rw [h1]
      exact getD_B h _
theorem exF_B (ts : List S54) : ∀ (o r : List Int), exF ts o = some r → o.length ≤ 1200 → (∀ x ∈ o, 0 ≤ x ∧ x ≤ 255) → r.length ≤ 1200 ∧ ∀ x ∈ r, 0 ≤ x ∧ x ≤ 255 := by
  induction ts with
  | nil => intro o r h hl hB; obtain rfl := Option.some.inj h; exact ⟨hl, hB⟩
  | cons t ts ih =>
    intro o r h hl hB
    unfold exF at h
    split at h
    · rename_i hv
      split at h
      · cases h
      · rename_i hg
        refine ih _ r h (by omega) fun x hx => ?_
        unfold grow at hx
        split at hx
        · rename_i h0
          rcases List.mem_append.1 hx with h1 | h1
          · exact hB x h1
          · rw [List.mem_singleton] at h1
            rcases hv with hv | hv
            · omega
            · omega
        · exact cpy_B _ _ _ hB x hx
    · cases h
theorem w_iRead (l : List Int) (hl : l.length ≤ 1000000000) : Wp (fun k => impl_ReadImage.f k l) (fun r => r = rdI l) := by
  unfold impl_ReadImage.f impl_isByteList.f
  refine Wp.call (Q := fun r => r = decide (l.length ≤ 1200 ∧ allB l = true)) (Wp.ite (fun h => ?_) (fun h => Wp.ret ?_)) ?_
  · refine Wp.call (w_areBytes l) ?_
    rintro _ rfl
    exact Wp.ret (by have : l.length ≤ 1200 := by omega
                     simp [this])
  · exact (decide_eq_false (by omega)).symm
  rintro _ rfl
  have bad : rdI l = noImg → Wp (fun k => impl_ReadImage.j0 k l l.length true) (fun r => r = rdI l) := fun h => Wp.step (fun k => impl_ReadImage.j0.eq_2 ..) (Wp.pos rfl (Wp.ret h.symm))
  refine Wp.ite (fun h => ?_) (fun h => bad (if_neg fun e => h (decide_eq_true ⟨e.1, e.2.1⟩)))
  have hV := of_decide_eq_true h
  refine Wp.ite (fun h7 => bad (if_neg fun e => by have := e.2.2; omega)) (fun h7 => ?_)
  by_cases hm : (l.length : Int) % 2 = 0
  · rw [show ((l.length : Int) % 2 == 0) = true from beq_iff_eq.2 hm]
    exact bad (rdI_even (by omega))
  · rw [show ((l.length : Int) % 2 == 0) = false from beq_eq_false_iff_ne.2 hm]
    refine Wp.step (fun k => impl_ReadImage.j0.eq_2 ..) (Wp.neg (by decide) ?_)
    have hl2 : l.length ≤ 1200 := hV.1
    have hr : rdI l = rdE l (exF (unT (bodyOf l)) []) := if_pos ⟨hV.1, hV.2, by omega⟩
    rw [hr]
    have hbl : (bodyOf l).length = l.length - 7 := by unfold bodyOf; rw [List.length_drop, List.length_take]; omega
    have fin : ∀ ts : List S54, ts = unT (bodyOf l) → Wp (fun k => impl_ReadImage.l0 k l l.length ts ((l.length - 2 : Nat) : Int)) (fun r => r = rdE l (exF (unT (bodyOf l)) [])) := by
      intro ts hts
      subst hts
      have htl := unT_len (bodyOf l)
      refine Wp.step (fun k => impl_ReadImage.l0.eq_2 ..) (Wp.neg (by rw [w64 (by omega) (by omega)]; omega) ?_)
      refine Wp.call (w_iExpand _ (by omega)) ?_
      rintro _ rfl
      cases hx : exF (unT (bodyOf l)) [] with
      | none => exact Wp.neg (by decide) (Wp.ret rfl)
      | some r =>
        obtain ⟨r1, r2⟩ := exF_B _ [] r hx (by simp) (by simp)
        refine Wp.pos rfl (Wp.pos (by omega) (Wp.pos (by omega) (Wp.pos (by omega) ?_)))
        rw [show rd l 2 = l.getD 2 0 from bl_rd l 2, show rd l 3 = l.getD 3 0 from bl_rd l 3, show rd l 4 = l.getD 4 0 from bl_rd l 4]
        refine Wp.call (w_iUnf0 _ _ _ _) ?_
        rintro _ rfl
        show Wp _ (fun x => x = rdU l (unfI (l.getD 2 0) (l.getD 3 0) (l.getD 4 0) r))
        rcases unfI_ok (l.getD 2 0) (l.getD 3 0) (l.getD 4 0) r with e | ⟨o, e, hi⟩
        · rw [show (exR (some r)).1 = r from rfl, e]
          exact Wp.neg (by decide) (Wp.ret rfl)
        · rw [show (exR (some r)).1 = r from rfl, e]
          refine Wp.pos rfl ?_
          refine Wp.call (w_iWrite0 _ _ _ _ hi) ?_
          rintro _ rfl
          have hwl := (wrI_B hi).2.1
          dsimp only
          unfold rdU
          by_cases hg : (wrI (l.getD 2 0) (l.getD 3 0) (l.getD 4 0) o).length > 1200
          · rw [if_pos hg, if_neg (fun e => by have := e.2; simp only at this; rw [this] at hg; omega)]
            exact Wp.neg (by decide) (Wp.ret rfl)
          · rw [if_neg hg]
            refine Wp.pos rfl ?_
            refine Wp.call (w_slEqual _ _ (by simp only; omega)) ?_
            rintro _ rfl
            refine Wp.ite (fun he => Wp.ret ?_) (fun he => Wp.ret ?_)
            · rw [if_pos ⟨rfl, of_decide_eq_true he⟩]
            · rw [if_neg (fun e => he (decide_eq_true e.2))]
              rfl
    have key : ∀ d (i : Nat) (a : List S54), 5 + 2 * i + 2 * d = l.length - 2 → a.length ≤ i → a ++ unT ((bodyOf l).drop (2 * i)) = unT (bodyOf l) → Wp (fun k => impl_ReadImage.l0 k l l.length a ((5 + 2 * i : Nat) : Int)) (fun r => r = rdE l (exF (unT (bodyOf l)) [])) := by
      intro d
      induction d with
      | zero =>
        intro i a hd ha he
        rw [unT_end _ _ (by omega), List.append_nil] at he
        rw [show 5 + 2 * i = l.length - 2 by omega]
        exact fin a he
      | succ d ih =>
        intro i a hd ha he
        have e1 : ∀ j, j < (bodyOf l).length → (bodyOf l).getD j 0 = l.getD (5 + j) 0 := fun j hj => by
          unfold bodyOf at hj ⊢
          rw [List.length_drop, List.length_take] at hj
          simp only [List.getD_eq_getElem?_getD, List.getElem?_drop, List.getElem?_take]
          rw [if_pos (by omega)]
        rw [unT_drop _ _ (by omega), e1 _ (by omega), e1 _ (by omega)] at he
        refine Wp.step (fun k => impl_ReadImage.l0.eq_2 ..) (Wp.pos (by rw [w64 (by omega) (by omega)]; omega) (Wp.pos (by omega) (Wp.pos (by omega) ?_)))
        rw [w64 (x := ((5 + 2 * i : Nat) : Int) + 1) (by omega) (by omega), w64 (x := ((5 + 2 * i : Nat) : Int) + 2) (by omega) (by omega), show ((5 + 2 * i : Nat) : Int) + 1 = ((5 + (2 * i + 1) : Nat) : Int) by omega, show ((5 + 2 * i : Nat) : Int) + 2 = ((5 + 2 * (i + 1) : Nat) : Int) by omega, bl_rd, bl_rd]
        have n := ih (i + 1) (a ++ [un2 (l.getD (5 + 2 * i) 0) (l.getD (5 + (2 * i + 1)) 0)]) (by omega) (by rw [List.length_append]; simp; omega) (by rw [List.append_assoc]; exact he)
        refine Wp.ite (fun h0 => Wp.pos (by omega) (Wp.pos (by omega) (Wp.pos (by omega) ?_))) (fun h0 => Wp.pos (by omega) (Wp.pos (by omega) (Wp.pos (by omega) ?_)))
        · rw [show un2 (l.getD (5 + 2 * i) 0) (l.getD (5 + (2 * i + 1)) 0) = ⟨l.getD (5 + (2 * i + 1)) 0, 0, 0⟩ from if_pos h0] at n
          exact n
        · rw [show un2 (l.getD (5 + 2 * i) 0) (l.getD (5 + (2 * i + 1)) 0) = ⟨0, l.getD (5 + 2 * i) 0, l.getD (5 + (2 * i + 1)) 0⟩ from if_neg h0] at n
          exact n
    exact key ((l.length - 7) / 2) 0 [] (by omega) (by simp) (by simp)
theorem w_sUnf0 (a b c : Int) (l : List Int) (h : ((1 ≤ a ∧ a ≤ 16) ∧ (1 ≤ b ∧ b ≤ 16) ∧ (1 ≤ c ∧ c ≤ 4)) ∧ (l.length : Int) = b * (a * c + 1) ∧ allB l = true) : Wp (fun k => spec_unfilterImage.f k a b c l) (fun r => r = unfI a b c l) := by
  unfold unfI
  rw [if_pos h]
  obtain ⟨n, m, p, rfl, rfl, rfl, hn, hm, hp, hl, hw, hs, hB, hs2⟩ := unf_parts h
  have e1 : ((n : Int) * p).toNat = n * p := by rw [← Int.natCast_mul, Int.toNat_natCast]
  simp only [e1, Int.toNat_natCast]
  exact w_sUnfI n m p l hn hm hp hl hw hs hB hs2
theorem w_sRead (l : List Int) (hl : l.length ≤ 1000000000) : Wp (fun k => spec_ReadImage.f k l) (fun r => r = rdI l) := by
  unfold spec_ReadImage.f spec_validBytes.f
  refine Wp.call (Q := fun r => r = decide (l.length ≤ 1200 ∧ allB l = true)) (Wp.ite (fun h => ?_) (fun h => Wp.ret ?_)) ?_
  · refine Wp.call (w_allB l hl) ?_
    rintro _ rfl
    exact Wp.ret (by have : l.length ≤ 1200 := by omega
                     simp [this])
  · exact (decide_eq_false (by omega)).symm
  rintro _ rfl
  have bad : rdI l = noImg → Wp (fun k => spec_ReadImage.j0 k l true) (fun r => r = rdI l) := fun h => Wp.step (fun k => spec_ReadImage.j0.eq_2 ..) (Wp.pos rfl (Wp.ret h.symm))
  refine Wp.ite (fun h => ?_) (fun h => bad (if_neg fun e => h (decide_eq_true ⟨e.1, e.2.1⟩)))
  have hV := of_decide_eq_true h
  refine Wp.ite (fun h7 => bad (if_neg fun e => by have := e.2.2; omega)) (fun h7 => ?_)
  have hr : rdI l = rdE l (exF (unT (bodyOf l)) []) := if_pos ⟨hV.1, hV.2, by omega⟩
  have hl2 : l.length ≤ 1200 := hV.1
  refine Wp.pos (by omega) (Wp.pos (by omega) (Wp.pos (by omega) ?_))
  rw [show rd l 2 = l.getD 2 0 from bl_rd l 2, show rd l 3 = l.getD 3 0 from bl_rd l 3, show rd l 4 = l.getD 4 0 from bl_rd l 4]
  refine Wp.call (w_validShape _ _ _) ?_
  rintro _ rfl
  have noShape : ∀ r, ¬ (((1 ≤ l.getD 2 0 ∧ l.getD 2 0 ≤ 16) ∧ (1 ≤ l.getD 3 0 ∧ l.getD 3 0 ≤ 16) ∧ (1 ≤ l.getD 4 0 ∧ l.getD 4 0 ≤ 4)) ∧ (r.length : Int) = l.getD 3 0 * (l.getD 2 0 * l.getD 4 0 + 1) ∧ allB r = true) → rdU l (unfI (l.getD 2 0) (l.getD 3 0) (l.getD 4 0) r) = noImg := fun r h => by
    unfold unfI
    rw [if_neg h]
    unfold rdU
    rw [if_neg (fun e => by cases e.1)]
  by_cases hs : (1 ≤ l.getD 2 0 ∧ l.getD 2 0 ≤ 16) ∧ (1 ≤ l.getD 3 0 ∧ l.getD 3 0 ≤ 16) ∧ (1 ≤ l.getD 4 0 ∧ l.getD 4 0 ≤ 4)
  · rw [decide_eq_true hs]
    refine Wp.step (fun k => spec_ReadImage.j0.eq_2 ..) (Wp.neg (by decide) ?_)
    rw [w64 (x := (l.length : Int) - 2) (by omega) (by omega), hr]
    refine Wp.pos (by omega) (Wp.pos (by omega) ?_)
    rw [show ((l.length : Int) - 2).toNat = l.length - 2 by omega]
    have hbl : (bodyOf l).length = l.length - 7 := by unfold bodyOf; rw [List.length_drop, List.length_take]; omega
    have htl := unT_len (bodyOf l)
    refine Wp.call (w_unpack (bodyOf l) (by omega)) ?_
    rintro _ rfl
    refine Wp.call (w_sExpand _ (by omega)) ?_
    rintro _ rfl
    have bad1 : ∀ y x, x = noImg → Wp (fun k => spec_ReadImage.j1 k l y true) (fun r => r = x) := fun y x h => Wp.step (fun k => spec_ReadImage.j1.eq_2 ..) (Wp.pos rfl (Wp.ret h.symm))
    cases hx : exF (unT (bodyOf l)) [] with
    | none => exact Wp.neg (by decide) (bad1 _ _ rfl)
    | some r =>
      obtain ⟨r1, r2⟩ := exF_B _ [] r hx (by simp) (by simp)
      have m1 : 1 * 1 ≤ l.getD 2 0 * l.getD 4 0 := Int.mul_le_mul hs.1.1 hs.2.2.1 (by omega) (by omega)
      have m2 : l.getD 2 0 * l.getD 4 0 ≤ 16 * 4 := Int.mul_le_mul hs.1.2 hs.2.2.2 (by omega) (by omega)
      have m3 : 1 * 1 ≤ l.getD 3 0 * (l.getD 2 0 * l.getD 4 0 + 1) := Int.mul_le_mul hs.2.1.1 (by omega) (by omega) (by omega)
      have m4 : l.getD 3 0 * (l.getD 2 0 * l.getD 4 0 + 1) ≤ 16 * 65 := Int.mul_le_mul hs.2.1.2 (by omega) (by omega) (by omega)
      refine Wp.pos rfl (Wp.pos (by omega) (Wp.pos (by omega) (Wp.pos (by omega) ?_)))
      rw [show rd l 2 = l.getD 2 0 from bl_rd l 2, show rd l 3 = l.getD 3 0 from bl_rd l 3, show rd l 4 = l.getD 4 0 from bl_rd l 4, w64 (x := l.getD 2 0 * l.getD 4 0) (by omega) (by omega), w64 (x := l.getD 2 0 * l.getD 4 0 + 1) (by omega) (by omega), w64 (x := l.getD 3 0 * _) (by omega) (by omega)]
      show Wp (fun k => spec_ReadImage.j1 k l r ((r.length : Int) != _)) (fun x => x = rdU l (unfI (l.getD 2 0) (l.getD 3 0) (l.getD 4 0) r))
      by_cases hlen : (r.length : Int) = l.getD 3 0 * (l.getD 2 0 * l.getD 4 0 + 1)
      · rw [show ((r.length : Int) != l.getD 3 0 * (l.getD 2 0 * l.getD 4 0 + 1)) = false from bne_eq_false_iff_eq.2 hlen]
        refine Wp.step (fun k => spec_ReadImage.j1.eq_2 ..) (Wp.neg (by decide) (Wp.pos (by omega) (Wp.pos (by omega) (Wp.pos (by omega) ?_))))
        rw [show rd l 2 = l.getD 2 0 from bl_rd l 2, show rd l 3 = l.getD 3 0 from bl_rd l 3, show rd l 4 = l.getD 4 0 from bl_rd l 4]
        refine Wp.call (w_sUnf0 _ _ _ _ ⟨hs, hlen, allB_of r2⟩) ?_
        rintro _ rfl
        rcases unfI_ok (l.getD 2 0) (l.getD 3 0) (l.getD 4 0) r with e | ⟨o, e, hi⟩
        · rw [e]
          exact Wp.neg (by decide) (Wp.ret rfl)
        · rw [e]
          refine Wp.pos rfl ?_
          refine Wp.call (w_sWrite0 _ _ _ _ hi) ?_
          rintro _ rfl
          have hwl := (wrI_B hi).2.1
          dsimp only
          refine Wp.call (w_sEqual _ _ (by omega)) ?_
          rintro _ rfl
          unfold rdU
          refine Wp.ite (fun he => Wp.ret ?_) (fun he => Wp.ret ?_)
          · rw [if_pos ⟨rfl, of_decide_eq_true he⟩]
          · rw [if_neg (fun e => he (decide_eq_true e.2))]
            rfl
      · rw [show ((r.length : Int) != l.getD 3 0 * (l.getD 2 0 * l.getD 4 0 + 1)) = true from bne_iff_ne.2 hlen]
        exact bad1 _ _ (noShape r fun e => hlen e.2.1)
  · rw [decide_eq_false hs]
    refine bad ?_
    rw [hr]
    cases exF (unT (bodyOf l)) [] with
    | none => rfl
    | some r => exact noShape r fun e => hs e.1
end Go.Proofs.Ytchahbdmdcllaaa.P
namespace Go.Proofs.Ytchahbdmdcllaaa.P
open Go.RowKit Go.Proofs.YtchahbdmdcllaaaW.PrintWords Go.Proofs.YtchahbdmdcllaaaW.PrintLast Go.Proofs.YtchahbdmdcllaaaW.PrintMore Go.Proofs.Ytchahbdmdcllaaa.Wp
set_option linter.unusedVariables false
theorem rd_mem (l : List Int) (i : Int) (h0 : 0 ≤ i) (h1 : i < (l.length : Int)) : rd l i ∈ l := by
  unfold rd
  rw [List.getD_eq_getElem?_getD, List.getElem?_eq_getElem (by omega)]
  exact List.getElem_mem _
theorem rd_le {l : List Int} {a b : Int} (h : ∀ x ∈ l, a ≤ x ∧ x ≤ b) (i : Int) (h0 : 0 ≤ i) (h1 : i < (l.length : Int)) : a ≤ rd l i ∧ rd l i ≤ b := h _ (rd_mem l i h0 h1)
def Rdr (b : List Int) (p : Int) : Prop := (∀ x ∈ b, 0 ≤ x ∧ x ≤ 255) ∧ b.length ≤ 2000 ∧ 0 ≤ p ∧ p ≤ 1000000
theorem tmod_range (x n : Int) (hx : 0 ≤ x) (hn : 0 < n) : 0 ≤ Int.tmod x n ∧ Int.tmod x n < n := by
  rw [Int.tmod_eq_emod_of_nonneg hx]
  exact ⟨Int.emod_nonneg _ (by omega), Int.emod_lt_of_pos _ hn⟩
theorem bits_xor_nonneg (x y : Int) (hx : 0 ≤ x) (hx2 : x ≤ 1000000000000) (hy : 0 ≤ y) (hy2 : y ≤ 1000000000000) : 0 ≤ Go.bits .xor .i64 x y := by
  obtain ⟨a, rfl⟩ := Int.eq_ofNat_of_zero_le hx
  obtain ⟨b, rfl⟩ := Int.eq_ofNat_of_zero_le hy
  have ha : a < 2 ^ 62 := by omega
  have hb : b < 2 ^ 62 := by omega
  have ha' : a % 2 ^ 64 = a := Nat.mod_eq_of_lt (by omega)
  have hb' : b % 2 ^ 64 = b := Nat.mod_eq_of_lt (by omega)
  have hc : a ^^^ b < 2 ^ 62 := Nat.xor_lt_two_pow ha hb
  have hw : IntKind.i64.wrap ((a ^^^ b : Nat) : Int) = ((a ^^^ b : Nat) : Int) := by
    have h64 : IntKind.i64.wrap ((a ^^^ b : Nat) : Int) = wrap64 ((a ^^^ b : Nat) : Int) := i64_w _
    rw [h64, w64 (by omega) (by omega)]
  have he : Go.bits .xor .i64 (a : Int) (b : Int) = ((a ^^^ b : Nat) : Int) := by
    have hbits : IntKind.i64.bits = 64 := rfl
    simp only [Go.bits, BitVec.ofInt_natCast, BitVec.toNat_xor, BitVec.toNat_ofNat, hbits, ha', hb', hw]
  rw [he]
  exact Int.natCast_nonneg _
theorem w_newReader (l : List Int) (hb : ∀ x ∈ l, (Lit.int .u8 x).wf = true) : Wp (fun _ => spec_newReader.f l) (fun r => Rdr r.1 r.2 ∧ r.2 = 0) := by
  have hb' : ∀ x ∈ l, 0 ≤ x ∧ x ≤ 255 := fun x hx => by
    have h := hb x hx
    simp only [Lit.wf, Bool.and_eq_true, decide_eq_true_eq] at h
    have h0 : IntKind.u8.min = 0 := rfl
    have h1 : IntKind.u8.max = 255 := rfl
    omega
  unfold spec_newReader.f
  refine Wp.ite (fun h => Wp.pos (by omega) (Wp.ret ?_)) (fun h => Wp.ret ?_)
  · exact ⟨⟨fun x hx => hb' x (List.mem_of_mem_take hx), by show (l.take 2000).length ≤ 2000; rw [List.length_take]; omega, Int.le_refl _, by show (0 : Int) ≤ 1000000; omega⟩, rfl⟩
  · exact ⟨⟨hb', by show l.length ≤ 2000; omega, Int.le_refl _, by show (0 : Int) ≤ 1000000; omega⟩, rfl⟩
theorem w_pick (b : List Int) (p n : Int) (h : Rdr b p) (hp : p < 1000000) (hn : n ≤ 1000000000000) :
    Wp (fun k => spec_reader_pick.f k b p n) (fun r => ∃ x, r = (x, p + 1) ∧ 0 ≤ x ∧ (1 ≤ n → x < n) ∧ (n < 1 → x = 0)) := by
  obtain ⟨hb, hl, h0, h1⟩ := h
  unfold spec_reader_pick.f
  rw [w64 (x := p + 1) (by omega) (by omega)]
  refine Wp.ite (fun hn1 => ?_) (fun hn1 => ?_)
  · refine Wp.step (fun k => spec_reader_pick.j0.eq_2 ..) (Wp.pos rfl (Wp.ret ?_))
    exact ⟨0, rfl, by omega, by omega, fun _ => rfl⟩
  · refine Wp.step (fun k => spec_reader_pick.j0.eq_2 ..) ?_
    rw [show p + 1 - 1 = p by omega, w64 (x := p) (by omega) (by omega)]
    refine Wp.ite (fun hz => Wp.ret ?_) (fun hz => ?_)
    · exact ⟨0, rfl, by omega, by omega, by omega⟩
    · have hpos : 0 < (b.length : Int) := by
        have : ¬ (b.length : Int) = 0 := by simpa using hz
        omega
      refine Wp.ite (fun hlt => ?_) (fun hge => ?_)
      · refine Wp.pos h0 (Wp.neg (by omega) (Wp.ret ?_))
        have hr := rd_le hb p h0 hlt
        rw [w64 (x := rd b p) (by omega) (by omega)]
        have := tmod_range (rd b p) n hr.1 (by omega)
        exact ⟨_, rfl, this.1, fun _ => this.2, by omega⟩
      · refine Wp.neg (by omega) ?_
        have t1 := tmod_range p b.length h0 hpos
        refine Wp.pos t1.1 (Wp.pos t1.2 ?_)
        rw [w64 (x := p * 7) (by omega) (by omega), w64 (x := p * 7 + 3) (by omega) (by omega)]
        have t2 := tmod_range (p * 7 + 3) b.length (by omega) hpos
        refine Wp.pos t2.1 (Wp.pos t2.2 (Wp.neg (by omega) (Wp.ret ?_)))
        have r1 := rd_le hb _ t1.1 t1.2
        have r2 := rd_le hb _ t2.1 t2.2
        generalize rd b (Int.tmod p b.length) = u at r1 ⊢
        generalize rd b (Int.tmod (p * 7 + 3) b.length) = v at r2 ⊢
        have hd : 0 ≤ Int.tdiv p b.length ∧ Int.tdiv p b.length ≤ p := by
          rw [Int.tdiv_eq_ediv_of_nonneg h0]
          exact ⟨Int.ediv_nonneg h0 (by omega), Int.ediv_le_self _ h0⟩
        generalize Int.tdiv p b.length = d at hd ⊢
        rw [w64 (x := u) (by omega) (by omega), w64 (x := u * 131) (by omega) (by omega), w64 (x := v) (by omega) (by omega), w64 (x := v * 1117) (by omega) (by omega),
          w64 (x := u * 131 + v * 1117) (by omega) (by omega), w64 (x := p * 29) (by omega) (by omega), w64 (x := u * 131 + v * 1117 + p * 29) (by omega) (by omega),
          w64 (x := d) (by omega) (by omega), w64 (x := d * 53) (by omega) (by omega), w64 (x := u * 131 + v * 1117 + p * 29 + d * 53) (by omega) (by omega)]
        have hs : 0 ≤ u * 131 + v * 1117 + p * 29 + d * 53 ∧ u * 131 + v * 1117 + p * 29 + d * 53 ≤ 1000000000 := by omega
        generalize u * 131 + v * 1117 + p * 29 + d * 53 = s at hs ⊢
        have hq : 0 ≤ Int.tdiv s 64 ∧ Int.tdiv s 64 ≤ s := by
          rw [Int.tdiv_eq_ediv_of_nonneg hs.1]
          exact ⟨Int.ediv_nonneg hs.1 (by omega), Int.ediv_le_self _ hs.1⟩
        rw [w64 (x := Int.tdiv s 64) (by omega) (by omega)]
        have hx := bits_xor_nonneg s (Int.tdiv s 64) hs.1 (by omega) hq.1 (by omega)
        have := tmod_range _ n hx (by omega)
        exact ⟨_, rfl, this.1, fun _ => this.2, by omega⟩
theorem Rdr.up {b : List Int} {p q : Int} (h : Rdr b p) (h1 : p ≤ q) (h2 : q ≤ 1000000) : Rdr b q := ⟨h.1, h.2.1, by have := h.2.2.1; omega, h2⟩
theorem w_one (b : List Int) (p : Int) (l : List Int) (h : Rdr b p) (hp : p < 1000000) (hl : 0 < l.length) (hl2 : l.length ≤ 1000) :
    Wp (fun k => spec_reader_one.f k b p l) (fun r => ∃ x, r = (x, p + 1) ∧ x ∈ l) := by
  unfold spec_reader_one.f
  refine Wp.call (w_pick b p l.length h hp (by omega)) ?_
  rintro _ ⟨x, rfl, h0, h1, _⟩
  have h1 := h1 (by omega)
  exact Wp.pos h0 (Wp.pos h1 (Wp.ret ⟨_, rfl, rd_mem l x h0 h1⟩))
end Go.Proofs.Ytchahbdmdcllaaa.P
namespace Go.Proofs.Ytchahbdmdcllaaa.P
open Go.RowKit Go.Proofs.YtchahbdmdcllaaaW.PrintWords Go.Proofs.YtchahbdmdcllaaaW.PrintLast Go.Proofs.YtchahbdmdcllaaaW.PrintMore Go.Proofs.Ytchahbdmdcllaaa.Wp
set_option linter.unusedVariables false
set_option linter.unusedSimpArgs false
theorem allB_set {l : List Int} (h : ∀ x ∈ l, 0 ≤ x ∧ x ≤ 255) (i : Nat) (v : Int) (hv : 0 ≤ v ∧ v ≤ 255) : ∀ x ∈ l.set i v, 0 ≤ x ∧ x ≤ 255 := fun x hx => by
  rcases List.mem_or_eq_of_mem_set hx with h1 | h1
  · exact h x h1
  · rw [h1]; exact hv
def Rnd (p : Int) (r : Int × Int × Int × List Int × Int) (q : Int) : Prop :=
  (1 ≤ r.1 ∧ r.1 ≤ 8) ∧ (1 ≤ r.2.1 ∧ r.2.1 ≤ 8) ∧ r.2.2.1 = p ∧ (r.2.2.2.1.length : Int) = r.1 * r.2.1 * p ∧ (∀ x ∈ r.2.2.2.1, 0 ≤ x ∧ x ≤ 255) ∧ q ≤ r.2.2.2.2 ∧ r.2.2.2.2 ≤ q + 300
theorem prod_le {a b c : Int} (h0 : 1 ≤ a ∧ a ≤ 8) (h1 : 1 ≤ b ∧ b ≤ 8) (h2 : 1 ≤ c ∧ c ≤ 4) : 1 ≤ a * b ∧ a * b ≤ 64 ∧ 1 ≤ a * b * c ∧ a * b * c ≤ 256 := by
  have m1 : 1 * 1 ≤ a * b := Int.mul_le_mul h0.1 h1.1 (by omega) (by omega)
  have m2 : a * b ≤ 8 * 8 := Int.mul_le_mul h0.2 h1.2 (by omega) (by omega)
  have m3 : 1 * 1 ≤ a * b * c := Int.mul_le_mul (by omega) h2.1 (by omega) (by omega)
  have m4 : a * b * c ≤ 64 * 4 := Int.mul_le_mul (by omega) h2.2 (by omega) (by omega)
  omega
theorem w_randomImage (b : List Int) (q p : Int) (h : Rdr b q) (hq : q ≤ 900000) (hp : 1 ≤ p ∧ p ≤ 4) : Wp (fun k => spec_randomImage.f k b q p) (fun r => Rnd p r q) := by
  unfold spec_randomImage.f
  refine Wp.call (w_one b q _ h (by omega) (by simp) (by simp)) ?_
  rintro _ ⟨sx, rfl, hsx⟩
  have hsx : 1 ≤ sx ∧ sx ≤ 8 := by simp only [List.mem_cons, List.not_mem_nil, or_false] at hsx; omega
  refine Wp.call (w_one b _ _ (h.up (by first | omega | (simp only; omega)) (by first | omega | (simp only; omega))) (by first | omega | (simp only; omega)) (by simp) (by simp)) ?_
  rintro _ ⟨sy, rfl, hsy⟩
  have hsy : 1 ≤ sy ∧ sy ≤ 8 := by simp only [List.mem_cons, List.not_mem_nil, or_false] at hsy; omega
  refine Wp.call (w_newImage sx sy p (by omega) (by omega) (by omega)) ?_
  rintro _ rfl
  refine Wp.call (w_pick b _ 4 (h.up (by first | omega | (simp only; omega)) (by first | omega | (simp only; omega))) (by first | omega | (simp only; omega)) (by omega)) ?_
  rintro _ ⟨md, rfl, md0, md1, _⟩
  refine Wp.call (w_pick b _ 256 (h.up (by first | omega | (simp only; omega)) (by first | omega | (simp only; omega))) (by first | omega | (simp only; omega)) (by omega)) ?_
  rintro _ ⟨v, rfl, v0, v1, _⟩
  have v1 := v1 (by omega)
  have hP := prod_le hsx hsy hp
  generalize hL : (sx * sy * p).toNat = L
  have hlen : (List.replicate L (0 : Int)).length = L := by simp
  have hbs : ∀ x ∈ List.replicate L (0 : Int), 0 ≤ x ∧ x ≤ 255 := fun x hx => by rw [List.eq_of_mem_replicate hx]; omega
  dsimp only
  generalize List.replicate L (0 : Int) = l at hlen hbs
  have key : ∀ (d i : Nat) (l : List Int) (v r : Int), i + d = L → l.length = L → (∀ x ∈ l, 0 ≤ x ∧ x ≤ 255) → 0 ≤ v → v < 256 → q ≤ r → r ≤ q + 4 + i → Wp (fun k => spec_randomImage.l0 k md v i b r sx sy p l) (fun r => Rnd p r q) := by
    intro d
    induction d with
    | zero =>
      intro i l v r hd hl hb hv hv1 hr hr1
      refine Wp.step (fun k => spec_randomImage.l0.eq_2 ..) (Wp.neg (by omega) (Wp.ret ?_))
      exact ⟨hsx, hsy, rfl, by first | omega | (simp only; omega), hb, hr, by first | omega | (simp only; omega)⟩
    | succ d ih =>
      intro i l v r hd hl hb hv hv1 hr hr1
      have hR : Rdr b r := h.up hr (by omega)
      have next : ∀ (v' r' : Int), 0 ≤ v' → v' < 256 → q ≤ r' → r' ≤ q + 4 + (i + 1 : Nat) → Wp (fun k => spec_randomImage.l0 k md v' (wrap64 ((i : Int) + 1)) b r' sx sy p (l.set (i : Int).toNat v')) (fun r => Rnd p r q) := by
        intro v' r' h1 h2 h3 h4
        rw [w64 (x := (i : Int) + 1) (by omega) (by omega)]
        exact ih (i + 1) _ v' r' (by omega) (by rw [List.length_set]; exact hl) (allB_set hb _ _ (by omega)) h1 h2 h3 h4
      refine Wp.step (fun k => spec_randomImage.l0.eq_2 ..) (Wp.pos (by omega) ?_)
      refine Wp.ite (fun _ => ?_) (fun _ => Wp.ite (fun _ => ?_) (fun _ => Wp.ite (fun _ => ?_) (fun _ => ?_)))
      · refine Wp.call (w_pick b r 256 hR (by omega) (by omega)) ?_
        rintro _ ⟨u, rfl, u0, u1, _⟩
        exact Wp.pos (by omega) (next u _ u0 (u1 (by omega)) (by first | omega | (simp only; omega)) (by first | omega | (simp only; omega)))
      · refine Wp.call (w_pick b r 5 hR (by omega) (by omega)) ?_
        rintro _ ⟨u, rfl, u0, u1, _⟩
        have u1 := u1 (by omega)
        refine Wp.pos (by omega) ?_
        simp only
        rw [w64 (x := v + u) (by omega) (by omega), w64 (x := v + u + 254) (by omega) (by omega)]
        have ht := tmod_range (v + u + 254) 256 (by omega) (by omega)
        exact next _ _ ht.1 ht.2 (by first | omega | (simp only; omega)) (by first | omega | (simp only; omega))
      · refine Wp.call (w_pick b r 4 hR (by omega) (by omega)) ?_
        rintro _ ⟨u, rfl, u0, u1, _⟩
        have u1 := u1 (by omega)
        refine Wp.pos (by omega) ?_
        simp only
        rw [w64 (x := 60 * u) (by omega) (by omega)]
        exact next _ _ (by omega) (by omega) (by omega) (by omega)
      · exact Wp.pos (by omega) (next v r hv hv1 hr (by omega))
  exact key L 0 l v _ (by omega) hlen hbs v0 v1 (by first | omega | (simp only; omega)) (by first | omega | (simp only; omega))
def Spl (q : Int) (r : Int × Int × Int × List Int × Int) : Prop :=
  (0 ≤ r.1 ∧ r.1 ≤ 17) ∧ (0 ≤ r.2.1 ∧ r.2.1 ≤ 17) ∧ (0 ≤ r.2.2.1 ∧ r.2.2.1 ≤ 5) ∧ r.2.2.2.1.length ≤ 1024 ∧ q ≤ r.2.2.2.2 ∧ r.2.2.2.2 ≤ q + 1000
theorem w_spoilImage (bb : List Int) (q a b c : Int) (l : List Int) (h : Rdr bb q) (hq : q ≤ 900000) (ha : 0 ≤ a ∧ a ≤ 16) (hb : 0 ≤ b ∧ b ≤ 16) (hc : 0 ≤ c ∧ c ≤ 4) (hl : 1 ≤ l.length) (hl2 : l.length ≤ 1024) :
    Wp (fun k => spec_spoilImage.f k bb q a b c l) (fun r => (0 ≤ r.1 ∧ r.1 ≤ 17) ∧ (0 ≤ r.2.1 ∧ r.2.1 ≤ 17) ∧ (0 ≤ r.2.2.1 ∧ r.2.2.1 ≤ 5) ∧ r.2.2.2.1.length ≤ 1024 ∧ q ≤ r.2.2.2.2 ∧ r.2.2.2.2 ≤ q + 2) := by
  unfold spec_spoilImage.f
  refine Wp.call (w_pick bb q 40 h (by omega) (by omega)) ?_
  rintro _ ⟨u, rfl, u0, u1, _⟩
  have h1 : Rdr bb (q + 1) := h.up (by omega) (by omega)
  simp only
  refine Wp.ite (fun _ => ?_) (fun _ => Wp.ite (fun _ => ?_) (fun _ => Wp.ite (fun _ => ?_) (fun _ => Wp.ite (fun _ => ?_) (fun _ => ?_))))
  · refine Wp.call (w_one bb _ _ h1 (by omega) (by simp) (by simp)) ?_
    rintro _ ⟨x, rfl, hx⟩
    rw [w64 (x := a + 1) (by omega) (by omega)] at hx
    simp only [List.mem_cons, List.not_mem_nil, or_false] at hx
    exact Wp.ret ⟨by first | omega | (simp only; omega), by first | omega | (simp only; omega), by first | omega | (simp only; omega), hl2, by first | omega | (simp only; omega), by first | omega | (simp only; omega)⟩
  · exact Wp.pos (by omega) (Wp.ret ⟨by first | omega | (simp only; omega), by first | omega | (simp only; omega), by first | omega | (simp only; omega), by simp only [List.length_drop]; omega, by first | omega | (simp only; omega), by first | omega | (simp only; omega)⟩)
  · refine Wp.call (w_one bb _ _ h1 (by omega) (by simp) (by simp)) ?_
    rintro _ ⟨x, rfl, hx⟩
    exact Wp.pos (by omega) (Wp.ret ⟨by first | omega | (simp only; omega), by first | omega | (simp only; omega), by first | omega | (simp only; omega), by simp only [List.length_set]; omega, by first | omega | (simp only; omega), by first | omega | (simp only; omega)⟩)
  · refine Wp.call (w_one bb _ _ h1 (by omega) (by simp) (by simp)) ?_
    rintro _ ⟨x, rfl, hx⟩
    simp only [List.mem_cons, List.not_mem_nil, or_false] at hx
    exact Wp.ret ⟨by first | omega | (simp only; omega), by first | omega | (simp only; omega), by first | omega | (simp only; omega), hl2, by first | omega | (simp only; omega), by first | omega | (simp only; omega)⟩
  · exact Wp.ret ⟨by first | omega | (simp only; omega), by first | omega | (simp only; omega), by first | omega | (simp only; omega), hl2, by first | omega | (simp only; omega), by first | omega | (simp only; omega)⟩
theorem w_anyPlanes (b : List Int) (q : Int) (h : Rdr b q) (hq : q ≤ 900000) : Wp (fun k => spec_anyPlanes.f k b q) (fun r => (1 ≤ r.1 ∧ r.1 ≤ 4) ∧ r.2 = q + 1) := by
  unfold spec_anyPlanes.f
  refine Wp.call (w_one b q _ h (by omega) (by simp) (by simp)) ?_
  rintro _ ⟨x, rfl, hx⟩
  simp only [List.mem_cons, List.not_mem_nil, or_false] at hx
  exact Wp.ret ⟨by first | omega | (simp only; omega), rfl⟩
theorem Rnd.len {p q : Int} {r : Int × Int × Int × List Int × Int} (h : Rnd p r q) (hp : 1 ≤ p ∧ p ≤ 4) : 1 ≤ r.2.2.2.1.length ∧ r.2.2.2.1.length ≤ 256 := by
  obtain ⟨h0, h1, h2, h3, _⟩ := h
  have := prod_le h0 h1 hp
  omega
theorem w_randomSpoil (b : List Int) (q p : Int) (r : Int × Int × Int × List Int × Int) (h : Rdr b q) (hq : q ≤ 800000) (hp : 1 ≤ p ∧ p ≤ 4) (hr : Rnd p r q) :
    Wp (fun k => spec_spoilImage.f k b r.2.2.2.2 r.1 r.2.1 r.2.2.1 r.2.2.2.1) (fun r => Spl q r ∧ r.2.2.2.2 ≤ q + 302) := by
  have hl := hr.len hp
  obtain ⟨h0, h1, h2, h3, h4, h5, h6⟩ := hr
  refine (w_spoilImage b r.2.2.2.2 _ _ _ _ (h.up h5 (by omega)) (by omega) (by omega) (by omega) (by omega) hl.1 (by omega)).mono ?_
  rintro s ⟨a0, a1, a2, a3, a4, a5⟩
  exact ⟨⟨a0, a1, a2, a3, by omega, by omega⟩, by omega⟩
theorem w_anyImage (b : List Int) (q : Int) (h : Rdr b q) (hq : q ≤ 700000) : Wp (fun k => spec_anyImage.f k b q) (fun r => Spl q r) := by
  unfold spec_anyImage.f
  refine Wp.call (w_anyPlanes b q h (by omega)) ?_
  rintro ⟨p, q'⟩ ⟨hp, e⟩
  simp only at hp e
  subst e
  refine Wp.call (w_randomImage b (q + 1) p (h.up (by omega) (by omega)) (by omega) hp) ?_
  intro r hr
  refine Wp.call (w_randomSpoil b (q + 1) p r (h.up (by omega) (by omega)) (by omega) hp hr) ?_
  rintro s ⟨⟨a0, a1, a2, a3, a4, a5⟩, a6⟩
  refine Wp.ret ⟨a0, a1, a2, a3, by first | omega | (simp only; omega), ?_⟩
  simp only
  omega
end Go.Proofs.Ytchahbdmdcllaaa.P
namespace Go.Proofs.Ytchahbdmdcllaaa.P
open Go.RowKit Go.Proofs.YtchahbdmdcllaaaW.PrintWords Go.Proofs.YtchahbdmdcllaaaW.PrintLast Go.Proofs.YtchahbdmdcllaaaW.PrintMore Go.Proofs.Ytchahbdmdcllaaa.Wp
set_option linter.unusedVariables false
set_option linter.unusedSimpArgs false
theorem w_spoil (b : List Int) (p : Int) (l : List Int) (n : Int) (h : Rdr b p) (hp : p ≤ 999900) (hl : l.length ≤ 1000000) :
    Wp (fun k => spec_reader_spoil.f k b p l n) (fun r => r.1.length ≤ l.length + 1 ∧ p ≤ r.2 ∧ r.2 ≤ p + 3) := by
  unfold spec_reader_spoil.f
  refine Wp.call (w_copyInts l (by omega)) ?_
  rintro _ rfl
  refine Wp.call (w_pick b p 20 h (by omega) (by omega)) ?_
  rintro _ ⟨x, rfl, x0, x1, _⟩
  have h1 := h.up (q := p + 1) (by omega) (by omega)
  refine Wp.ite (fun _ => Wp.pos (by omega) (Wp.ret ⟨by first | (simp; done) | (simp; omega), by first | (simp; done) | (simp; omega), by first | (simp; done) | (simp; omega)⟩)) (fun _ => ?_)
  refine Wp.ite (fun _ => Wp.ite (fun _ => Wp.pos (by omega) (Wp.ret ⟨by first | (simp; done) | (simp; omega), by first | (simp; done) | (simp; omega), by first | (simp; done) | (simp; omega)⟩)) (fun _ => Wp.ret ⟨by first | (simp; done) | (simp; omega), by first | (simp; done) | (simp; omega), by first | (simp; done) | (simp; omega)⟩)) (fun _ => ?_)
  refine Wp.ite (fun _ => Wp.ite (fun hg => ?_) (fun _ => Wp.ret ⟨by first | (simp; done) | (simp; omega), by first | (simp; done) | (simp; omega), by first | (simp; done) | (simp; omega)⟩)) (fun _ => Wp.ret ⟨by first | (simp; done) | (simp; omega), by first | (simp; done) | (simp; omega), by first | (simp; done) | (simp; omega)⟩)
  refine Wp.call (w_pick b _ _ h1 (by omega) (by omega)) ?_
  rintro _ ⟨y, rfl, y0, y1, _⟩
  have y1 := y1 (by omega)
  have h2 := h.up (q := p + 1 + 1) (by omega) (by omega)
  refine Wp.call (w_one b _ _ h2 (by omega) (by simp) (by simp)) ?_
  rintro _ ⟨z, rfl, hz⟩
  exact Wp.pos y0 (Wp.pos y1 (Wp.ret ⟨by first | (simp; done) | (simp; omega), by first | (simp; done) | (simp; omega), by first | (simp; done) | (simp; omega)⟩))
end Go.Proofs.Ytchahbdmdcllaaa.P
namespace Go.Proofs.Ytchahbdmdcllaaa.P
open Go.RowKit Go.Proofs.YtchahbdmdcllaaaW.PrintWords Go.Proofs.YtchahbdmdcllaaaW.PrintLast Go.Proofs.YtchahbdmdcllaaaW.PrintMore Go.Proofs.Ytchahbdmdcllaaa.Wp
set_option linter.unusedVariables false
set_option linter.unusedSimpArgs false
theorem w_DrawRead (l : List Int) (hb : ∀ x ∈ l, (Lit.int .u8 x).wf = true) : Wp (fun k => spec_DrawReadImage.f k l) (fun r => r.length ≤ 1201) := by
  unfold spec_DrawReadImage.f
  refine Wp.call (w_newReader l hb) ?_
  rintro ⟨b, q⟩ ⟨h, e⟩
  simp only at e h
  subst e
  refine Wp.call (w_anyImage b 0 h (by omega)) ?_
  rintro r ⟨_, _, _, hl, h1, h2⟩
  refine Wp.call (w_sWrite _ _ _ _ (by omega)) ?_
  rintro _ rfl
  refine Wp.call (w_pick b _ 256 (h.up (by omega) (by omega)) (by omega) (by omega)) ?_
  rintro _ ⟨u, rfl, _⟩
  have hw := wrAll_len r.1 r.2.1 r.2.2.1 r.2.2.2.1
  refine Wp.call (w_spoil b _ _ u (h.up (by first | omega | (simp only; omega)) (by first | omega | (simp only; omega))) (by first | omega | (simp only; omega)) (by omega)) ?_
  rintro s ⟨h4, _⟩
  exact Wp.ret (by omega)
end Go.Proofs.Ytchahbdmdcllaaa.P
namespace Go.Proofs.Ytchahbdmdcllaaa.P
open Go.RowKit Go.Proofs.YtchahbdmdcllaaaW.PrintWords Go.Proofs.YtchahbdmdcllaaaW.PrintLast Go.Proofs.YtchahbdmdcllaaaW.PrintMore Go.Proofs.Ytchahbdmdcllaaa.Wp
set_option linter.unusedVariables false
set_option linter.unusedSimpArgs false
theorem w_equalImage (a b c : Int) (l : List Int) (a' b' c' : Int) (l' : List Int) (hl : l.length ≤ 1000000000) : Wp (fun k => laws_equalImage.f k a b c l a' b' c' l') (fun r => r = decide ((a, b, c, l) = (a', b', c', l'))) := by
  unfold laws_equalImage.f
  refine Wp.ite (fun h => ?_) (fun h => Wp.ret (decide_eq_false fun e => h (congrArg (·.1) e)).symm)
  refine Wp.ite (fun h1 => ?_) (fun h1 => Wp.ret (decide_eq_false fun e => h1 (congrArg (·.2.1) e)).symm)
  refine Wp.ite (fun h2 => ?_) (fun h2 => Wp.ret (decide_eq_false fun e => h2 (congrArg (·.2.2.1) e)).symm)
  refine Wp.call (w_equalInts l l' hl) ?_
  rintro _ rfl
  refine Wp.ret ?_
  subst h h1 h2
  rw [Bool.eq_iff_iff, decide_eq_true_eq, decide_eq_true_eq]
  exact ⟨fun e => by rw [e], fun e => congrArg (·.2.2.2) e⟩
end Go.Proofs.Ytchahbdmdcllaaa.P
namespace Go.Proofs.Ytchahbdmdcllaaa.Pure
open Go.RowKit Go.Proofs.Ytchahbdmdcllaaa.P Go.Proofs.YtchahbdmdcllaaaW.PrintWords Go.Proofs.YtchahbdmdcllaaaW.PrintMore Go.Proofs.Ytchahbdmdcllaaa.Wp
set_option linter.unusedVariables false
def Ckd (x : List Int) : Prop := ∃ o, x = o ++ [ckOf o / 256, ckOf o % 256]
theorem ckd_of {x : List Int} (h : (rdI x).2.2.2.2 = true) : Ckd x := by
  rcases rdI_ok x with e | ⟨a, b, c, o, e, hi, hw, _⟩
  · rw [e] at h; cases h
  · exact ⟨wrO a b c o, hw.symm⟩
theorem ckd_change {x : List Int} (h : Ckd x) (p : Nat) (hp : p < x.length) (v : Int) (hv : v = x.getD p 0 + 1 ∨ v = x.getD p 0 - 1) : ¬ Ckd (x.set p v) := by
  obtain ⟨o, rfl⟩ := h
  rintro ⟨o', h'⟩
  have hlen : o'.length = o.length := by
    have := congrArg List.length h'
    simp only [List.length_set, List.length_append, List.length_cons, List.length_nil] at this
    omega
  rcases Nat.lt_or_ge p o.length with h1 | h1
  · rw [List.set_append_left _ _ h1] at h'
    obtain ⟨e1, e2⟩ := List.append_inj h' (by rw [List.length_set]; omega)
    have hv' : v = o.getD p 0 + 1 ∨ v = o.getD p 0 - 1 := by
      have : (o ++ [ckOf o / 256, ckOf o % 256]).getD p 0 = o.getD p 0 := by
        simp only [List.getD_eq_getElem?_getD]
        rw [List.getElem?_append_left h1]
      rw [this] at hv
      exact hv
    have hne := ck_change o p v h1 hv'
    rw [e1] at hne
    simp only [List.cons.injEq] at e2
    omega
  · have h'' := h'
    rw [List.set_append_right _ _ h1] at h''
    obtain ⟨e1, _⟩ := List.append_inj h'' hlen.symm
    subst e1
    have := congrArg (fun z : List Int => z.getD p 0) h'
    try simp only at this
    rw [bl_set _ _ hp, if_pos rfl] at this
    omega
theorem FnReadImageDamage : laws_FnReadImageDamage.Pure := by
  intro l hm _ hb
  refine Wp.rounds ?_
  unfold laws_FnReadImageDamage.f
  refine Wp.ite (fun _ => Wp.ret rfl) (fun hll => ?_)
  refine Wp.call (w_DrawRead l hb) ?_
  intro x hx1
  have hx : x.length ≤ 1000000000 := by omega
  refine Wp.call (w_iRead x hx) ?_
  rintro _ rfl
  refine Wp.call (w_sRead x hx) ?_
  rintro _ rfl
  have hu : (rdI x).2.2.2.1.length ≤ 1000000000 := Nat.le_trans (rdI_len x) (by omega)
  refine Wp.call (w_equalImage _ _ _ _ _ _ _ _ hu) ?_
  rintro _ rfl
  refine Wp.pos (by simp) (Wp.neg (by simp) ?_)
  have bad : Wp (fun k => laws_FnReadImageDamage.j0 k l x (rdI x).2.2.2.2 (rdI x).2.2.2.2 true (rdI x).1 (rdI x).2.1 (rdI x).2.2.1 (rdI x).2.2.2.1 (rdI x).1 (rdI x).2.1 (rdI x).2.2.1 (rdI x).2.2.2.1) (fun r => r = true) := by
    refine Wp.step (fun k => laws_FnReadImageDamage.j0.eq_2 ..) (Wp.pos rfl ?_)
    refine Wp.call (w_equalImage _ _ _ _ _ _ _ _ hu) ?_
    rintro _ rfl
    exact Wp.pos (by simp) (Wp.ret (by simp))
  refine Wp.ite (fun hok => ?_) (fun _ => bad)
  by_cases h7 : (x.length : Int) < 7
  · rw [decide_eq_true h7]
    exact bad
  · rw [decide_eq_false h7]
    have hck := ckd_of hok
    have hodd : x.length % 2 = 1 := by
      rcases Nat.mod_two_eq_zero_or_one x.length with e | e
      · rw [rdI_even e] at hok; cases hok
      · exact e
    refine Wp.step (fun k => laws_FnReadImageDamage.j0.eq_2 ..) (Wp.neg (by decide) ?_)
    rw [w64 (x := (x.length : Int) - 2) (by omega) (by omega), w64 (x := (x.length : Int) - 1) (by omega) (by omega)]
    refine Wp.neg (by omega) ?_
    refine Wp.call (Q := fun r => r = []) (Wp.ret rfl) ?_
    rintro _ rfl
    refine Wp.pos (by simp; omega) ?_
    refine Wp.call (Q := fun r => x = r) (Wp.ret (by simp)) ?_
    rintro _ rfl
    have hlb := Int.emod_nonneg (l.length : Int) (show (x.length : Int) - 2 ≠ 0 by omega)
    have hub := Int.emod_lt_of_pos (l.length : Int) (show 0 < (x.length : Int) - 2 by omega)
    generalize (l.length : Int) % ((x.length : Int) - 2) = e at hlb hub
    rw [w64 (x := 2 + e) (by omega) (by omega)]
    obtain ⟨p, hp⟩ := Int.eq_ofNat_of_zero_le (show 0 ≤ 2 + e by omega)
    rw [hp]
    have hpl : p < x.length := by omega
    have hB : 0 ≤ x.getD p 0 ∧ x.getD p 0 ≤ 255 := by
      rcases rdI_ok x with e | ⟨a, b, c, o, e, hi, hw, _⟩
      · rw [e] at hok; cases hok
      · rw [← hw]; exact getD_B (wrI_B hi).1 p
    refine Wp.pos (by omega) (Wp.pos (by omega) ?_)
    rw [bl_rd, w64 (x := x.getD p 0 + 1) (by omega) (by omega), Int.toNat_natCast]
    refine Wp.call (Q := fun r => r = x.set p (x.getD p 0 + 1)) (Wp.ret rfl) ?_
    rintro _ rfl
    rw [bl_rd, bl_set _ _ hpl, if_pos rfl]
    have fin : ∀ v : Int, (v = x.getD p 0 + 1 ∨ v = x.getD p 0 - 1) → Wp (fun k => (impl_ReadImage.f k (x.set p v)).bind fun bt => (if 0 ≤ (x.length : Int) - 1 then (if (x.length : Int) - 1 ≤ (x.length : Int) then ((impl_ReadImage.f k (x.take ((x.length : Int) - 1).toNat)).bind fun bt2 => (if bt.2.2.2.2 = true then (some false) else (some (!bt2.2.2.2.2)))) else (none)) else (none))) (fun r => r = true) := by
      intro v hv
      refine Wp.call (w_iRead _ (by rw [List.length_set]; exact hx)) ?_
      rintro _ rfl
      refine Wp.pos (by omega) (Wp.pos (by omega) ?_)
      refine Wp.call (w_iRead _ (by rw [List.length_take]; omega)) ?_
      rintro _ rfl
      refine Wp.neg (fun h => ckd_change hck p hpl v hv (ckd_of h)) (Wp.ret ?_)
      rw [rdI_even (by rw [List.length_take]; omega)]
      rfl
    refine Wp.ite (fun h => ?_) (fun h => ?_)
    · rw [List.set_set]
      exact fin 254 (.inr (by omega))
    · exact fin _ (.inl rfl)
end Go.Proofs.Ytchahbdmdcllaaa.Pure
