/- Pure lemmas: what the printed functions answer, for every input; no Go, no memory, no condition but those that each lemma names. -/
import Derived.Test.YtbldmekplkjfiaaVWords
import Derived.Test.YtbldmekplkjfiaaK1
import Derived.Test.YtbldmekplkjfiaaK2
namespace Go.Proofs.Ytbldmekplkjfiaa.Wp
open Go.RowKit Go.Proofs.YtbldmekplkjfiaaW.PrintWords
set_option linter.unusedVariables false
def Wp {α : Type} (g : Nat → Option α) (P : α → Prop) : Prop := ∃ r, P r ∧ ∃ K, ∀ k, K ≤ k → g k = some r
theorem Wp.mono {α : Type} {g : Nat → Option α} {P Q : α → Prop} (h : Wp g P) (hi : ∀ a, P a → Q a) : Wp g Q := by
  obtain ⟨r, hp, K, hk⟩ := h
  exact ⟨r, hi r hp, K, hk⟩
theorem Wp.ret {α : Type} {P : α → Prop} {r : α} (h : P r) : Wp (fun _ => some r) P := ⟨r, h, 0, fun _ _ => rfl⟩
theorem Wp.bind {α β : Type} {g : Nat → Option α} {f : Nat → α → Option β} {P : β → Prop} (h : Wp g (fun a => Wp (fun k => f k a) P)) : Wp (fun k => (g k).bind (f k)) P := by
  obtain ⟨a, ⟨r, hp, K, hk⟩, K', hk'⟩ := h
  refine ⟨r, hp, max K K', fun k hkk => ?_⟩
  show (g k).bind (f k) = some r
  rw [hk' k (by omega)]
  exact hk k (by omega)
theorem Wp.call {α β : Type} {g : Nat → Option α} {f : Nat → α → Option β} {Q : α → Prop} {P : β → Prop} (h : Wp g Q) (hf : ∀ a, Q a → Wp (fun k => f k a) P) : Wp (fun k => (g k).bind (f k)) P :=
  Wp.bind (h.mono hf)
theorem Wp.ite {α : Type} {c : Prop} [Decidable c] {g h : Nat → Option α} {P : α → Prop} (h1 : c → Wp g P) (h2 : ¬ c → Wp h P) : Wp (fun k => if c then g k else h k) P := by
  by_cases hc : c
  · simpa only [if_pos hc] using h1 hc
  · simpa only [if_neg hc] using h2 hc
theorem Wp.pos {α : Type} {c : Prop} [Decidable c] {g h : Nat → Option α} {P : α → Prop} (hc : c) (h1 : Wp g P) : Wp (fun k => if c then g k else h k) P := Wp.ite (fun _ => h1) (fun h => absurd hc h)
theorem Wp.neg {α : Type} {c : Prop} [Decidable c] {g h : Nat → Option α} {P : α → Prop} (hc : ¬ c) (h1 : Wp h P) : Wp (fun k => if c then g k else h k) P := Wp.ite (fun h => absurd h hc) (fun _ => h1)
theorem Wp.step {α : Type} {g f : Nat → Option α} {P : α → Prop} (h : ∀ k, g (k + 1) = f k) (hf : Wp f P) : Wp g P := by
  obtain ⟨r, hp, K, hk⟩ := hf
  refine ⟨r, hp, K + 1, fun k hkk => ?_⟩
  obtain ⟨k, rfl⟩ : ∃ m, k = m + 1 := ⟨k - 1, by omega⟩
  rw [h k]
  exact hk k (by omega)
theorem Wp.of {α : Type} {g : Nat → Option α} {P : α → Prop} {r : α} (h : ∀ k, g k = some r) (hp : P r) : Wp g P := ⟨r, hp, 0, fun k _ => h k⟩
theorem Wp.rounds {α : Type} {g : Nat → Option α} {r : α} (h : Wp g (fun a => a = r)) : ∃ k, g k = some r := by
  obtain ⟨r', rfl, K, hk⟩ := h
  exact ⟨K, hk K (Nat.le_refl K)⟩
theorem w64 {x : Int} (h0 : -9223372036854775808 ≤ x) (h1 : x ≤ 9223372036854775807) : wrap64 x = x := by
  unfold wrap64
  omega
end Go.Proofs.Ytbldmekplkjfiaa.Wp
namespace Go.Proofs.Ytbldmekplkjfiaa.P
open Go.RowKit Go.Proofs.YtbldmekplkjfiaaW.PrintWords Go.Proofs.YtbldmekplkjfiaaW.PrintLast Go.Proofs.YtbldmekplkjfiaaW.PrintMore Go.Proofs.Ytbldmekplkjfiaa.Wp
set_option linter.unusedVariables false
set_option linter.unusedSimpArgs false
theorem bl_rd (l : List Int) (i : Nat) : rd l (i : Int) = l.getD i 0 := by simp [rd]
theorem bl_ext {x l : List Int} (hx : x.length = l.length) (h : ∀ j, j < l.length → x.getD j 0 = l.getD j 0) : x = l := by
  apply List.ext_getElem hx
  intro j h1 h2
  have := h j h2
  simpa [List.getD_eq_getElem?_getD, List.getElem?_eq_getElem h1, List.getElem?_eq_getElem h2] using this
theorem bl_set {x : List Int} {i : Nat} (v : Int) (j : Nat) (hi : i < x.length) : (x.set i v).getD j 0 = if j = i then v else x.getD j 0 := by
  simp only [List.getD_eq_getElem?_getD, List.getElem?_set]
  by_cases h : i = j
  · subst h; simp [hi]
  · simp [h, Ne.symm h, eq_comm]
theorem bl_all_drop (l : List Int) (p : Int → Bool) (i : Nat) (h : i < l.length) : (l.drop i).all p = (p (l.getD i 0) && (l.drop (i + 1)).all p) := by
  rw [List.drop_eq_getElem_cons h, List.all_cons]
  simp [List.getD_eq_getElem?_getD, List.getElem?_eq_getElem h]
def allB (l : List Int) : Bool := l.all fun n => decide (0 ≤ n ∧ n ≤ 255)
theorem allB_mem {l : List Int} (h : allB l = true) : ∀ x ∈ l, 0 ≤ x ∧ x ≤ 255 := fun x hx => of_decide_eq_true (List.all_eq_true.1 h x hx)
theorem w_inRange0 (a b c : Int) : Wp (fun _ => spec_inRange.f a b c) (fun r => r = decide (b ≤ a ∧ a ≤ c)) := by
  unfold spec_inRange.f
  refine Wp.ite (fun h => Wp.ret ?_) (fun h => Wp.ret ?_)
  · simp [h]
  · simp [h]
theorem w_allIn (l : List Int) (a b : Int) (hl : l.length ≤ 1000000000) : Wp (fun k => spec_allIn.f k l a b) (fun r => r = l.all fun n => decide (a ≤ n ∧ n ≤ b)) := by
  unfold spec_allIn.f
  have key : ∀ d (i : Nat), i + d = l.length → Wp (fun k => spec_allIn.l0 k l a b i) (fun r => r = (l.drop i).all fun n => decide (a ≤ n ∧ n ≤ b)) := by
    intro d
    induction d with
    | zero =>
      intro i hd
      refine Wp.step (fun k => spec_allIn.l0.eq_2 ..) (Wp.neg (by omega) (Wp.ret ?_))
      rw [List.drop_of_length_le (by omega)]
      rfl
    | succ d ih =>
      intro i hd
      refine Wp.step (fun k => spec_allIn.l0.eq_2 ..) (Wp.pos (by omega) (Wp.pos (by omega) ?_))
      refine Wp.call (w_inRange0 _ _ _) ?_
      rintro _ rfl
      rw [bl_all_drop l _ i (by omega), bl_rd]
      refine Wp.ite (fun h => ?_) (fun h => Wp.ret ?_)
      · rw [h, Bool.true_and, w64 (x := (i : Int) + 1) (by omega) (by omega)]
        exact ih (i + 1) (by omega)
      · rw [Bool.not_eq_true] at h
        rw [h, Bool.false_and]
  exact key l.length 0 (by omega)
theorem w_allB (l : List Int) (hl : l.length ≤ 1000000000) : Wp (fun k => spec_allIn.f k l 0 255) (fun r => r = allB l) := w_allIn l 0 255 hl
theorem w_areBytes (l : List Int) : Wp (fun _ => impl_areBytes.f l) (fun r => r = allB l) := by
  unfold impl_areBytes.f
  refine Wp.ret ?_
  unfold allB
  induction l with
  | nil => rfl
  | cons x l ih =>
    simp only [List.any_cons, List.all_cons, Bool.not_or, ← ih]
    congr 1
    by_cases h0 : x < 0 <;> by_cases h1 : 255 < x <;> simp [h0, h1] <;> omega
theorem w_toIntS (l : List Int) (hl : l.length ≤ 1000000000) : Wp (fun k => laws_toIntS.f k l) (fun r => r = l) := by
  unfold laws_toIntS.f
  refine Wp.pos (by omega) (Wp.pos (by omega) ?_)
  have key : ∀ d (i : Nat) (x : List Int), i + d = l.length → x.length = l.length → (∀ j, j < i → x.getD j 0 = l.getD j 0) → Wp (fun k => laws_toIntS.l0 k l x i) (fun r => r = l) := by
    intro d
    induction d with
    | zero =>
      intro i x hd hx h
      refine Wp.step (fun k => laws_toIntS.l0.eq_2 ..) (Wp.neg (by omega) (Wp.ret ?_))
      exact bl_ext hx fun j hj => h j (by omega)
    | succ d ih =>
      intro i x hd hx h
      refine Wp.step (fun k => laws_toIntS.l0.eq_2 ..) (Wp.pos (by omega) (Wp.pos (by omega) (Wp.pos (by omega) ?_)))
      rw [w64 (x := (i : Int) + 1) (by omega) (by omega), bl_rd, Int.toNat_natCast]
      refine ih (i + 1) _ (by omega) (by rw [List.length_set]; exact hx) fun j hj => ?_
      rw [bl_set _ _ (by omega)]
      split
      · rename_i e; rw [e]
      · exact h j (by omega)
  exact key l.length 0 _ (by omega) (by simp) (fun j hj => by omega)
theorem w_eqIntS (a b : List Int) (hl : a.length ≤ 1000000000) : Wp (fun k => laws_eqIntS.f k a b) (fun r => r = decide (a = b)) := by
  unfold laws_eqIntS.f
  refine Wp.ite (fun he => ?_) (fun he => Wp.ret ?_)
  · have key : ∀ d (i : Nat), i + d = a.length → (∀ j, j < i → a.getD j 0 = b.getD j 0) → Wp (fun k => laws_eqIntS.l0 k a b i) (fun r => r = decide (a = b)) := by
      intro d
      induction d with
      | zero =>
        intro i hd h
        refine Wp.step (fun k => laws_eqIntS.l0.eq_2 ..) (Wp.neg (by omega) (Wp.ret ?_))
        exact (decide_eq_true (bl_ext (by omega) fun j hj => h j (by omega))).symm
      | succ d ih =>
        intro i hd h
        refine Wp.step (fun k => laws_eqIntS.l0.eq_2 ..) (Wp.pos (by omega) (Wp.pos (by omega) (Wp.pos (by omega) ?_)))
        rw [bl_rd, bl_rd]
        refine Wp.ite (fun h1 => ?_) (fun h1 => Wp.ret ?_)
        · rw [w64 (x := (i : Int) + 1) (by omega) (by omega)]
          refine ih (i + 1) (by omega) fun j hj => ?_
          by_cases e : j = i
          · rw [e]; exact h1
          · exact h j (by omega)
        · exact (decide_eq_false fun e => h1 (by rw [e])).symm
    exact key a.length 0 (by omega) (fun j hj => by omega)
  · exact (decide_eq_false fun e => he (by rw [e])).symm
def marks (a : Int) (n : Nat) : List Int := (List.range n).map fun j : Nat => a + (j : Int)
end Go.Proofs.Ytbldmekplkjfiaa.P
namespace Go.Proofs.Ytbldmekplkjfiaa.P
open Go.RowKit Go.Proofs.YtbldmekplkjfiaaW.PrintWords Go.Proofs.YtbldmekplkjfiaaW.PrintLast Go.Proofs.YtbldmekplkjfiaaW.PrintMore Go.Proofs.Ytbldmekplkjfiaa.Wp
set_option linter.unusedVariables false
set_option linter.unusedSimpArgs false
def Small (l : List (List Int)) : Prop := l.length ≤ 1048576 ∧ ∀ y ∈ l, y.length ≤ 1048576
theorem ll_rd (l : List (List Int)) (i : Nat) : rd_L2 l (i : Int) = l.getD i [] := by simp [rd_L2]
theorem ll_mem (l : List (List Int)) (i : Nat) (h : i < l.length) : l.getD i [] ∈ l := by
  rw [List.getD_eq_getElem?_getD, List.getElem?_eq_getElem h]
  exact List.getElem_mem _
theorem ll_ext {x l : List (List Int)} (hx : x.length = l.length) (h : ∀ j, j < l.length → x.getD j [] = l.getD j []) : x = l := by
  apply List.ext_getElem hx
  intro j h1 h2
  have := h j h2
  simpa [List.getD_eq_getElem?_getD, List.getElem?_eq_getElem h1, List.getElem?_eq_getElem h2] using this
theorem ll_set {x : List (List Int)} {i : Nat} (v : List Int) (j : Nat) (hi : i < x.length) : (x.set i v).getD j [] = if j = i then v else x.getD j [] := by
  simp only [List.getD_eq_getElem?_getD, List.getElem?_set]
  by_cases h : i = j
  · subst h; simp [hi]
  · simp [h, Ne.symm h, eq_comm]
theorem w_szIntS (l : List Int) (x : Int) (h0 : 0 ≤ x) (h1 : x ≤ 1048576) (hl : l.length ≤ maxLen) : Wp (fun _ => laws_szIntS.f l x) (fun r => (r < 0 ∨ (l.length ≤ 1048576 ∧ 0 ≤ r ∧ r ≤ x))) := by
  unfold maxLen at hl
  unfold laws_szIntS.f
  rw [w64 (x := x - (l.length : Int)) (by omega) (by omega)]
  exact Wp.ite (fun _ => Wp.ret (by omega)) (fun _ => Wp.ret (by omega))
theorem w_szIntSS (l : List (List Int)) (hl : l.length ≤ maxLen) (hy : ∀ y ∈ l, y.length ≤ maxLen) : Wp (fun k => laws_szIntSS.f k l 1048576) (fun r => r < 0 ∨ Small l) := by
  unfold laws_szIntSS.f
  have hl' := hl
  unfold maxLen at hl'
  rw [w64 (x := 1048576 - (l.length : Int)) (by omega) (by omega)]
  refine Wp.ite (fun _ => Wp.ret (by omega)) (fun h => ?_)
  have key : ∀ (d i : Nat) (x : Int), i + d = l.length → 0 ≤ x → x ≤ 1048576 → (∀ j, j < i → (l.getD j []).length ≤ 1048576) → Wp (fun k => laws_szIntSS.l0 k l x i) (fun r => r < 0 ∨ Small l) := by
    intro d
    induction d with
    | zero =>
      intro i x hd h0 h1 hj
      refine Wp.step (fun k => laws_szIntSS.l0.eq_2 ..) (Wp.neg (by omega) (Wp.ret (Or.inr ⟨by omega, fun y hy2 => ?_⟩)))
      obtain ⟨j, hj2, rfl⟩ := List.getElem_of_mem hy2
      have := hj j (by omega)
      simpa [List.getD_eq_getElem?_getD, List.getElem?_eq_getElem hj2] using this
    | succ d ih =>
      intro i x hd h0 h1 hj
      refine Wp.step (fun k => laws_szIntSS.l0.eq_2 ..) (Wp.pos (by omega) (Wp.pos (by omega) ?_))
      rw [ll_rd]
      refine Wp.call (w_szIntS _ x h0 h1 (hy _ (ll_mem l i (by omega)))) ?_
      intro r hr
      refine Wp.ite (fun _ => Wp.ret (by omega)) (fun h2 => ?_)
      rw [w64 (x := (i : Int) + 1) (by omega) (by omega)]
      refine ih (i + 1) r (by omega) (by omega) (by omega) fun j hj2 => ?_
      by_cases e : j = i
      · rw [e]; omega
      · exact hj j (by omega)
  exact key l.length 0 _ (by omega) (by omega) (by omega) (fun j hj => by omega)
theorem w_toIntSS (l : List (List Int)) (hl : Small l) : Wp (fun k => laws_toIntSS.f k l) (fun r => r = l) := by
  obtain ⟨hl, hy⟩ := hl
  unfold laws_toIntSS.f
  refine Wp.pos (by omega) (Wp.pos (by omega) ?_)
  have key : ∀ d (i : Nat) (x : List (List Int)), i + d = l.length → x.length = l.length → (∀ j, j < i → x.getD j [] = l.getD j []) → Wp (fun k => laws_toIntSS.l0 k l x i) (fun r => r = l) := by
    intro d
    induction d with
    | zero =>
      intro i x hd hx h
      refine Wp.step (fun k => laws_toIntSS.l0.eq_2 ..) (Wp.neg (by omega) (Wp.ret ?_))
      exact ll_ext hx fun j hj => h j (by omega)
    | succ d ih =>
      intro i x hd hx h
      refine Wp.step (fun k => laws_toIntSS.l0.eq_2 ..) (Wp.pos (by omega) (Wp.pos (by omega) ?_))
      rw [ll_rd]
      refine Wp.call (w_toIntS _ (Nat.le_trans (hy _ (ll_mem l i (by omega))) (by omega))) ?_
      rintro _ rfl
      refine Wp.pos (by omega) ?_
      rw [w64 (x := (i : Int) + 1) (by omega) (by omega), Int.toNat_natCast]
      refine ih (i + 1) _ (by omega) (by rw [List.length_set]; exact hx) fun j hj => ?_
      rw [ll_set _ _ (by omega)]
      split
      · rename_i e; rw [e]
      · exact h j (by omega)
  exact key l.length 0 _ (by omega) (by simp) (fun j hj => by omega)
theorem w_eqIntSS (a b : List (List Int)) (hl : Small a) : Wp (fun k => laws_eqIntSS.f k a b) (fun r => r = decide (a = b)) := by
  obtain ⟨hl, hy⟩ := hl
  unfold laws_eqIntSS.f
  refine Wp.ite (fun he => ?_) (fun he => Wp.ret ?_)
  · have key : ∀ d (i : Nat), i + d = a.length → (∀ j, j < i → a.getD j [] = b.getD j []) → Wp (fun k => laws_eqIntSS.l0 k a b i) (fun r => r = decide (a = b)) := by
      intro d
      induction d with
      | zero =>
        intro i hd h
        refine Wp.step (fun k => laws_eqIntSS.l0.eq_2 ..) (Wp.neg (by omega) (Wp.ret ?_))
        exact (decide_eq_true (ll_ext (by omega) fun j hj => h j (by omega))).symm
      | succ d ih =>
        intro i hd h
        refine Wp.step (fun k => laws_eqIntSS.l0.eq_2 ..) (Wp.pos (by omega) (Wp.pos (by omega) (Wp.pos (by omega) ?_)))
        rw [ll_rd, ll_rd]
        refine Wp.call (w_eqIntS _ _ (Nat.le_trans (hy _ (ll_mem a i (by omega))) (by omega))) ?_
        rintro _ rfl
        refine Wp.ite (fun h1 => ?_) (fun h1 => Wp.ret ?_)
        · rw [w64 (x := (i : Int) + 1) (by omega) (by omega)]
          refine ih (i + 1) (by omega) fun j hj => ?_
          by_cases e : j = i
          · rw [e]; exact of_decide_eq_true h1
          · exact h j (by omega)
        · exact (decide_eq_false fun e => h1 (decide_eq_true (by rw [e]))).symm
    exact key a.length 0 (by omega) (fun j hj => by omega)
  · exact (decide_eq_false fun e => he (by rw [e])).symm
end Go.Proofs.Ytbldmekplkjfiaa.P
namespace Go.Proofs.Ytbldmekplkjfiaa.P
open Go.RowKit Go.Proofs.YtbldmekplkjfiaaW.PrintWords Go.Proofs.YtbldmekplkjfiaaW.PrintLast Go.Proofs.YtbldmekplkjfiaaW.PrintMore Go.Proofs.Ytbldmekplkjfiaa.Wp
set_option linter.unusedVariables false
set_option linter.unusedSimpArgs false
def PalOk (l : List (List Int)) (p : Nat) : Prop := l.length ≤ 16 ∧ ∀ c ∈ l, c.length = p ∧ ∀ v ∈ c, 0 ≤ v ∧ v ≤ 255
def gapN (a b : List Int) : Nat → Int
  | 0 => 0
  | n + 1 => gapN a b n + (a.getD n 0 - b.getD n 0) * (a.getD n 0 - b.getD n 0)
theorem sq_B {x : Int} (h0 : -255 ≤ x) (h1 : x ≤ 255) : 0 ≤ x * x ∧ x * x ≤ 65025 := by
  rcases Int.lt_or_le x 0 with h | h
  · have h2 : 0 ≤ -x * -x := Int.mul_nonneg (by omega) (by omega)
    have h3 : -x * -x ≤ 255 * 255 := Int.mul_le_mul (by omega) (by omega) (by omega) (by omega)
    rw [Int.neg_mul_neg] at h2 h3
    omega
  · have h2 : 0 ≤ x * x := Int.mul_nonneg h h
    have h3 : x * x ≤ 255 * 255 := Int.mul_le_mul h1 h1 h (by omega)
    omega
theorem getB {l : List Int} (h : ∀ v ∈ l, 0 ≤ v ∧ v ≤ 255) (i : Nat) : 0 ≤ l.getD i 0 ∧ l.getD i 0 ≤ 255 := by
  rw [List.getD_eq_getElem?_getD]
  rcases Nat.lt_or_ge i l.length with hi | hi
  · rw [List.getElem?_eq_getElem hi]
    exact h _ (List.getElem_mem _)
  · rw [List.getElem?_eq_none hi]
    exact ⟨by decide, by decide⟩
theorem gap_B {a b : List Int} (ha : ∀ v ∈ a, 0 ≤ v ∧ v ≤ 255) (hb : ∀ v ∈ b, 0 ≤ v ∧ v ≤ 255) (n : Nat) : 0 ≤ gapN a b n ∧ gapN a b n ≤ (n : Int) * 65025 := by
  induction n with
  | zero => simp [gapN]
  | succ n ih =>
    have h1 := getB ha n
    have h2 := getB hb n
    have := sq_B (x := a.getD n 0 - b.getD n 0) (by omega) (by omega)
    rw [gapN]
    omega
def nrC (l : List (List Int)) (px : List Int) (p : Nat) : Nat → Nat
  | 0 => 0
  | m + 1 => if gapN (l.getD m []) px p < gapN (l.getD (nrC l px p m) []) px p then m else nrC l px p m
theorem nrC_lt (l : List (List Int)) (px : List Int) (p m : Nat) (hm : 0 < m) : nrC l px p m < m := by
  induction m with
  | zero => omega
  | succ m ih =>
    rw [nrC]
    split
    · omega
    · by_cases h : m = 0
      · subst h; simp [nrC]
      · have := ih (by omega); omega
theorem w_gap (a b : List Int) (p : Nat) (hp : p ≤ 100) (hla : a.length = p) (hlb : p ≤ b.length) (ha : ∀ v ∈ a, 0 ≤ v ∧ v ≤ 255) (hb : ∀ v ∈ b, 0 ≤ v ∧ v ≤ 255) : Wp (fun k => spec_gap.f k a b) (fun r => r = gapN a b p) := by
  unfold spec_gap.f
  have key : ∀ (d i : Nat), i + d = p → Wp (fun k => spec_gap.l0 k a b (gapN a b i) i) (fun r => r = gapN a b p) := by
    intro d
    induction d with
    | zero =>
      intro i hi
      have : i = p := by omega
      subst this
      exact Wp.step (fun k => spec_gap.l0.eq_2 ..) (Wp.neg (by omega) (Wp.ret rfl))
    | succ d ih =>
      intro i hi
      have h1 := getB ha i
      have h2 := getB hb i
      have h3 := sq_B (x := a.getD i 0 - b.getD i 0) (by omega) (by omega)
      have h4 := gap_B ha hb i
      refine Wp.step (fun k => spec_gap.l0.eq_2 ..) (Wp.pos (by omega) (Wp.pos (by omega) (Wp.pos (by omega) ?_)))
      rw [bl_rd, bl_rd, w64 (x := a.getD i 0 - b.getD i 0) (by omega) (by omega), w64 (x := (a.getD i 0 - b.getD i 0) * (a.getD i 0 - b.getD i 0)) (by omega) (by omega),
        w64 (x := gapN a b i + (a.getD i 0 - b.getD i 0) * (a.getD i 0 - b.getD i 0)) (by omega) (by omega), w64 (x := (i : Int) + 1) (by omega) (by omega)]
      exact ih (i + 1) (by omega)
  exact key p 0 (by omega)
theorem w_sNearest (l : List (List Int)) (px : List Int) (p : Nat) (hp : p ≤ 100) (hl : PalOk l p) (h0 : 1 ≤ l.length) (hlp : px.length = p) (hpB : ∀ v ∈ px, 0 ≤ v ∧ v ≤ 255) : Wp (fun k => spec_nearest.f k l px) (fun r => r = (nrC l px p l.length : Nat)) := by
  obtain ⟨hn, hc⟩ := hl
  unfold spec_nearest.f
  have hg : ∀ i, i < l.length → Wp (fun k => spec_gap.f k (l.getD i []) px) (fun r => r = gapN (l.getD i []) px p) := fun i hi =>
    w_gap _ px p hp (hc _ (ll_mem l i hi)).1 (by omega) (hc _ (ll_mem l i hi)).2 hpB
  have key : ∀ (d i : Nat), 1 ≤ i → i + d = l.length → Wp (fun k => spec_nearest.l0 k l px (nrC l px p i : Nat) i) (fun r => r = (nrC l px p l.length : Nat)) := by
    intro d
    induction d with
    | zero =>
      intro i h1 hi
      have : i = l.length := by omega
      subst this
      exact Wp.step (fun k => spec_nearest.l0.eq_2 ..) (Wp.neg (by omega) (Wp.ret rfl))
    | succ d ih =>
      intro i h1 hi
      have hlt := nrC_lt l px p i (by omega)
      have next := ih (i + 1) (by omega) (by omega)
      rw [nrC] at next
      refine Wp.step (fun k => spec_nearest.l0.eq_2 ..) (Wp.pos (by omega) (Wp.pos (by omega) ?_))
      rw [ll_rd, ll_rd]
      refine Wp.call (hg i (by omega)) ?_
      rintro _ rfl
      refine Wp.pos (by omega) (Wp.pos (by omega) ?_)
      refine Wp.call (hg _ (by omega)) ?_
      rintro _ rfl
      rw [w64 (x := (i : Int) + 1) (by omega) (by omega)]
      refine Wp.ite (fun h => ?_) (fun h => ?_)
      · rw [if_pos h] at next
        exact next
      · rw [if_neg h] at next
        exact next
  have := key (l.length - 1) 1 (by omega) (by omega)
  have e : nrC l px p 1 = 0 := by simp [nrC]
  rw [e] at this
  exact this
theorem w_inearest (l : List (List Int)) (px : List Int) (p : Nat) (hp : p ≤ 100) (hl : PalOk l p) (h0 : 1 ≤ l.length) (hlp : px.length = p) (hpB : ∀ v ∈ px, 0 ≤ v ∧ v ≤ 255) : Wp (fun k => impl_nearestColor.f k l px) (fun r => r = (nrC l px p l.length : Nat)) := by
  obtain ⟨hn, hc⟩ := hl
  unfold impl_nearestColor.f
  have inner : ∀ (i : Nat) (best least : Int) (hi : i < l.length) (P : Int → Prop), (∀ s, s = gapN (l.getD i []) px p → Wp (fun k => if least < 0 then (impl_nearestColor.l0 k px i s l l.length (wrap64 ((i : Int) + 1))) else (if s < least then (impl_nearestColor.l0 k px i s l l.length (wrap64 ((i : Int) + 1))) else (impl_nearestColor.l0 k px best least l l.length (wrap64 ((i : Int) + 1))))) P) →
      ∀ (d t : Nat), t + d = p → Wp (fun k => impl_nearestColor.l1 k px best least i (gapN (l.getD i []) px t) l l.length i (l.getD i []) ((l.getD i []).length : Int) t) P := by
    intro i best least hi P next d
    obtain ⟨hcl, hcB⟩ := hc _ (ll_mem l i hi)
    induction d with
    | zero =>
      intro t ht
      have : t = p := by omega
      subst this
      exact Wp.step (fun k => impl_nearestColor.l1.eq_2 ..) (Wp.neg (by omega) (next _ rfl))
    | succ d ih =>
      intro t ht
      have h1 := getB hcB t
      have h2 := getB hpB t
      have h3 := sq_B (x := (l.getD i []).getD t 0 - px.getD t 0) (by omega) (by omega)
      have h4 := gap_B hcB hpB t
      refine Wp.step (fun k => impl_nearestColor.l1.eq_2 ..) (Wp.pos (by omega) (Wp.pos (by omega) (Wp.pos (by omega) (Wp.pos (by omega) ?_))))
      rw [bl_rd, bl_rd, w64 (x := (l.getD i []).getD t 0 - px.getD t 0) (by omega) (by omega), w64 (x := ((l.getD i []).getD t 0 - px.getD t 0) * ((l.getD i []).getD t 0 - px.getD t 0)) (by omega) (by omega),
        w64 (x := gapN (l.getD i []) px t + ((l.getD i []).getD t 0 - px.getD t 0) * ((l.getD i []).getD t 0 - px.getD t 0)) (by omega) (by omega), w64 (x := (t : Int) + 1) (by omega) (by omega)]
      exact ih (t + 1) (by omega)
  have key : ∀ (d i : Nat) (best least : Int), i + d = l.length → best = (nrC l px p i : Nat) → (i = 0 → least = -1) → (1 ≤ i → least = gapN (l.getD (nrC l px p i) []) px p) → Wp (fun k => impl_nearestColor.l0 k px best least l l.length i) (fun r => r = (nrC l px p l.length : Nat)) := by
    intro d
    induction d with
    | zero =>
      intro i best least hi hb h1 h2
      have : i = l.length := by omega
      subst this
      exact Wp.step (fun k => impl_nearestColor.l0.eq_2 ..) (Wp.neg (by omega) (Wp.ret hb))
    | succ d ih =>
      intro i best least hi hb h1 h2
      refine Wp.step (fun k => impl_nearestColor.l0.eq_2 ..) (Wp.pos (by omega) (Wp.pos (by omega) (Wp.pos (by omega) ?_)))
      rw [ll_rd]
      refine inner i best least (by omega) _ (fun s hs => ?_) p 0 (by omega)
      rw [w64 (x := (i : Int) + 1) (by omega) (by omega)]
      have g0 := gap_B (hc _ (ll_mem l i (by omega))).2 hpB p
      by_cases hz : i = 0
      · subst hz
        have e : nrC l px p (0 + 1) = 0 := by simp [nrC]
        refine Wp.pos (by rw [h1 rfl]; omega) ?_
        exact ih (0 + 1) _ s (by omega) (by rw [e]) (fun h => by omega) (fun _ => by rw [e]; exact hs)
      · have hlt := nrC_lt l px p i (by omega)
        have hL := h2 (by omega)
        have gB := gap_B (hc _ (ll_mem l (nrC l px p i) (by omega))).2 hpB p
        refine Wp.neg (by omega) ?_
        refine Wp.ite (fun h => ?_) (fun h => ?_)
        · have e : nrC l px p (i + 1) = i := by rw [nrC, if_pos (by rw [← hs, ← hL]; exact h)]
          exact ih (i + 1) _ s (by omega) (by rw [e]) (fun h => by omega) (fun _ => by rw [e]; exact hs)
        · have e : nrC l px p (i + 1) = nrC l px p i := by rw [nrC, if_neg (by rw [← hs, ← hL]; exact h)]
          exact ih (i + 1) _ least (by omega) (by rw [e]; exact hb) (fun h => by omega) (fun _ => by rw [e]; exact hL)
  exact key l.length 0 0 (-1) (by omega) rfl (fun _ => rfl) (fun h => by omega)
def palB (l : List (List Int)) (p : Int) : Bool := decide (l.length ≤ 16) && l.all fun c => decide ((c.length : Int) = p) && allB c
theorem palB_ok {l : List (List Int)} {p : Nat} (h : palB l p = true) : PalOk l p := by
  unfold palB at h
  rw [Bool.and_eq_true, decide_eq_true_eq, List.all_eq_true] at h
  refine ⟨h.1, fun c hc => ?_⟩
  have := h.2 c hc
  rw [Bool.and_eq_true, decide_eq_true_eq] at this
  exact ⟨by omega, allB_mem this.2⟩
theorem w_validColors (l : List (List Int)) (p : Int) (hl : Small l) : Wp (fun k => spec_validColors.f k l p) (fun r => r = palB l p) := by
  obtain ⟨hl, hy⟩ := hl
  unfold spec_validColors.f palB
  have key : ∀ (d i : Nat), i + d = l.length → (∀ j, j < i → (decide (((l.getD j []).length : Int) = p) && allB (l.getD j [])) = true) → Wp (fun k => spec_validColors.l0 k l p i) (fun r => r = (decide (l.length ≤ 16) && l.all fun c => decide ((c.length : Int) = p) && allB c)) := by
    intro d
    induction d with
    | zero =>
      intro i hi hj
      refine Wp.step (fun k => spec_validColors.l0.eq_2 ..) (Wp.neg (by omega) (Wp.ret ?_))
      have : (l.all fun c => decide ((c.length : Int) = p) && allB c) = true := List.all_eq_true.2 fun c hc => by
        obtain ⟨j, hj2, rfl⟩ := List.getElem_of_mem hc
        have := hj j (by omega)
        simpa [List.getD_eq_getElem?_getD, List.getElem?_eq_getElem hj2] using this
      rw [this, Bool.and_true, Bool.eq_iff_iff, decide_eq_true_eq, decide_eq_true_eq]
      omega
    | succ d ih =>
      intro i hi hj
      have no : ¬ (decide (((l.getD i []).length : Int) = p) && allB (l.getD i [])) = true → (decide (l.length ≤ 16) && l.all fun c => decide ((c.length : Int) = p) && allB c) = false := fun h => by
        have : (l.all fun c => decide ((c.length : Int) = p) && allB c) = false := by
          rw [List.all_eq_false]
          exact ⟨_, ll_mem l i (by omega), h⟩
        rw [this, Bool.and_false]
      refine Wp.step (fun k => spec_validColors.l0.eq_2 ..) (Wp.pos (by omega) (Wp.pos (by omega) ?_))
      rw [ll_rd]
      refine Wp.ite (fun h1 => ?_) (fun h1 => Wp.ret (no (by rw [decide_eq_false h1]; simp)).symm)
      refine Wp.call (w_allB _ (Nat.le_trans (hy _ (ll_mem l i (by omega))) (by omega))) ?_
      rintro _ rfl
      refine Wp.ite (fun h2 => ?_) (fun h2 => Wp.ret (no (by rw [decide_eq_true h1, Bool.true_and]; exact h2)).symm)
      rw [w64 (x := (i : Int) + 1) (by omega) (by omega)]
      refine ih (i + 1) (by omega) fun j hj2 => ?_
      by_cases e : j = i
      · rw [e, decide_eq_true h1, h2]; rfl
      · exact hj j (by omega)
  exact key l.length 0 (by omega) (fun j hj => by omega)
theorem bad_not (p : Int) (c : List Int) : (badColor p c = false) ↔ (decide ((c.length : Int) = p) && allB c) = true := by
  have hb : (c.any fun n => decide (n < 0) || decide (255 < n)) = !allB c := by
    obtain ⟨r, hr, K, hK⟩ := w_areBytes c
    have h := hK K (Nat.le_refl K)
    unfold impl_areBytes.f at h
    simp only [Option.some.injEq] at h
    rw [hr] at h
    rw [← h, Bool.not_not]
  unfold badColor
  rw [hb]
  by_cases h : (c.length : Int) = p
  · rw [decide_eq_true h, Bool.true_and, bne_eq_false_iff_eq.2 h, Bool.false_or, Bool.not_eq_false']
  · rw [decide_eq_false h, Bool.false_and, bne_iff_ne.2 h, Bool.true_or]
    simp
theorem w_isPalette (l : List (List Int)) (p : Int) : Wp (fun _ => impl_isPalette.f l p) (fun r => r = (decide (1 ≤ l.length ∧ 1 ≤ p ∧ p ≤ 4) && palB l p)) := by
  unfold impl_isPalette.f
  refine Wp.ret ?_
  unfold palB
  have e : (!l.any (badColor p)) = l.all fun c => decide ((c.length : Int) = p) && allB c := by
    rw [Bool.eq_iff_iff, Bool.not_eq_true', List.any_eq_false, List.all_eq_true]
    exact ⟨fun h c hc => (bad_not p c).1 (by simpa using h c hc), fun h c hc => by rw [(bad_not p c).2 (h c hc)]; decide⟩
  rw [e]
  by_cases h1 : (l.length : Int) < 1
  · rw [if_pos h1, decide_eq_false (by omega)]; rfl
  rw [if_neg h1]
  by_cases h2 : 16 < (l.length : Int)
  · rw [if_pos h2, decide_eq_false (p := l.length ≤ 16) (by omega), Bool.false_and, Bool.and_false]
  rw [if_neg h2, decide_eq_true (p := l.length ≤ 16) (by omega), Bool.true_and]
  by_cases h3 : p < 1
  · rw [if_pos h3, decide_eq_false (by omega)]; rfl
  rw [if_neg h3]
  by_cases h4 : 4 < p
  · rw [if_pos h4, decide_eq_false (by omega)]; rfl
  rw [if_neg h4, decide_eq_true (by omega), Bool.true_and]
def nearC (l : List (List Int)) (px : List Int) : Int := if (1 ≤ px.length ∧ px.length ≤ 4) ∧ allB px = true ∧ palB l px.length = true ∧ 1 ≤ l.length then (nrC l px px.length l.length : Nat) else -1
theorem w_sNearC (l : List (List Int)) (px : List Int) (hl : Small l) (hp : px.length ≤ 1000000000) : Wp (fun k => spec_NearestColor.f k l px) (fun r => r = nearC l px) := by
  unfold spec_NearestColor.f nearC
  refine Wp.call (w_inRange0 _ _ _) ?_
  rintro _ rfl
  refine Wp.ite (fun h1 => ?_) (fun h1 => Wp.ret (by rw [if_neg fun h => h1 (decide_eq_true (by omega))]))
  rw [decide_eq_true_eq] at h1
  refine Wp.call (w_allB px hp) ?_
  rintro _ rfl
  refine Wp.ite (fun h2 => ?_) (fun h2 => Wp.ret (by rw [if_neg fun h => h2 h.2.1]))
  refine Wp.call (w_validColors l px.length hl) ?_
  rintro _ rfl
  refine Wp.ite (fun h3 => ?_) (fun h3 => Wp.ret (by rw [if_neg fun h => h3 h.2.2.1]))
  refine Wp.ite (fun h4 => Wp.ret (by rw [if_neg fun h => by omega])) (fun h4 => ?_)
  refine Wp.call (w_sNearest l px px.length (by omega) (palB_ok h3) (by omega) rfl (allB_mem h2)) ?_
  rintro _ rfl
  exact Wp.ret (by rw [if_pos ⟨by omega, h2, h3, by omega⟩])
theorem w_iNearC (l : List (List Int)) (px : List Int) : Wp (fun k => impl_NearestColor.f k l px) (fun r => r = nearC l px) := by
  unfold impl_NearestColor.f nearC
  refine Wp.call (w_isPalette l px.length) ?_
  rintro _ rfl
  refine Wp.ite (fun h1 => ?_) (fun h1 => Wp.ret (by rw [if_neg fun h => h1 (by rw [h.2.2.1, Bool.and_true]; exact decide_eq_true (by omega))]))
  rw [Bool.and_eq_true, decide_eq_true_eq] at h1
  refine Wp.call (w_areBytes px) ?_
  rintro _ rfl
  refine Wp.ite (fun h2 => ?_) (fun h2 => Wp.ret (by rw [if_neg fun h => h2 h.2.1]))
  refine Wp.call (w_inearest l px px.length (by omega) (palB_ok h1.2) (by omega) rfl (allB_mem h2)) ?_
  rintro _ rfl
  exact Wp.ret (by rw [if_pos ⟨by omega, h2, h1.2, by omega⟩])
end Go.Proofs.Ytbldmekplkjfiaa.P
namespace Go.Proofs.Ytbldmekplkjfiaa.Pure
open Go.RowKit Go.Proofs.Ytbldmekplkjfiaa.P Go.Proofs.YtbldmekplkjfiaaW.PrintWords Go.Proofs.YtbldmekplkjfiaaW.PrintMore Go.Proofs.Ytbldmekplkjfiaa.Wp
set_option linter.unusedVariables false
theorem FnExactNearestColor : laws_FnExactNearestColor.Pure := by
  intro l px hl hy _ _
  refine Wp.rounds ?_
  unfold laws_FnExactNearestColor.f
  refine Wp.ite (fun _ => Wp.ret rfl) (fun h1 => ?_)
  refine Wp.call (w_szIntSS l hl hy) ?_
  intro sz hsz
  refine Wp.ite (fun _ => Wp.ret rfl) (fun h0 => ?_)
  have hS : Small l := by
    rcases hsz with h | h
    · exact absurd h h0
    · exact h
  have hp : px.length ≤ 1000000000 := by omega
  repeat' first
    | with_reducible exact Wp.ret rfl
    | ((with_reducible refine Wp.call (w_toIntSS l hS) ?_); intro r_ e_; have e2_ := e_.symm; clear e_; subst e2_)
    | ((with_reducible refine Wp.call (w_toIntS px hp) ?_); intro r_ e_; have e2_ := e_.symm; clear e_; subst e2_)
    | ((with_reducible refine Wp.call (w_sNearC l px hS hp) ?_); rintro _ rfl)
    | ((with_reducible refine Wp.call (w_iNearC l px) ?_); rintro _ rfl)
    | ((with_reducible refine Wp.call (w_eqIntSS l l hS) ?_); rintro _ rfl)
    | ((with_reducible refine Wp.call (w_eqIntS px px hp) ?_); rintro _ rfl)
    | ((with_reducible refine Wp.pos ?c ?_); (case c => first | rfl | omega | (simp; done)))
end Go.Proofs.Ytbldmekplkjfiaa.Pure
