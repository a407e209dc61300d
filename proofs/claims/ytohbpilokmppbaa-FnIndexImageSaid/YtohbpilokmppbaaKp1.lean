/- Pure lemmas: what the printed functions answer, for every input; no Go, no memory, no condition but those that each lemma names. -/
import Derived.Test.YtohbpilokmppbaaVWords
import Derived.Test.YtohbpilokmppbaaK1
import Derived.Test.YtohbpilokmppbaaK2
import Derived.Test.YtohbpilokmppbaaK3
import Derived.Test.YtohbpilokmppbaaK4
import Derived.Test.YtohbpilokmppbaaK5
import Derived.Test.YtohbpilokmppbaaK6
import Derived.Test.YtohbpilokmppbaaK7
import Derived.Test.YtohbpilokmppbaaK8
namespace Go.Proofs.Ytohbpilokmppbaa.Wp
open Go.RowKit Go.Proofs.YtohbpilokmppbaaW.PrintWords
set_option linter.unusedVariables false
def Wp {α : Type} (g : Nat → Option α) (P : α → Prop) : Prop := ∃ r, P r ∧ ∃ K, ∀ k, K ≤ k → g k = some r
theorem Wp.mono {α : Type} {g : Nat → Option α} {P Q : α → Prop} (h : Wp g P) (hi : ∀ a, P a → Q a) : Wp g Q := by
  obtain ⟨r, hp, K, hk⟩ := h
  exact ⟨r, hi r hp, K, hk⟩
theorem Wp.ret {α : Type} {P : α → Prop} {r : α} (h : P r) : Wp (fun _ => some r) P := ⟨r, h, 0, fun _ _ => rfl⟩
theorem Wp.bind {α β : Type} {g : Nat → Option α} {f : Nat → α → Option β} {P : β → Prop} (h : Wp g (fun a => Wp (fun k => f k a) P)) : Wp (fun k => (g k).bind (f k)) P := by
  obtain ⟨a, ⟨r, hp, K, hk⟩, K', hk'⟩ := h
  refine ⟨r, hp, max K K', fun k hkk => ?_⟩
  show (g k).bind (f k) = some r
  rw [hk' k (by omega)]
  exact hk k (by omega)
theorem Wp.call {α β : Type} {g : Nat → Option α} {f : Nat → α → Option β} {Q : α → Prop} {P : β → Prop} (h : Wp g Q) (hf : ∀ a, Q a → Wp (fun k => f k a) P) : Wp (fun k => (g k).bind (f k)) P :=
  Wp.bind (h.mono hf)
theorem Wp.ite {α : Type} {c : Prop} [Decidable c] {g h : Nat → Option α} {P : α → Prop} (h1 : c → Wp g P) (h2 : ¬ c → Wp h P) : Wp (fun k => if c then g k else h k) P := by
  by_cases hc : c
  · simpa only [if_pos hc] using h1 hc
  · simpa only [if_neg hc] using h2 hc
theorem Wp.pos {α : Type} {c : Prop} [Decidable c] {g h : Nat → Option α} {P : α → Prop} (hc : c) (h1 : Wp g P) : Wp (fun k => if c then g k else h k) P := Wp.ite (fun _ => h1) (fun h => absurd hc h)
theorem Wp.neg {α : Type} {c : Prop} [Decidable c] {g h : Nat → Option α} {P : α → Prop} (hc : ¬ c) (h1 : Wp h P) : Wp (fun k => if c then g k else h k) P := Wp.ite (fun h => absurd h hc) (fun _ => h1)
theorem Wp.step {α : Type} {g f : Nat → Option α} {P : α → Prop} (h : ∀ k, g (k + 1) = f k) (hf : Wp f P) : Wp g P := by
  obtain ⟨r, hp, K, hk⟩ := hf
  refine ⟨r, hp, K + 1, fun k hkk => ?_⟩
  obtain ⟨k, rfl⟩ : ∃ m, k = m + 1 := ⟨k - 1, by omega⟩
  rw [h k]
  exact hk k (by omega)
theorem Wp.of {α : Type} {g : Nat → Option α} {P : α → Prop} {r : α} (h : ∀ k, g k = some r) (hp : P r) : Wp g P := ⟨r, hp, 0, fun k _ => h k⟩
theorem Wp.rounds {α : Type} {g : Nat → Option α} {r : α} (h : Wp g (fun a => a = r)) : ∃ k, g k = some r := by
  obtain ⟨r', rfl, K, hk⟩ := h
  exact ⟨K, hk K (Nat.le_refl K)⟩
theorem w64 {x : Int} (h0 : -9223372036854775808 ≤ x) (h1 : x ≤ 9223372036854775807) : wrap64 x = x := by
  unfold wrap64
  omega
end Go.Proofs.Ytohbpilokmppbaa.Wp
namespace Go.Proofs.Ytohbpilokmppbaa.P
open Go.RowKit Go.Proofs.YtohbpilokmppbaaW.PrintWords Go.Proofs.YtohbpilokmppbaaW.PrintLast Go.Proofs.YtohbpilokmppbaaW.PrintMore Go.Proofs.Ytohbpilokmppbaa.Wp
set_option linter.unusedVariables false
set_option linter.unusedSimpArgs false
theorem bl_rd (l : List Int) (i : Nat) : rd l (i : Int) = l.getD i 0 := by simp [rd]
theorem bl_ext {x l : List Int} (hx : x.length = l.length) (h : ∀ j, j < l.length → x.getD j 0 = l.getD j 0) : x = l := by
  apply List.ext_getElem hx
  intro j h1 h2
  have := h j h2
  simpa [List.getD_eq_getElem?_getD, List.getElem?_eq_getElem h1, List.getElem?_eq_getElem h2] using this
theorem bl_set {x : List Int} {i : Nat} (v : Int) (j : Nat) (hi : i < x.length) : (x.set i v).getD j 0 = if j = i then v else x.getD j 0 := by
  simp only [List.getD_eq_getElem?_getD, List.getElem?_set]
  by_cases h : i = j
  · subst h; simp [hi]
  · simp [h, Ne.symm h, eq_comm]
theorem bl_all_drop (l : List Int) (p : Int → Bool) (i : Nat) (h : i < l.length) : (l.drop i).all p = (p (l.getD i 0) && (l.drop (i + 1)).all p) := by
  rw [List.drop_eq_getElem_cons h, List.all_cons]
  simp [List.getD_eq_getElem?_getD, List.getElem?_eq_getElem h]
def allB (l : List Int) : Bool := l.all fun n => decide (0 ≤ n ∧ n ≤ 255)
theorem allB_mem {l : List Int} (h : allB l = true) : ∀ x ∈ l, 0 ≤ x ∧ x ≤ 255 := fun x hx => of_decide_eq_true (List.all_eq_true.1 h x hx)
theorem allB_of {l : List Int} (h : ∀ x ∈ l, 0 ≤ x ∧ x ≤ 255) : allB l = true := List.all_eq_true.2 fun x hx => decide_eq_true (h x hx)
theorem w_inRange0 (a b c : Int) : Wp (fun _ => spec_inRange.f a b c) (fun r => r = decide (b ≤ a ∧ a ≤ c)) := by
  unfold spec_inRange.f
  refine Wp.ite (fun h => Wp.ret ?_) (fun h => Wp.ret ?_)
  · simp [h]
  · simp [h]
theorem w_allIn (l : List Int) (a b : Int) (hl : l.length ≤ 1000000000) : Wp (fun k => spec_allIn.f k l a b) (fun r => r = l.all fun n => decide (a ≤ n ∧ n ≤ b)) := by
  unfold spec_allIn.f
  have key : ∀ d (i : Nat), i + d = l.length → Wp (fun k => spec_allIn.l0 k l a b i) (fun r => r = (l.drop i).all fun n => decide (a ≤ n ∧ n ≤ b)) := by
    intro d
    induction d with
    | zero =>
      intro i hd
      refine Wp.step (fun k => spec_allIn.l0.eq_2 ..) (Wp.neg (by omega) (Wp.ret ?_))
      rw [List.drop_of_length_le (by omega)]
      rfl
    | succ d ih =>
      intro i hd
      refine Wp.step (fun k => spec_allIn.l0.eq_2 ..) (Wp.pos (by omega) (Wp.pos (by omega) ?_))
      refine Wp.call (w_inRange0 _ _ _) ?_
      rintro _ rfl
      rw [bl_all_drop l _ i (by omega), bl_rd]
      refine Wp.ite (fun h => ?_) (fun h => Wp.ret ?_)
      · rw [h, Bool.true_and, w64 (x := (i : Int) + 1) (by omega) (by omega)]
        exact ih (i + 1) (by omega)
      · rw [Bool.not_eq_true] at h
        rw [h, Bool.false_and]
  exact key l.length 0 (by omega)
theorem w_allB (l : List Int) (hl : l.length ≤ 1000000000) : Wp (fun k => spec_allIn.f k l 0 255) (fun r => r = allB l) := w_allIn l 0 255 hl
theorem w_areBytes (l : List Int) : Wp (fun _ => impl_areBytes.f l) (fun r => r = allB l) := by
  unfold impl_areBytes.f
  refine Wp.ret ?_
  unfold allB
  induction l with
  | nil => rfl
  | cons x l ih =>
    simp only [List.any_cons, List.all_cons, Bool.not_or, ← ih]
    congr 1
    by_cases h0 : x < 0 <;> by_cases h1 : 255 < x <;> simp [h0, h1] <;> omega
def marks (a : Int) (n : Nat) : List Int := (List.range n).map fun j : Nat => a + (j : Int)
theorem w_equalInts (a b : List Int) (hl : a.length ≤ 1000000000) : Wp (fun k => laws_equalInts.f k a b) (fun r => r = decide (a = b)) := by
  unfold laws_equalInts.f
  refine Wp.ite (fun he => ?_) (fun he => Wp.ret ?_)
  · have key : ∀ d (i : Nat), i + d = a.length → (∀ j, j < i → a.getD j 0 = b.getD j 0) → Wp (fun k => laws_equalInts.l0 k a b i) (fun r => r = decide (a = b)) := by
      intro d
      induction d with
      | zero =>
        intro i hd h
        refine Wp.step (fun k => laws_equalInts.l0.eq_2 ..) (Wp.neg (by omega) (Wp.ret ?_))
        exact (decide_eq_true (bl_ext (by omega) fun j hj => h j (by omega))).symm
      | succ d ih =>
        intro i hd h
        refine Wp.step (fun k => laws_equalInts.l0.eq_2 ..) (Wp.pos (by omega) (Wp.pos (by omega) (Wp.pos (by omega) ?_)))
        rw [bl_rd, bl_rd]
        refine Wp.ite (fun h1 => ?_) (fun h1 => Wp.ret ?_)
        · rw [w64 (x := (i : Int) + 1) (by omega) (by omega)]
          refine ih (i + 1) (by omega) fun j hj => ?_
          by_cases e : j = i
          · rw [e]; exact h1
          · exact h j (by omega)
        · exact (decide_eq_false fun e => h1 (by rw [e])).symm
    exact key a.length 0 (by omega) (fun j hj => by omega)
  · exact (decide_eq_false fun e => he (by rw [e])).symm
end Go.Proofs.Ytohbpilokmppbaa.P
namespace Go.Proofs.Ytohbpilokmppbaa.P
open Go.RowKit Go.Proofs.YtohbpilokmppbaaW.PrintWords Go.Proofs.YtohbpilokmppbaaW.PrintLast Go.Proofs.YtohbpilokmppbaaW.PrintMore Go.Proofs.Ytohbpilokmppbaa.Wp
set_option linter.unusedVariables false
set_option linter.unusedSimpArgs false
def Small (l : List (List Int)) : Prop := l.length ≤ 1048576 ∧ ∀ y ∈ l, y.length ≤ 1048576
theorem ll_rd (l : List (List Int)) (i : Nat) : rd_L1 l (i : Int) = l.getD i [] := by simp [rd_L1]
theorem ll_mem (l : List (List Int)) (i : Nat) (h : i < l.length) : l.getD i [] ∈ l := by
  rw [List.getD_eq_getElem?_getD, List.getElem?_eq_getElem h]
  exact List.getElem_mem _
end Go.Proofs.Ytohbpilokmppbaa.P
namespace Go.Proofs.Ytohbpilokmppbaa.P
open Go.RowKit Go.Proofs.YtohbpilokmppbaaW.PrintWords Go.Proofs.YtohbpilokmppbaaW.PrintLast Go.Proofs.YtohbpilokmppbaaW.PrintMore Go.Proofs.Ytohbpilokmppbaa.Wp
set_option linter.unusedVariables false
set_option linter.unusedSimpArgs false
def PalOk (l : List (List Int)) (p : Nat) : Prop := l.length ≤ 16 ∧ ∀ c ∈ l, c.length = p ∧ ∀ v ∈ c, 0 ≤ v ∧ v ≤ 255
def gapN (a b : List Int) : Nat → Int
  | 0 => 0
  | n + 1 => gapN a b n + (a.getD n 0 - b.getD n 0) * (a.getD n 0 - b.getD n 0)
theorem sq_B {x : Int} (h0 : -255 ≤ x) (h1 : x ≤ 255) : 0 ≤ x * x ∧ x * x ≤ 65025 := by
  rcases Int.lt_or_le x 0 with h | h
  · have h2 : 0 ≤ -x * -x := Int.mul_nonneg (by omega) (by omega)
    have h3 : -x * -x ≤ 255 * 255 := Int.mul_le_mul (by omega) (by omega) (by omega) (by omega)
    rw [Int.neg_mul_neg] at h2 h3
    omega
  · have h2 : 0 ≤ x * x := Int.mul_nonneg h h
    have h3 : x * x ≤ 255 * 255 := Int.mul_le_mul h1 h1 h (by omega)
    omega
theorem getB {l : List Int} (h : ∀ v ∈ l, 0 ≤ v ∧ v ≤ 255) (i : Nat) : 0 ≤ l.getD i 0 ∧ l.getD i 0 ≤ 255 := by
  rw [List.getD_eq_getElem?_getD]
  rcases Nat.lt_or_ge i l.length with hi | hi
  · rw [List.getElem?_eq_getElem hi]
    exact h _ (List.getElem_mem _)
  · rw [List.getElem?_eq_none hi]
    exact ⟨by decide, by decide⟩
theorem gap_B {a b : List Int} (ha : ∀ v ∈ a, 0 ≤ v ∧ v ≤ 255) (hb : ∀ v ∈ b, 0 ≤ v ∧ v ≤ 255) (n : Nat) : 0 ≤ gapN a b n ∧ gapN a b n ≤ (n : Int) * 65025 := by
  induction n with
  | zero => simp [gapN]
  | succ n ih =>
    have h1 := getB ha n
    have h2 := getB hb n
    have := sq_B (x := a.getD n 0 - b.getD n 0) (by omega) (by omega)
    rw [gapN]
    omega
def nrC (l : List (List Int)) (px : List Int) (p : Nat) : Nat → Nat
  | 0 => 0
  | m + 1 => if gapN (l.getD m []) px p < gapN (l.getD (nrC l px p m) []) px p then m else nrC l px p m
theorem nrC_lt (l : List (List Int)) (px : List Int) (p m : Nat) (hm : 0 < m) : nrC l px p m < m := by
  induction m with
  | zero => omega
  | succ m ih =>
    rw [nrC]
    split
    · omega
    · by_cases h : m = 0
      · subst h; simp [nrC]
      · have := ih (by omega); omega
theorem w_gap (a b : List Int) (p : Nat) (hp : p ≤ 100) (hla : a.length = p) (hlb : p ≤ b.length) (ha : ∀ v ∈ a, 0 ≤ v ∧ v ≤ 255) (hb : ∀ v ∈ b, 0 ≤ v ∧ v ≤ 255) : Wp (fun k => spec_gap.f k a b) (fun r => r = gapN a b p) := by
  unfold spec_gap.f
  have key : ∀ (d i : Nat), i + d = p → Wp (fun k => spec_gap.l0 k a b (gapN a b i) i) (fun r => r = gapN a b p) := by
    intro d
    induction d with
    | zero =>
      intro i hi
      have : i = p := by omega
      subst this
      exact Wp.step (fun k => spec_gap.l0.eq_2 ..) (Wp.neg (by omega) (Wp.ret rfl))
    | succ d ih =>
      intro i hi
      have h1 := getB ha i
      have h2 := getB hb i
      have h3 := sq_B (x := a.getD i 0 - b.getD i 0) (by omega) (by omega)
      have h4 := gap_B ha hb i
      refine Wp.step (fun k => spec_gap.l0.eq_2 ..) (Wp.pos (by omega) (Wp.pos (by omega) (Wp.pos (by omega) ?_)))
      rw [bl_rd, bl_rd, w64 (x := a.getD i 0 - b.getD i 0) (by omega) (by omega), w64 (x := (a.getD i 0 - b.getD i 0) * (a.getD i 0 - b.getD i 0)) (by omega) (by omega),
        w64 (x := gapN a b i + (a.getD i 0 - b.getD i 0) * (a.getD i 0 - b.getD i 0)) (by omega) (by omega), w64 (x := (i : Int) + 1) (by omega) (by omega)]
      exact ih (i + 1) (by omega)
  exact key p 0 (by omega)
theorem w_sNearest (l : List (List Int)) (px : List Int) (p : Nat) (hp : p ≤ 100) (hl : PalOk l p) (h0 : 1 ≤ l.length) (hlp : px.length = p) (hpB : ∀ v ∈ px, 0 ≤ v ∧ v ≤ 255) : Wp (fun k => spec_nearest.f k l px) (fun r => r = (nrC l px p l.length : Nat)) := by
  obtain ⟨hn, hc⟩ := hl
  unfold spec_nearest.f
  have hg : ∀ i, i < l.length → Wp (fun k => spec_gap.f k (l.getD i []) px) (fun r => r = gapN (l.getD i []) px p) := fun i hi =>
    w_gap _ px p hp (hc _ (ll_mem l i hi)).1 (by omega) (hc _ (ll_mem l i hi)).2 hpB
  have key : ∀ (d i : Nat), 1 ≤ i → i + d = l.length → Wp (fun k => spec_nearest.l0 k l px (nrC l px p i : Nat) i) (fun r => r = (nrC l px p l.length : Nat)) := by
    intro d
    induction d with
    | zero =>
      intro i h1 hi
      have : i = l.length := by omega
      subst this
      exact Wp.step (fun k => spec_nearest.l0.eq_2 ..) (Wp.neg (by omega) (Wp.ret rfl))
    | succ d ih =>
      intro i h1 hi
      have hlt := nrC_lt l px p i (by omega)
      have next := ih (i + 1) (by omega) (by omega)
      rw [nrC] at next
      refine Wp.step (fun k => spec_nearest.l0.eq_2 ..) (Wp.pos (by omega) (Wp.pos (by omega) ?_))
      rw [ll_rd, ll_rd]
      refine Wp.call (hg i (by omega)) ?_
      rintro _ rfl
      refine Wp.pos (by omega) (Wp.pos (by omega) ?_)
      refine Wp.call (hg _ (by omega)) ?_
      rintro _ rfl
      rw [w64 (x := (i : Int) + 1) (by omega) (by omega)]
      refine Wp.ite (fun h => ?_) (fun h => ?_)
      · rw [if_pos h] at next
        exact next
      · rw [if_neg h] at next
        exact next
  have := key (l.length - 1) 1 (by omega) (by omega)
  have e : nrC l px p 1 = 0 := by simp [nrC]
  rw [e] at this
  exact this
theorem w_inearest (l : List (List Int)) (px : List Int) (p : Nat) (hp : p ≤ 100) (hl : PalOk l p) (h0 : 1 ≤ l.length) (hlp : px.length = p) (hpB : ∀ v ∈ px, 0 ≤ v ∧ v ≤ 255) : Wp (fun k => impl_nearestColor.f k l px) (fun r => r = (nrC l px p l.length : Nat)) := by
  obtain ⟨hn, hc⟩ := hl
  unfold impl_nearestColor.f
  have inner : ∀ (i : Nat) (best least : Int) (hi : i < l.length) (P : Int → Prop), (∀ s, s = gapN (l.getD i []) px p → Wp (fun k => if least < 0 then (impl_nearestColor.l0 k px i s l l.length (wrap64 ((i : Int) + 1))) else (if s < least then (impl_nearestColor.l0 k px i s l l.length (wrap64 ((i : Int) + 1))) else (impl_nearestColor.l0 k px best least l l.length (wrap64 ((i : Int) + 1))))) P) →
      ∀ (d t : Nat), t + d = p → Wp (fun k => impl_nearestColor.l1 k px best least i (gapN (l.getD i []) px t) l l.length i (l.getD i []) ((l.getD i []).length : Int) t) P := by
    intro i best least hi P next d
    obtain ⟨hcl, hcB⟩ := hc _ (ll_mem l i hi)
    induction d with
    | zero =>
      intro t ht
      have : t = p := by omega
      subst this
      exact Wp.step (fun k => impl_nearestColor.l1.eq_2 ..) (Wp.neg (by omega) (next _ rfl))
    | succ d ih =>
      intro t ht
      have h1 := getB hcB t
      have h2 := getB hpB t
      have h3 := sq_B (x := (l.getD i []).getD t 0 - px.getD t 0) (by omega) (by omega)
      have h4 := gap_B hcB hpB t
      refine Wp.step (fun k => impl_nearestColor.l1.eq_2 ..) (Wp.pos (by omega) (Wp.pos (by omega) (Wp.pos (by omega) (Wp.pos (by omega) ?_))))
      rw [bl_rd, bl_rd, w64 (x := (l.getD i []).getD t 0 - px.getD t 0) (by omega) (by omega), w64 (x := ((l.getD i []).getD t 0 - px.getD t 0) * ((l.getD i []).getD t 0 - px.getD t 0)) (by omega) (by omega),
        w64 (x := gapN (l.getD i []) px t + ((l.getD i []).getD t 0 - px.getD t 0) * ((l.getD i []).getD t 0 - px.getD t 0)) (by omega) (by omega), w64 (x := (t : Int) + 1) (by omega) (by omega)]
      exact ih (t + 1) (by omega)
  have key : ∀ (d i : Nat) (best least : Int), i + d = l.length → best = (nrC l px p i : Nat) → (i = 0 → least = -1) → (1 ≤ i → least = gapN (l.getD (nrC l px p i) []) px p) → Wp (fun k => impl_nearestColor.l0 k px best least l l.length i) (fun r => r = (nrC l px p l.length : Nat)) := by
    intro d
    induction d with
    | zero =>
      intro i best least hi hb h1 h2
      have : i = l.length := by omega
      subst this
      exact Wp.step (fun k => impl_nearestColor.l0.eq_2 ..) (Wp.neg (by omega) (Wp.ret hb))
    | succ d ih =>
      intro i best least hi hb h1 h2
      refine Wp.step (fun k => impl_nearestColor.l0.eq_2 ..) (Wp.pos (by omega) (Wp.pos (by omega) (Wp.pos (by omega) ?_)))
      rw [ll_rd]
      refine inner i best least (by omega) _ (fun s hs => ?_) p 0 (by omega)
      rw [w64 (x := (i : Int) + 1) (by omega) (by omega)]
      have g0 := gap_B (hc _ (ll_mem l i (by omega))).2 hpB p
      by_cases hz : i = 0
      · subst hz
        have e : nrC l px p (0 + 1) = 0 := by simp [nrC]
        refine Wp.pos (by rw [h1 rfl]; omega) ?_
        exact ih (0 + 1) _ s (by omega) (by rw [e]) (fun h => by omega) (fun _ => by rw [e]; exact hs)
      · have hlt := nrC_lt l px p i (by omega)
        have hL := h2 (by omega)
        have gB := gap_B (hc _ (ll_mem l (nrC l px p i) (by omega))).2 hpB p
        refine Wp.neg (by omega) ?_
        refine Wp.ite (fun h => ?_) (fun h => ?_)
        · have e : nrC l px p (i + 1) = i := by rw [nrC, if_pos (by rw [← hs, ← hL]; exact h)]
          exact ih (i + 1) _ s (by omega) (by rw [e]) (fun h => by omega) (fun _ => by rw [e]; exact hs)
        · have e : nrC l px p (i + 1) = nrC l px p i := by rw [nrC, if_neg (by rw [← hs, ← hL]; exact h)]
          exact ih (i + 1) _ least (by omega) (by rw [e]; exact hb) (fun h => by omega) (fun _ => by rw [e]; exact hL)
  exact key l.length 0 0 (-1) (by omega) rfl (fun _ => rfl) (fun h => by omega)
def palB (l : List (List Int)) (p : Int) : Bool := decide (l.length ≤ 16) && l.all fun c => decide ((c.length : Int) = p) && allB c
theorem palB_ok {l : List (List Int)} {p : Nat} (h : palB l p = true) : PalOk l p := by
  unfold palB at h
  rw [Bool.and_eq_true, decide_eq_true_eq, List.all_eq_true] at h
  refine ⟨h.1, fun c hc => ?_⟩
  have := h.2 c hc
  rw [Bool.and_eq_true, decide_eq_true_eq] at this
  exact ⟨by omega, allB_mem this.2⟩
theorem w_validColors (l : List (List Int)) (p : Int) (hl : Small l) : Wp (fun k => spec_validColors.f k l p) (fun r => r = palB l p) := by
  obtain ⟨hl, hy⟩ := hl
  unfold spec_validColors.f palB
  have key : ∀ (d i : Nat), i + d = l.length → (∀ j, j < i → (decide (((l.getD j []).length : Int) = p) && allB (l.getD j [])) = true) → Wp (fun k => spec_validColors.l0 k l p i) (fun r => r = (decide (l.length ≤ 16) && l.all fun c => decide ((c.length : Int) = p) && allB c)) := by
    intro d
    induction d with
    | zero =>
      intro i hi hj
      refine Wp.step (fun k => spec_validColors.l0.eq_2 ..) (Wp.neg (by omega) (Wp.ret ?_))
      have : (l.all fun c => decide ((c.length : Int) = p) && allB c) = true := List.all_eq_true.2 fun c hc => by
        obtain ⟨j, hj2, rfl⟩ := List.getElem_of_mem hc
        have := hj j (by omega)
        simpa [List.getD_eq_getElem?_getD, List.getElem?_eq_getElem hj2] using this
      rw [this, Bool.and_true, Bool.eq_iff_iff, decide_eq_true_eq, decide_eq_true_eq]
      omega
    | succ d ih =>
      intro i hi hj
      have no : ¬ (decide (((l.getD i []).length : Int) = p) && allB (l.getD i [])) = true → (decide (l.length ≤ 16) && l.all fun c => decide ((c.length : Int) = p) && allB c) = false := fun h => by
        have : (l.all fun c => decide ((c.length : Int) = p) && allB c) = false := by
          rw [List.all_eq_false]
          exact ⟨_, ll_mem l i (by omega), h⟩
        rw [this, Bool.and_false]
      refine Wp.step (fun k => spec_validColors.l0.eq_2 ..) (Wp.pos (by omega) (Wp.pos (by omega) ?_))
      rw [ll_rd]
      refine Wp.ite (fun h1 => ?_) (fun h1 => Wp.ret (no (by rw [decide_eq_false h1]; simp)).symm)
      refine Wp.call (w_allB _ (Nat.le_trans (hy _ (ll_mem l i (by omega))) (by omega))) ?_
      rintro _ rfl
      refine Wp.ite (fun h2 => ?_) (fun h2 => Wp.ret (no (by rw [decide_eq_true h1, Bool.true_and]; exact h2)).symm)
      rw [w64 (x := (i : Int) + 1) (by omega) (by omega)]
      refine ih (i + 1) (by omega) fun j hj2 => ?_
      by_cases e : j = i
      · rw [e, decide_eq_true h1, h2]; rfl
      · exact hj j (by omega)
  exact key l.length 0 (by omega) (fun j hj => by omega)
theorem bad_not (p : Int) (c : List Int) : (badColor p c = false) ↔ (decide ((c.length : Int) = p) && allB c) = true := by
  have hb : (c.any fun n => decide (n < 0) || decide (255 < n)) = !allB c := by
    obtain ⟨r, hr, K, hK⟩ := w_areBytes c
    have h := hK K (Nat.le_refl K)
    unfold impl_areBytes.f at h
    simp only [Option.some.injEq] at h
    rw [hr] at h
    rw [← h, Bool.not_not]
  unfold badColor
  rw [hb]
  by_cases h : (c.length : Int) = p
  · rw [decide_eq_true h, Bool.true_and, bne_eq_false_iff_eq.2 h, Bool.false_or, Bool.not_eq_false']
  · rw [decide_eq_false h, Bool.false_and, bne_iff_ne.2 h, Bool.true_or]
    simp
theorem w_isPalette (l : List (List Int)) (p : Int) : Wp (fun _ => impl_isPalette.f l p) (fun r => r = (decide (1 ≤ l.length ∧ 1 ≤ p ∧ p ≤ 4) && palB l p)) := by
  unfold impl_isPalette.f
  refine Wp.ret ?_
  unfold palB
  have e : (!l.any (badColor p)) = l.all fun c => decide ((c.length : Int) = p) && allB c := by
    rw [Bool.eq_iff_iff, Bool.not_eq_true', List.any_eq_false, List.all_eq_true]
    exact ⟨fun h c hc => (bad_not p c).1 (by simpa using h c hc), fun h c hc => by rw [(bad_not p c).2 (h c hc)]; decide⟩
  rw [e]
  by_cases h1 : (l.length : Int) < 1
  · rw [if_pos h1, decide_eq_false (by omega)]; rfl
  rw [if_neg h1]
  by_cases h2 : 16 < (l.length : Int)
  · rw [if_pos h2, decide_eq_false (p := l.length ≤ 16) (by omega), Bool.false_and, Bool.and_false]
  rw [if_neg h2, decide_eq_true (p := l.length ≤ 16) (by omega), Bool.true_and]
  by_cases h3 : p < 1
  · rw [if_pos h3, decide_eq_false (by omega)]; rfl
  rw [if_neg h3]
  by_cases h4 : 4 < p
  · rw [if_pos h4, decide_eq_false (by omega)]; rfl
  rw [if_neg h4, decide_eq_true (by omega), Bool.true_and]
def nearC (l : List (List Int)) (px : List Int) : Int := if (1 ≤ px.length ∧ px.length ≤ 4) ∧ allB px = true ∧ palB l px.length = true ∧ 1 ≤ l.length then (nrC l px px.length l.length : Nat) else -1
theorem w_iNearC (l : List (List Int)) (px : List Int) : Wp (fun k => impl_NearestColor.f k l px) (fun r => r = nearC l px) := by
  unfold impl_NearestColor.f nearC
  refine Wp.call (w_isPalette l px.length) ?_
  rintro _ rfl
  refine Wp.ite (fun h1 => ?_) (fun h1 => Wp.ret (by rw [if_neg fun h => h1 (by rw [h.2.2.1, Bool.and_true]; exact decide_eq_true (by omega))]))
  rw [Bool.and_eq_true, decide_eq_true_eq] at h1
  refine Wp.call (w_areBytes px) ?_
  rintro _ rfl
  refine Wp.ite (fun h2 => ?_) (fun h2 => Wp.ret (by rw [if_neg fun h => h2 h.2.1]))
  refine Wp.call (w_inearest l px px.length (by omega) (palB_ok h1.2) (by omega) rfl (allB_mem h2)) ?_
  rintro _ rfl
  exact Wp.ret (by rw [if_pos ⟨by omega, h2, h1.2, by omega⟩])
end Go.Proofs.Ytohbpilokmppbaa.P
namespace Go.Proofs.Ytohbpilokmppbaa.P
open Go.RowKit Go.Proofs.YtohbpilokmppbaaW.PrintWords Go.Proofs.YtohbpilokmppbaaW.PrintLast Go.Proofs.YtohbpilokmppbaaW.PrintMore Go.Proofs.Ytohbpilokmppbaa.Wp
set_option linter.unusedVariables false
set_option linter.unusedSimpArgs false
theorem rd_cut (l : List Int) (a b i : Int) (ha : 0 ≤ a) (hi : 0 ≤ i) (hb : a + i < b) : rd ((l.take b.toNat).drop a.toNat) i = rd l (a + i) := by
  unfold rd
  rw [List.getD_eq_getElem?_getD, List.getD_eq_getElem?_getD, List.getElem?_drop, List.getElem?_take, if_pos (by omega)]
  congr 2
  omega
def imgB (a b c : Int) (l : List Int) : Bool := decide ((1 ≤ a ∧ a ≤ 16) ∧ (1 ≤ b ∧ b ≤ 16) ∧ (1 ≤ c ∧ c ≤ 4)) && decide ((l.length : Int) = a * b * c) && allB l
theorem imgB_ok {a b c : Int} {l : List Int} : imgB a b c l = true ↔ ImgOk a b c l := by
  unfold imgB ImgOk
  rw [Bool.and_eq_true, Bool.and_eq_true, decide_eq_true_eq, decide_eq_true_eq]
  constructor
  · rintro ⟨⟨h1, h2⟩, h3⟩
    exact ⟨h1.1, h1.2.1, h1.2.2, h2, allB_mem h3⟩
  · rintro ⟨h1, h2, h3, h4, h5⟩
    exact ⟨⟨⟨h1, h2, h3⟩, h4⟩, allB_of h5⟩
theorem w_iImage (a b c : Int) (l : List Int) : Wp (fun _ => impl_isImage.f a b c l) (fun r => r = imgB a b c l) := by
  obtain ⟨r, hr, hi⟩ := isImage_some a b c l
  refine Wp.of (fun _ => hr) ?_
  rw [Bool.eq_iff_iff, hi, imgB_ok]
theorem w_sImage (a b c : Int) (l : List Int) (hl : l.length ≤ 1000000000) : Wp (fun k => spec_validImage.f k a b c l) (fun r => r = imgB a b c l) := by
  unfold spec_validImage.f spec_validShape.f imgB
  refine Wp.call (Q := fun r => r = decide ((1 ≤ a ∧ a ≤ 16) ∧ (1 ≤ b ∧ b ≤ 16) ∧ (1 ≤ c ∧ c ≤ 4))) ?_ ?_
  · refine Wp.call (w_inRange0 _ _ _) ?_
    rintro _ rfl
    refine Wp.ite (fun h => ?_) (fun h => Wp.ret ?_)
    · refine Wp.call (w_inRange0 _ _ _) ?_
      rintro _ rfl
      refine Wp.ite (fun h2 => ?_) (fun h2 => Wp.ret ?_)
      · refine Wp.call (w_inRange0 _ _ _) ?_
        rintro _ rfl
        refine Wp.ret ?_
        rw [decide_eq_true_eq] at h h2
        rw [Bool.eq_iff_iff, decide_eq_true_eq, decide_eq_true_eq]
        exact ⟨fun h3 => ⟨h, h2, h3⟩, fun h3 => h3.2.2⟩
      · rw [decide_eq_true_eq] at h2
        exact (decide_eq_false fun h3 => h2 h3.2.1).symm
    · rw [decide_eq_true_eq] at h
      exact (decide_eq_false fun h3 => h h3.1).symm
  · rintro _ rfl
    refine Wp.ite (fun h => ?_) (fun h => Wp.ret ?_)
    · rw [h, Bool.true_and]
      rw [decide_eq_true_eq] at h
      obtain ⟨h0, h1, h2⟩ := h
      have hB := img_bounds h0 h1 h2
      rw [w64 (x := a * b) (by omega) (by omega), w64 (x := a * b * c) (by omega) (by omega)]
      refine Wp.ite (fun h3 => ?_) (fun h3 => Wp.ret ?_)
      · rw [decide_eq_true h3, Bool.true_and]
        refine Wp.call (w_allB l hl) ?_
        rintro _ rfl
        exact Wp.ret rfl
      · rw [decide_eq_false h3]; rfl
    · rw [Bool.not_eq_true] at h
      rw [h]; rfl
theorem w_newImage (a b c : Int) (h0 : 0 ≤ a ∧ a ≤ 1000) (h1 : 0 ≤ b ∧ b ≤ 1000) (h2 : 0 ≤ c ∧ c ≤ 1000) : Wp (fun _ => spec_newImage.f a b c) (fun r => r = (a, b, c, List.replicate (a * b * c).toNat 0)) := by
  have m1 : 0 ≤ a * b := Int.mul_nonneg h0.1 h1.1
  have m2 : a * b ≤ 1000 * 1000 := Int.mul_le_mul h0.2 h1.2 h1.1 (by omega)
  have m3 : 0 ≤ a * b * c := Int.mul_nonneg m1 h2.1
  have m4 : a * b * c ≤ 1000000 * 1000 := Int.mul_le_mul m2 h2.2 h2.1 (by omega)
  unfold spec_newImage.f
  rw [w64 (x := a * b) (by omega) (by omega), w64 (x := a * b * c) (by omega) (by omega)]
  exact Wp.pos m3 (Wp.pos (by omega) (Wp.ret rfl))
end Go.Proofs.Ytohbpilokmppbaa.P
namespace Go.Proofs.Ytohbpilokmppbaa.P
open Go.RowKit Go.Proofs.YtohbpilokmppbaaW.PrintWords Go.Proofs.YtohbpilokmppbaaW.PrintLast Go.Proofs.YtohbpilokmppbaaW.PrintMore Go.Proofs.Ytohbpilokmppbaa.Wp
set_option linter.unusedVariables false
set_option linter.unusedSimpArgs false
theorem fm_len (h : Nat → List Int) (n p : Nat) (hf : ∀ i, i < n → (h i).length = p) : ((List.range n).flatMap h).length = n * p := by
  induction n with
  | zero => simp
  | succ n ih =>
    rw [List.range_succ, List.flatMap_append, List.length_append, ih fun i hi => hf i (by omega), Nat.succ_mul]
    simp [hf n (by omega)]
theorem fm_get (h : Nat → List Int) (n p j q : Nat) (hf : ∀ i, i < n → (h i).length = p) (hj : j < n) (hq : q < p) : ((List.range n).flatMap h).getD (j * p + q) 0 = (h j).getD q 0 := by
  induction n with
  | zero => omega
  | succ n ih =>
    have hlen := fm_len h n p fun i hi => hf i (by omega)
    rw [List.range_succ, List.flatMap_append, List.getD_eq_getElem?_getD]
    by_cases hjn : j < n
    · have : j * p + q < n * p := by
        have : (j + 1) * p ≤ n * p := Nat.mul_le_mul_right p (by omega)
        rw [Nat.succ_mul] at this
        omega
      rw [List.getElem?_append_left (by omega), ← List.getD_eq_getElem?_getD]
      exact ih (fun i hi => hf i (by omega)) hjn
    · have : j = n := by omega
      subst this
      rw [List.getElem?_append_right (by omega), hlen, show j * p + q - j * p = q by omega]
      simp [List.getD_eq_getElem?_getD]
theorem img_fm (f : Int → Int → List Int) (h : Nat → List Int) (n m : Nat) (hh : ∀ i j, j < n → i < m → f (j : Int) (i : Int) = h (i * n + j)) : imgOf f n m = (List.range (m * n)).flatMap h := by
  induction m with
  | zero => simp [imgOf]
  | succ m ih =>
    rw [imgOf_succ, ih fun i j hj hi => hh i j hj (by omega), Nat.succ_mul, List.range_add, List.flatMap_append]
    congr 1
    unfold imgRow
    rw [List.flatMap_map]
    have : ∀ (a : List Nat), (∀ x ∈ a, x < n) → a.flatMap (fun j : Nat => f (j : Int) (m : Int)) = a.flatMap (fun x => h (m * n + x)) := by
      intro a
      induction a with
      | nil => intro _; rfl
      | cons x a iha =>
        intro hx
        rw [List.flatMap_cons, List.flatMap_cons, iha fun y hy => hx y (List.mem_cons_of_mem _ hy), hh m x (hx x (List.mem_cons_self ..)) (by omega)]
    exact this _ fun x hx => List.mem_range.1 hx
theorem img_len (f : Int → Int → List Int) (n m p : Nat) (hf : ∀ i j : Nat, j < n → i < m → (f j i).length = p) : (imgOf f n m).length = m * n * p := by
  induction m with
  | zero => simp [imgOf]
  | succ m ih =>
    rw [imgOf_succ, List.length_append, ih fun i j hj hi => hf i j hj (by omega)]
    unfold imgRow
    rw [fm_len _ n p fun j hj => hf m j hj (by omega), Nat.succ_mul, Nat.add_mul]
theorem img_get (f : Int → Int → List Int) (n m p i j q : Nat) (hf : ∀ i j : Nat, j < n → i < m → (f j i).length = p) (hj : j < n) (hi : i < m) (hq : q < p) :
    (imgOf f n m).getD ((i * n + j) * p + q) 0 = (f j i).getD q 0 := by
  have e : imgOf f n m = (List.range m).flatMap fun i : Nat => imgRow f i n := rfl
  have hr : ∀ i : Nat, i < m → (imgRow f i n).length = n * p := fun i hi => by
    unfold imgRow
    exact fm_len _ n p fun j hj => hf i j hj hi
  have hb : j * p + q < n * p := by
    have : (j + 1) * p ≤ n * p := Nat.mul_le_mul_right p (by omega)
    rw [Nat.succ_mul] at this
    omega
  rw [e, show (i * n + j) * p + q = i * (n * p) + (j * p + q) by rw [Nat.add_mul, Nat.mul_assoc]; omega, fm_get _ m (n * p) i _ hr hi hb]
  unfold imgRow
  exact fm_get _ n p j q (fun j hj => hf i j hj hi) hj hq
end Go.Proofs.Ytohbpilokmppbaa.P
namespace Go.Proofs.Ytohbpilokmppbaa.P
open Go.RowKit Go.Proofs.YtohbpilokmppbaaW.PrintWords Go.Proofs.YtohbpilokmppbaaW.PrintLast Go.Proofs.YtohbpilokmppbaaW.PrintMore Go.Proofs.Ytohbpilokmppbaa.Wp
set_option linter.unusedVariables false
set_option linter.unusedSimpArgs false
theorem pix_get {l : List Int} {n p x y : Int} (q : Nat) (h0 : 0 ≤ (y * n + x) * p) (hq : (q : Int) < p) : (pixOf l n p x y).getD q 0 = rd l ((y * n + x) * p + q) := by
  unfold pixOf
  have := rd_cut l ((y * n + x) * p) ((y * n + x) * p + p) q h0 (by omega) (by omega)
  rw [← this, bl_rd]
theorem pix_img (f : Int → Int → List Int) (n m p : Nat) (hf : ∀ i j : Nat, j < n → i < m → (f j i).length = p) (i j : Nat) (hj : j < n) (hi : i < m) : pixOf (imgOf f n m) n p j i = f j i := by
  have hl := img_len f n m p hf
  have e : ((i : Int) * n + j) * p = (((i * n + j) * p : Nat) : Int) := by rw [Int.natCast_mul (i * n + j) p, Int.natCast_add, Int.natCast_mul]
  have hb : (i * n + j) * p + p ≤ m * n * p := by
    have h1 : i * n + j + 1 ≤ m * n := by
      have : (i + 1) * n ≤ m * n := Nat.mul_le_mul_right n hi
      rw [Nat.succ_mul] at this
      omega
    have : (i * n + j + 1) * p ≤ m * n * p := Nat.mul_le_mul_right p h1
    rw [Nat.succ_mul] at this
    omega
  have hlen := pixOf_length (l := imgOf f n m) (n := n) (p := p) (x := j) (y := i) (by rw [e]; omega) (by omega) (by rw [e]; omega)
  have hfl := hf i j hj hi
  refine bl_ext (by omega) fun q hq => ?_
  rw [pix_get q (by rw [e]; omega) (by omega), e, ← Int.natCast_add, bl_rd]
  exact img_get f n m p i j q hf hj hi (by omega)
theorem img_mem (f : Int → Int → List Int) (n m : Nat) (P : Int → Prop) (h : ∀ i j : Nat, j < n → i < m → ∀ v ∈ f j i, P v) : ∀ v ∈ imgOf f n m, P v := by
  intro v hv
  unfold imgOf imgRow at hv
  obtain ⟨i, hi, hv⟩ := List.mem_flatMap.1 hv
  obtain ⟨j, hj, hv⟩ := List.mem_flatMap.1 hv
  exact h i j (List.mem_range.1 hj) (List.mem_range.1 hi) v hv
theorem img_ok (f : Int → Int → List Int) (n m p : Nat) (hn : 1 ≤ n ∧ n ≤ 16) (hm : 1 ≤ m ∧ m ≤ 16) (hp : 1 ≤ p ∧ p ≤ 4) (hf : ∀ i j : Nat, j < n → i < m → (f j i).length = p) (hb : ∀ i j : Nat, j < n → i < m → ∀ v ∈ f j i, 0 ≤ v ∧ v ≤ 255) :
    imgB n m p (imgOf f n m) = true := imgB_ok.2 ⟨by omega, by omega, by omega, by rw [img_len f n m p hf, Int.natCast_mul, Int.natCast_mul, Int.mul_comm (m : Int)], img_mem f n m _ hb⟩
theorem img_congr (f g : Int → Int → List Int) (n m : Nat) (h : ∀ i j : Nat, j < n → i < m → f j i = g j i) : imgOf f n m = imgOf g n m := by
  induction m with
  | zero => rfl
  | succ m ih =>
    rw [imgOf_succ, imgOf_succ, ih fun i j hj hi => h i j hj (by omega)]
    congr 1
    have hm : ∀ j : Nat, j < n → f j m = g j m := fun j hj => h m j hj (by omega)
    clear ih h
    induction n with
    | zero => rfl
    | succ n ih => rw [imgRow_succ, imgRow_succ, ih fun j hj => hm j (by omega), hm n (by omega)]
end Go.Proofs.Ytohbpilokmppbaa.P
namespace Go.Proofs.Ytohbpilokmppbaa.P
open Go.RowKit Go.Proofs.YtohbpilokmppbaaW.PrintWords Go.Proofs.YtohbpilokmppbaaW.PrintLast Go.Proofs.YtohbpilokmppbaaW.PrintMore Go.Proofs.Ytohbpilokmppbaa.Wp
set_option linter.unusedVariables false
set_option linter.unusedSimpArgs false
theorem img_nat {a b c : Int} {l : List Int} (hi : imgB a b c l = true) : ∃ a' b' p : Nat, a = a' ∧ b = b' ∧ c = p ∧ (1 ≤ a' ∧ a' ≤ 16) ∧ (1 ≤ b' ∧ b' ≤ 16) ∧ (1 ≤ p ∧ p ≤ 4) ∧ l.length = b' * a' * p ∧ ∀ v ∈ l, 0 ≤ v ∧ v ≤ 255 := by
  obtain ⟨h0, h1, h2, hlen, hB⟩ := imgB_ok.1 hi
  obtain ⟨a, rfl⟩ := Int.eq_ofNat_of_zero_le (show 0 ≤ a by omega)
  obtain ⟨b, rfl⟩ := Int.eq_ofNat_of_zero_le (show 0 ≤ b by omega)
  obtain ⟨p, rfl⟩ := Int.eq_ofNat_of_zero_le (show 0 ≤ c by omega)
  refine ⟨a, b, p, rfl, rfl, rfl, by omega, by omega, by omega, ?_, hB⟩
  rw [← Int.natCast_mul, ← Int.natCast_mul, Nat.mul_comm a b] at hlen
  omega
theorem pix_len (l : List Int) (a b p i j : Nat) (hl : l.length = b * a * p) (hi : i < a) (hj : j < b) : (pixOf l a p i j).length = p := by
  have hf := pix_fits (a0 := a) (a1 := b) (a2 := p) (x := i) (y := j) (by omega) (by omega) (by omega) (by omega) (by omega)
  have hz : 0 ≤ (j : Int) * a := Int.mul_nonneg (by omega) (by omega)
  have := pixOf_length (l := l) (n := a) (p := p) (x := i) (y := j) (Int.mul_nonneg (by omega) (by omega)) (by omega) (by
    rw [hl, Int.natCast_mul, Int.natCast_mul, Int.mul_comm (b : Int)]
    exact hf)
  omega
end Go.Proofs.Ytohbpilokmppbaa.P
namespace Go.Proofs.Ytohbpilokmppbaa.P
open Go.RowKit Go.Proofs.YtohbpilokmppbaaW.PrintWords Go.Proofs.YtohbpilokmppbaaW.PrintLast Go.Proofs.YtohbpilokmppbaaW.PrintMore Go.Proofs.Ytohbpilokmppbaa.Wp
set_option linter.unusedVariables false
set_option linter.unusedSimpArgs false
def palI (a b c : Int) (l : List Int) : List (List Int) × Bool :=
  if imgB a b c l = true then (if 16 < (palAll l a c b.toNat).length then ([], false) else (palAll l a c b.toNat, true)) else ([], false)
theorem w_iPixelAt (a b c : Int) (l : List Int) (x y : Int) : Wp (fun _ => impl_PixelAt.f a b c l x y) (fun r => r = if imgB a b c l = true ∧ (0 ≤ x ∧ x < a) ∧ (0 ≤ y ∧ y < b) then pixOf l a c x y else []) := by
  unfold impl_PixelAt.f
  refine Wp.call (w_iImage a b c l) ?_
  rintro _ rfl
  refine Wp.ite (fun hi => ?_) (fun hi => Wp.ret (by rw [if_neg fun h => hi h.1]))
  exact Wp.ite (fun h => Wp.ret (by rw [if_pos ⟨hi, h⟩])) (fun h => Wp.ret (by rw [if_neg fun h2 => h h2.2]))
end Go.Proofs.Ytohbpilokmppbaa.P
namespace Go.Proofs.Ytohbpilokmppbaa.P
open Go.RowKit Go.Proofs.YtohbpilokmppbaaW.PrintWords Go.Proofs.YtohbpilokmppbaaW.PrintLast Go.Proofs.YtohbpilokmppbaaW.PrintMore Go.Proofs.Ytohbpilokmppbaa.Wp
set_option linter.unusedVariables false
set_option linter.unusedSimpArgs false
theorem fix_of {α : Type} {g : Nat → Option α} {P : α → Prop} {n : Nat} {r : α} (hm : ∀ k, LeO (g k) (g (k + 1))) (h : g n = some r) (w : Wp g P) : P r := by
  obtain ⟨v, hv, K, hK⟩ := w
  have up : ∀ d, g (n + d) = some r := by
    intro d
    induction d with
    | zero => exact h
    | succ d ih => exact hm (n + d) r ih
  have e1 := up K
  have e2 := hK (n + K) (by omega)
  rw [e1] at e2
  cases e2
  exact hv
theorem nearest_fix (L : List (List Int)) (px : List Int) (p : Nat) (hp : 1 ≤ p ∧ p ≤ 4) (hL : PalOk L p) (h1 : 1 ≤ L.length) (hx : px.length = p) (hB : ∀ v ∈ px, 0 ≤ v ∧ v ≤ 255) : impl_nearestColor.f 200 L px = some ((nrC L px p L.length : Nat) : Int) := by
  obtain ⟨r, hr⟩ := nc_total L px hL.1 (fun c hc => by have := (hL.2 c hc).1; omega) (by omega)
  have := fix_of (g := fun k => impl_nearestColor.f k L px) (n := 200) (fun k => impl_nearestColor.mono L px k) hr (w_inearest L px p (by omega) hL h1 hx hB)
  rw [hr, this]
def idxI (a b c : Int) (l : List Int) (L : List (List Int)) : Int × Int × Int × List Int × Bool :=
  if imgB a b c l = true ∧ (decide (1 ≤ L.length ∧ 1 ≤ c ∧ c ≤ 4) && palB L c) = true then (a, b, 1, imgOf (fun x y => [((nrC L (pixOf l a c x y) c.toNat L.length : Nat) : Int)]) a.toNat b.toNat, true) else (0, 0, 0, [], false)
theorem w_iIdx (a b c : Int) (l : List Int) (L : List (List Int)) : Wp (fun _ => impl_IndexImage.f a b c l L) (fun r => r = idxI a b c l L) := by
  unfold impl_IndexImage.f idxI
  refine Wp.call (w_iImage a b c l) ?_
  rintro _ rfl
  refine Wp.ite (fun hi => ?_) (fun hi => Wp.ret (by rw [if_neg fun h => hi h.1]))
  refine Wp.call (w_isPalette L c) ?_
  rintro _ rfl
  refine Wp.ite (fun hp => Wp.ret ?_) (fun hp => Wp.ret (by rw [if_neg fun h => hp h.2]))
  rw [if_pos ⟨hi, hp⟩]
  rw [Bool.and_eq_true, decide_eq_true_eq] at hp
  obtain ⟨a', b', p, rfl, rfl, rfl, ha, hb, hpp, hlen, hB⟩ := img_nat hi
  have hL := palB_ok hp.2
  simp only [Int.toNat_natCast]
  rw [img_congr (fun x y => idxPix L l a' p x y) (fun x y => [((nrC L (pixOf l a' p x y) p L.length : Nat) : Int)]) a' b' (fun i j hj hi2 => ?_)]
  unfold idxPix
  rw [nearest_fix L _ p hpp hL hp.1.1 (pix_len l a' b' p j i hlen hj hi2) (fun v hv => hB v (pixOf_mem hv))]
  rfl
end Go.Proofs.Ytohbpilokmppbaa.P
namespace Go.Proofs.Ytohbpilokmppbaa.P
open Go.RowKit Go.Proofs.YtohbpilokmppbaaW.PrintWords Go.Proofs.YtohbpilokmppbaaW.PrintLast Go.Proofs.YtohbpilokmppbaaW.PrintMore Go.Proofs.Ytohbpilokmppbaa.Wp
set_option linter.unusedVariables false
set_option linter.unusedSimpArgs false
theorem w_copyInts (l : List Int) (hl : l.length ≤ 1000000000) : Wp (fun _ => spec_copyInts.f l) (fun r => r = l) := by
  unfold spec_copyInts.f
  exact Wp.pos (by simp; omega) (Wp.ret (by simp))
end Go.Proofs.Ytohbpilokmppbaa.P
namespace Go.Proofs.Ytohbpilokmppbaa.P
open Go.RowKit Go.Proofs.YtohbpilokmppbaaW.PrintWords Go.Proofs.YtohbpilokmppbaaW.PrintLast Go.Proofs.YtohbpilokmppbaaW.PrintMore Go.Proofs.Ytohbpilokmppbaa.Wp
set_option linter.unusedVariables false
set_option linter.unusedSimpArgs false
theorem w_sEqL (a b : List Int) (hl : a.length ≤ 1000000000) : Wp (fun k => spec_equalInts.f k a b) (fun r => r = decide (a = b)) := by
  unfold spec_equalInts.f
  refine Wp.ite (fun he => ?_) (fun he => Wp.ret ?_)
  · have key : ∀ d (i : Nat), i + d = a.length → (∀ j, j < i → a.getD j 0 = b.getD j 0) → Wp (fun k => spec_equalInts.l0 k a b i) (fun r => r = decide (a = b)) := by
      intro d
      induction d with
      | zero =>
        intro i hd h
        refine Wp.step (fun k => spec_equalInts.l0.eq_2 ..) (Wp.neg (by omega) (Wp.ret ?_))
        exact (decide_eq_true (bl_ext (by omega) fun j hj => h j (by omega))).symm
      | succ d ih =>
        intro i hd h
        refine Wp.step (fun k => spec_equalInts.l0.eq_2 ..) (Wp.pos (by omega) (Wp.pos (by omega) (Wp.pos (by omega) ?_)))
        rw [bl_rd, bl_rd]
        refine Wp.ite (fun h1 => ?_) (fun h1 => Wp.ret ?_)
        · rw [w64 (x := (i : Int) + 1) (by omega) (by omega)]
          refine ih (i + 1) (by omega) fun j hj => ?_
          by_cases e : j = i
          · rw [e]; exact h1
          · exact h j (by omega)
        · exact (decide_eq_false fun e => h1 (by rw [e])).symm
    exact key a.length 0 (by omega) (fun j hj => by omega)
  · exact (decide_eq_false fun e => he (by rw [e])).symm
theorem w_colorAt (xs : List (List Int)) (px : List Int) (hl : xs.length ≤ 1048576) (hy : ∀ y ∈ xs, y.length ≤ 1048576) :
    Wp (fun k => spec_colorAt.f k xs px) (fun r => (r < 0 ∧ (xs.any fun x => decide (x = px)) = false) ∨ (¬ r < 0 ∧ (xs.any fun x => decide (x = px)) = true)) := by
  unfold spec_colorAt.f
  have key : ∀ d (i : Nat), i + d = xs.length → (∀ j, j < i → ¬ xs.getD j [] = px) →
      Wp (fun k => spec_colorAt.l0 k xs px i) (fun r => (r < 0 ∧ (xs.any fun x => decide (x = px)) = false) ∨ (¬ r < 0 ∧ (xs.any fun x => decide (x = px)) = true)) := by
    intro d
    induction d with
    | zero =>
      intro i hd h
      refine Wp.step (fun k => spec_colorAt.l0.eq_2 ..) (Wp.neg (by omega) (Wp.ret (Or.inl ⟨by decide, ?_⟩)))
      rw [List.any_eq_false]
      intro x hx
      obtain ⟨j, hj, rfl⟩ := List.getElem_of_mem hx
      have := h j (by omega)
      simpa [List.getD_eq_getElem?_getD, List.getElem?_eq_getElem hj] using this
    | succ d ih =>
      intro i hd h
      refine Wp.step (fun k => spec_colorAt.l0.eq_2 ..) (Wp.pos (by omega) (Wp.pos (by omega) ?_))
      rw [ll_rd]
      refine Wp.call (w_sEqL _ _ (Nat.le_trans (hy _ (ll_mem xs i (by omega))) (by omega))) ?_
      rintro _ rfl
      refine Wp.ite (fun h1 => Wp.ret (Or.inr ⟨by omega, ?_⟩)) (fun h1 => ?_)
      · rw [List.any_eq_true]
        exact ⟨_, ll_mem xs i (by omega), h1⟩
      · rw [w64 (x := (i : Int) + 1) (by omega) (by omega)]
        refine ih (i + 1) (by omega) fun j hj => ?_
        by_cases e : j = i
        · rw [e]
          exact fun h2 => h1 (decide_eq_true h2)
        · exact h j (by omega)
  exact key xs.length 0 (by omega) (fun j hj => by omega)
def pxN (l : List Int) (p n : Nat) : List Int := (l.take (n * p + p)).drop (n * p)
def palN (l : List Int) (p : Nat) : Nat → List (List Int)
  | 0 => []
  | n + 1 => palAdd (palN l p n) (pxN l p n)
theorem pxN_len (l : List Int) (p n : Nat) : (pxN l p n).length ≤ p := by
  unfold pxN
  rw [List.length_drop, List.length_take]
  omega
theorem pxN_pix (l : List Int) (a p x y : Nat) : pixOf l a p x y = pxN l p (y * a + x) := by
  unfold pixOf pxN
  have e : ((y : Int) * a + x) * p = (((y * a + x) * p : Nat) : Int) := by rw [Int.natCast_mul (y * a + x) p, Int.natCast_add, Int.natCast_mul]
  rw [e, show (((y * a + x) * p : Nat) : Int) + (p : Int) = (((y * a + x) * p + p : Nat) : Int) by omega, Int.toNat_natCast, Int.toNat_natCast]
theorem palRow_N (l : List Int) (a p y : Nat) : ∀ x, palRow l a p y (palN l p (y * a)) x = palN l p (y * a + x)
  | 0 => rfl
  | x + 1 => by rw [palRow, palRow_N l a p y x, pxN_pix, ← Nat.add_assoc, palN]
theorem palAll_N (l : List Int) (a p : Nat) : ∀ y, palAll l a p y = palN l p (y * a)
  | 0 => by rw [palAll, Nat.zero_mul, palN]
  | y + 1 => by rw [palAll, palAll_N l a p y, Int.toNat_natCast, palRow_N, Nat.succ_mul]
theorem palN_mem (l : List Int) (p : Nat) : ∀ n, ∀ z ∈ palN l p n, ∃ i, i < n ∧ z = pxN l p i
  | 0, z, h => by simp [palN] at h
  | n + 1, z, h => by
    rw [palN, palAdd] at h
    split at h
    · obtain ⟨i, hi, e⟩ := palN_mem l p n z h
      exact ⟨i, by omega, e⟩
    · rcases List.mem_append.1 h with h | h
      · obtain ⟨i, hi, e⟩ := palN_mem l p n z h
        exact ⟨i, by omega, e⟩
      · rw [List.mem_singleton] at h
        exact ⟨n, by omega, h⟩
theorem palN_len (l : List Int) (p : Nat) : ∀ n, (palN l p n).length ≤ n
  | 0 => Nat.le_refl _
  | n + 1 => by
    have := palN_len l p n
    rw [palN, palAdd]
    split
    · omega
    · rw [List.length_append, List.length_singleton]; omega
theorem w_allColors (a b : Int) (p N : Nat) (l : List Int) (hp : p ≤ 4) (hN : N ≤ 256) (hp1 : 1 ≤ p) (hl : l.length = N * p) : Wp (fun k => spec_allColors.f k a b p l) (fun r => r = palN l p N) := by
  unfold spec_allColors.f
  have hlb : l.length ≤ 256 * 4 := hl ▸ Nat.mul_le_mul hN hp
  have key : ∀ d (n : Nat), n + d = N → Wp (fun k => spec_allColors.l0 k (palN l p n) ((n * p : Nat) : Int) a b p l) (fun r => r = palN l p N) := by
    intro d
    induction d with
    | zero =>
      intro n hd
      have : n = N := by omega
      subst this
      exact Wp.step (fun k => spec_allColors.l0.eq_2 ..) (Wp.neg (by omega) (Wp.ret rfl))
    | succ d ih =>
      intro n hd
      have h1 : (n + 1) * p ≤ N * p := Nat.mul_le_mul_right p (by omega)
      have ih := ih (n + 1) (by omega)
      rw [palN] at ih
      rw [Nat.succ_mul] at h1 ih
      refine Wp.step (fun k => spec_allColors.l0.eq_2 ..) ?_
      rw [w64 (x := ((n * p : Nat) : Int) + (p : Int)) (by omega) (by omega), show ((n * p : Nat) : Int) + (p : Int) = ((n * p + p : Nat) : Int) by omega, Int.toNat_natCast, Int.toNat_natCast]
      refine Wp.pos (by omega) (Wp.pos (by omega) (Wp.pos (by omega) (Wp.pos (by omega) ?_)))
      show Wp (fun k => (spec_copyInts.f (pxN l p n)).bind _) _
      refine Wp.call (w_copyInts _ (Nat.le_trans (pxN_len l p n) (by omega))) ?_
      rintro _ rfl
      have hc := palN_len l p n
      refine Wp.call (w_colorAt (palN l p n) (pxN l p n) (by omega) (fun y hy => ?_)) ?_
      · obtain ⟨i, _, rfl⟩ := palN_mem l p n y hy
        exact Nat.le_trans (pxN_len l p i) (by omega)
      rintro r hr
      refine Wp.ite (fun h => Wp.pos (by omega) ?_) (fun h => ?_)
      · have e : palAdd (palN l p n) (pxN l p n) = palN l p n ++ [pxN l p n] := by
          unfold palAdd
          rw [if_neg]
          rcases hr with ⟨_, h2⟩ | ⟨h2, _⟩
          · rw [h2]; decide
          · exact absurd h h2
        rw [e] at ih
        exact ih
      · have e : palAdd (palN l p n) (pxN l p n) = palN l p n := by
          unfold palAdd
          rw [if_pos]
          rcases hr with ⟨h2, _⟩ | ⟨_, h2⟩
          · exact absurd h2 h
          · exact h2
        rw [e] at ih
        exact ih
  have := key N 0 (by omega)
  rw [Nat.zero_mul] at this
  exact this
theorem w_sPal (a b c : Int) (l : List Int) (hl : l.length ≤ 1000000000) : Wp (fun k => spec_PaletteOf.f k a b c l) (fun r => r = palI a b c l) := by
  unfold spec_PaletteOf.f palI
  refine Wp.call (w_sImage a b c l hl) ?_
  rintro _ rfl
  refine Wp.ite (fun hi => ?_) (fun hi => Wp.ret (by rw [if_neg hi]))
  rw [if_pos hi]
  obtain ⟨a', b', p, rfl, rfl, rfl, ha, hb, hp, hlen, _⟩ := img_nat hi
  have hN : b' * a' ≤ 16 * 16 := Nat.mul_le_mul (by omega) (by omega)
  rw [Int.toNat_natCast, palAll_N]
  refine Wp.call (w_allColors a' b' p (b' * a') l (by omega) (by omega) (by omega) hlen) ?_
  rintro _ rfl
  refine Wp.ite (fun h => Wp.ret (by rw [if_pos (by omega)])) (fun h => ?_)
  rw [if_neg (by omega)]
  refine Wp.call (w_allColors a' b' p (b' * a') l (by omega) (by omega) (by omega) hlen) ?_
  rintro _ rfl
  exact Wp.ret rfl
end Go.Proofs.Ytohbpilokmppbaa.P
namespace Go.Proofs.Ytohbpilokmppbaa.P
open Go.RowKit Go.Proofs.YtohbpilokmppbaaW.PrintWords Go.Proofs.YtohbpilokmppbaaW.PrintLast Go.Proofs.YtohbpilokmppbaaW.PrintMore Go.Proofs.Ytohbpilokmppbaa.Wp
set_option linter.unusedVariables false
set_option linter.unusedSimpArgs false
theorem pxN_B {l : List Int} {p n N : Nat} (hB : ∀ v ∈ l, 0 ≤ v ∧ v ≤ 255) (hl : l.length = N * p) (hn : n < N) : (pxN l p n).length = p ∧ ∀ v ∈ pxN l p n, 0 ≤ v ∧ v ≤ 255 := by
  have h1 : (n + 1) * p ≤ N * p := Nat.mul_le_mul_right p (by omega)
  rw [Nat.succ_mul] at h1
  refine ⟨?_, fun v hv => hB v (List.mem_of_mem_take (List.mem_of_mem_drop hv))⟩
  unfold pxN
  rw [List.length_drop, List.length_take]
  omega
theorem w_sIdx (a b c : Int) (l : List Int) (L : List (List Int)) (hl : l.length ≤ 1000000000) (hS : Small L) : Wp (fun k => spec_IndexImage.f k a b c l L) (fun r => r = idxI a b c l L) := by
  have bad : ∀ (P : Int × Int × Int × List Int × Bool → Prop), P (0, 0, 0, [], false) → Wp (fun k => spec_IndexImage.j0 k L true a b c l) P := fun P h => Wp.step (fun k => spec_IndexImage.j0.eq_2 ..) (Wp.pos rfl (Wp.ret h))
  unfold spec_IndexImage.f idxI
  refine Wp.call (w_sImage a b c l hl) ?_
  rintro _ rfl
  refine Wp.ite (fun hi => ?_) (fun hi => bad _ (by rw [if_neg fun h => hi h.1]))
  refine Wp.call (w_validColors L c hS) ?_
  rintro _ rfl
  refine Wp.ite (fun hp => ?_) (fun hp => bad _ (by rw [if_neg fun h => hp (by have h2 := h.2; rw [Bool.and_eq_true] at h2; exact h2.2)]))
  by_cases h0 : L.length = 0
  · rw [show ((L.length : Int) == 0) = true by rw [h0]; rfl]
    refine bad _ ?_
    rw [if_neg fun h => ?_]
    have h2 := h.2
    rw [Bool.and_eq_true, decide_eq_true_eq] at h2
    omega
  rw [show ((L.length : Int) == 0) = false by rw [beq_eq_false_iff_ne]; omega]
  refine Wp.step (fun k => spec_IndexImage.j0.eq_2 ..) (Wp.neg (by decide) ?_)
  have hi2 := hi
  obtain ⟨a', b', p, rfl, rfl, rfl, ha, hb, hpp, hlen, hB⟩ := img_nat hi
  have hL := palB_ok hp
  rw [if_pos ⟨hi2, by rw [hp, Bool.and_true]; exact decide_eq_true (by omega)⟩]
  have hN : b' * a' ≤ 16 * 16 := Nat.mul_le_mul (by omega) (by omega)
  refine Wp.call (w_newImage a' b' 1 (by omega) (by omega) (by omega)) ?_
  rintro _ rfl
  dsimp only
  rw [Int.mul_one, show (a' : Int) * b' = ((b' * a' : Nat) : Int) by rw [Int.natCast_mul, Int.mul_comm], Int.toNat_natCast, Int.toNat_natCast, Int.toNat_natCast, Int.toNat_natCast,
    img_fm (fun x y => [((nrC L (pixOf l a' p x y) p L.length : Nat) : Int)]) (fun t => [((nrC L (pxN l p t) p L.length : Nat) : Int)]) a' b' (fun i j _ _ => by show [_] = [_]; rw [pxN_pix])]
  generalize b' * a' = N at hN hlen ⊢
  have hlb : l.length ≤ 256 * 4 := hlen ▸ Nat.mul_le_mul hN hpp.2
  have key : ∀ (d i : Nat) (x : List Int), i + d = N → x.length = N → (∀ j, j < i → x.getD j 0 = ((nrC L (pxN l p j) p L.length : Nat) : Int)) →
      Wp (fun k => spec_IndexImage.l0 k L i a' b' p l a' b' 1 x) (fun r => r = ((a' : Int), (b' : Int), 1, (List.range N).flatMap (fun t => [((nrC L (pxN l p t) p L.length : Nat) : Int)]), true)) := by
    intro d
    induction d with
    | zero =>
      intro i x hd hx h
      refine Wp.step (fun k => spec_IndexImage.l0.eq_2 ..) (Wp.neg (by omega) (Wp.ret ?_))
      have hfl := fm_len (fun t => [((nrC L (pxN l p t) p L.length : Nat) : Int)]) N 1 (fun _ _ => rfl)
      rw [show x = (List.range N).flatMap (fun t => [((nrC L (pxN l p t) p L.length : Nat) : Int)]) from bl_ext (by omega) fun j hj => ?_]
      have h2 := fm_get (fun t => [((nrC L (pxN l p t) p L.length : Nat) : Int)]) N 1 j 0 (fun _ _ => rfl) (by omega) (by omega)
      rw [Nat.mul_one, Nat.add_zero] at h2
      rw [h j (by omega), h2]
      rfl
    | succ d ih =>
      intro i x hd hx h
      have h1 : (i + 1) * p ≤ N * p := Nat.mul_le_mul_right p (by omega)
      have hq := pxN_B hB hlen (show i < N by omega)
      rw [Nat.succ_mul] at h1
      refine Wp.step (fun k => spec_IndexImage.l0.eq_2 ..) (Wp.pos (by omega) ?_)
      rw [w64 (x := (i : Int) + 1) (by omega) (by omega), show (i : Int) * p = ((i * p : Nat) : Int) by rw [Int.natCast_mul], show ((i : Int) + 1) * p = ((i * p + p : Nat) : Int) by rw [Int.add_mul, Int.natCast_add, Int.natCast_mul, Int.one_mul],
        w64 (x := ((i * p : Nat) : Int)) (by omega) (by omega), w64 (x := ((i * p + p : Nat) : Int)) (by omega) (by omega), Int.toNat_natCast, Int.toNat_natCast, Int.toNat_natCast]
      refine Wp.pos (by omega) (Wp.pos (by omega) (Wp.pos (by omega) ?_))
      show Wp (fun k => (spec_nearest.f k L (pxN l p i)).bind _) _
      refine Wp.call (w_sNearest L (pxN l p i) p (by omega) hL (by omega) hq.1 hq.2) ?_
      rintro _ rfl
      refine Wp.pos (by omega) ?_
      refine ih (i + 1) _ (by omega) (by rw [List.length_set]; exact hx) fun j hj => ?_
      rw [bl_set _ _ (by omega)]
      split
      · rename_i e; rw [e]
      · exact h j (by omega)
  exact key N 0 _ (by omega) (by simp) (fun j hj => by omega)
end Go.Proofs.Ytohbpilokmppbaa.P
namespace Go.Proofs.Ytohbpilokmppbaa.P
open Go.RowKit Go.Proofs.YtohbpilokmppbaaW.PrintWords Go.Proofs.YtohbpilokmppbaaW.PrintLast Go.Proofs.YtohbpilokmppbaaW.PrintMore Go.Proofs.Ytohbpilokmppbaa.Wp
set_option linter.unusedVariables false
theorem rd_mem (l : List Int) (i : Int) (h0 : 0 ≤ i) (h1 : i < (l.length : Int)) : rd l i ∈ l := by
  unfold rd
  rw [List.getD_eq_getElem?_getD, List.getElem?_eq_getElem (by omega)]
  exact List.getElem_mem _
theorem rd_le {l : List Int} {a b : Int} (h : ∀ x ∈ l, a ≤ x ∧ x ≤ b) (i : Int) (h0 : 0 ≤ i) (h1 : i < (l.length : Int)) : a ≤ rd l i ∧ rd l i ≤ b := h _ (rd_mem l i h0 h1)
def Rdr (b : List Int) (p : Int) : Prop := (∀ x ∈ b, 0 ≤ x ∧ x ≤ 255) ∧ b.length ≤ 2000 ∧ 0 ≤ p ∧ p ≤ 1000000
theorem tmod_range (x n : Int) (hx : 0 ≤ x) (hn : 0 < n) : 0 ≤ Int.tmod x n ∧ Int.tmod x n < n := by
  rw [Int.tmod_eq_emod_of_nonneg hx]
  exact ⟨Int.emod_nonneg _ (by omega), Int.emod_lt_of_pos _ hn⟩
theorem bits_xor_nonneg (x y : Int) (hx : 0 ≤ x) (hx2 : x ≤ 1000000000000) (hy : 0 ≤ y) (hy2 : y ≤ 1000000000000) : 0 ≤ Go.bits .xor .i64 x y := by
  obtain ⟨a, rfl⟩ := Int.eq_ofNat_of_zero_le hx
  obtain ⟨b, rfl⟩ := Int.eq_ofNat_of_zero_le hy
  have ha : a < 2 ^ 62 := by omega
  have hb : b < 2 ^ 62 := by omega
  have ha' : a % 2 ^ 64 = a := Nat.mod_eq_of_lt (by omega)
  have hb' : b % 2 ^ 64 = b := Nat.mod_eq_of_lt (by omega)
  have hc : a ^^^ b < 2 ^ 62 := Nat.xor_lt_two_pow ha hb
  have hw : IntKind.i64.wrap ((a ^^^ b : Nat) : Int) = ((a ^^^ b : Nat) : Int) := by
    have h64 : IntKind.i64.wrap ((a ^^^ b : Nat) : Int) = wrap64 ((a ^^^ b : Nat) : Int) := i64_w _
    rw [h64, w64 (by omega) (by omega)]
  have he : Go.bits .xor .i64 (a : Int) (b : Int) = ((a ^^^ b : Nat) : Int) := by
    have hbits : IntKind.i64.bits = 64 := rfl
    simp only [Go.bits, BitVec.ofInt_natCast, BitVec.toNat_xor, BitVec.toNat_ofNat, hbits, ha', hb', hw]
  rw [he]
  exact Int.natCast_nonneg _
theorem w_newReader (l : List Int) (hb : ∀ x ∈ l, (Lit.int .u8 x).wf = true) : Wp (fun _ => spec_newReader.f l) (fun r => Rdr r.1 r.2 ∧ r.2 = 0) := by
  have hb' : ∀ x ∈ l, 0 ≤ x ∧ x ≤ 255 := fun x hx => by
    have h := hb x hx
    simp only [Lit.wf, Bool.and_eq_true, decide_eq_true_eq] at h
    have h0 : IntKind.u8.min = 0 := rfl
    have h1 : IntKind.u8.max = 255 := rfl
    omega
  unfold spec_newReader.f
  refine Wp.ite (fun h => Wp.pos (by omega) (Wp.ret ?_)) (fun h => Wp.ret ?_)
  · exact ⟨⟨fun x hx => hb' x (List.mem_of_mem_take hx), by show (l.take 2000).length ≤ 2000; rw [List.length_take]; omega, Int.le_refl _, by show (0 : Int) ≤ 1000000; omega⟩, rfl⟩
  · exact ⟨⟨hb', by show l.length ≤ 2000; omega, Int.le_refl _, by show (0 : Int) ≤ 1000000; omega⟩, rfl⟩
theorem w_pick (b : List Int) (p n : Int) (h : Rdr b p) (hp : p < 1000000) (hn : n ≤ 1000000000000) :
    Wp (fun k => spec_reader_pick.f k b p n) (fun r => ∃ x, r = (x, p + 1) ∧ 0 ≤ x ∧ (1 ≤ n → x < n) ∧ (n < 1 → x = 0)) := by
  obtain ⟨hb, hl, h0, h1⟩ := h
  unfold spec_reader_pick.f
  rw [w64 (x := p + 1) (by omega) (by omega)]
  refine Wp.ite (fun hn1 => ?_) (fun hn1 => ?_)
  · refine Wp.step (fun k => spec_reader_pick.j0.eq_2 ..) (Wp.pos rfl (Wp.ret ?_))
    exact ⟨0, rfl, by omega, by omega, fun _ => rfl⟩
  · refine Wp.step (fun k => spec_reader_pick.j0.eq_2 ..) ?_
    rw [show p + 1 - 1 = p by omega, w64 (x := p) (by omega) (by omega)]
    refine Wp.ite (fun hz => Wp.ret ?_) (fun hz => ?_)
    · exact ⟨0, rfl, by omega, by omega, by omega⟩
    · have hpos : 0 < (b.length : Int) := by
        have : ¬ (b.length : Int) = 0 := by simpa using hz
        omega
      refine Wp.ite (fun hlt => ?_) (fun hge => ?_)
      · refine Wp.pos h0 (Wp.neg (by omega) (Wp.ret ?_))
        have hr := rd_le hb p h0 hlt
        rw [w64 (x := rd b p) (by omega) (by omega)]
        have := tmod_range (rd b p) n hr.1 (by omega)
        exact ⟨_, rfl, this.1, fun _ => this.2, by omega⟩
      · refine Wp.neg (by omega) ?_
        have t1 := tmod_range p b.length h0 hpos
        refine Wp.pos t1.1 (Wp.pos t1.2 ?_)
        rw [w64 (x := p * 7) (by omega) (by omega), w64 (x := p * 7 + 3) (by omega) (by omega)]
        have t2 := tmod_range (p * 7 + 3) b.length (by omega) hpos
        refine Wp.pos t2.1 (Wp.pos t2.2 (Wp.neg (by omega) (Wp.ret ?_)))
        have r1 := rd_le hb _ t1.1 t1.2
        have r2 := rd_le hb _ t2.1 t2.2
        generalize rd b (Int.tmod p b.length) = u at r1 ⊢
        generalize rd b (Int.tmod (p * 7 + 3) b.length) = v at r2 ⊢
        have hd : 0 ≤ Int.tdiv p b.length ∧ Int.tdiv p b.length ≤ p := by
          rw [Int.tdiv_eq_ediv_of_nonneg h0]
          exact ⟨Int.ediv_nonneg h0 (by omega), Int.ediv_le_self _ h0⟩
        generalize Int.tdiv p b.length = d at hd ⊢
        rw [w64 (x := u) (by omega) (by omega), w64 (x := u * 131) (by omega) (by omega), w64 (x := v) (by omega) (by omega), w64 (x := v * 1117) (by omega) (by omega),
          w64 (x := u * 131 + v * 1117) (by omega) (by omega), w64 (x := p * 29) (by omega) (by omega), w64 (x := u * 131 + v * 1117 + p * 29) (by omega) (by omega),
          w64 (x := d) (by omega) (by omega), w64 (x := d * 53) (by omega) (by omega), w64 (x := u * 131 + v * 1117 + p * 29 + d * 53) (by omega) (by omega)]
        have hs : 0 ≤ u * 131 + v * 1117 + p * 29 + d * 53 ∧ u * 131 + v * 1117 + p * 29 + d * 53 ≤ 1000000000 := by omega
        generalize u * 131 + v * 1117 + p * 29 + d * 53 = s at hs ⊢
        have hq : 0 ≤ Int.tdiv s 64 ∧ Int.tdiv s 64 ≤ s := by
          rw [Int.tdiv_eq_ediv_of_nonneg hs.1]
          exact ⟨Int.ediv_nonneg hs.1 (by omega), Int.ediv_le_self _ hs.1⟩
        rw [w64 (x := Int.tdiv s 64) (by omega) (by omega)]
        have hx := bits_xor_nonneg s (Int.tdiv s 64) hs.1 (by omega) hq.1 (by omega)
        have := tmod_range _ n hx (by omega)
        exact ⟨_, rfl, this.1, fun _ => this.2, by omega⟩
theorem Rdr.up {b : List Int} {p q : Int} (h : Rdr b p) (h1 : p ≤ q) (h2 : q ≤ 1000000) : Rdr b q := ⟨h.1, h.2.1, by have := h.2.2.1; omega, h2⟩
theorem w_one (b : List Int) (p : Int) (l : List Int) (h : Rdr b p) (hp : p < 1000000) (hl : 0 < l.length) (hl2 : l.length ≤ 1000) :
    Wp (fun k => spec_reader_one.f k b p l) (fun r => ∃ x, r = (x, p + 1) ∧ x ∈ l) := by
  unfold spec_reader_one.f
  refine Wp.call (w_pick b p l.length h hp (by omega)) ?_
  rintro _ ⟨x, rfl, h0, h1, _⟩
  have h1 := h1 (by omega)
  exact Wp.pos h0 (Wp.pos h1 (Wp.ret ⟨_, rfl, rd_mem l x h0 h1⟩))
end Go.Proofs.Ytohbpilokmppbaa.P
namespace Go.Proofs.Ytohbpilokmppbaa.P
open Go.RowKit Go.Proofs.YtohbpilokmppbaaW.PrintWords Go.Proofs.YtohbpilokmppbaaW.PrintLast Go.Proofs.YtohbpilokmppbaaW.PrintMore Go.Proofs.Ytohbpilokmppbaa.Wp
set_option linter.unusedVariables false
set_option linter.unusedSimpArgs false
theorem w_spoil (b : List Int) (p : Int) (l : List Int) (n : Int) (h : Rdr b p) (hp : p ≤ 999900) (hl : l.length ≤ 1000000) :
    Wp (fun k => spec_reader_spoil.f k b p l n) (fun r => r.1.length ≤ l.length + 1 ∧ p ≤ r.2 ∧ r.2 ≤ p + 3) := by
  unfold spec_reader_spoil.f
  refine Wp.call (w_copyInts l (by omega)) ?_
  rintro _ rfl
  refine Wp.call (w_pick b p 20 h (by omega) (by omega)) ?_
  rintro _ ⟨x, rfl, x0, x1, _⟩
  have h1 := h.up (q := p + 1) (by omega) (by omega)
  refine Wp.ite (fun _ => Wp.pos (by omega) (Wp.ret ⟨by first | (simp; done) | (simp; omega), by first | (simp; done) | (simp; omega), by first | (simp; done) | (simp; omega)⟩)) (fun _ => ?_)
  refine Wp.ite (fun _ => Wp.ite (fun _ => Wp.pos (by omega) (Wp.ret ⟨by first | (simp; done) | (simp; omega), by first | (simp; done) | (simp; omega), by first | (simp; done) | (simp; omega)⟩)) (fun _ => Wp.ret ⟨by first | (simp; done) | (simp; omega), by first | (simp; done) | (simp; omega), by first | (simp; done) | (simp; omega)⟩)) (fun _ => ?_)
  refine Wp.ite (fun _ => Wp.ite (fun hg => ?_) (fun _ => Wp.ret ⟨by first | (simp; done) | (simp; omega), by first | (simp; done) | (simp; omega), by first | (simp; done) | (simp; omega)⟩)) (fun _ => Wp.ret ⟨by first | (simp; done) | (simp; omega), by first | (simp; done) | (simp; omega), by first | (simp; done) | (simp; omega)⟩)
  refine Wp.call (w_pick b _ _ h1 (by omega) (by omega)) ?_
  rintro _ ⟨y, rfl, y0, y1, _⟩
  have y1 := y1 (by omega)
  have h2 := h.up (q := p + 1 + 1) (by omega) (by omega)
  refine Wp.call (w_one b _ _ h2 (by omega) (by simp) (by simp)) ?_
  rintro _ ⟨z, rfl, hz⟩
  exact Wp.pos y0 (Wp.pos y1 (Wp.ret ⟨by first | (simp; done) | (simp; omega), by first | (simp; done) | (simp; omega), by first | (simp; done) | (simp; omega)⟩))
end Go.Proofs.Ytohbpilokmppbaa.P
namespace Go.Proofs.Ytohbpilokmppbaa.P
open Go.RowKit Go.Proofs.YtohbpilokmppbaaW.PrintWords Go.Proofs.YtohbpilokmppbaaW.PrintLast Go.Proofs.YtohbpilokmppbaaW.PrintMore Go.Proofs.Ytohbpilokmppbaa.Wp
set_option linter.unusedVariables false
set_option linter.unusedSimpArgs false
theorem w_anyPixel (b : List Int) (p n : Int) (h : Rdr b p) (hp : p ≤ 999000) (hn0 : 0 ≤ n) (hn : n ≤ 100) : Wp (fun k => spec_anyPixel.f k b p n) (fun r => r.1.length ≤ n.toNat + 1 ∧ p ≤ r.2 ∧ r.2 ≤ p + n + 3) := by
  unfold spec_anyPixel.f
  have key : ∀ (d i : Nat) (x : List Int) (q : Int), i + d = n.toNat → x.length = i → q = p + i → Wp (fun k => spec_anyPixel.l0 k n x i b q) (fun r => r.1.length ≤ n.toNat + 1 ∧ p ≤ r.2 ∧ r.2 ≤ p + n + 3) := by
    intro d
    induction d with
    | zero =>
      intro i x q hd hx hq
      refine Wp.step (fun k => spec_anyPixel.l0.eq_2 ..) (Wp.neg (by omega) ?_)
      refine Wp.call (w_spoil b q x 256 (h.up (by omega) (by omega)) (by omega) (by omega)) ?_
      rintro ⟨y, q'⟩ ⟨a1, a2, a3⟩
      simp only at a1 a2 a3
      exact Wp.ret ⟨by simp only; omega, by simp only; omega, by simp only; omega⟩
    | succ d ih =>
      intro i x q hd hx hq
      refine Wp.step (fun k => spec_anyPixel.l0.eq_2 ..) (Wp.pos (by omega) ?_)
      refine Wp.call (w_pick b q 256 (h.up (by omega) (by omega)) (by omega) (by omega)) ?_
      rintro _ ⟨u, rfl, u0, u1, _⟩
      refine Wp.pos (by omega) ?_
      rw [w64 (x := (i : Int) + 1) (by omega) (by omega)]
      exact ih (i + 1) _ _ (by omega) (by simp [hx]) (by simp only; omega)
  exact key n.toNat 0 [] p (by omega) rfl (by simp)
end Go.Proofs.Ytohbpilokmppbaa.P
namespace Go.Proofs.Ytohbpilokmppbaa.P
open Go.RowKit Go.Proofs.YtohbpilokmppbaaW.PrintWords Go.Proofs.YtohbpilokmppbaaW.PrintLast Go.Proofs.YtohbpilokmppbaaW.PrintMore Go.Proofs.Ytohbpilokmppbaa.Wp
set_option linter.unusedVariables false
set_option linter.unusedSimpArgs false
def FewC (L : List (List Int)) : Prop := L.length ≤ 17 ∧ ∀ y ∈ L, y.length ≤ 20
theorem w_anyColors (b : List Int) (q n : Int) (h : Rdr b q) (hq : q ≤ 900000) (hn : 0 ≤ n ∧ n ≤ 10) : Wp (fun k => spec_anyColors.f k b q n) (fun r => FewC r.1 ∧ q ≤ r.2 ∧ r.2 ≤ q + 1000) := by
  unfold spec_anyColors.f
  have last : ∀ (L : List (List Int)) (t : Bool) (p : Int), FewC L → (t = true → 0 < L.length) → q ≤ p → p ≤ q + 300 → Wp (fun k => spec_anyColors.j2 k n L t b p) (fun r => FewC r.1 ∧ q ≤ r.2 ∧ r.2 ≤ q + 1000) := by
    intro L t p hL ht p0 p1
    refine Wp.step (fun k => spec_anyColors.j2.eq_2 ..) (Wp.ite (fun h1 => ?_) (fun _ => Wp.ret ⟨hL, by simp only; omega, by simp only; omega⟩))
    have hl := ht h1
    refine Wp.call (w_pick b p 2 (h.up p0 (by omega)) (by omega) (by omega)) ?_
    rintro _ ⟨x, rfl, x0, x1, _⟩
    have x1 := x1 (by omega)
    simp only
    rw [w64 (x := n + x) (by omega) (by omega)]
    refine Wp.call (w_anyPixel b (p + 1) (n + x) (h.up (by omega) (by omega)) (by omega) (by omega) (by omega)) ?_
    rintro ⟨y, p'⟩ ⟨y0, y1, y2⟩
    simp only at y0 y1 y2
    refine Wp.pos (by omega) (Wp.ret ⟨⟨by simp only [List.length_set]; exact hL.1, fun z hz => ?_⟩, by simp only; omega, by simp only; omega⟩)
    rcases List.mem_or_eq_of_mem_set hz with h2 | h2
    · exact hL.2 z h2
    · rw [h2]; show y.length ≤ 20; omega
  have key : ∀ (m : Nat) (L : List (List Int)) (p : Int), L.length + m ≤ 17 → (∀ y ∈ L, y.length ≤ 20) → q + 1 ≤ p → p + 10 * m ≤ q + 171 → Wp (fun k => spec_anyColors.l0 k n L m b p) (fun r => FewC r.1 ∧ q ≤ r.2 ∧ r.2 ≤ q + 1000) := by
    intro m
    induction m with
    | zero =>
      intro L p hL hy p0 p1
      refine Wp.step (fun k => spec_anyColors.l0.eq_2 ..) (Wp.neg (by omega) (Wp.ite (fun h1 => ?_) (fun h1 => ?_)))
      · refine Wp.call (w_pick b p 20 (h.up (by omega) (by omega)) (by omega) (by omega)) ?_
        rintro _ ⟨x, rfl, _⟩
        exact last L _ _ ⟨by omega, hy⟩ (fun _ => by omega) (by omega) (by omega)
      · exact last L _ _ ⟨by omega, hy⟩ (fun h2 => absurd h2 (by decide)) (by omega) (by omega)
    | succ m ih =>
      intro L p hL hy p0 p1
      have inner : ∀ (d i : Nat) (x : List Int) (p' : Int), i + d = n.toNat → x.length = i → p' = p + i → Wp (fun k => spec_anyColors.l1 k n L ((m + 1 : Nat) : Int) x i b p') (fun r => FewC r.1 ∧ q ≤ r.2 ∧ r.2 ≤ q + 1000) := by
        intro d
        induction d with
        | zero =>
          intro i x p' hd hx hp
          refine Wp.step (fun k => spec_anyColors.l1.eq_2 ..) (Wp.neg (by omega) (Wp.pos (by omega) ?_))
          rw [w64 (x := ((m + 1 : Nat) : Int) - 1) (by omega) (by omega), show ((m + 1 : Nat) : Int) - 1 = (m : Int) by omega]
          refine ih _ _ (by rw [List.length_append, List.length_singleton]; omega) (fun y hy2 => ?_) (by omega) (by omega)
          rcases List.mem_append.1 hy2 with h2 | h2
          · exact hy y h2
          · rw [List.mem_singleton] at h2
            rw [h2]; omega
        | succ d ih2 =>
          intro i x p' hd hx hp
          refine Wp.step (fun k => spec_anyColors.l1.eq_2 ..) (Wp.pos (by omega) ?_)
          refine Wp.call (w_pick b p' 5 (h.up (by omega) (by omega)) (by omega) (by omega)) ?_
          rintro _ ⟨v, rfl, _⟩
          simp only
          refine Wp.pos (by omega) ?_
          rw [w64 (x := (i : Int) + 1) (by omega) (by omega)]
          exact ih2 (i + 1) _ _ (by omega) (by rw [List.length_append, List.length_singleton]; omega) (by omega)
      refine Wp.step (fun k => spec_anyColors.l0.eq_2 ..) (Wp.pos (by omega) ?_)
      exact inner n.toNat 0 [] p (by omega) rfl (by omega)
  refine Wp.call (w_one b q _ h (by omega) (by simp) (by simp)) ?_
  rintro _ ⟨x, rfl, hx⟩
  simp only [List.mem_cons, List.not_mem_nil, or_false] at hx
  simp only
  obtain ⟨m, rfl⟩ := Int.eq_ofNat_of_zero_le (show 0 ≤ x by omega)
  exact key m [] _ (by simp only [List.length_nil]; omega) (fun y hy => by simp at hy) (by omega) (by omega)
end Go.Proofs.Ytohbpilokmppbaa.P
namespace Go.Proofs.Ytohbpilokmppbaa.P
open Go.RowKit Go.Proofs.YtohbpilokmppbaaW.PrintWords Go.Proofs.YtohbpilokmppbaaW.PrintLast Go.Proofs.YtohbpilokmppbaaW.PrintMore Go.Proofs.Ytohbpilokmppbaa.Wp
set_option linter.unusedVariables false
set_option linter.unusedSimpArgs false
theorem allB_set {l : List Int} (h : ∀ x ∈ l, 0 ≤ x ∧ x ≤ 255) (i : Nat) (v : Int) (hv : 0 ≤ v ∧ v ≤ 255) : ∀ x ∈ l.set i v, 0 ≤ x ∧ x ≤ 255 := fun x hx => by
  rcases List.mem_or_eq_of_mem_set hx with h1 | h1
  · exact h x h1
  · rw [h1]; exact hv
def Rnd (p : Int) (r : Int × Int × Int × List Int × Int) (q : Int) : Prop :=
  (1 ≤ r.1 ∧ r.1 ≤ 8) ∧ (1 ≤ r.2.1 ∧ r.2.1 ≤ 8) ∧ r.2.2.1 = p ∧ (r.2.2.2.1.length : Int) = r.1 * r.2.1 * p ∧ (∀ x ∈ r.2.2.2.1, 0 ≤ x ∧ x ≤ 255) ∧ q ≤ r.2.2.2.2 ∧ r.2.2.2.2 ≤ q + 300
theorem prod_le {a b c : Int} (h0 : 1 ≤ a ∧ a ≤ 8) (h1 : 1 ≤ b ∧ b ≤ 8) (h2 : 1 ≤ c ∧ c ≤ 4) : 1 ≤ a * b ∧ a * b ≤ 64 ∧ 1 ≤ a * b * c ∧ a * b * c ≤ 256 := by
  have m1 : 1 * 1 ≤ a * b := Int.mul_le_mul h0.1 h1.1 (by omega) (by omega)
  have m2 : a * b ≤ 8 * 8 := Int.mul_le_mul h0.2 h1.2 (by omega) (by omega)
  have m3 : 1 * 1 ≤ a * b * c := Int.mul_le_mul (by omega) h2.1 (by omega) (by omega)
  have m4 : a * b * c ≤ 64 * 4 := Int.mul_le_mul (by omega) h2.2 (by omega) (by omega)
  omega
theorem w_randomImage (b : List Int) (q p : Int) (h : Rdr b q) (hq : q ≤ 900000) (hp : 1 ≤ p ∧ p ≤ 4) : Wp (fun k => spec_randomImage.f k b q p) (fun r => Rnd p r q) := by
  unfold spec_randomImage.f
  refine Wp.call (w_one b q _ h (by omega) (by simp) (by simp)) ?_
  rintro _ ⟨sx, rfl, hsx⟩
  have hsx : 1 ≤ sx ∧ sx ≤ 8 := by simp only [List.mem_cons, List.not_mem_nil, or_false] at hsx; omega
  refine Wp.call (w_one b _ _ (h.up (by first | omega | (simp only; omega)) (by first | omega | (simp only; omega))) (by first | omega | (simp only; omega)) (by simp) (by simp)) ?_
  rintro _ ⟨sy, rfl, hsy⟩
  have hsy : 1 ≤ sy ∧ sy ≤ 8 := by simp only [List.mem_cons, List.not_mem_nil, or_false] at hsy; omega
  refine Wp.call (w_newImage sx sy p (by omega) (by omega) (by omega)) ?_
  rintro _ rfl
  refine Wp.call (w_pick b _ 4 (h.up (by first | omega | (simp only; omega)) (by first | omega | (simp only; omega))) (by first | omega | (simp only; omega)) (by omega)) ?_
  rintro _ ⟨md, rfl, md0, md1, _⟩
  refine Wp.call (w_pick b _ 256 (h.up (by first | omega | (simp only; omega)) (by first | omega | (simp only; omega))) (by first | omega | (simp only; omega)) (by omega)) ?_
  rintro _ ⟨v, rfl, v0, v1, _⟩
  have v1 := v1 (by omega)
  have hP := prod_le hsx hsy hp
  generalize hL : (sx * sy * p).toNat = L
  have hlen : (List.replicate L (0 : Int)).length = L := by simp
  have hbs : ∀ x ∈ List.replicate L (0 : Int), 0 ≤ x ∧ x ≤ 255 := fun x hx => by rw [List.eq_of_mem_replicate hx]; omega
  dsimp only
  generalize List.replicate L (0 : Int) = l at hlen hbs
  have key : ∀ (d i : Nat) (l : List Int) (v r : Int), i + d = L → l.length = L → (∀ x ∈ l, 0 ≤ x ∧ x ≤ 255) → 0 ≤ v → v < 256 → q ≤ r → r ≤ q + 4 + i → Wp (fun k => spec_randomImage.l0 k md v i b r sx sy p l) (fun r => Rnd p r q) := by
    intro d
    induction d with
    | zero =>
      intro i l v r hd hl hb hv hv1 hr hr1
      refine Wp.step (fun k => spec_randomImage.l0.eq_2 ..) (Wp.neg (by omega) (Wp.ret ?_))
      exact ⟨hsx, hsy, rfl, by first | omega | (simp only; omega), hb, hr, by first | omega | (simp only; omega)⟩
    | succ d ih =>
      intro i l v r hd hl hb hv hv1 hr hr1
      have hR : Rdr b r := h.up hr (by omega)
      have next : ∀ (v' r' : Int), 0 ≤ v' → v' < 256 → q ≤ r' → r' ≤ q + 4 + (i + 1 : Nat) → Wp (fun k => spec_randomImage.l0 k md v' (wrap64 ((i : Int) + 1)) b r' sx sy p (l.set (i : Int).toNat v')) (fun r => Rnd p r q) := by
        intro v' r' h1 h2 h3 h4
        rw [w64 (x := (i : Int) + 1) (by omega) (by omega)]
        exact ih (i + 1) _ v' r' (by omega) (by rw [List.length_set]; exact hl) (allB_set hb _ _ (by omega)) h1 h2 h3 h4
      refine Wp.step (fun k => spec_randomImage.l0.eq_2 ..) (Wp.pos (by omega) ?_)
      refine Wp.ite (fun _ => ?_) (fun _ => Wp.ite (fun _ => ?_) (fun _ => Wp.ite (fun _ => ?_) (fun _ => ?_)))
      · refine Wp.call (w_pick b r 256 hR (by omega) (by omega)) ?_
        rintro _ ⟨u, rfl, u0, u1, _⟩
        exact Wp.pos (by omega) (next u _ u0 (u1 (by omega)) (by first | omega | (simp only; omega)) (by first | omega | (simp only; omega)))
      · refine Wp.call (w_pick b r 5 hR (by omega) (by omega)) ?_
        rintro _ ⟨u, rfl, u0, u1, _⟩
        have u1 := u1 (by omega)
        refine Wp.pos (by omega) ?_
        simp only
        rw [w64 (x := v + u) (by omega) (by omega), w64 (x := v + u + 254) (by omega) (by omega)]
        have ht := tmod_range (v + u + 254) 256 (by omega) (by omega)
        exact next _ _ ht.1 ht.2 (by first | omega | (simp only; omega)) (by first | omega | (simp only; omega))
      · refine Wp.call (w_pick b r 4 hR (by omega) (by omega)) ?_
        rintro _ ⟨u, rfl, u0, u1, _⟩
        have u1 := u1 (by omega)
        refine Wp.pos (by omega) ?_
        simp only
        rw [w64 (x := 60 * u) (by omega) (by omega)]
        exact next _ _ (by omega) (by omega) (by omega) (by omega)
      · exact Wp.pos (by omega) (next v r hv hv1 hr (by omega))
  exact key L 0 l v _ (by omega) hlen hbs v0 v1 (by first | omega | (simp only; omega)) (by first | omega | (simp only; omega))
def Spl (q : Int) (r : Int × Int × Int × List Int × Int) : Prop :=
  (0 ≤ r.1 ∧ r.1 ≤ 17) ∧ (0 ≤ r.2.1 ∧ r.2.1 ≤ 17) ∧ (0 ≤ r.2.2.1 ∧ r.2.2.1 ≤ 5) ∧ r.2.2.2.1.length ≤ 1024 ∧ q ≤ r.2.2.2.2 ∧ r.2.2.2.2 ≤ q + 1000
theorem w_spoilImage (bb : List Int) (q a b c : Int) (l : List Int) (h : Rdr bb q) (hq : q ≤ 900000) (ha : 0 ≤ a ∧ a ≤ 16) (hb : 0 ≤ b ∧ b ≤ 16) (hc : 0 ≤ c ∧ c ≤ 4) (hl : 1 ≤ l.length) (hl2 : l.length ≤ 1024) :
    Wp (fun k => spec_spoilImage.f k bb q a b c l) (fun r => (0 ≤ r.1 ∧ r.1 ≤ 17) ∧ (0 ≤ r.2.1 ∧ r.2.1 ≤ 17) ∧ (0 ≤ r.2.2.1 ∧ r.2.2.1 ≤ 5) ∧ r.2.2.2.1.length ≤ 1024 ∧ q ≤ r.2.2.2.2 ∧ r.2.2.2.2 ≤ q + 2) := by
  unfold spec_spoilImage.f
  refine Wp.call (w_pick bb q 40 h (by omega) (by omega)) ?_
  rintro _ ⟨u, rfl, u0, u1, _⟩
  have h1 : Rdr bb (q + 1) := h.up (by omega) (by omega)
  simp only
  refine Wp.ite (fun _ => ?_) (fun _ => Wp.ite (fun _ => ?_) (fun _ => Wp.ite (fun _ => ?_) (fun _ => Wp.ite (fun _ => ?_) (fun _ => ?_))))
  · refine Wp.call (w_one bb _ _ h1 (by omega) (by simp) (by simp)) ?_
    rintro _ ⟨x, rfl, hx⟩
    rw [w64 (x := a + 1) (by omega) (by omega)] at hx
    simp only [List.mem_cons, List.not_mem_nil, or_false] at hx
    exact Wp.ret ⟨by first | omega | (simp only; omega), by first | omega | (simp only; omega), by first | omega | (simp only; omega), hl2, by first | omega | (simp only; omega), by first | omega | (simp only; omega)⟩
  · exact Wp.pos (by omega) (Wp.ret ⟨by first | omega | (simp only; omega), by first | omega | (simp only; omega), by first | omega | (simp only; omega), by simp only [List.length_drop]; omega, by first | omega | (simp only; omega), by first | omega | (simp only; omega)⟩)
  · refine Wp.call (w_one bb _ _ h1 (by omega) (by simp) (by simp)) ?_
    rintro _ ⟨x, rfl, hx⟩
    exact Wp.pos (by omega) (Wp.ret ⟨by first | omega | (simp only; omega), by first | omega | (simp only; omega), by first | omega | (simp only; omega), by simp only [List.length_set]; omega, by first | omega | (simp only; omega), by first | omega | (simp only; omega)⟩)
  · refine Wp.call (w_one bb _ _ h1 (by omega) (by simp) (by simp)) ?_
    rintro _ ⟨x, rfl, hx⟩
    simp only [List.mem_cons, List.not_mem_nil, or_false] at hx
    exact Wp.ret ⟨by first | omega | (simp only; omega), by first | omega | (simp only; omega), by first | omega | (simp only; omega), hl2, by first | omega | (simp only; omega), by first | omega | (simp only; omega)⟩
  · exact Wp.ret ⟨by first | omega | (simp only; omega), by first | omega | (simp only; omega), by first | omega | (simp only; omega), hl2, by first | omega | (simp only; omega), by first | omega | (simp only; omega)⟩
theorem w_anyPlanes (b : List Int) (q : Int) (h : Rdr b q) (hq : q ≤ 900000) : Wp (fun k => spec_anyPlanes.f k b q) (fun r => (1 ≤ r.1 ∧ r.1 ≤ 4) ∧ r.2 = q + 1) := by
  unfold spec_anyPlanes.f
  refine Wp.call (w_one b q _ h (by omega) (by simp) (by simp)) ?_
  rintro _ ⟨x, rfl, hx⟩
  simp only [List.mem_cons, List.not_mem_nil, or_false] at hx
  exact Wp.ret ⟨by first | omega | (simp only; omega), rfl⟩
theorem Rnd.len {p q : Int} {r : Int × Int × Int × List Int × Int} (h : Rnd p r q) (hp : 1 ≤ p ∧ p ≤ 4) : 1 ≤ r.2.2.2.1.length ∧ r.2.2.2.1.length ≤ 256 := by
  obtain ⟨h0, h1, h2, h3, _⟩ := h
  have := prod_le h0 h1 hp
  omega
theorem w_randomSpoil (b : List Int) (q p : Int) (r : Int × Int × Int × List Int × Int) (h : Rdr b q) (hq : q ≤ 800000) (hp : 1 ≤ p ∧ p ≤ 4) (hr : Rnd p r q) :
    Wp (fun k => spec_spoilImage.f k b r.2.2.2.2 r.1 r.2.1 r.2.2.1 r.2.2.2.1) (fun r => Spl q r ∧ r.2.2.2.2 ≤ q + 302) := by
  have hl := hr.len hp
  obtain ⟨h0, h1, h2, h3, h4, h5, h6⟩ := hr
  refine (w_spoilImage b r.2.2.2.2 _ _ _ _ (h.up h5 (by omega)) (by omega) (by omega) (by omega) (by omega) hl.1 (by omega)).mono ?_
  rintro s ⟨a0, a1, a2, a3, a4, a5⟩
  exact ⟨⟨a0, a1, a2, a3, by omega, by omega⟩, by omega⟩
theorem w_anyImage (b : List Int) (q : Int) (h : Rdr b q) (hq : q ≤ 700000) : Wp (fun k => spec_anyImage.f k b q) (fun r => Spl q r) := by
  unfold spec_anyImage.f
  refine Wp.call (w_anyPlanes b q h (by omega)) ?_
  rintro ⟨p, q'⟩ ⟨hp, e⟩
  simp only at hp e
  subst e
  refine Wp.call (w_randomImage b (q + 1) p (h.up (by omega) (by omega)) (by omega) hp) ?_
  intro r hr
  refine Wp.call (w_randomSpoil b (q + 1) p r (h.up (by omega) (by omega)) (by omega) hp hr) ?_
  rintro s ⟨⟨a0, a1, a2, a3, a4, a5⟩, a6⟩
  refine Wp.ret ⟨a0, a1, a2, a3, by first | omega | (simp only; omega), ?_⟩
  simp only
  omega
end Go.Proofs.Ytohbpilokmppbaa.P
namespace Go.Proofs.Ytohbpilokmppbaa.P
open Go.RowKit Go.Proofs.YtohbpilokmppbaaW.PrintWords Go.Proofs.YtohbpilokmppbaaW.PrintLast Go.Proofs.YtohbpilokmppbaaW.PrintMore Go.Proofs.Ytohbpilokmppbaa.Wp
set_option linter.unusedVariables false
set_option linter.unusedSimpArgs false
theorem w_equalImage (a b c : Int) (l : List Int) (a' b' c' : Int) (l' : List Int) (hl : l.length ≤ 1000000000) : Wp (fun k => laws_equalImage.f k a b c l a' b' c' l') (fun r => r = decide ((a, b, c, l) = (a', b', c', l'))) := by
  unfold laws_equalImage.f
  refine Wp.ite (fun h => ?_) (fun h => Wp.ret (decide_eq_false fun e => h (congrArg (·.1) e)).symm)
  refine Wp.ite (fun h1 => ?_) (fun h1 => Wp.ret (decide_eq_false fun e => h1 (congrArg (·.2.1) e)).symm)
  refine Wp.ite (fun h2 => ?_) (fun h2 => Wp.ret (decide_eq_false fun e => h2 (congrArg (·.2.2.1) e)).symm)
  refine Wp.call (w_equalInts l l' hl) ?_
  rintro _ rfl
  refine Wp.ret ?_
  subst h h1 h2
  rw [Bool.eq_iff_iff, decide_eq_true_eq, decide_eq_true_eq]
  exact ⟨fun e => by rw [e], fun e => congrArg (·.2.2.2) e⟩
end Go.Proofs.Ytohbpilokmppbaa.P
namespace Go.Proofs.Ytohbpilokmppbaa.Pure
open Go.RowKit Go.Proofs.Ytohbpilokmppbaa.P Go.Proofs.YtohbpilokmppbaaW.PrintWords Go.Proofs.YtohbpilokmppbaaW.PrintMore Go.Proofs.Ytohbpilokmppbaa.Wp
set_option linter.unusedVariables false
theorem pal_small (a b c : Int) (l : List Int) : Small (palI a b c l).1 := by
  unfold palI
  split
  · rename_i hi
    obtain ⟨a', b', p, rfl, rfl, rfl, ha, hb, hp, _⟩ := img_nat hi
    split
    · exact ⟨by simp, fun y hy => by simp at hy⟩
    · rename_i h
      refine ⟨by simp only; omega, fun y hy => ?_⟩
      simp only at hy
      rw [Int.toNat_natCast, palAll_N] at hy
      obtain ⟨i, _, rfl⟩ := palN_mem l p _ y hy
      exact Nat.le_trans (pxN_len l p i) (by omega)
  · exact ⟨by simp, fun y hy => by simp at hy⟩
theorem few_small {L : List (List Int)} (h : FewC L) : Small L := ⟨by have := h.1; omega, fun y hy => by have := h.2 y hy; omega⟩
theorem w_DrawIdx (l : List Int) (hb : ∀ x ∈ l, (Lit.int .u8 x).wf = true) : Wp (fun k => spec_DrawIndexImage.f k l) (fun r => r.2.2.2.1.length ≤ 1024 ∧ Small r.2.2.2.2) := by
  unfold spec_DrawIndexImage.f
  refine Wp.call (w_newReader l hb) ?_
  rintro ⟨b, p⟩ ⟨h, e⟩
  simp only at e h
  subst e
  refine Wp.call (w_anyImage b 0 h (by omega)) ?_
  rintro ⟨a, b', c, im, q⟩ hs
  unfold Spl at hs
  obtain ⟨s0, s1, s2, s3, s4, s5⟩ := hs
  simp only at s0 s1 s2 s3 s4 s5
  refine Wp.call (w_sPal a b' c im (by omega)) ?_
  rintro _ rfl
  refine Wp.ite (fun _ => ?_) (fun _ => ?_)
  · refine Wp.call (w_pick b q 2 (h.up (by omega) (by omega)) (by omega) (by omega)) ?_
    rintro _ ⟨x, rfl, _⟩
    refine Wp.ite (fun _ => ?_) (fun _ => Wp.ret ⟨s3, pal_small a b' c im⟩)
    refine Wp.call (w_anyColors b (q + 1) c (h.up (by omega) (by omega)) (by omega) (by omega)) ?_
    rintro ⟨L, q2⟩ ⟨hL, _⟩
    exact Wp.ret ⟨s3, few_small hL⟩
  · refine Wp.call (w_anyColors b q c (h.up (by omega) (by omega)) (by omega) (by omega)) ?_
    rintro ⟨L, q2⟩ ⟨hL, _⟩
    exact Wp.ret ⟨s3, few_small hL⟩
theorem idx_form (a b c : Int) (l : List Int) (L : List (List Int)) : idxI a b c l L = (0, 0, 0, [], false) ∨ ∃ (a' b' p : Nat) (V : List Int), a = a' ∧ b = b' ∧ idxI a b c l L = (a, b, 1, V, true) ∧ V.length ≤ 1000000 ∧ imgB a b 1 V = true ∧ (∀ i j : Nat, j < a' → i < b' → pixOf V a 1 j i = [nearC L (pixOf l a c j i)]) ∧ imgB a b c l = true := by
  by_cases h : imgB a b c l = true ∧ (decide (1 ≤ L.length ∧ 1 ≤ c ∧ c ≤ 4) && palB L c) = true
  · right
    obtain ⟨hi, hp⟩ := h
    have hi2 := hi
    have hp2 := hp
    rw [Bool.and_eq_true, decide_eq_true_eq] at hp2
    obtain ⟨a', b', p, rfl, rfl, rfl, ha, hb, hpp, hlen, hB⟩ := img_nat hi
    have hL := palB_ok hp2.2
    have hP16 := hL.1
    have hnr : ∀ px : List Int, nrC L px p L.length < L.length := fun px => nrC_lt L px p L.length (by omega)
    have ok := img_ok (fun x y => [((nrC L (pixOf l a' p x y) p L.length : Nat) : Int)]) a' b' 1 (by omega) (by omega) (by omega) (fun _ _ _ _ => rfl)
      (fun i j _ _ v hv => by rw [List.mem_singleton] at hv; have := hnr (pixOf l a' p j i); omega)
    have hget := pix_img (fun x y => [((nrC L (pixOf l a' p x y) p L.length : Nat) : Int)]) a' b' 1 (fun _ _ _ _ => rfl)
    refine ⟨a', b', p, imgOf (fun x y => [((nrC L (pixOf l a' p x y) p L.length : Nat) : Int)]) a' b', rfl, rfl, ?_, ?_, ok, fun i j hj hi => ?_, hi2⟩
    · unfold idxI
      rw [if_pos ⟨hi2, hp⟩]
      simp only [Int.toNat_natCast]
    · have hI := imgB_ok.1 ok
      have := img_bounds hI.1 hI.2.1 hI.2.2.1
      have := hI.2.2.2.1
      omega
    · have hpl := pix_len l a' b' p j i hlen hj hi
      refine (hget i j hj hi).trans ?_
      unfold nearC
      rw [if_pos ⟨by omega, allB_of fun v hv => hB v (pixOf_mem hv), by rw [hpl]; exact hp2.2, by omega⟩, hpl]
  · left
    unfold idxI
    rw [if_neg h]
theorem FnIndexImage : laws_FnIndexImage.Pure := by
  intro l _ _ hb
  refine Wp.rounds ?_
  unfold laws_FnIndexImage.f
  refine Wp.ite (fun _ => Wp.ret rfl) (fun _ => ?_)
  refine Wp.call (w_DrawIdx l hb) ?_
  rintro ⟨a, b, c, im, L⟩ ⟨hl, hS⟩
  simp only at hl hS
  refine Wp.call (w_iIdx a b c im L) ?_
  rintro _ rfl
  refine Wp.call (w_sIdx a b c im L (by omega) hS) ?_
  rintro _ rfl
  rcases idx_form a b c im L with e | ⟨a', b', p, V, rfl, rfl, e, hU, ok, hpx, hi⟩
  · rw [e]
    refine Wp.call (w_equalImage _ _ _ _ _ _ _ _ (by simp)) ?_
    rintro _ rfl
    refine Wp.pos (decide_eq_true rfl) (Wp.neg (by simp) ?_)
    refine Wp.step (fun k => laws_FnIndexImage.j0.eq_2 ..) (Wp.pos rfl ?_)
    refine Wp.call (w_equalImage _ _ _ _ _ _ _ _ (by simp)) ?_
    rintro _ rfl
    exact Wp.pos (decide_eq_true rfl) (Wp.ret rfl)
  · rw [e]
    have hU2 : V.length ≤ 1000000000 := by omega
    refine Wp.call (w_equalImage _ _ _ _ _ _ _ _ hU2) ?_
    rintro _ rfl
    refine Wp.pos (decide_eq_true rfl) (Wp.neg (by simp) ?_)
    refine Wp.step (fun k => laws_FnIndexImage.j0.eq_2 ..) (Wp.neg (by simp) ?_)
    simp only
    have hI := imgB_ok.1 hi
    unfold ImgOk at hI
    have inner : ∀ (i : Nat), i < b' → Wp (fun k => laws_FnIndexImage.l0 k L ((i : Int) + 1) a' b' c im a' b' 1 V) (fun r => r = true) → ∀ (d j : Nat), j + d = a' → Wp (fun k => laws_FnIndexImage.l1 k L i j a' b' c im a' b' 1 V) (fun r => r = true) := by
      intro i hib next d
      induction d with
      | zero =>
        intro j hd
        refine Wp.step (fun k => laws_FnIndexImage.l1.eq_2 ..) (Wp.neg (by omega) ?_)
        rw [w64 (x := (i : Int) + 1) (by omega) (by omega)]
        exact next
      | succ d ih =>
        intro j hd
        refine Wp.step (fun k => laws_FnIndexImage.l1.eq_2 ..) (Wp.pos (by omega) ?_)
        refine Wp.call (w_iPixelAt _ _ _ _ _ _) ?_
        rintro _ rfl
        refine Wp.call (w_iPixelAt _ _ _ _ _ _) ?_
        rintro _ rfl
        rw [if_pos ⟨hi, by omega, by omega⟩, if_pos ⟨ok, by omega, by omega⟩, hpx i j (by omega) hib]
        refine Wp.call (w_iNearC L _) ?_
        rintro _ rfl
        refine Wp.call (w_equalInts _ _ (by simp)) ?_
        rintro _ rfl
        refine Wp.pos (decide_eq_true rfl) ?_
        rw [w64 (x := (j : Int) + 1) (by omega) (by omega)]
        exact ih (j + 1) (by omega)
    have key : ∀ (d i : Nat), i + d = b' → Wp (fun k => laws_FnIndexImage.l0 k L i a' b' c im a' b' 1 V) (fun r => r = true) := by
      intro d
      induction d with
      | zero =>
        intro i hd
        exact Wp.step (fun k => laws_FnIndexImage.l0.eq_2 ..) (Wp.neg (by omega) (Wp.ret (by simp)))
      | succ d ih =>
        intro i hd
        refine Wp.step (fun k => laws_FnIndexImage.l0.eq_2 ..) (Wp.pos (by omega) ?_)
        exact inner i (by omega) (ih (i + 1) (by omega)) a' 0 (by omega)
    exact key b' 0 (by omega)
end Go.Proofs.Ytohbpilokmppbaa.Pure
