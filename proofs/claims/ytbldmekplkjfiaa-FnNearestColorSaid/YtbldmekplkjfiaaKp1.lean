/- Pure lemmas: what the printed functions answer, for every input; no Go, no memory, no condition but those that each lemma names. -/
import Derived.Test.YtbldmekplkjfiaaVWords
import Derived.Test.YtbldmekplkjfiaaK1
import Derived.Test.YtbldmekplkjfiaaK2
import Derived.Test.YtbldmekplkjfiaaK3
import Derived.Test.YtbldmekplkjfiaaK4
namespace Go.Proofs.Ytbldmekplkjfiaa.Wp
open Go.RowKit Go.Proofs.YtbldmekplkjfiaaW.PrintWords
set_option linter.unusedVariables false
def Wp {α : Type} (g : Nat → Option α) (P : α → Prop) : Prop := ∃ r, P r ∧ ∃ K, ∀ k, K ≤ k → g k = some r
theorem Wp.mono {α : Type} {g : Nat → Option α} {P Q : α → Prop} (h : Wp g P) (hi : ∀ a, P a → Q a) : Wp g Q := by
  obtain ⟨r, hp, K, hk⟩ := h
  exact ⟨r, hi r hp, K, hk⟩
theorem Wp.ret {α : Type} {P : α → Prop} {r : α} (h : P r) : Wp (fun _ => some r) P := ⟨r, h, 0, fun _ _ => rfl⟩
theorem Wp.bind {α β : Type} {g : Nat → Option α} {f : Nat → α → Option β} {P : β → Prop} (h : Wp g (fun a => Wp (fun k => f k a) P)) : Wp (fun k => (g k).bind (f k)) P := by
  obtain ⟨a, ⟨r, hp, K, hk⟩, K', hk'⟩ := h
  refine ⟨r, hp, max K K', fun k hkk => ?_⟩
  show (g k).bind (f k) = some r
  rw [hk' k (by omega)]
  exact hk k (by omega)
theorem Wp.call {α β : Type} {g : Nat → Option α} {f : Nat → α → Option β} {Q : α → Prop} {P : β → Prop} (h : Wp g Q) (hf : ∀ a, Q a → Wp (fun k => f k a) P) : Wp (fun k => (g k).bind (f k)) P :=
  Wp.bind (h.mono hf)
theorem Wp.ite {α : Type} {c : Prop} [Decidable c] {g h : Nat → Option α} {P : α → Prop} (h1 : c → Wp g P) (h2 : ¬ c → Wp h P) : Wp (fun k => if c then g k else h k) P := by
  by_cases hc : c
  · simpa only [if_pos hc] using h1 hc
  · simpa only [if_neg hc] using h2 hc
theorem Wp.pos {α : Type} {c : Prop} [Decidable c] {g h : Nat → Option α} {P : α → Prop} (hc : c) (h1 : Wp g P) : Wp (fun k => if c then g k else h k) P := Wp.ite (fun _ => h1) (fun h => absurd hc h)
theorem Wp.neg {α : Type} {c : Prop} [Decidable c] {g h : Nat → Option α} {P : α → Prop} (hc : ¬ c) (h1 : Wp h P) : Wp (fun k => if c then g k else h k) P := Wp.ite (fun h => absurd h hc) (fun _ => h1)
theorem Wp.step {α : Type} {g f : Nat → Option α} {P : α → Prop} (h : ∀ k, g (k + 1) = f k) (hf : Wp f P) : Wp g P := by
  obtain ⟨r, hp, K, hk⟩ := hf
  refine ⟨r, hp, K + 1, fun k hkk => ?_⟩
  obtain ⟨k, rfl⟩ : ∃ m, k = m + 1 := ⟨k - 1, by omega⟩
  rw [h k]
  exact hk k (by omega)
theorem Wp.of {α : Type} {g : Nat → Option α} {P : α → Prop} {r : α} (h : ∀ k, g k = some r) (hp : P r) : Wp g P := ⟨r, hp, 0, fun k _ => h k⟩
theorem Wp.rounds {α : Type} {g : Nat → Option α} {r : α} (h : Wp g (fun a => a = r)) : ∃ k, g k = some r := by
  obtain ⟨r', rfl, K, hk⟩ := h
  exact ⟨K, hk K (Nat.le_refl K)⟩
theorem w64 {x : Int} (h0 : -9223372036854775808 ≤ x) (h1 : x ≤ 9223372036854775807) : wrap64 x = x := by
  unfold wrap64
  omega
end Go.Proofs.Ytbldmekplkjfiaa.Wp
namespace Go.Proofs.Ytbldmekplkjfiaa.P
open Go.RowKit Go.Proofs.YtbldmekplkjfiaaW.PrintWords Go.Proofs.YtbldmekplkjfiaaW.PrintLast Go.Proofs.YtbldmekplkjfiaaW.PrintMore Go.Proofs.Ytbldmekplkjfiaa.Wp
set_option linter.unusedVariables false
set_option linter.unusedSimpArgs false
theorem bl_rd (l : List Int) (i : Nat) : rd l (i : Int) = l.getD i 0 := by simp [rd]
theorem bl_ext {x l : List Int} (hx : x.length = l.length) (h : ∀ j, j < l.length → x.getD j 0 = l.getD j 0) : x = l := by
  apply List.ext_getElem hx
  intro j h1 h2
  have := h j h2
  simpa [List.getD_eq_getElem?_getD, List.getElem?_eq_getElem h1, List.getElem?_eq_getElem h2] using this
theorem bl_map_range (f : Nat → Int) (n j : Nat) (hj : j < n) : ((List.range n).map f).getD j 0 = f j := by
  simp [List.getD_eq_getElem?_getD, hj]
theorem bl_all_drop (l : List Int) (p : Int → Bool) (i : Nat) (h : i < l.length) : (l.drop i).all p = (p (l.getD i 0) && (l.drop (i + 1)).all p) := by
  rw [List.drop_eq_getElem_cons h, List.all_cons]
  simp [List.getD_eq_getElem?_getD, List.getElem?_eq_getElem h]
def allB (l : List Int) : Bool := l.all fun n => decide (0 ≤ n ∧ n ≤ 255)
theorem allB_mem {l : List Int} (h : allB l = true) : ∀ x ∈ l, 0 ≤ x ∧ x ≤ 255 := fun x hx => of_decide_eq_true (List.all_eq_true.1 h x hx)
theorem allB_of {l : List Int} (h : ∀ x ∈ l, 0 ≤ x ∧ x ≤ 255) : allB l = true := List.all_eq_true.2 fun x hx => decide_eq_true (h x hx)
theorem w_inRange0 (a b c : Int) : Wp (fun _ => spec_inRange.f a b c) (fun r => r = decide (b ≤ a ∧ a ≤ c)) := by
  unfold spec_inRange.f
  refine Wp.ite (fun h => Wp.ret ?_) (fun h => Wp.ret ?_)
  · simp [h]
  · simp [h]
theorem w_allIn (l : List Int) (a b : Int) (hl : l.length ≤ 1000000000) : Wp (fun k => spec_allIn.f k l a b) (fun r => r = l.all fun n => decide (a ≤ n ∧ n ≤ b)) := by
  unfold spec_allIn.f
  have key : ∀ d (i : Nat), i + d = l.length → Wp (fun k => spec_allIn.l0 k l a b i) (fun r => r = (l.drop i).all fun n => decide (a ≤ n ∧ n ≤ b)) := by
    intro d
    induction d with
    | zero =>
      intro i hd
      refine Wp.step (fun k => spec_allIn.l0.eq_2 ..) (Wp.neg (by omega) (Wp.ret ?_))
      rw [List.drop_of_length_le (by omega)]
      rfl
    | succ d ih =>
      intro i hd
      refine Wp.step (fun k => spec_allIn.l0.eq_2 ..) (Wp.pos (by omega) (Wp.pos (by omega) ?_))
      refine Wp.call (w_inRange0 _ _ _) ?_
      rintro _ rfl
      rw [bl_all_drop l _ i (by omega), bl_rd]
      refine Wp.ite (fun h => ?_) (fun h => Wp.ret ?_)
      · rw [h, Bool.true_and, w64 (x := (i : Int) + 1) (by omega) (by omega)]
        exact ih (i + 1) (by omega)
      · rw [Bool.not_eq_true] at h
        rw [h, Bool.false_and]
  exact key l.length 0 (by omega)
theorem w_allB (l : List Int) (hl : l.length ≤ 1000000000) : Wp (fun k => spec_allIn.f k l 0 255) (fun r => r = allB l) := w_allIn l 0 255 hl
theorem w_areBytes (l : List Int) : Wp (fun _ => impl_areBytes.f l) (fun r => r = allB l) := by
  unfold impl_areBytes.f
  refine Wp.ret ?_
  unfold allB
  induction l with
  | nil => rfl
  | cons x l ih =>
    simp only [List.any_cons, List.all_cons, Bool.not_or, ← ih]
    congr 1
    by_cases h0 : x < 0 <;> by_cases h1 : 255 < x <;> simp [h0, h1] <;> omega
def marks (a : Int) (n : Nat) : List Int := (List.range n).map fun j : Nat => a + (j : Int)
theorem w_equalInts (a b : List Int) (hl : a.length ≤ 1000000000) : Wp (fun k => laws_equalInts.f k a b) (fun r => r = decide (a = b)) := by
  unfold laws_equalInts.f
  refine Wp.ite (fun he => ?_) (fun he => Wp.ret ?_)
  · have key : ∀ d (i : Nat), i + d = a.length → (∀ j, j < i → a.getD j 0 = b.getD j 0) → Wp (fun k => laws_equalInts.l0 k a b i) (fun r => r = decide (a = b)) := by
      intro d
      induction d with
      | zero =>
        intro i hd h
        refine Wp.step (fun k => laws_equalInts.l0.eq_2 ..) (Wp.neg (by omega) (Wp.ret ?_))
        exact (decide_eq_true (bl_ext (by omega) fun j hj => h j (by omega))).symm
      | succ d ih =>
        intro i hd h
        refine Wp.step (fun k => laws_equalInts.l0.eq_2 ..) (Wp.pos (by omega) (Wp.pos (by omega) (Wp.pos (by omega) ?_)))
        rw [bl_rd, bl_rd]
        refine Wp.ite (fun h1 => ?_) (fun h1 => Wp.ret ?_)
        · rw [w64 (x := (i : Int) + 1) (by omega) (by omega)]
          refine ih (i + 1) (by omega) fun j hj => ?_
          by_cases e : j = i
          · rw [e]; exact h1
          · exact h j (by omega)
        · exact (decide_eq_false fun e => h1 (by rw [e])).symm
    exact key a.length 0 (by omega) (fun j hj => by omega)
  · exact (decide_eq_false fun e => he (by rw [e])).symm
end Go.Proofs.Ytbldmekplkjfiaa.P
namespace Go.Proofs.Ytbldmekplkjfiaa.P
open Go.RowKit Go.Proofs.YtbldmekplkjfiaaW.PrintWords Go.Proofs.YtbldmekplkjfiaaW.PrintLast Go.Proofs.YtbldmekplkjfiaaW.PrintMore Go.Proofs.Ytbldmekplkjfiaa.Wp
set_option linter.unusedVariables false
set_option linter.unusedSimpArgs false
def Small (l : List (List Int)) : Prop := l.length ≤ 1048576 ∧ ∀ y ∈ l, y.length ≤ 1048576
theorem ll_rd (l : List (List Int)) (i : Nat) : rd_L2 l (i : Int) = l.getD i [] := by simp [rd_L2]
theorem ll_mem (l : List (List Int)) (i : Nat) (h : i < l.length) : l.getD i [] ∈ l := by
  rw [List.getD_eq_getElem?_getD, List.getElem?_eq_getElem h]
  exact List.getElem_mem _
end Go.Proofs.Ytbldmekplkjfiaa.P
namespace Go.Proofs.Ytbldmekplkjfiaa.P
open Go.RowKit Go.Proofs.YtbldmekplkjfiaaW.PrintWords Go.Proofs.YtbldmekplkjfiaaW.PrintLast Go.Proofs.YtbldmekplkjfiaaW.PrintMore Go.Proofs.Ytbldmekplkjfiaa.Wp
set_option linter.unusedVariables false
set_option linter.unusedSimpArgs false
def PalOk (l : List (List Int)) (p : Nat) : Prop := l.length ≤ 16 ∧ ∀ c ∈ l, c.length = p ∧ ∀ v ∈ c, 0 ≤ v ∧ v ≤ 255
def gapN (a b : List Int) : Nat → Int
  | 0 => 0
  | n + 1 => gapN a b n + (a.getD n 0 - b.getD n 0) * (a.getD n 0 - b.getD n 0)
theorem sq_B {x : Int} (h0 : -255 ≤ x) (h1 : x ≤ 255) : 0 ≤ x * x ∧ x * x ≤ 65025 := by
  rcases Int.lt_or_le x 0 with h | h
  · have h2 : 0 ≤ -x * -x := Int.mul_nonneg (by omega) (by omega)
    have h3 : -x * -x ≤ 255 * 255 := Int.mul_le_mul (by omega) (by omega) (by omega) (by omega)
    rw [Int.neg_mul_neg] at h2 h3
    omega
  · have h2 : 0 ≤ x * x := Int.mul_nonneg h h
    have h3 : x * x ≤ 255 * 255 := Int.mul_le_mul h1 h1 h (by omega)
    omega
theorem getB {l : List Int} (h : ∀ v ∈ l, 0 ≤ v ∧ v ≤ 255) (i : Nat) : 0 ≤ l.getD i 0 ∧ l.getD i 0 ≤ 255 := by
  rw [List.getD_eq_getElem?_getD]
  rcases Nat.lt_or_ge i l.length with hi | hi
  · rw [List.getElem?_eq_getElem hi]
    exact h _ (List.getElem_mem _)
  · rw [List.getElem?_eq_none hi]
    exact ⟨by decide, by decide⟩
theorem gap_B {a b : List Int} (ha : ∀ v ∈ a, 0 ≤ v ∧ v ≤ 255) (hb : ∀ v ∈ b, 0 ≤ v ∧ v ≤ 255) (n : Nat) : 0 ≤ gapN a b n ∧ gapN a b n ≤ (n : Int) * 65025 := by
  induction n with
  | zero => simp [gapN]
  | succ n ih =>
    have h1 := getB ha n
    have h2 := getB hb n
    have := sq_B (x := a.getD n 0 - b.getD n 0) (by omega) (by omega)
    rw [gapN]
    omega
def nrC (l : List (List Int)) (px : List Int) (p : Nat) : Nat → Nat
  | 0 => 0
  | m + 1 => if gapN (l.getD m []) px p < gapN (l.getD (nrC l px p m) []) px p then m else nrC l px p m
theorem nrC_lt (l : List (List Int)) (px : List Int) (p m : Nat) (hm : 0 < m) : nrC l px p m < m := by
  induction m with
  | zero => omega
  | succ m ih =>
    rw [nrC]
    split
    · omega
    · by_cases h : m = 0
      · subst h; simp [nrC]
      · have := ih (by omega); omega
theorem w_gap (a b : List Int) (p : Nat) (hp : p ≤ 100) (hla : a.length = p) (hlb : p ≤ b.length) (ha : ∀ v ∈ a, 0 ≤ v ∧ v ≤ 255) (hb : ∀ v ∈ b, 0 ≤ v ∧ v ≤ 255) : Wp (fun k => spec_gap.f k a b) (fun r => r = gapN a b p) := by
  unfold spec_gap.f
  have key : ∀ (d i : Nat), i + d = p → Wp (fun k => spec_gap.l0 k a b (gapN a b i) i) (fun r => r = gapN a b p) := by
    intro d
    induction d with
    | zero =>
      intro i hi
      have : i = p := by omega
      subst this
      exact Wp.step (fun k => spec_gap.l0.eq_2 ..) (Wp.neg (by omega) (Wp.ret rfl))
    | succ d ih =>
      intro i hi
      have h1 := getB ha i
      have h2 := getB hb i
      have h3 := sq_B (x := a.getD i 0 - b.getD i 0) (by omega) (by omega)
      have h4 := gap_B ha hb i
      refine Wp.step (fun k => spec_gap.l0.eq_2 ..) (Wp.pos (by omega) (Wp.pos (by omega) (Wp.pos (by omega) ?_)))
      rw [bl_rd, bl_rd, w64 (x := a.getD i 0 - b.getD i 0) (by omega) (by omega), w64 (x := (a.getD i 0 - b.getD i 0) * (a.getD i 0 - b.getD i 0)) (by omega) (by omega),
        w64 (x := gapN a b i + (a.getD i 0 - b.getD i 0) * (a.getD i 0 - b.getD i 0)) (by omega) (by omega), w64 (x := (i : Int) + 1) (by omega) (by omega)]
      exact ih (i + 1) (by omega)
  exact key p 0 (by omega)
theorem w_sNearest (l : List (List Int)) (px : List Int) (p : Nat) (hp : p ≤ 100) (hl : PalOk l p) (h0 : 1 ≤ l.length) (hlp : px.length = p) (hpB : ∀ v ∈ px, 0 ≤ v ∧ v ≤ 255) : Wp (fun k => spec_nearest.f k l px) (fun r => r = (nrC l px p l.length : Nat)) := by
  obtain ⟨hn, hc⟩ := hl
  unfold spec_nearest.f
  have hg : ∀ i, i < l.length → Wp (fun k => spec_gap.f k (l.getD i []) px) (fun r => r = gapN (l.getD i []) px p) := fun i hi =>
    w_gap _ px p hp (hc _ (ll_mem l i hi)).1 (by omega) (hc _ (ll_mem l i hi)).2 hpB
  have key : ∀ (d i : Nat), 1 ≤ i → i + d = l.length → Wp (fun k => spec_nearest.l0 k l px (nrC l px p i : Nat) i) (fun r => r = (nrC l px p l.length : Nat)) := by
    intro d
    induction d with
    | zero =>
      intro i h1 hi
      have : i = l.length := by omega
      subst this
      exact Wp.step (fun k => spec_nearest.l0.eq_2 ..) (Wp.neg (by omega) (Wp.ret rfl))
    | succ d ih =>
      intro i h1 hi
      have hlt := nrC_lt l px p i (by omega)
      have next := ih (i + 1) (by omega) (by omega)
      rw [nrC] at next
      refine Wp.step (fun k => spec_nearest.l0.eq_2 ..) (Wp.pos (by omega) (Wp.pos (by omega) ?_))
      rw [ll_rd, ll_rd]
      refine Wp.call (hg i (by omega)) ?_
      rintro _ rfl
      refine Wp.pos (by omega) (Wp.pos (by omega) ?_)
      refine Wp.call (hg _ (by omega)) ?_
      rintro _ rfl
      rw [w64 (x := (i : Int) + 1) (by omega) (by omega)]
      refine Wp.ite (fun h => ?_) (fun h => ?_)
      · rw [if_pos h] at next
        exact next
      · rw [if_neg h] at next
        exact next
  have := key (l.length - 1) 1 (by omega) (by omega)
  have e : nrC l px p 1 = 0 := by simp [nrC]
  rw [e] at this
  exact this
theorem w_inearest (l : List (List Int)) (px : List Int) (p : Nat) (hp : p ≤ 100) (hl : PalOk l p) (h0 : 1 ≤ l.length) (hlp : px.length = p) (hpB : ∀ v ∈ px, 0 ≤ v ∧ v ≤ 255) : Wp (fun k => impl_nearestColor.f k l px) (fun r => r = (nrC l px p l.length : Nat)) := by
  obtain ⟨hn, hc⟩ := hl
  unfold impl_nearestColor.f
  have inner : ∀ (i : Nat) (best least : Int) (hi : i < l.length) (P : Int → Prop), (∀ s, s = gapN (l.getD i []) px p → Wp (fun k => if least < 0 then (impl_nearestColor.l0 k px i s l l.length (wrap64 ((i : Int) + 1))) else (if s < least then (impl_nearestColor.l0 k px i s l l.length (wrap64 ((i : Int) + 1))) else (impl_nearestColor.l0 k px best least l l.length (wrap64 ((i : Int) + 1))))) P) →
      ∀ (d t : Nat), t + d = p → Wp (fun k => impl_nearestColor.l1 k px best least i (gapN (l.getD i []) px t) l l.length i (l.getD i []) ((l.getD i []).length : Int) t) P := by
    intro i best least hi P next d
    obtain ⟨hcl, hcB⟩ := hc _ (ll_mem l i hi)
    induction d with
    | zero =>
      intro t ht
      have : t = p := by omega
      subst this
      exact Wp.step (fun k => impl_nearestColor.l1.eq_2 ..) (Wp.neg (by omega) (next _ rfl))
    | succ d ih =>
      intro t ht
      have h1 := getB hcB t
      have h2 := getB hpB t
      have h3 := sq_B (x := (l.getD i []).getD t 0 - px.getD t 0) (by omega) (by omega)
      have h4 := gap_B hcB hpB t
      refine Wp.step (fun k => impl_nearestColor.l1.eq_2 ..) (Wp.pos (by omega) (Wp.pos (by omega) (Wp.pos (by omega) (Wp.pos (by omega) ?_))))
      rw [bl_rd, bl_rd, w64 (x := (l.getD i []).getD t 0 - px.getD t 0) (by omega) (by omega), w64 (x := ((l.getD i []).getD t 0 - px.getD t 0) * ((l.getD i []).getD t 0 - px.getD t 0)) (by omega) (by omega),
        w64 (x := gapN (l.getD i []) px t + ((l.getD i []).getD t 0 - px.getD t 0) * ((l.getD i []).getD t 0 - px.getD t 0)) (by omega) (by omega), w64 (x := (t : Int) + 1) (by omega) (by omega)]
      exact ih (t + 1) (by omega)
  have key : ∀ (d i : Nat) (best least : Int), i + d = l.length → best = (nrC l px p i : Nat) → (i = 0 → least = -1) → (1 ≤ i → least = gapN (l.getD (nrC l px p i) []) px p) → Wp (fun k => impl_nearestColor.l0 k px best least l l.length i) (fun r => r = (nrC l px p l.length : Nat)) := by
    intro d
    induction d with
    | zero =>
      intro i best least hi hb h1 h2
      have : i = l.length := by omega
      subst this
      exact Wp.step (fun k => impl_nearestColor.l0.eq_2 ..) (Wp.neg (by omega) (Wp.ret hb))
    | succ d ih =>
      intro i best least hi hb h1 h2
      refine Wp.step (fun k => impl_nearestColor.l0.eq_2 ..) (Wp.pos (by omega) (Wp.pos (by omega) (Wp.pos (by omega) ?_)))
      rw [ll_rd]
      refine inner i best least (by omega) _ (fun s hs => ?_) p 0 (by omega)
      rw [w64 (x := (i : Int) + 1) (by omega) (by omega)]
      have g0 := gap_B (hc _ (ll_mem l i (by omega))).2 hpB p
      by_cases hz : i = 0
      · subst hz
        have e : nrC l px p (0 + 1) = 0 := by simp [nrC]
        refine Wp.pos (by rw [h1 rfl]; omega) ?_
        exact ih (0 + 1) _ s (by omega) (by rw [e]) (fun h => by omega) (fun _ => by rw [e]; exact hs)
      · have hlt := nrC_lt l px p i (by omega)
        have hL := h2 (by omega)
        have gB := gap_B (hc _ (ll_mem l (nrC l px p i) (by omega))).2 hpB p
        refine Wp.neg (by omega) ?_
        refine Wp.ite (fun h => ?_) (fun h => ?_)
        · have e : nrC l px p (i + 1) = i := by rw [nrC, if_pos (by rw [← hs, ← hL]; exact h)]
          exact ih (i + 1) _ s (by omega) (by rw [e]) (fun h => by omega) (fun _ => by rw [e]; exact hs)
        · have e : nrC l px p (i + 1) = nrC l px p i := by rw [nrC, if_neg (by rw [← hs, ← hL]; exact h)]
          exact ih (i + 1) _ least (by omega) (by rw [e]; exact hb) (fun h => by omega) (fun _ => by rw [e]; exact hL)
  exact key l.length 0 0 (-1) (by omega) rfl (fun _ => rfl) (fun h => by omega)
def palB (l : List (List Int)) (p : Int) : Bool := decide (l.length ≤ 16) && l.all fun c => decide ((c.length : Int) = p) && allB c
theorem palB_ok {l : List (List Int)} {p : Nat} (h : palB l p = true) : PalOk l p := by
  unfold palB at h
  rw [Bool.and_eq_true, decide_eq_true_eq, List.all_eq_true] at h
  refine ⟨h.1, fun c hc => ?_⟩
  have := h.2 c hc
  rw [Bool.and_eq_true, decide_eq_true_eq] at this
  exact ⟨by omega, allB_mem this.2⟩
theorem w_validColors (l : List (List Int)) (p : Int) (hl : Small l) : Wp (fun k => spec_validColors.f k l p) (fun r => r = palB l p) := by
  obtain ⟨hl, hy⟩ := hl
  unfold spec_validColors.f palB
  have key : ∀ (d i : Nat), i + d = l.length → (∀ j, j < i → (decide (((l.getD j []).length : Int) = p) && allB (l.getD j [])) = true) → Wp (fun k => spec_validColors.l0 k l p i) (fun r => r = (decide (l.length ≤ 16) && l.all fun c => decide ((c.length : Int) = p) && allB c)) := by
    intro d
    induction d with
    | zero =>
      intro i hi hj
      refine Wp.step (fun k => spec_validColors.l0.eq_2 ..) (Wp.neg (by omega) (Wp.ret ?_))
      have : (l.all fun c => decide ((c.length : Int) = p) && allB c) = true := List.all_eq_true.2 fun c hc => by
        obtain ⟨j, hj2, rfl⟩ := List.getElem_of_mem hc
        have := hj j (by omega)
        simpa [List.getD_eq_getElem?_getD, List.getElem?_eq_getElem hj2] using this
      rw [this, Bool.and_true, Bool.eq_iff_iff, decide_eq_true_eq, decide_eq_true_eq]
      omega
    | succ d ih =>
      intro i hi hj
      have no : ¬ (decide (((l.getD i []).length : Int) = p) && allB (l.getD i [])) = true → (decide (l.length ≤ 16) && l.all fun c => decide ((c.length : Int) = p) && allB c) = false := fun h => by
        have : (l.all fun c => decide ((c.length : Int) = p) && allB c) = false := by
          rw [List.all_eq_false]
          exact ⟨_, ll_mem l i (by omega), h⟩
        rw [this, Bool.and_false]
      refine Wp.step (fun k => spec_validColors.l0.eq_2 ..) (Wp.pos (by omega) (Wp.pos (by omega) ?_))
      rw [ll_rd]
      refine Wp.ite (fun h1 => ?_) (fun h1 => Wp.ret (no (by rw [decide_eq_false h1]; simp)).symm)
      refine Wp.call (w_allB _ (Nat.le_trans (hy _ (ll_mem l i (by omega))) (by omega))) ?_
      rintro _ rfl
      refine Wp.ite (fun h2 => ?_) (fun h2 => Wp.ret (no (by rw [decide_eq_true h1, Bool.true_and]; exact h2)).symm)
      rw [w64 (x := (i : Int) + 1) (by omega) (by omega)]
      refine ih (i + 1) (by omega) fun j hj2 => ?_
      by_cases e : j = i
      · rw [e, decide_eq_true h1, h2]; rfl
      · exact hj j (by omega)
  exact key l.length 0 (by omega) (fun j hj => by omega)
theorem bad_not (p : Int) (c : List Int) : (badColor p c = false) ↔ (decide ((c.length : Int) = p) && allB c) = true := by
  have hb : (c.any fun n => decide (n < 0) || decide (255 < n)) = !allB c := by
    obtain ⟨r, hr, K, hK⟩ := w_areBytes c
    have h := hK K (Nat.le_refl K)
    unfold impl_areBytes.f at h
    simp only [Option.some.injEq] at h
    rw [hr] at h
    rw [← h, Bool.not_not]
  unfold badColor
  rw [hb]
  by_cases h : (c.length : Int) = p
  · rw [decide_eq_true h, Bool.true_and, bne_eq_false_iff_eq.2 h, Bool.false_or, Bool.not_eq_false']
  · rw [decide_eq_false h, Bool.false_and, bne_iff_ne.2 h, Bool.true_or]
    simp
theorem w_isPalette (l : List (List Int)) (p : Int) : Wp (fun _ => impl_isPalette.f l p) (fun r => r = (decide (1 ≤ l.length ∧ 1 ≤ p ∧ p ≤ 4) && palB l p)) := by
  unfold impl_isPalette.f
  refine Wp.ret ?_
  unfold palB
  have e : (!l.any (badColor p)) = l.all fun c => decide ((c.length : Int) = p) && allB c := by
    rw [Bool.eq_iff_iff, Bool.not_eq_true', List.any_eq_false, List.all_eq_true]
    exact ⟨fun h c hc => (bad_not p c).1 (by simpa using h c hc), fun h c hc => by rw [(bad_not p c).2 (h c hc)]; decide⟩
  rw [e]
  by_cases h1 : (l.length : Int) < 1
  · rw [if_pos h1, decide_eq_false (by omega)]; rfl
  rw [if_neg h1]
  by_cases h2 : 16 < (l.length : Int)
  · rw [if_pos h2, decide_eq_false (p := l.length ≤ 16) (by omega), Bool.false_and, Bool.and_false]
  rw [if_neg h2, decide_eq_true (p := l.length ≤ 16) (by omega), Bool.true_and]
  by_cases h3 : p < 1
  · rw [if_pos h3, decide_eq_false (by omega)]; rfl
  rw [if_neg h3]
  by_cases h4 : 4 < p
  · rw [if_pos h4, decide_eq_false (by omega)]; rfl
  rw [if_neg h4, decide_eq_true (by omega), Bool.true_and]
def nearC (l : List (List Int)) (px : List Int) : Int := if (1 ≤ px.length ∧ px.length ≤ 4) ∧ allB px = true ∧ palB l px.length = true ∧ 1 ≤ l.length then (nrC l px px.length l.length : Nat) else -1
theorem w_sNearC (l : List (List Int)) (px : List Int) (hl : Small l) (hp : px.length ≤ 1000000000) : Wp (fun k => spec_NearestColor.f k l px) (fun r => r = nearC l px) := by
  unfold spec_NearestColor.f nearC
  refine Wp.call (w_inRange0 _ _ _) ?_
  rintro _ rfl
  refine Wp.ite (fun h1 => ?_) (fun h1 => Wp.ret (by rw [if_neg fun h => h1 (decide_eq_true (by omega))]))
  rw [decide_eq_true_eq] at h1
  refine Wp.call (w_allB px hp) ?_
  rintro _ rfl
  refine Wp.ite (fun h2 => ?_) (fun h2 => Wp.ret (by rw [if_neg fun h => h2 h.2.1]))
  refine Wp.call (w_validColors l px.length hl) ?_
  rintro _ rfl
  refine Wp.ite (fun h3 => ?_) (fun h3 => Wp.ret (by rw [if_neg fun h => h3 h.2.2.1]))
  refine Wp.ite (fun h4 => Wp.ret (by rw [if_neg fun h => by omega])) (fun h4 => ?_)
  refine Wp.call (w_sNearest l px px.length (by omega) (palB_ok h3) (by omega) rfl (allB_mem h2)) ?_
  rintro _ rfl
  exact Wp.ret (by rw [if_pos ⟨by omega, h2, h3, by omega⟩])
theorem w_iNearC (l : List (List Int)) (px : List Int) : Wp (fun k => impl_NearestColor.f k l px) (fun r => r = nearC l px) := by
  unfold impl_NearestColor.f nearC
  refine Wp.call (w_isPalette l px.length) ?_
  rintro _ rfl
  refine Wp.ite (fun h1 => ?_) (fun h1 => Wp.ret (by rw [if_neg fun h => h1 (by rw [h.2.2.1, Bool.and_true]; exact decide_eq_true (by omega))]))
  rw [Bool.and_eq_true, decide_eq_true_eq] at h1
  refine Wp.call (w_areBytes px) ?_
  rintro _ rfl
  refine Wp.ite (fun h2 => ?_) (fun h2 => Wp.ret (by rw [if_neg fun h => h2 h.2.1]))
  refine Wp.call (w_inearest l px px.length (by omega) (palB_ok h1.2) (by omega) rfl (allB_mem h2)) ?_
  rintro _ rfl
  exact Wp.ret (by rw [if_pos ⟨by omega, h2, h1.2, by omega⟩])
end Go.Proofs.Ytbldmekplkjfiaa.P
namespace Go.Proofs.Ytbldmekplkjfiaa.P
open Go.RowKit Go.Proofs.YtbldmekplkjfiaaW.PrintWords Go.Proofs.YtbldmekplkjfiaaW.PrintLast Go.Proofs.YtbldmekplkjfiaaW.PrintMore Go.Proofs.Ytbldmekplkjfiaa.Wp
set_option linter.unusedVariables false
set_option linter.unusedSimpArgs false
theorem nrC_min (l : List (List Int)) (px : List Int) (p : Nat) : ∀ m j, j < m → gapN (l.getD (nrC l px p m) []) px p ≤ gapN (l.getD j []) px p
  | 0, j, h => by omega
  | m + 1, j, h => by
    have ih := nrC_min l px p m
    rw [nrC]
    by_cases e : gapN (l.getD m []) px p < gapN (l.getD (nrC l px p m) []) px p
    · rw [if_pos e]
      by_cases hj : j = m
      · rw [hj]; exact Int.le_refl _
      · have := ih j (by omega); omega
    · rw [if_neg e]
      by_cases hj : j = m
      · rw [hj]; omega
      · exact ih j (by omega)
theorem gap_self (a : List Int) : ∀ n, gapN a a n = 0
  | 0 => rfl
  | n + 1 => by rw [gapN, gap_self a n, Int.sub_self]; rfl
theorem gap_zero {a b : List Int} (ha : ∀ v ∈ a, 0 ≤ v ∧ v ≤ 255) (hb : ∀ v ∈ b, 0 ≤ v ∧ v ≤ 255) : ∀ n, gapN a b n ≤ 0 → ∀ i, i < n → a.getD i 0 = b.getD i 0
  | 0, _, i, hi => by omega
  | n + 1, h, i, hi => by
    rw [gapN] at h
    have h1 := getB ha n
    have h2 := getB hb n
    have h3 := sq_B (x := a.getD n 0 - b.getD n 0) (by omega) (by omega)
    have h4 := gap_B ha hb n
    by_cases e : i = n
    · rw [e]
      have h5 : (a.getD n 0 - b.getD n 0) * (a.getD n 0 - b.getD n 0) = 0 := by omega
      have h6 := Int.mul_eq_zero.1 h5
      omega
    · exact gap_zero ha hb n (by omega) i (by omega)
theorem nrC_self (L : List (List Int)) (px : List Int) (p : Nat) (hL : PalOk L p) (hx : px ∈ L) : L.getD (nrC L px p L.length) [] = px := by
  obtain ⟨j, hj, e⟩ := List.getElem_of_mem hx
  have hm := nrC_min L px p L.length j hj
  have hlt := nrC_lt L px p L.length (by omega)
  rw [show L.getD j [] = px by rw [List.getD_eq_getElem?_getD, List.getElem?_eq_getElem hj]; exact e, gap_self] at hm
  have hq := hL.2 _ (ll_mem L _ hlt)
  have hpx := hL.2 px hx
  exact bl_ext (by omega) fun i hi => gap_zero hq.2 hpx.2 p hm i (by omega)
theorem nrC_first (l : List (List Int)) (px : List Int) (p : Nat) : ∀ m j, j < nrC l px p m → gapN (l.getD (nrC l px p m) []) px p < gapN (l.getD j []) px p
  | 0, j, h => by simp [nrC] at h
  | m + 1, j, h => by
    have ih := nrC_first l px p m
    rw [nrC] at h ⊢
    by_cases e : gapN (l.getD m []) px p < gapN (l.getD (nrC l px p m) []) px p
    · rw [if_pos e] at h ⊢
      have := nrC_min l px p m j h
      omega
    · rw [if_neg e] at h ⊢
      exact ih j h
end Go.Proofs.Ytbldmekplkjfiaa.P
namespace Go.Proofs.Ytbldmekplkjfiaa.P
open Go.RowKit Go.Proofs.YtbldmekplkjfiaaW.PrintWords Go.Proofs.YtbldmekplkjfiaaW.PrintLast Go.Proofs.YtbldmekplkjfiaaW.PrintMore Go.Proofs.Ytbldmekplkjfiaa.Wp
set_option linter.unusedVariables false
theorem rd_mem (l : List Int) (i : Int) (h0 : 0 ≤ i) (h1 : i < (l.length : Int)) : rd l i ∈ l := by
  unfold rd
  rw [List.getD_eq_getElem?_getD, List.getElem?_eq_getElem (by omega)]
  exact List.getElem_mem _
theorem rd_le {l : List Int} {a b : Int} (h : ∀ x ∈ l, a ≤ x ∧ x ≤ b) (i : Int) (h0 : 0 ≤ i) (h1 : i < (l.length : Int)) : a ≤ rd l i ∧ rd l i ≤ b := h _ (rd_mem l i h0 h1)
def Rdr (b : List Int) (p : Int) : Prop := (∀ x ∈ b, 0 ≤ x ∧ x ≤ 255) ∧ b.length ≤ 2000 ∧ 0 ≤ p ∧ p ≤ 1000000
theorem tmod_range (x n : Int) (hx : 0 ≤ x) (hn : 0 < n) : 0 ≤ Int.tmod x n ∧ Int.tmod x n < n := by
  rw [Int.tmod_eq_emod_of_nonneg hx]
  exact ⟨Int.emod_nonneg _ (by omega), Int.emod_lt_of_pos _ hn⟩
theorem bits_xor_nonneg (x y : Int) (hx : 0 ≤ x) (hx2 : x ≤ 1000000000000) (hy : 0 ≤ y) (hy2 : y ≤ 1000000000000) : 0 ≤ Go.bits .xor .i64 x y := by
  obtain ⟨a, rfl⟩ := Int.eq_ofNat_of_zero_le hx
  obtain ⟨b, rfl⟩ := Int.eq_ofNat_of_zero_le hy
  have ha : a < 2 ^ 62 := by omega
  have hb : b < 2 ^ 62 := by omega
  have ha' : a % 2 ^ 64 = a := Nat.mod_eq_of_lt (by omega)
  have hb' : b % 2 ^ 64 = b := Nat.mod_eq_of_lt (by omega)
  have hc : a ^^^ b < 2 ^ 62 := Nat.xor_lt_two_pow ha hb
  have hw : IntKind.i64.wrap ((a ^^^ b : Nat) : Int) = ((a ^^^ b : Nat) : Int) := by
    have h64 : IntKind.i64.wrap ((a ^^^ b : Nat) : Int) = wrap64 ((a ^^^ b : Nat) : Int) := i64_w _
    rw [h64, w64 (by omega) (by omega)]
  have he : Go.bits .xor .i64 (a : Int) (b : Int) = ((a ^^^ b : Nat) : Int) := by
    have hbits : IntKind.i64.bits = 64 := rfl
    simp only [Go.bits, BitVec.ofInt_natCast, BitVec.toNat_xor, BitVec.toNat_ofNat, hbits, ha', hb', hw]
  rw [he]
  exact Int.natCast_nonneg _
theorem w_newReader (l : List Int) (hb : ∀ x ∈ l, (Lit.int .u8 x).wf = true) : Wp (fun _ => spec_newReader.f l) (fun r => Rdr r.1 r.2 ∧ r.2 = 0) := by
  have hb' : ∀ x ∈ l, 0 ≤ x ∧ x ≤ 255 := fun x hx => by
    have h := hb x hx
    simp only [Lit.wf, Bool.and_eq_true, decide_eq_true_eq] at h
    have h0 : IntKind.u8.min = 0 := rfl
    have h1 : IntKind.u8.max = 255 := rfl
    omega
  unfold spec_newReader.f
  refine Wp.ite (fun h => Wp.pos (by omega) (Wp.ret ?_)) (fun h => Wp.ret ?_)
  · exact ⟨⟨fun x hx => hb' x (List.mem_of_mem_take hx), by show (l.take 2000).length ≤ 2000; rw [List.length_take]; omega, Int.le_refl _, by show (0 : Int) ≤ 1000000; omega⟩, rfl⟩
  · exact ⟨⟨hb', by show l.length ≤ 2000; omega, Int.le_refl _, by show (0 : Int) ≤ 1000000; omega⟩, rfl⟩
theorem w_pick (b : List Int) (p n : Int) (h : Rdr b p) (hp : p < 1000000) (hn : n ≤ 1000000000000) :
    Wp (fun k => spec_reader_pick.f k b p n) (fun r => ∃ x, r = (x, p + 1) ∧ 0 ≤ x ∧ (1 ≤ n → x < n) ∧ (n < 1 → x = 0)) := by
  obtain ⟨hb, hl, h0, h1⟩ := h
  unfold spec_reader_pick.f
  rw [w64 (x := p + 1) (by omega) (by omega)]
  refine Wp.ite (fun hn1 => ?_) (fun hn1 => ?_)
  · refine Wp.step (fun k => spec_reader_pick.j0.eq_2 ..) (Wp.pos rfl (Wp.ret ?_))
    exact ⟨0, rfl, by omega, by omega, fun _ => rfl⟩
  · refine Wp.step (fun k => spec_reader_pick.j0.eq_2 ..) ?_
    rw [show p + 1 - 1 = p by omega, w64 (x := p) (by omega) (by omega)]
    refine Wp.ite (fun hz => Wp.ret ?_) (fun hz => ?_)
    · exact ⟨0, rfl, by omega, by omega, by omega⟩
    · have hpos : 0 < (b.length : Int) := by
        have : ¬ (b.length : Int) = 0 := by simpa using hz
        omega
      refine Wp.ite (fun hlt => ?_) (fun hge => ?_)
      · refine Wp.pos h0 (Wp.neg (by omega) (Wp.ret ?_))
        have hr := rd_le hb p h0 hlt
        rw [w64 (x := rd b p) (by omega) (by omega)]
        have := tmod_range (rd b p) n hr.1 (by omega)
        exact ⟨_, rfl, this.1, fun _ => this.2, by omega⟩
      · refine Wp.neg (by omega) ?_
        have t1 := tmod_range p b.length h0 hpos
        refine Wp.pos t1.1 (Wp.pos t1.2 ?_)
        rw [w64 (x := p * 7) (by omega) (by omega), w64 (x := p * 7 + 3) (by omega) (by omega)]
        have t2 := tmod_range (p * 7 + 3) b.length (by omega) hpos
        refine Wp.pos t2.1 (Wp.pos t2.2 (Wp.neg (by omega) (Wp.ret ?_)))
        have r1 := rd_le hb _ t1.1 t1.2
        have r2 := rd_le hb _ t2.1 t2.2
        generalize rd b (Int.tmod p b.length) = u at r1 ⊢
        generalize rd b (Int.tmod (p * 7 + 3) b.length) = v at r2 ⊢
        have hd : 0 ≤ Int.tdiv p b.length ∧ Int.tdiv p b.length ≤ p := by
          rw [Int.tdiv_eq_ediv_of_nonneg h0]
          exact ⟨Int.ediv_nonneg h0 (by omega), Int.ediv_le_self _ h0⟩
        generalize Int.tdiv p b.length = d at hd ⊢
        rw [w64 (x := u) (by omega) (by omega), w64 (x := u * 131) (by omega) (by omega), w64 (x := v) (by omega) (by omega), w64 (x := v * 1117) (by omega) (by omega),
          w64 (x := u * 131 + v * 1117) (by omega) (by omega), w64 (x := p * 29) (by omega) (by omega), w64 (x := u * 131 + v * 1117 + p * 29) (by omega) (by omega),
          w64 (x := d) (by omega) (by omega), w64 (x := d * 53) (by omega) (by omega), w64 (x := u * 131 + v * 1117 + p * 29 + d * 53) (by omega) (by omega)]
        have hs : 0 ≤ u * 131 + v * 1117 + p * 29 + d * 53 ∧ u * 131 + v * 1117 + p * 29 + d * 53 ≤ 1000000000 := by omega
        generalize u * 131 + v * 1117 + p * 29 + d * 53 = s at hs ⊢
        have hq : 0 ≤ Int.tdiv s 64 ∧ Int.tdiv s 64 ≤ s := by
          rw [Int.tdiv_eq_ediv_of_nonneg hs.1]
          exact ⟨Int.ediv_nonneg hs.1 (by omega), Int.ediv_le_self _ hs.1⟩
        rw [w64 (x := Int.tdiv s 64) (by omega) (by omega)]
        have hx := bits_xor_nonneg s (Int.tdiv s 64) hs.1 (by omega) hq.1 (by omega)
        have := tmod_range _ n hx (by omega)
        exact ⟨_, rfl, this.1, fun _ => this.2, by omega⟩
theorem Rdr.up {b : List Int} {p q : Int} (h : Rdr b p) (h1 : p ≤ q) (h2 : q ≤ 1000000) : Rdr b q := ⟨h.1, h.2.1, by have := h.2.2.1; omega, h2⟩
theorem w_one (b : List Int) (p : Int) (l : List Int) (h : Rdr b p) (hp : p < 1000000) (hl : 0 < l.length) (hl2 : l.length ≤ 1000) :
    Wp (fun k => spec_reader_one.f k b p l) (fun r => ∃ x, r = (x, p + 1) ∧ x ∈ l) := by
  unfold spec_reader_one.f
  refine Wp.call (w_pick b p l.length h hp (by omega)) ?_
  rintro _ ⟨x, rfl, h0, h1, _⟩
  have h1 := h1 (by omega)
  exact Wp.pos h0 (Wp.pos h1 (Wp.ret ⟨_, rfl, rd_mem l x h0 h1⟩))
end Go.Proofs.Ytbldmekplkjfiaa.P
namespace Go.Proofs.Ytbldmekplkjfiaa.P
open Go.RowKit Go.Proofs.YtbldmekplkjfiaaW.PrintWords Go.Proofs.YtbldmekplkjfiaaW.PrintLast Go.Proofs.YtbldmekplkjfiaaW.PrintMore Go.Proofs.Ytbldmekplkjfiaa.Wp
set_option linter.unusedVariables false
set_option linter.unusedSimpArgs false
theorem w_copyInts (l : List Int) (hl : l.length ≤ 1000000000) : Wp (fun _ => spec_copyInts.f l) (fun r => r = l) := by
  unfold spec_copyInts.f
  exact Wp.pos (by simp; omega) (Wp.ret (by simp))
end Go.Proofs.Ytbldmekplkjfiaa.P
namespace Go.Proofs.Ytbldmekplkjfiaa.P
open Go.RowKit Go.Proofs.YtbldmekplkjfiaaW.PrintWords Go.Proofs.YtbldmekplkjfiaaW.PrintLast Go.Proofs.YtbldmekplkjfiaaW.PrintMore Go.Proofs.Ytbldmekplkjfiaa.Wp
set_option linter.unusedVariables false
set_option linter.unusedSimpArgs false
theorem w_spoil (b : List Int) (p : Int) (l : List Int) (n : Int) (h : Rdr b p) (hp : p ≤ 999900) (hl : l.length ≤ 1000000) :
    Wp (fun k => spec_reader_spoil.f k b p l n) (fun r => r.1.length ≤ l.length + 1 ∧ p ≤ r.2 ∧ r.2 ≤ p + 3) := by
  unfold spec_reader_spoil.f
  refine Wp.call (w_copyInts l (by omega)) ?_
  rintro _ rfl
  refine Wp.call (w_pick b p 20 h (by omega) (by omega)) ?_
  rintro _ ⟨x, rfl, x0, x1, _⟩
  have h1 := h.up (q := p + 1) (by omega) (by omega)
  refine Wp.ite (fun _ => Wp.pos (by omega) (Wp.ret ⟨by first | (simp; done) | (simp; omega), by first | (simp; done) | (simp; omega), by first | (simp; done) | (simp; omega)⟩)) (fun _ => ?_)
  refine Wp.ite (fun _ => Wp.ite (fun _ => Wp.pos (by omega) (Wp.ret ⟨by first | (simp; done) | (simp; omega), by first | (simp; done) | (simp; omega), by first | (simp; done) | (simp; omega)⟩)) (fun _ => Wp.ret ⟨by first | (simp; done) | (simp; omega), by first | (simp; done) | (simp; omega), by first | (simp; done) | (simp; omega)⟩)) (fun _ => ?_)
  refine Wp.ite (fun _ => Wp.ite (fun hg => ?_) (fun _ => Wp.ret ⟨by first | (simp; done) | (simp; omega), by first | (simp; done) | (simp; omega), by first | (simp; done) | (simp; omega)⟩)) (fun _ => Wp.ret ⟨by first | (simp; done) | (simp; omega), by first | (simp; done) | (simp; omega), by first | (simp; done) | (simp; omega)⟩)
  refine Wp.call (w_pick b _ _ h1 (by omega) (by omega)) ?_
  rintro _ ⟨y, rfl, y0, y1, _⟩
  have y1 := y1 (by omega)
  have h2 := h.up (q := p + 1 + 1) (by omega) (by omega)
  refine Wp.call (w_one b _ _ h2 (by omega) (by simp) (by simp)) ?_
  rintro _ ⟨z, rfl, hz⟩
  exact Wp.pos y0 (Wp.pos y1 (Wp.ret ⟨by first | (simp; done) | (simp; omega), by first | (simp; done) | (simp; omega), by first | (simp; done) | (simp; omega)⟩))
end Go.Proofs.Ytbldmekplkjfiaa.P
namespace Go.Proofs.Ytbldmekplkjfiaa.P
open Go.RowKit Go.Proofs.YtbldmekplkjfiaaW.PrintWords Go.Proofs.YtbldmekplkjfiaaW.PrintLast Go.Proofs.YtbldmekplkjfiaaW.PrintMore Go.Proofs.Ytbldmekplkjfiaa.Wp
set_option linter.unusedVariables false
set_option linter.unusedSimpArgs false
theorem w_anyPixel (b : List Int) (p n : Int) (h : Rdr b p) (hp : p ≤ 999000) (hn0 : 0 ≤ n) (hn : n ≤ 100) : Wp (fun k => spec_anyPixel.f k b p n) (fun r => r.1.length ≤ n.toNat + 1 ∧ p ≤ r.2 ∧ r.2 ≤ p + n + 3) := by
  unfold spec_anyPixel.f
  have key : ∀ (d i : Nat) (x : List Int) (q : Int), i + d = n.toNat → x.length = i → q = p + i → Wp (fun k => spec_anyPixel.l0 k n x i b q) (fun r => r.1.length ≤ n.toNat + 1 ∧ p ≤ r.2 ∧ r.2 ≤ p + n + 3) := by
    intro d
    induction d with
    | zero =>
      intro i x q hd hx hq
      refine Wp.step (fun k => spec_anyPixel.l0.eq_2 ..) (Wp.neg (by omega) ?_)
      refine Wp.call (w_spoil b q x 256 (h.up (by omega) (by omega)) (by omega) (by omega)) ?_
      rintro ⟨y, q'⟩ ⟨a1, a2, a3⟩
      simp only at a1 a2 a3
      exact Wp.ret ⟨by simp only; omega, by simp only; omega, by simp only; omega⟩
    | succ d ih =>
      intro i x q hd hx hq
      refine Wp.step (fun k => spec_anyPixel.l0.eq_2 ..) (Wp.pos (by omega) ?_)
      refine Wp.call (w_pick b q 256 (h.up (by omega) (by omega)) (by omega) (by omega)) ?_
      rintro _ ⟨u, rfl, u0, u1, _⟩
      refine Wp.pos (by omega) ?_
      rw [w64 (x := (i : Int) + 1) (by omega) (by omega)]
      exact ih (i + 1) _ _ (by omega) (by simp [hx]) (by simp only; omega)
  exact key n.toNat 0 [] p (by omega) rfl (by simp)
end Go.Proofs.Ytbldmekplkjfiaa.P
namespace Go.Proofs.Ytbldmekplkjfiaa.P
open Go.RowKit Go.Proofs.YtbldmekplkjfiaaW.PrintWords Go.Proofs.YtbldmekplkjfiaaW.PrintLast Go.Proofs.YtbldmekplkjfiaaW.PrintMore Go.Proofs.Ytbldmekplkjfiaa.Wp
set_option linter.unusedVariables false
set_option linter.unusedSimpArgs false
def FewC (L : List (List Int)) : Prop := L.length ≤ 17 ∧ ∀ y ∈ L, y.length ≤ 20
theorem w_anyColors (b : List Int) (q n : Int) (h : Rdr b q) (hq : q ≤ 900000) (hn : 0 ≤ n ∧ n ≤ 10) : Wp (fun k => spec_anyColors.f k b q n) (fun r => FewC r.1 ∧ q ≤ r.2 ∧ r.2 ≤ q + 1000) := by
  unfold spec_anyColors.f
  have last : ∀ (L : List (List Int)) (t : Bool) (p : Int), FewC L → (t = true → 0 < L.length) → q ≤ p → p ≤ q + 300 → Wp (fun k => spec_anyColors.j2 k n L t b p) (fun r => FewC r.1 ∧ q ≤ r.2 ∧ r.2 ≤ q + 1000) := by
    intro L t p hL ht p0 p1
    refine Wp.step (fun k => spec_anyColors.j2.eq_2 ..) (Wp.ite (fun h1 => ?_) (fun _ => Wp.ret ⟨hL, by simp only; omega, by simp only; omega⟩))
    have hl := ht h1
    refine Wp.call (w_pick b p 2 (h.up p0 (by omega)) (by omega) (by omega)) ?_
    rintro _ ⟨x, rfl, x0, x1, _⟩
    have x1 := x1 (by omega)
    simp only
    rw [w64 (x := n + x) (by omega) (by omega)]
    refine Wp.call (w_anyPixel b (p + 1) (n + x) (h.up (by omega) (by omega)) (by omega) (by omega) (by omega)) ?_
    rintro ⟨y, p'⟩ ⟨y0, y1, y2⟩
    simp only at y0 y1 y2
    refine Wp.pos (by omega) (Wp.ret ⟨⟨by simp only [List.length_set]; exact hL.1, fun z hz => ?_⟩, by simp only; omega, by simp only; omega⟩)
    rcases List.mem_or_eq_of_mem_set hz with h2 | h2
    · exact hL.2 z h2
    · rw [h2]; show y.length ≤ 20; omega
  have key : ∀ (m : Nat) (L : List (List Int)) (p : Int), L.length + m ≤ 17 → (∀ y ∈ L, y.length ≤ 20) → q + 1 ≤ p → p + 10 * m ≤ q + 171 → Wp (fun k => spec_anyColors.l0 k n L m b p) (fun r => FewC r.1 ∧ q ≤ r.2 ∧ r.2 ≤ q + 1000) := by
    intro m
    induction m with
    | zero =>
      intro L p hL hy p0 p1
      refine Wp.step (fun k => spec_anyColors.l0.eq_2 ..) (Wp.neg (by omega) (Wp.ite (fun h1 => ?_) (fun h1 => ?_)))
      · refine Wp.call (w_pick b p 20 (h.up (by omega) (by omega)) (by omega) (by omega)) ?_
        rintro _ ⟨x, rfl, _⟩
        exact last L _ _ ⟨by omega, hy⟩ (fun _ => by omega) (by omega) (by omega)
      · exact last L _ _ ⟨by omega, hy⟩ (fun h2 => absurd h2 (by decide)) (by omega) (by omega)
    | succ m ih =>
      intro L p hL hy p0 p1
      have inner : ∀ (d i : Nat) (x : List Int) (p' : Int), i + d = n.toNat → x.length = i → p' = p + i → Wp (fun k => spec_anyColors.l1 k n L ((m + 1 : Nat) : Int) x i b p') (fun r => FewC r.1 ∧ q ≤ r.2 ∧ r.2 ≤ q + 1000) := by
        intro d
        induction d with
        | zero =>
          intro i x p' hd hx hp
          refine Wp.step (fun k => spec_anyColors.l1.eq_2 ..) (Wp.neg (by omega) (Wp.pos (by omega) ?_))
          rw [w64 (x := ((m + 1 : Nat) : Int) - 1) (by omega) (by omega), show ((m + 1 : Nat) : Int) - 1 = (m : Int) by omega]
          refine ih _ _ (by rw [List.length_append, List.length_singleton]; omega) (fun y hy2 => ?_) (by omega) (by omega)
          rcases List.mem_append.1 hy2 with h2 | h2
          · exact hy y h2
          · rw [List.mem_singleton] at h2
            rw [h2]; omega
        | succ d ih2 =>
          intro i x p' hd hx hp
          refine Wp.step (fun k => spec_anyColors.l1.eq_2 ..) (Wp.pos (by omega) ?_)
          refine Wp.call (w_pick b p' 5 (h.up (by omega) (by omega)) (by omega) (by omega)) ?_
          rintro _ ⟨v, rfl, _⟩
          simp only
          refine Wp.pos (by omega) ?_
          rw [w64 (x := (i : Int) + 1) (by omega) (by omega)]
          exact ih2 (i + 1) _ _ (by omega) (by rw [List.length_append, List.length_singleton]; omega) (by omega)
      refine Wp.step (fun k => spec_anyColors.l0.eq_2 ..) (Wp.pos (by omega) ?_)
      exact inner n.toNat 0 [] p (by omega) rfl (by omega)
  refine Wp.call (w_one b q _ h (by omega) (by simp) (by simp)) ?_
  rintro _ ⟨x, rfl, hx⟩
  simp only [List.mem_cons, List.not_mem_nil, or_false] at hx
  simp only
  obtain ⟨m, rfl⟩ := Int.eq_ofNat_of_zero_le (show 0 ≤ x by omega)
  exact key m [] _ (by simp only [List.length_nil]; omega) (fun y hy => by simp at hy) (by omega) (by omega)
end Go.Proofs.Ytbldmekplkjfiaa.P
namespace Go.Proofs.Ytbldmekplkjfiaa.P
open Go.RowKit Go.Proofs.YtbldmekplkjfiaaW.PrintWords Go.Proofs.YtbldmekplkjfiaaW.PrintLast Go.Proofs.YtbldmekplkjfiaaW.PrintMore Go.Proofs.Ytbldmekplkjfiaa.Wp
set_option linter.unusedVariables false
set_option linter.unusedSimpArgs false
theorem w_anyPlanes (b : List Int) (q : Int) (h : Rdr b q) (hq : q ≤ 900000) : Wp (fun k => spec_anyPlanes.f k b q) (fun r => (1 ≤ r.1 ∧ r.1 ≤ 4) ∧ r.2 = q + 1) := by
  unfold spec_anyPlanes.f
  refine Wp.call (w_one b q _ h (by omega) (by simp) (by simp)) ?_
  rintro _ ⟨x, rfl, hx⟩
  simp only [List.mem_cons, List.not_mem_nil, or_false] at hx
  exact Wp.ret ⟨by first | omega | (simp only; omega), rfl⟩
end Go.Proofs.Ytbldmekplkjfiaa.P
namespace Go.Proofs.Ytbldmekplkjfiaa.Pure
open Go.RowKit Go.Proofs.Ytbldmekplkjfiaa.P Go.Proofs.YtbldmekplkjfiaaW.PrintWords Go.Proofs.YtbldmekplkjfiaaW.PrintMore Go.Proofs.Ytbldmekplkjfiaa.Wp
set_option linter.unusedVariables false
theorem w_DrawNear (l : List Int) (hb : ∀ x ∈ l, (Lit.int .u8 x).wf = true) : Wp (fun k => spec_DrawNearestColor.f k l) (fun r => FewC r.1 ∧ r.2.length ≤ 100) := by
  unfold spec_DrawNearestColor.f
  refine Wp.call (w_newReader l hb) ?_
  rintro ⟨b, p⟩ ⟨h, e⟩
  simp only at e h
  subst e
  refine Wp.call (w_anyPlanes b 0 h (by omega)) ?_
  rintro ⟨n, p⟩ ⟨hn, e⟩
  simp only at hn e
  subst e
  refine Wp.call (w_anyColors b (0 + 1) n (h.up (by omega) (by omega)) (by omega) (by omega)) ?_
  rintro ⟨L, p⟩ ⟨hL, p0, p1⟩
  simp only at hL p0 p1
  refine Wp.call (w_anyPixel b p n (h.up (by omega) (by omega)) (by omega) (by omega) (by omega)) ?_
  rintro ⟨px, q⟩ ⟨hl, _⟩
  simp only at hl
  exact Wp.ret ⟨hL, by simp only; omega⟩
def gaps (L : List (List Int)) (px : List Int) (p n : Nat) : List Int := (List.range n).map fun i => gapN (L.getD i []) px p
theorem gaps_get (L : List (List Int)) (px : List Int) (p n i : Nat) (h : i < n) : (gaps L px p n).getD i 0 = gapN (L.getD i []) px p := bl_map_range _ n i h
theorem FnNearestColor : laws_FnNearestColor.Pure := by
  intro l _ _ hb
  refine Wp.rounds ?_
  unfold laws_FnNearestColor.f
  refine Wp.ite (fun _ => Wp.ret rfl) (fun _ => ?_)
  refine Wp.call (w_DrawNear l hb) ?_
  rintro ⟨L, px⟩ ⟨hF, hpl⟩
  simp only at hF hpl
  have hS : Small L := ⟨by have := hF.1; omega, fun y hy => by have := hF.2 y hy; omega⟩
  have hL17 := hF.1
  refine Wp.call (w_iNearC L px) ?_
  rintro _ rfl
  refine Wp.call (w_sNearC L px hS (by omega)) ?_
  rintro _ rfl
  refine Wp.pos rfl ?_
  by_cases hc : (1 ≤ px.length ∧ px.length ≤ 4) ∧ allB px = true ∧ palB L px.length = true ∧ 1 ≤ L.length
  · have e : nearC L px = ((nrC L px px.length L.length : Nat) : Int) := by
      unfold nearC
      rw [if_pos hc]
    obtain ⟨hp, hB, hP, h1⟩ := hc
    have hok := palB_ok hP
    have hpB := allB_mem hB
    have hlt := nrC_lt L px px.length L.length (by omega)
    have hmin := nrC_min L px px.length L.length
    have hfirst := nrC_first L px px.length L.length
    rw [e]
    generalize nrC L px px.length L.length = best at hlt hmin hfirst
    generalize hpp : px.length = p at hp hP hok hmin hfirst
    refine Wp.neg (by omega) ?_
    rw [decide_eq_false (show ¬ ((best : Int) ≥ (L.length : Int)) by omega)]
    refine Wp.step (fun k => laws_FnNearestColor.j0.eq_2 ..) (Wp.neg (by decide) ?_)
    have last : ∀ (d i : Nat), i + d = L.length → Wp (fun k => laws_FnNearestColor.l2 k L best (gaps L px p L.length) i) (fun r => r = true) := by
      have hgl : (gaps L px p L.length).length = L.length := by simp [gaps]
      intro d
      induction d with
      | zero =>
        intro i hd
        refine Wp.step (fun k => laws_FnNearestColor.l2.eq_2 ..) (Wp.neg (by omega) (Wp.pos (by omega) (Wp.pos (by omega) ?_)))
        rw [ll_rd]
        have hm := ll_mem L best hlt
        have hr := hok.2 _ hm
        refine Wp.call (w_iNearC L (L.getD best [])) ?_
        rintro _ rfl
        have e2 : nearC L (L.getD best []) = ((nrC L (L.getD best []) p L.length : Nat) : Int) := by
          unfold nearC
          rw [if_pos ⟨by omega, allB_of hr.2, by rw [hr.1]; exact hP, h1⟩, hr.1]
        rw [e2]
        have h3 := nrC_lt L (L.getD best []) p L.length (by omega)
        refine Wp.pos (by omega) (Wp.pos (by omega) ?_)
        rw [ll_rd, nrC_self L _ p hok hm]
        refine Wp.call (w_equalInts _ _ (by omega)) ?_
        rintro _ rfl
        exact Wp.ret (decide_eq_true rfl)
      | succ d ih =>
        intro i hd
        have g1 := hmin i (by omega)
        refine Wp.step (fun k => laws_FnNearestColor.l2.eq_2 ..) (Wp.pos (by omega) (Wp.pos (by omega) (Wp.pos (by omega) (Wp.pos (by omega) ?_))))
        rw [bl_rd, bl_rd, gaps_get _ _ _ _ _ (show i < L.length by omega), gaps_get _ _ _ _ _ hlt, w64 (x := (i : Int) + 1) (by omega) (by omega)]
        refine Wp.neg (by omega) (Wp.ite (fun h2 => Wp.neg (fun h3 => ?_) (ih (i + 1) (by omega))) (fun _ => ih (i + 1) (by omega)))
        have := hfirst i (by omega)
        omega
    have inner : ∀ (i : Nat), i < L.length → Wp (fun k => laws_FnNearestColor.l0 k L px best (gaps L px p (i + 1)) ((i : Int) + 1)) (fun r => r = true) → ∀ (d t : Nat), t + d = p → Wp (fun k => laws_FnNearestColor.l1 k L px best (gaps L px p i) i (gapN (L.getD i []) px t) t) (fun r => r = true) := by
      intro i hi next d
      have hr := hok.2 _ (ll_mem L i hi)
      induction d with
      | zero =>
        intro t ht
        have : t = p := by omega
        subst this
        refine Wp.step (fun k => laws_FnNearestColor.l1.eq_2 ..) (Wp.neg (by omega) (Wp.pos (by simp only [gaps, List.length_map, List.length_range]; omega) ?_))
        rw [w64 (x := (i : Int) + 1) (by omega) (by omega)]
        have e3 : gaps L px t i ++ [gapN (L.getD i []) px t] = gaps L px t (i + 1) := by simp [gaps, List.range_succ]
        rw [e3]
        exact next
      | succ d ih =>
        intro t ht
        have b1 := getB hr.2 t
        have b2 := getB hpB t
        have b3 := sq_B (x := (L.getD i []).getD t 0 - px.getD t 0) (by omega) (by omega)
        have b4 := gap_B hr.2 hpB t
        refine Wp.step (fun k => laws_FnNearestColor.l1.eq_2 ..) (Wp.pos (by omega) (Wp.pos (by omega) (Wp.pos (by omega) (Wp.pos (by omega) ?_))))
        rw [ll_rd, bl_rd, bl_rd, w64 (x := (L.getD i []).getD t 0 - px.getD t 0) (by omega) (by omega), w64 (x := ((L.getD i []).getD t 0 - px.getD t 0) * ((L.getD i []).getD t 0 - px.getD t 0)) (by omega) (by omega),
          w64 (x := gapN (L.getD i []) px t + ((L.getD i []).getD t 0 - px.getD t 0) * ((L.getD i []).getD t 0 - px.getD t 0)) (by omega) (by omega), w64 (x := (t : Int) + 1) (by omega) (by omega)]
        exact Wp.pos (by omega) (ih (t + 1) (by omega))
    have key : ∀ (d i : Nat), i + d = L.length → Wp (fun k => laws_FnNearestColor.l0 k L px best (gaps L px p i) i) (fun r => r = true) := by
      intro d
      induction d with
      | zero =>
        intro i hd
        have : i = L.length := by omega
        subst this
        refine Wp.step (fun k => laws_FnNearestColor.l0.eq_2 ..) (Wp.neg (by omega) ?_)
        exact last L.length 0 (by omega)
      | succ d ih =>
        intro i hd
        refine Wp.step (fun k => laws_FnNearestColor.l0.eq_2 ..) (Wp.pos (by omega) ?_)
        exact inner i (by omega) (ih (i + 1) (by omega)) p 0 (by omega)
    exact key L.length 0 (by omega)
  · have e : nearC L px = -1 := by
      unfold nearC
      rw [if_neg hc]
    rw [e]
    refine Wp.pos (by decide) ?_
    refine Wp.step (fun k => laws_FnNearestColor.j0.eq_2 ..) (Wp.pos rfl ?_)
    refine Wp.call (w_sNearC L px hS (by omega)) ?_
    rintro _ rfl
    rw [e]
    exact Wp.ret rfl
end Go.Proofs.Ytbldmekplkjfiaa.Pure
