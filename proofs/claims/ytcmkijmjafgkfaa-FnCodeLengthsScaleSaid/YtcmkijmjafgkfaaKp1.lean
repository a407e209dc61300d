/- Pure lemmas: what the printed functions answer, for every input; no Go, no memory, no condition but those that each lemma names. -/
import Derived.Test.YtcmkijmjafgkfaaVWords
import Derived.Test.YtcmkijmjafgkfaaK1
import Derived.Test.YtcmkijmjafgkfaaK2
import Derived.Test.YtcmkijmjafgkfaaK3
import Derived.Test.YtcmkijmjafgkfaaK4
namespace Go.Proofs.Ytcmkijmjafgkfaa.Wp
open Go.RowKit Go.Proofs.YtcmkijmjafgkfaaW.PrintWords
set_option linter.unusedVariables false
def Wp {α : Type} (g : Nat → Option α) (P : α → Prop) : Prop := ∃ r, P r ∧ ∃ K, ∀ k, K ≤ k → g k = some r
theorem Wp.mono {α : Type} {g : Nat → Option α} {P Q : α → Prop} (h : Wp g P) (hi : ∀ a, P a → Q a) : Wp g Q := by
  obtain ⟨r, hp, K, hk⟩ := h
  exact ⟨r, hi r hp, K, hk⟩
theorem Wp.ret {α : Type} {P : α → Prop} {r : α} (h : P r) : Wp (fun _ => some r) P := ⟨r, h, 0, fun _ _ => rfl⟩
theorem Wp.bind {α β : Type} {g : Nat → Option α} {f : Nat → α → Option β} {P : β → Prop} (h : Wp g (fun a => Wp (fun k => f k a) P)) : Wp (fun k => (g k).bind (f k)) P := by
  obtain ⟨a, ⟨r, hp, K, hk⟩, K', hk'⟩ := h
  refine ⟨r, hp, max K K', fun k hkk => ?_⟩
  show (g k).bind (f k) = some r
  rw [hk' k (by omega)]
  exact hk k (by omega)
theorem Wp.call {α β : Type} {g : Nat → Option α} {f : Nat → α → Option β} {Q : α → Prop} {P : β → Prop} (h : Wp g Q) (hf : ∀ a, Q a → Wp (fun k => f k a) P) : Wp (fun k => (g k).bind (f k)) P :=
  Wp.bind (h.mono hf)
theorem Wp.ite {α : Type} {c : Prop} [Decidable c] {g h : Nat → Option α} {P : α → Prop} (h1 : c → Wp g P) (h2 : ¬ c → Wp h P) : Wp (fun k => if c then g k else h k) P := by
  by_cases hc : c
  · simpa only [if_pos hc] using h1 hc
  · simpa only [if_neg hc] using h2 hc
theorem Wp.pos {α : Type} {c : Prop} [Decidable c] {g h : Nat → Option α} {P : α → Prop} (hc : c) (h1 : Wp g P) : Wp (fun k => if c then g k else h k) P := Wp.ite (fun _ => h1) (fun h => absurd hc h)
theorem Wp.neg {α : Type} {c : Prop} [Decidable c] {g h : Nat → Option α} {P : α → Prop} (hc : ¬ c) (h1 : Wp h P) : Wp (fun k => if c then g k else h k) P := Wp.ite (fun h => absurd h hc) (fun _ => h1)
theorem Wp.step {α : Type} {g f : Nat → Option α} {P : α → Prop} (h : ∀ k, g (k + 1) = f k) (hf : Wp f P) : Wp g P := by
  obtain ⟨r, hp, K, hk⟩ := hf
  refine ⟨r, hp, K + 1, fun k hkk => ?_⟩
  obtain ⟨k, rfl⟩ : ∃ m, k = m + 1 := ⟨k - 1, by omega⟩
  rw [h k]
  exact hk k (by omega)
theorem Wp.of {α : Type} {g : Nat → Option α} {P : α → Prop} {r : α} (h : ∀ k, g k = some r) (hp : P r) : Wp g P := ⟨r, hp, 0, fun k _ => h k⟩
theorem Wp.rounds {α : Type} {g : Nat → Option α} {r : α} (h : Wp g (fun a => a = r)) : ∃ k, g k = some r := by
  obtain ⟨r', rfl, K, hk⟩ := h
  exact ⟨K, hk K (Nat.le_refl K)⟩
theorem w64 {x : Int} (h0 : -9223372036854775808 ≤ x) (h1 : x ≤ 9223372036854775807) : wrap64 x = x := by
  unfold wrap64
  omega
end Go.Proofs.Ytcmkijmjafgkfaa.Wp
namespace Go.Proofs.Ytcmkijmjafgkfaa.P
open Go.RowKit Go.Proofs.YtcmkijmjafgkfaaW.PrintWords Go.Proofs.YtcmkijmjafgkfaaW.PrintLast Go.Proofs.YtcmkijmjafgkfaaW.PrintMore Go.Proofs.Ytcmkijmjafgkfaa.Wp
set_option linter.unusedVariables false
set_option linter.unusedSimpArgs false
theorem bl_rd (l : List Int) (i : Nat) : rd l (i : Int) = l.getD i 0 := by simp [rd]
theorem bl_rd_lt (l : List Int) (i : Nat) (h : i < l.length) : rd l (i : Int) = l[i] := by simp [rd, List.getD_eq_getElem?_getD, List.getElem?_eq_getElem h]
theorem bl_ext {x l : List Int} (hx : x.length = l.length) (h : ∀ j, j < l.length → x.getD j 0 = l.getD j 0) : x = l := by
  apply List.ext_getElem hx
  intro j h1 h2
  have := h j h2
  simpa [List.getD_eq_getElem?_getD, List.getElem?_eq_getElem h1, List.getElem?_eq_getElem h2] using this
theorem bl_all_drop (l : List Int) (p : Int → Bool) (i : Nat) (h : i < l.length) : (l.drop i).all p = (p (l.getD i 0) && (l.drop (i + 1)).all p) := by
  rw [List.drop_eq_getElem_cons h, List.all_cons]
  simp [List.getD_eq_getElem?_getD, List.getElem?_eq_getElem h]
theorem w_inRange0 (a b c : Int) : Wp (fun _ => spec_inRange.f a b c) (fun r => r = decide (b ≤ a ∧ a ≤ c)) := by
  unfold spec_inRange.f
  refine Wp.ite (fun h => Wp.ret ?_) (fun h => Wp.ret ?_)
  · simp [h]
  · simp [h]
theorem w_allIn (l : List Int) (a b : Int) (hl : l.length ≤ 1000000000) : Wp (fun k => spec_allIn.f k l a b) (fun r => r = l.all fun n => decide (a ≤ n ∧ n ≤ b)) := by
  unfold spec_allIn.f
  have key : ∀ d (i : Nat), i + d = l.length → Wp (fun k => spec_allIn.l0 k l a b i) (fun r => r = (l.drop i).all fun n => decide (a ≤ n ∧ n ≤ b)) := by
    intro d
    induction d with
    | zero =>
      intro i hd
      refine Wp.step (fun k => spec_allIn.l0.eq_2 ..) (Wp.neg (by omega) (Wp.ret ?_))
      rw [List.drop_of_length_le (by omega)]
      rfl
    | succ d ih =>
      intro i hd
      refine Wp.step (fun k => spec_allIn.l0.eq_2 ..) (Wp.pos (by omega) (Wp.pos (by omega) ?_))
      refine Wp.call (w_inRange0 _ _ _) ?_
      rintro _ rfl
      rw [bl_all_drop l _ i (by omega), bl_rd]
      refine Wp.ite (fun h => ?_) (fun h => Wp.ret ?_)
      · rw [h, Bool.true_and, w64 (x := (i : Int) + 1) (by omega) (by omega)]
        exact ih (i + 1) (by omega)
      · rw [Bool.not_eq_true] at h
        rw [h, Bool.false_and]
  exact key l.length 0 (by omega)
def marks (a : Int) (n : Nat) : List Int := (List.range n).map fun j : Nat => a + (j : Int)
theorem w_equalInts (a b : List Int) (hl : a.length ≤ 1000000000) : Wp (fun k => laws_equalInts.f k a b) (fun r => r = decide (a = b)) := by
  unfold laws_equalInts.f
  refine Wp.ite (fun he => ?_) (fun he => Wp.ret ?_)
  · have key : ∀ d (i : Nat), i + d = a.length → (∀ j, j < i → a.getD j 0 = b.getD j 0) → Wp (fun k => laws_equalInts.l0 k a b i) (fun r => r = decide (a = b)) := by
      intro d
      induction d with
      | zero =>
        intro i hd h
        refine Wp.step (fun k => laws_equalInts.l0.eq_2 ..) (Wp.neg (by omega) (Wp.ret ?_))
        exact (decide_eq_true (bl_ext (by omega) fun j hj => h j (by omega))).symm
      | succ d ih =>
        intro i hd h
        refine Wp.step (fun k => laws_equalInts.l0.eq_2 ..) (Wp.pos (by omega) (Wp.pos (by omega) (Wp.pos (by omega) ?_)))
        rw [bl_rd, bl_rd]
        refine Wp.ite (fun h1 => ?_) (fun h1 => Wp.ret ?_)
        · rw [w64 (x := (i : Int) + 1) (by omega) (by omega)]
          refine ih (i + 1) (by omega) fun j hj => ?_
          by_cases e : j = i
          · rw [e]; exact h1
          · exact h j (by omega)
        · exact (decide_eq_false fun e => h1 (by rw [e])).symm
    exact key a.length 0 (by omega) (fun j hj => by omega)
  · exact (decide_eq_false fun e => he (by rw [e])).symm
end Go.Proofs.Ytcmkijmjafgkfaa.P
namespace Go.Proofs.Ytcmkijmjafgkfaa.P
open Go.RowKit Go.Proofs.YtcmkijmjafgkfaaW.PrintWords Go.Proofs.YtcmkijmjafgkfaaW.PrintLast Go.Proofs.YtcmkijmjafgkfaaW.PrintMore Go.Proofs.Ytcmkijmjafgkfaa.Wp
set_option linter.unusedVariables false
set_option linter.unusedSimpArgs false
theorem w_copyInts (l : List Int) (hl : l.length ≤ 1000000000) : Wp (fun _ => spec_copyInts.f l) (fun r => r = l) := by
  unfold spec_copyInts.f
  exact Wp.pos (by simp; omega) (Wp.ret (by simp))
end Go.Proofs.Ytcmkijmjafgkfaa.P
namespace Go.Proofs.Ytcmkijmjafgkfaa.P
open Go.RowKit Go.Proofs.YtcmkijmjafgkfaaW.PrintWords Go.Proofs.YtcmkijmjafgkfaaW.PrintLast Go.Proofs.YtcmkijmjafgkfaaW.PrintMore Go.Proofs.Ytcmkijmjafgkfaa.Wp
set_option linter.unusedVariables false
set_option linter.unusedSimpArgs false
abbrev Nd := Int × List Int
def nd (q : List Nd) (i : Nat) : Nd := q.getD i (0, [])
def wt (q : List Nd) (i : Nat) : Int := (nd q i).1
def IsMin (q : List Nd) (k : Nat) : Prop := k < q.length ∧ (∀ i, i < q.length → wt q k ≤ wt q i) ∧ ∀ i, i < k → wt q k < wt q i
theorem IsMin.unique {q : List Nd} {k k' : Nat} (h : IsMin q k) (h' : IsMin q k') : k = k' := by
  obtain ⟨a, b, c⟩ := h
  obtain ⟨a', b', c'⟩ := h'
  rcases Nat.lt_trichotomy k k' with e | e | e
  · have := c' k e; have := b k' a'; omega
  · exact e
  · have := c k' e; have := b' k a; omega
def amTo (q : List Nd) : Nat → Nat
  | 0 => 0
  | i + 1 => if wt q i < wt q (amTo q i) then i else amTo q i
def am (q : List Nd) : Nat := amTo q q.length
theorem amTo_spec (q : List Nd) (i : Nat) : amTo q (i + 1) ≤ i ∧ (∀ j, j ≤ i → wt q (amTo q (i + 1)) ≤ wt q j) ∧ ∀ j, j < amTo q (i + 1) → wt q (amTo q (i + 1)) < wt q j := by
  induction i with
  | zero =>
    have e : amTo q 1 = 0 := by simp [amTo]
    rw [e]
    exact ⟨Nat.le_refl _, fun j hj => by rw [show j = 0 by omega]; exact Int.le_refl _, fun j hj => absurd hj (Nat.not_lt_zero _)⟩
  | succ i ih =>
    obtain ⟨h1, h2, h3⟩ := ih
    by_cases h : wt q (i + 1) < wt q (amTo q (i + 1))
    · have e : amTo q (i + 1 + 1) = i + 1 := if_pos h
      rw [e]
      refine ⟨Nat.le_refl _, fun j hj => ?_, fun j hj => ?_⟩
      · by_cases hj' : j = i + 1
        · rw [hj']; exact Int.le_refl _
        · have := h2 j (by omega); omega
      · have := h2 j (by omega); omega
    · have e : amTo q (i + 1 + 1) = amTo q (i + 1) := if_neg h
      rw [e]
      refine ⟨by omega, fun j hj => ?_, h3⟩
      by_cases hj' : j = i + 1
      · rw [hj']; omega
      · exact h2 j (by omega)
theorem am_min (q : List Nd) (h : 0 < q.length) : IsMin q (am q) := by
  unfold am
  obtain ⟨n, hn⟩ : ∃ n, q.length = n + 1 := ⟨q.length - 1, by omega⟩
  rw [hn]
  obtain ⟨h1, h2, h3⟩ := amTo_spec q n
  exact ⟨by omega, fun i hi => h2 i (by omega), h3⟩
theorem am_eq {q : List Nd} {k : Nat} (h : IsMin q k) : am q = k := (am_min q (by have := h.1; omega)).unique h
def bump (x s : List Int) : List Int := s.foldl (fun x i => x.set i.toNat (x.getD i.toNat 0 + 1)) x
def rest1 (q : List Nd) : List Nd := q.eraseIdx (am q)
def rest2 (q : List Nd) : List Nd := (rest1 q).eraseIdx (am (rest1 q))
def sy (q : List Nd) : List Int := (nd q (am q)).2 ++ (nd (rest1 q) (am (rest1 q))).2
def sw (q : List Nd) : Int := (nd q (am q)).1 + (nd (rest1 q) (am (rest1 q))).1
def mrg (q : List Nd) : List Nd := rest2 q ++ [(sw q, sy q)]
def huff : Nat → List Nd → List Int → List Int
  | 0, _, x => x
  | f + 1, q, x => if q.length ≤ 1 then x else huff f (mrg q) (bump x (sy q))
theorem rest1_len (q : List Nd) (h : 0 < q.length) : (rest1 q).length + 1 = q.length := by
  unfold rest1
  have := (am_min q h).1
  rw [List.length_eraseIdx_of_lt this]
  omega
theorem rest2_len (q : List Nd) (h : 1 < q.length) : (rest2 q).length + 2 = q.length := by
  have h1 := rest1_len q (by omega)
  unfold rest2
  have := (am_min (rest1 q) (by omega)).1
  rw [List.length_eraseIdx_of_lt this]
  omega
theorem mrg_len (q : List Nd) (h : 1 < q.length) : (mrg q).length + 1 = q.length := by
  have := rest2_len q h
  unfold mrg
  rw [List.length_append]
  simp
  omega
theorem bump_len (s x : List Int) : (bump x s).length = x.length := by
  unfold bump
  induction s generalizing x with
  | nil => rfl
  | cons i s ih =>
    rw [List.foldl_cons, ih]
    simp
theorem huff_len (f : Nat) (q : List Nd) (x : List Int) : (huff f q x).length = x.length := by
  induction f generalizing q x with
  | zero => rfl
  | succ f ih =>
    unfold huff
    split
    · rfl
    · rw [ih, bump_len]
def nodesTo (l : List Int) : Nat → List Nd
  | 0 => []
  | i + 1 => if 0 < l.getD i 0 then nodesTo l i ++ [(l.getD i 0, [(i : Int)])] else nodesTo l i
def nodes0 (l : List Int) : List Nd := nodesTo l l.length
theorem nodesTo_len (l : List Int) (i : Nat) : (nodesTo l i).length ≤ i := by
  induction i with
  | zero => exact Nat.le_refl _
  | succ i ih =>
    unfold nodesTo
    split
    · rw [List.length_append]; simp; omega
    · omega
def clOf (l : List Int) : List Int :=
  if (nodes0 l).length = 1 then (List.replicate l.length 0).set ((nd (nodes0 l) 0).2.getD 0 0).toNat 1 else huff (nodes0 l).length (nodes0 l) (List.replicate l.length 0)
theorem clOf_len (l : List Int) : (clOf l).length = l.length := by
  unfold clOf
  split
  · simp
  · rw [huff_len]; simp
def NdOk (n : Nat) (q : List Nd) (W : Int) (S : Nat) : Prop :=
  (∀ p ∈ q, 0 ≤ p.1 ∧ ∀ s ∈ p.2, 0 ≤ s ∧ s < (n : Int)) ∧ (q.map (·.1)).sum ≤ W ∧ (q.map (·.2.length)).sum ≤ S
theorem sum_erase (f : Nd → Int) (q : List Nd) (k : Nat) (h : k < q.length) : ((q.eraseIdx k).map f).sum + f (nd q k) = (q.map f).sum := by
  induction q generalizing k with
  | nil => simp at h
  | cons a q ih =>
    cases k with
    | zero => simp [nd]; omega
    | succ k =>
      have := ih k (by simpa using h)
      simp [nd] at this ⊢
      omega
theorem sumN_erase (f : Nd → Nat) (q : List Nd) (k : Nat) (h : k < q.length) : ((q.eraseIdx k).map f).sum + f (nd q k) = (q.map f).sum := by
  induction q generalizing k with
  | nil => simp at h
  | cons a q ih =>
    cases k with
    | zero => simp [nd]; omega
    | succ k =>
      have := ih k (by simpa using h)
      simp [nd] at this ⊢
      omega
theorem nd_mem (q : List Nd) (k : Nat) (h : k < q.length) : nd q k ∈ q := by
  unfold nd
  rw [List.getD_eq_getElem?_getD, List.getElem?_eq_getElem h]
  exact List.getElem_mem _
theorem sum_nonneg (f : Nd → Int) (q : List Nd) (h : ∀ p ∈ q, 0 ≤ f p) : 0 ≤ (q.map f).sum := by
  induction q with
  | nil => simp
  | cons a q ih =>
    have h1 := h a (List.mem_cons_self ..)
    have h2 := ih fun p hp => h p (List.mem_cons_of_mem _ hp)
    simp
    omega
theorem NdOk.parts {n : Nat} {q : List Nd} {W : Int} {S : Nat} (h : NdOk n q W S) (hq : 1 < q.length) :
    (0 ≤ sw q ∧ sw q ≤ W) ∧ (∀ s ∈ sy q, 0 ≤ s ∧ s < (n : Int)) ∧ (sy q).length ≤ S ∧ NdOk n (mrg q) W S := by
  obtain ⟨h1, h2, h3⟩ := h
  have l1 := rest1_len q (by omega)
  have m1 := (am_min q (by omega)).1
  have m2 := (am_min (rest1 q) (by omega)).1
  have e1 := sum_erase (·.1) q (am q) m1
  have e2 := sum_erase (·.1) (rest1 q) (am (rest1 q)) m2
  have f1 := sumN_erase (·.2.length) q (am q) m1
  have f2 := sumN_erase (·.2.length) (rest1 q) (am (rest1 q)) m2
  have a1 := h1 _ (nd_mem q _ m1)
  have sub : ∀ p ∈ rest1 q, p ∈ q := fun p hp => List.mem_of_mem_eraseIdx hp
  have sub2 : ∀ p ∈ rest2 q, p ∈ q := fun p hp => sub p (List.mem_of_mem_eraseIdx hp)
  have a2 := h1 _ (sub _ (nd_mem (rest1 q) _ m2))
  have p2 := sum_nonneg (·.1) (rest2 q) fun p hp => (h1 p (sub2 p hp)).1
  have hsy : ∀ s ∈ sy q, 0 ≤ s ∧ s < (n : Int) := fun s hs => by
    rcases List.mem_append.1 hs with h | h
    · exact a1.2 s h
    · exact a2.2 s h
  have e1' : ((rest1 q).map (·.1)).sum + (nd q (am q)).1 = (q.map (·.1)).sum := e1
  have e2' : ((rest2 q).map (·.1)).sum + (nd (rest1 q) (am (rest1 q))).1 = ((rest1 q).map (·.1)).sum := e2
  have f1' : ((rest1 q).map (·.2.length)).sum + (nd q (am q)).2.length = (q.map (·.2.length)).sum := f1
  have f2' : ((rest2 q).map (·.2.length)).sum + (nd (rest1 q) (am (rest1 q))).2.length = ((rest1 q).map (·.2.length)).sum := f2
  have hsw : sw q = (nd q (am q)).1 + (nd (rest1 q) (am (rest1 q))).1 := rfl
  have hsl : (sy q).length = (nd q (am q)).2.length + (nd (rest1 q) (am (rest1 q))).2.length := List.length_append ..
  refine ⟨by omega, hsy, by omega, fun p hp => ?_, ?_, ?_⟩
  · rcases List.mem_append.1 hp with h | h
    · exact h1 p (sub2 p h)
    · rw [List.mem_singleton] at h
      rw [h]
      exact ⟨by show 0 ≤ sw q; omega, hsy⟩
  · unfold mrg
    rw [List.map_append, List.sum_append]
    simp
    omega
  · unfold mrg
    rw [List.map_append, List.sum_append]
    simp
    omega
def rem : List Int → List (List Int) → List Bool → List Nd
  | w :: ws, m :: ms, u :: us => if u then rem ws ms us else (w, m) :: rem ws ms us
  | _, _, _ => []
def cnt : List Bool → Nat → Nat
  | [], _ => 0
  | _, 0 => 0
  | u :: us, a + 1 => (if u then 0 else 1) + cnt us a
theorem cnt_mono (us : List Bool) (a b : Nat) (h : a ≤ b) : cnt us a ≤ cnt us b := by
  induction us generalizing a b with
  | nil => simp [cnt]
  | cons u us ih =>
    cases a with
    | zero => simp [cnt]
    | succ a =>
      cases b with
      | zero => omega
      | succ b =>
        have := ih a b (by omega)
        simp only [cnt]
        omega
theorem rem_at (ws : List Int) (ms : List (List Int)) (us : List Bool) (a : Nat) (h1 : ws.length = us.length) (h2 : ms.length = us.length) (ha : a < us.length) (hu : us.getD a true = false) :
    cnt us a < (rem ws ms us).length ∧ nd (rem ws ms us) (cnt us a) = (ws.getD a 0, ms.getD a []) ∧ rem ws ms (us.set a true) = (rem ws ms us).eraseIdx (cnt us a) := by
  induction us generalizing ws ms a with
  | nil => simp at ha
  | cons u us ih =>
    cases ws with
    | nil => simp at h1
    | cons w ws =>
      cases ms with
      | nil => simp at h2
      | cons m ms =>
        cases a with
        | zero =>
          have hu' : u = false := by simpa using hu
          subst hu'
          simp [rem, cnt, nd]
        | succ a =>
          obtain ⟨i1, i2, i3⟩ := ih ws ms a (by simpa using h1) (by simpa using h2) (by simpa using ha) (by simpa using hu)
          cases u with
          | true =>
            simp only [rem, cnt, if_true, Nat.zero_add, List.set_cons_succ, List.getD_cons_succ]
            exact ⟨i1, i2, i3⟩
          | false =>
            simp only [rem, cnt, Bool.false_eq_true, if_false, List.set_cons_succ, List.getD_cons_succ, List.length_cons, Nat.add_comm 1, List.eraseIdx_cons_succ]
            exact ⟨by omega, by simpa [nd] using i2, by rw [i3]⟩
theorem rem_sur (ws : List Int) (ms : List (List Int)) (us : List Bool) (j : Nat) (h1 : ws.length = us.length) (h2 : ms.length = us.length) (hj : j < (rem ws ms us).length) : ∃ a, a < us.length ∧ us.getD a true = false ∧ cnt us a = j := by
  induction us generalizing ws ms j with
  | nil => cases ws <;> cases ms <;> simp [rem] at hj
  | cons u us ih =>
    cases ws with
    | nil => simp at h1
    | cons w ws =>
      cases ms with
      | nil => simp at h2
      | cons m ms =>
        cases u with
        | true =>
          simp only [rem, if_true] at hj
          obtain ⟨a, a1, a2, a3⟩ := ih ws ms j (by simpa using h1) (by simpa using h2) hj
          exact ⟨a + 1, by simpa using a1, by simpa using a2, by simp [cnt, a3]⟩
        | false =>
          cases j with
          | zero => exact ⟨0, by simp, by simp, by simp [cnt]⟩
          | succ j =>
            simp only [rem, Bool.false_eq_true, if_false, List.length_cons] at hj
            obtain ⟨a, a1, a2, a3⟩ := ih ws ms j (by simpa using h1) (by simpa using h2) (by omega)
            exact ⟨a + 1, by simpa using a1, by simpa using a2, by simp [cnt, a3, Nat.add_comm]⟩
theorem rem_push (ws : List Int) (ms : List (List Int)) (us : List Bool) (w : Int) (m : List Int) (h1 : ws.length = us.length) (h2 : ms.length = us.length) : rem (ws ++ [w]) (ms ++ [m]) (us ++ [false]) = rem ws ms us ++ [(w, m)] := by
  induction us generalizing ws ms with
  | nil =>
    cases ws with
    | nil => cases ms with
      | nil => simp [rem]
      | cons => simp at h2
    | cons => simp at h1
  | cons u us ih =>
    cases ws with
    | nil => simp at h1
    | cons w ws =>
      cases ms with
      | nil => simp at h2
      | cons m ms =>
        have := ih ws ms (by simpa using h1) (by simpa using h2)
        cases u <;> simp [rem, this]
theorem rem_all (q : List Nd) : rem (q.map (·.1)) (q.map (·.2)) (List.replicate q.length false) = q := by
  induction q with
  | nil => rfl
  | cons a q ih =>
    rw [List.length_cons, List.replicate_succ]
    simp [rem, ih]
def Lt (ws : List Int) (us : List Bool) (a : Nat) : Prop :=
  a < us.length ∧ us.getD a true = false ∧ ∀ b, b < us.length → us.getD b true = false → ws.getD a 0 ≤ ws.getD b 0 ∧ (b < a → ws.getD a 0 < ws.getD b 0)
theorem Lt.am {ws : List Int} {ms : List (List Int)} {us : List Bool} {a : Nat} (h : Lt ws us a) (h1 : ws.length = us.length) (h2 : ms.length = us.length) : am (rem ws ms us) = cnt us a := by
  obtain ⟨ha, hu, hm⟩ := h
  obtain ⟨i1, i2, _⟩ := rem_at ws ms us a h1 h2 ha hu
  have g : ∀ j, j < (rem ws ms us).length → ∃ b, b < us.length ∧ us.getD b true = false ∧ cnt us b = j ∧ wt (rem ws ms us) j = ws.getD b 0 := fun j hj => by
    obtain ⟨b, b1, b2, b3⟩ := rem_sur ws ms us j h1 h2 hj
    have := (rem_at ws ms us b h1 h2 b1 b2).2.1
    exact ⟨b, b1, b2, b3, by unfold wt; rw [← b3, this]⟩
  have e : wt (rem ws ms us) (cnt us a) = ws.getD a 0 := by unfold wt; rw [i2]
  refine am_eq ⟨i1, fun j hj => ?_, fun j hj => ?_⟩
  · obtain ⟨b, b1, b2, b3, b4⟩ := g j hj
    rw [e, b4]
    exact (hm b b1 b2).1
  · obtain ⟨b, b1, b2, b3, b4⟩ := g j (by omega)
    rw [e, b4]
    refine (hm b b1 b2).2 ?_
    rcases Nat.lt_or_ge b a with h | h
    · exact h
    · have := cnt_mono us a b h
      omega
theorem bl_rdb (us : List Bool) (i : Nat) : rdOf false us (i : Int) = us.getD i false := by simp [rdOf]
theorem getD_tf (us : List Bool) (i : Nat) (h : i < us.length) : us.getD i true = us.getD i false := by simp [List.getD_eq_getElem?_getD, List.getElem?_eq_getElem h]
theorem w_lightest (ws : List Int) (us : List Bool) (h1 : ws.length = us.length) (hl : us.length ≤ 1000) (he : ∃ b, b < us.length ∧ us.getD b true = false) :
    Wp (fun k => spec_lightest.f k ws us) (fun r => ∃ a : Nat, r = a ∧ Lt ws us a) := by
  unfold spec_lightest.f
  have key : ∀ d (i : Nat) (t : Int), i + d = us.length → ((t = -1 ∧ ∀ j, j < i → us.getD j true = true) ∨ ∃ a : Nat, t = a ∧ a < i ∧ us.getD a true = false ∧ ∀ b, b < i → us.getD b true = false → ws.getD a 0 ≤ ws.getD b 0 ∧ (b < a → ws.getD a 0 < ws.getD b 0)) →
      Wp (fun k => spec_lightest.l0 k ws us t i) (fun r => ∃ a : Nat, r = a ∧ Lt ws us a) := by
    intro d
    induction d with
    | zero =>
      intro i t hd ht
      refine Wp.step (fun k => spec_lightest.l0.eq_2 ..) (Wp.neg (by omega) (Wp.ret ?_))
      rcases ht with ⟨_, h⟩ | ⟨a, rfl, ha, hu, hm⟩
      · obtain ⟨b, hb, hu⟩ := he
        rw [h b (by omega)] at hu
        cases hu
      · exact ⟨a, rfl, by omega, hu, fun b hb => hm b (by omega)⟩
    | succ d ih =>
      intro i t hd ht
      refine Wp.step (fun k => spec_lightest.l0.eq_2 ..) (Wp.pos (by omega) (Wp.pos (by omega) (Wp.pos (by omega) ?_)))
      rw [bl_rdb, w64 (x := (i : Int) + 1) (by omega) (by omega), ← getD_tf us i (by omega), bl_rd]
      refine Wp.ite (fun hu => ih (i + 1) t (by omega) ?_) (fun hu => ?_)
      · rcases ht with ⟨e, h⟩ | ⟨a, e, ha, h, hm⟩
        · exact .inl ⟨e, fun j hj => by by_cases hji : j = i; (· rw [hji]; exact hu); exact h j (by omega)⟩
        · exact .inr ⟨a, e, by omega, h, fun b hb hub => by
            by_cases hbi : b = i
            · rw [hbi, hu] at hub; cases hub
            · exact hm b (by omega) hub⟩
      · have hu : us.getD i true = false := by simpa using hu
        rcases ht with ⟨rfl, h⟩ | ⟨a, rfl, ha, h, hm⟩
        · refine Wp.pos (by omega) (ih (i + 1) i (by omega) (.inr ⟨i, rfl, by omega, hu, fun b hb hub => ?_⟩))
          by_cases hbi : b = i
          · subst hbi; exact ⟨Int.le_refl _, fun h => absurd h (Nat.lt_irrefl _)⟩
          · rw [h b (by omega)] at hub; cases hub
        · refine Wp.neg (by omega) (Wp.pos (by omega) (Wp.pos (by omega) ?_))
          rw [bl_rd]
          refine Wp.ite (fun hlt => ih (i + 1) i (by omega) (.inr ⟨i, rfl, by omega, hu, fun b hb hub => ?_⟩)) (fun hlt => ih (i + 1) a (by omega) (.inr ⟨a, rfl, by omega, h, fun b hb hub => ?_⟩))
          · by_cases hbi : b = i
            · subst hbi; exact ⟨Int.le_refl _, fun h => absurd h (Nat.lt_irrefl _)⟩
            · have := (hm b (by omega) hub).1
              exact ⟨by omega, fun _ => by omega⟩
          · by_cases hbi : b = i
            · subst hbi; exact ⟨by omega, fun h => by omega⟩
            · exact hm b (by omega) hub
  exact key us.length 0 (-1) (by omega) (.inl ⟨rfl, fun j hj => absurd hj (Nat.not_lt_zero _)⟩)
theorem rdL_get (ms : List (List Int)) (i : Nat) : rd_L3 ms (i : Int) = ms.getD i [] := by simp [rd_L3]
theorem bump_get (x : List Int) (s : List Int) (i : Nat) : bump x (s.take (i + 1)) = if h : i < s.length then (bump x (s.take i)).set s[i].toNat ((bump x (s.take i)).getD s[i].toNat 0 + 1) else bump x (s.take i) := by
  split
  · rename_i h
    rw [List.take_succ_eq_append_getElem h]
    unfold bump
    rw [List.foldl_append]
    rfl
  · rename_i h
    rw [List.take_of_length_le (by omega), List.take_of_length_le (by omega)]
def LnOk (x : List Int) (B : Int) : Prop := ∀ v ∈ x, 0 ≤ v ∧ v ≤ B
theorem LnOk.get {x : List Int} {B : Int} (h : LnOk x B) (hB : 0 ≤ B) (i : Nat) : 0 ≤ x.getD i 0 ∧ x.getD i 0 ≤ B := by
  rcases Nat.lt_or_ge i x.length with hi | hi
  · have := h _ (List.getElem_mem hi)
    simpa [List.getD_eq_getElem?_getD, List.getElem?_eq_getElem hi] using this
  · simp [List.getD_eq_getElem?_getD, List.getElem?_eq_none hi, hB]
theorem LnOk.bump {x : List Int} {B : Int} (h : LnOk x B) (hB : 0 ≤ B) (s : List Int) : LnOk (bump x s) (B + s.length) := by
  induction s generalizing x B with
  | nil => simpa [P.bump] using h
  | cons i s ih =>
    have h' : LnOk (x.set i.toNat (x.getD i.toNat 0 + 1)) (B + 1) := fun v hv => by
      rcases List.mem_or_eq_of_mem_set hv with h1 | h1
      · have := h v h1; omega
      · have := h.get hB i.toNat
        omega
    have := ih h' (by omega)
    have e : B + ((i :: s).length : Int) = B + 1 + (s.length : Int) := by rw [List.length_cons]; omega
    rw [e]
    exact this
theorem w_sHuff (n : Nat) (hn : n ≤ 1000) : ∀ (f : Nat) (q : List Nd) (x : List Int) (ws : List Int) (ms : List (List Int)) (us : List Bool) (B : Int),
    q.length ≤ f → f ≤ 1000 → rem ws ms us = q → ws.length = us.length → ms.length = us.length → us.length + q.length ≤ 1000 → NdOk n q 100000000 1000 → x.length = n → LnOk x B → 0 ≤ B → B + 1000 * q.length ≤ 100000000 →
    Wp (fun k => spec_codeLengths.l1 k x ws ms us q.length) (fun r => r = huff f q x) := by
  intro f
  induction f with
  | zero =>
    intro q x ws ms us B hf _ _ _ _ _ _ _ _ _ _
    exact Wp.step (fun k => spec_codeLengths.l1.eq_2 ..) (Wp.neg (by omega) (Wp.ret rfl))
  | succ f ih =>
    intro q x ws ms us B hf hf2 hr h1 h2 hu hq hx hB hB0 hB1
    unfold huff
    refine Wp.step (fun k => spec_codeLengths.l1.eq_2 ..) (Wp.ite (fun h => ?_) (fun h => Wp.ret (by rw [if_pos (show q.length ≤ 1 by omega)])))
    have hq1 : 1 < q.length := by omega
    rw [if_neg (show ¬ q.length ≤ 1 by omega)]
    obtain ⟨⟨s0, s1⟩, hsy, hsl, hq'⟩ := hq.parts hq1
    have l1 := rest1_len q (by omega)
    have l2 := mrg_len q hq1
    refine Wp.call (w_lightest ws us h1 (by omega) ?_) ?_
    · obtain ⟨b, b1, b2, _⟩ := rem_sur ws ms us 0 h1 h2 (by rw [hr]; omega)
      exact ⟨b, b1, b2⟩
    rintro _ ⟨a, rfl, hA⟩
    have eA := hA.am h1 h2
    rw [hr] at eA
    obtain ⟨a1, a2, a3⟩ := rem_at ws ms us a h1 h2 hA.1 hA.2.1
    rw [hr, ← eA] at a1 a2 a3
    refine Wp.pos (by omega) (Wp.pos (by have := hA.1; omega) ?_)
    refine Wp.call (Q := fun r => r = us.set a true) (Wp.ret (by rw [Int.toNat_natCast])) ?_
    rintro _ rfl
    have hul : (us.set a true).length = us.length := List.length_set ..
    refine Wp.call (w_lightest ws (us.set a true) (by omega) (by omega) ?_) ?_
    · obtain ⟨b, b1, b2, _⟩ := rem_sur ws ms (us.set a true) 0 (by omega) (by omega) (by rw [a3]; show 0 < (rest1 q).length; omega)
      exact ⟨b, b1, b2⟩
    rintro _ ⟨b, rfl, hC⟩
    have eC := hC.am (ms := ms) (by omega) (by omega)
    rw [show rem ws ms (us.set a true) = rest1 q from a3] at eC
    obtain ⟨c1, c2, c3⟩ := rem_at ws ms (us.set a true) b (by omega) (by omega) hC.1 hC.2.1
    rw [show rem ws ms (us.set a true) = rest1 q from a3, ← eC] at c1 c2 c3
    have hbl := hC.1
    have hal := hA.1
    refine Wp.pos (by omega) (Wp.pos (by omega) (Wp.pos (by omega) ?_))
    rw [rdL_get, rdL_get]
    refine Wp.call (w_copyInts (ms.getD a []) ?_) ?_
    · have : (nd q (am q)).2.length ≤ (sy q).length := by unfold sy; rw [List.length_append]; omega
      rw [a2] at this
      simp only at this
      omega
    rintro _ rfl
    have esy : ms.getD a [] ++ ms.getD b [] = sy q := by unfold sy; rw [a2, c2]
    have esw : ws.getD a 0 + ws.getD b 0 = sw q := by unfold sw; rw [a2, c2]
    have elen : (ms.getD a []).length + (ms.getD b []).length = (sy q).length := by rw [← esy, List.length_append]
    refine Wp.pos (by omega) (Wp.pos (by omega) ?_)
    rw [esy, Int.toNat_natCast]
    have fin : Wp (fun k => spec_codeLengths.l2 k (bump x (sy q)) ws ms ((us.set a true).set b true) q.length a b (sy q) ((sy q).length : Nat)) (fun r => r = huff f (mrg q) (bump x (sy q))) := by
      refine Wp.step (fun k => spec_codeLengths.l2.eq_2 ..) (Wp.neg (by omega) (Wp.pos (by omega) (Wp.pos (by omega) (Wp.pos (by omega) (Wp.pos (by omega) (Wp.pos (by omega) (Wp.pos (by omega) (Wp.pos ?_ ?_))))))))
      · rw [List.length_set, List.length_set]; omega
      rw [bl_rd, bl_rd, esw, w64 (x := sw q) (by omega) (by omega), w64 (x := (q.length : Int) - 1) (by omega) (by omega), show (q.length : Int) - 1 = (mrg q).length by omega]
      refine ih (mrg q) _ _ _ _ (B + 1000) (by omega) (by omega) ?_ ?_ ?_ ?_ hq' (by rw [bump_len]; exact hx) ?_ (by omega) (by omega)
      · rw [rem_push _ _ _ _ _ (by rw [List.length_set, List.length_set]; omega) (by rw [List.length_set, List.length_set]; omega), c3]
        rfl
      · simp only [List.length_append, List.length_set, List.length_cons, List.length_nil]; omega
      · simp only [List.length_append, List.length_set, List.length_cons, List.length_nil]; omega
      · simp only [List.length_append, List.length_set, List.length_cons, List.length_nil]; omega
      · intro v hv
        have := hB.bump hB0 (sy q) v hv
        omega
    have key : ∀ d (i : Nat), i + d = (sy q).length → Wp (fun k => spec_codeLengths.l2 k (bump x ((sy q).take i)) ws ms ((us.set a true).set b true) q.length a b (sy q) i) (fun r => r = huff f (mrg q) (bump x (sy q))) := by
      intro d
      induction d with
      | zero =>
        intro i hd
        have : i = (sy q).length := by omega
        subst this
        rw [List.take_length]
        exact fin
      | succ d ihd =>
        intro i hd
        have hi : i < (sy q).length := by omega
        have h := ihd (i + 1) (by omega)
        rw [bump_get, dif_pos hi] at h
        have hs := hsy _ (List.getElem_mem hi)
        refine Wp.step (fun k => spec_codeLengths.l2.eq_2 ..) (Wp.pos (by omega) (Wp.pos (by omega) ?_))
        rw [bl_rd_lt _ i hi, w64 (x := (i : Int) + 1) (by omega) (by omega)]
        generalize (sy q)[i] = s at hs h
        obtain ⟨s, rfl⟩ := Int.eq_ofNat_of_zero_le hs.1
        refine Wp.pos (by omega) (Wp.pos (by rw [bump_len]; omega) ?_)
        have hv := (hB.bump hB0 ((sy q).take i)).get (by rw [List.length_take]; omega) s
        rw [List.length_take] at hv
        rw [bl_rd, w64 (x := _ + 1) (by omega) (by omega)]
        exact h
    have := key (sy q).length 0 (by omega)
    exact this
def VC (l : List Int) : Prop := (1 ≤ l.length ∧ l.length ≤ 16) ∧ (l.all fun n => decide (0 ≤ n ∧ n ≤ 9999)) = true
instance (l : List Int) : Decidable (VC l) := inferInstanceAs (Decidable (_ ∧ _))
theorem VC.get {l : List Int} (h : VC l) (i : Nat) : 0 ≤ l.getD i 0 ∧ l.getD i 0 ≤ 9999 := by
  rcases Nat.lt_or_ge i l.length with hi | hi
  · have := of_decide_eq_true (List.all_eq_true.1 h.2 l[i] (List.getElem_mem hi))
    simpa [List.getD_eq_getElem?_getD, List.getElem?_eq_getElem hi] using this
  · simp [List.getD_eq_getElem?_getD, List.getElem?_eq_none hi]
theorem nodesTo_ok {l : List Int} (h : VC l) (i : Nat) (hi : i ≤ l.length) : NdOk l.length (nodesTo l i) (10000 * i) i := by
  induction i with
  | zero => exact ⟨fun p hp => by simp [nodesTo] at hp, by simp [nodesTo], by simp [nodesTo]⟩
  | succ i ih =>
    obtain ⟨a, b, c⟩ := ih (by omega)
    have hg := h.get i
    unfold nodesTo
    split
    · refine ⟨fun p hp => ?_, ?_, ?_⟩
      · rcases List.mem_append.1 hp with h1 | h1
        · exact a p h1
        · rw [List.mem_singleton] at h1
          rw [h1]
          exact ⟨hg.1, fun s hs => by rw [List.mem_singleton] at hs; omega⟩
      · rw [List.map_append, List.sum_append]
        simp only [List.map_cons, List.map_nil, List.sum_cons, List.sum_nil, List.length_cons, List.length_nil]
        omega
      · rw [List.map_append, List.sum_append]
        simp only [List.map_cons, List.map_nil, List.sum_cons, List.sum_nil, List.length_cons, List.length_nil]
        omega
    · exact ⟨a, by omega, by omega⟩
theorem node_one {l : List Int} (h : VC l) (h1 : (nodes0 l).length = 1) : ∃ i : Nat, i < l.length ∧ nodes0 l = [(l.getD i 0, [(i : Int)])] := by
  have g : ∀ i, i ≤ l.length → (nodesTo l i).length = 0 ∨ (∃ j : Nat, j < l.length ∧ nodesTo l i = [(l.getD j 0, [(j : Int)])]) ∨ 1 < (nodesTo l i).length := by
    intro i hi
    induction i with
    | zero => exact .inl rfl
    | succ i ih =>
      unfold nodesTo
      split
      · rcases ih (by omega) with e | ⟨j, hj, e⟩ | e
        · have : nodesTo l i = [] := List.eq_nil_of_length_eq_zero e
          rw [this]
          exact .inr (.inl ⟨i, by omega, rfl⟩)
        · rw [e]; exact .inr (.inr (by simp))
        · exact .inr (.inr (by rw [List.length_append]; simp; omega))
      · exact ih (by omega)
  rcases g l.length (Nat.le_refl _) with e | e | e
  · unfold nodes0 at h1; omega
  · exact e
  · unfold nodes0 at h1; omega
theorem w_sCodeLengths (l : List Int) (hl : l.length ≤ 1000000000) : Wp (fun k => spec_CodeLengths.f k l) (fun r => r = if VC l then clOf l else []) := by
  unfold spec_CodeLengths.f spec_validCounts.f
  refine Wp.call (Q := fun r => r = decide (VC l)) ?_ ?_
  · refine Wp.call (w_inRange0 _ _ _) ?_
    rintro _ rfl
    refine Wp.ite (fun h => ?_) (fun h => Wp.ret (decide_eq_false fun e => h (decide_eq_true ⟨by have := e.1.1; omega, by have := e.1.2; omega⟩)).symm)
    have h := of_decide_eq_true h
    refine Wp.call (w_allIn l 0 9999 hl) ?_
    rintro _ rfl
    refine Wp.ret ?_
    rw [Bool.eq_iff_iff, decide_eq_true_eq]
    exact ⟨fun e => ⟨by omega, e⟩, fun e => e.2⟩
  rintro _ rfl
  refine Wp.ite (fun h => ?_) (fun h => Wp.ret (if_neg fun e => h (decide_eq_true e)).symm)
  have hV : VC l := of_decide_eq_true h
  rw [if_pos hV]
  refine Wp.call (Q := fun r => r = clOf l) ?_ (by rintro _ rfl; exact Wp.ret rfl)
  have hl16 := hV.1.2
  unfold spec_codeLengths.f
  refine Wp.pos (by omega) (Wp.pos (by omega) ?_)
  have fin : Wp (fun k => spec_codeLengths.l0 k l (List.replicate l.length 0) ((nodes0 l).map (·.1)) ((nodes0 l).map (·.2)) (l.length : Nat)) (fun r => r = clOf l) := by
    have hnl := nodesTo_len l l.length
    have hok := nodesTo_ok hV l.length (Nat.le_refl _)
    refine Wp.step (fun k => spec_codeLengths.l0.eq_2 ..) (Wp.neg (by omega) ?_)
    rw [List.length_map, List.length_map]
    unfold clOf
    refine Wp.ite (fun h1 => ?_) (fun h1 => ?_)
    · have h1 : (nodes0 l).length = 1 := by omega
      rw [if_pos h1]
      obtain ⟨i, hi, e⟩ := node_one hV h1
      rw [e]
      refine Wp.pos (by simp) (Wp.pos (by simp [rd_L3]) (Wp.pos (by simp [rd_L3, rd]) (Wp.pos (by simp [rd_L3, rd]; omega) (Wp.ret ?_))))
      simp [rd_L3, rd, nd]
    · have h1 : ¬ (nodes0 l).length = 1 := by omega
      rw [if_neg h1]
      refine Wp.pos (by omega) (Wp.pos (by unfold nodes0; omega) ?_)
      rw [Int.toNat_natCast]
      unfold nodes0 at h1 ⊢
      refine w_sHuff l.length (by omega) _ _ _ _ _ _ 0 (Nat.le_refl _) (by omega) (rem_all _) (by simp) (by simp) (by rw [List.length_replicate]; omega) ⟨hok.1, by have := hok.2.1; omega, by have := hok.2.2; omega⟩ (by simp) ?_ (by omega) (by omega)
      intro v hv
      rw [List.eq_of_mem_replicate hv]
      omega
  have key : ∀ d (i : Nat), i + d = l.length → Wp (fun k => spec_codeLengths.l0 k l (List.replicate l.length 0) ((nodesTo l i).map (·.1)) ((nodesTo l i).map (·.2)) i) (fun r => r = clOf l) := by
    intro d
    induction d with
    | zero =>
      intro i hd
      have : i = l.length := by omega
      subst this
      exact fin
    | succ d ih =>
      intro i hd
      have h := ih (i + 1) (by omega)
      have hnl := nodesTo_len l i
      refine Wp.step (fun k => spec_codeLengths.l0.eq_2 ..) (Wp.pos (by omega) (Wp.pos (by omega) ?_))
      rw [bl_rd, w64 (x := (i : Int) + 1) (by omega) (by omega)]
      refine Wp.ite (fun h1 => Wp.pos (by rw [List.length_map]; omega) (Wp.pos (by rw [List.length_map]; omega) ?_)) (fun h1 => ?_)
      · rw [show nodesTo l (i + 1) = nodesTo l i ++ [(l.getD i 0, [(i : Int)])] from if_pos h1, List.map_append, List.map_append] at h
        exact h
      · rw [show nodesTo l (i + 1) = nodesTo l i from if_neg h1] at h
        exact h
  exact key l.length 0 (by omega)
end Go.Proofs.Ytcmkijmjafgkfaa.P
namespace Go.Proofs.Ytcmkijmjafgkfaa.P
open Go.RowKit Go.Proofs.YtcmkijmjafgkfaaW.PrintWords Go.Proofs.YtcmkijmjafgkfaaW.PrintLast Go.Proofs.YtcmkijmjafgkfaaW.PrintMore Go.Proofs.Ytcmkijmjafgkfaa.Wp
set_option linter.unusedVariables false
set_option linter.unusedSimpArgs false
theorem w_min (l : List Int) (hl : l.length ≤ 1000000000) (h : 0 < l.length) : Wp (fun k => slices_Min_int_int.f k l) (fun r => r ∈ l ∧ ∀ x ∈ l, r ≤ x) := by
  unfold slices_Min_int_int.f
  have key : ∀ d (i : Nat) (m : Int), i + d = l.length → m ∈ l → (∀ j, j < i → m ≤ l.getD j 0) → Wp (fun k => slices_Min_int_int.l0 k l m i) (fun r => r ∈ l ∧ ∀ x ∈ l, r ≤ x) := by
    intro d
    induction d with
    | zero =>
      intro i m hd hm h
      refine Wp.step (fun k => slices_Min_int_int.l0.eq_2 ..) (Wp.neg (by omega) (Wp.ret ⟨hm, fun x hx => ?_⟩))
      obtain ⟨j, hj, rfl⟩ := List.getElem_of_mem hx
      have := h j (by omega)
      simpa [List.getD_eq_getElem?_getD, List.getElem?_eq_getElem hj] using this
    | succ d ih =>
      intro i m hd hm h
      refine Wp.step (fun k => slices_Min_int_int.l0.eq_2 ..) (Wp.pos (by omega) (Wp.pos (by omega) ?_))
      rw [w64 (x := (i : Int) + 1) (by omega) (by omega), bl_rd]
      have hmem : l.getD i 0 ∈ l := by rw [← bl_rd, bl_rd_lt l i (by omega)]; exact List.getElem_mem _
      refine ih (i + 1) _ (by omega) ?_ fun j hj => ?_
      · unfold mn
        split
        · exact hmem
        · exact hm
      · have h1 : mn m (l.getD i 0) ≤ m ∧ mn m (l.getD i 0) ≤ l.getD i 0 := by unfold mn; split <;> omega
        by_cases e : j = i
        · rw [e]; exact h1.2
        · exact Int.le_trans h1.1 (h j (by omega))
  refine Wp.neg (by omega) (Wp.pos (by omega) ?_)
  have e0 : rd l 0 = l[0] := bl_rd_lt l 0 h
  rw [e0]
  refine key (l.length - 1) 1 _ (by omega) (List.getElem_mem _) fun j hj => ?_
  have : j = 0 := by omega
  subst this
  simp [List.getD_eq_getElem?_getD, List.getElem?_eq_getElem h]
theorem w_max (l : List Int) (hl : l.length ≤ 1000000000) (h : 0 < l.length) : Wp (fun k => slices_Max_int_int.f k l) (fun r => r ∈ l ∧ ∀ x ∈ l, x ≤ r) := by
  unfold slices_Max_int_int.f
  have key : ∀ d (i : Nat) (m : Int), i + d = l.length → m ∈ l → (∀ j, j < i → l.getD j 0 ≤ m) → Wp (fun k => slices_Max_int_int.l0 k l m i) (fun r => r ∈ l ∧ ∀ x ∈ l, x ≤ r) := by
    intro d
    induction d with
    | zero =>
      intro i m hd hm h
      refine Wp.step (fun k => slices_Max_int_int.l0.eq_2 ..) (Wp.neg (by omega) (Wp.ret ⟨hm, fun x hx => ?_⟩))
      obtain ⟨j, hj, rfl⟩ := List.getElem_of_mem hx
      have := h j (by omega)
      simpa [List.getD_eq_getElem?_getD, List.getElem?_eq_getElem hj] using this
    | succ d ih =>
      intro i m hd hm h
      refine Wp.step (fun k => slices_Max_int_int.l0.eq_2 ..) (Wp.pos (by omega) (Wp.pos (by omega) ?_))
      rw [w64 (x := (i : Int) + 1) (by omega) (by omega), bl_rd]
      have hmem : l.getD i 0 ∈ l := by rw [← bl_rd, bl_rd_lt l i (by omega)]; exact List.getElem_mem _
      refine ih (i + 1) _ (by omega) ?_ fun j hj => ?_
      · unfold mx
        split
        · exact hmem
        · exact hm
      · have h1 : m ≤ mx m (l.getD i 0) ∧ l.getD i 0 ≤ mx m (l.getD i 0) := by unfold mx; split <;> omega
        by_cases e : j = i
        · rw [e]; exact h1.2
        · exact Int.le_trans (h j (by omega)) h1.1
  refine Wp.neg (by omega) (Wp.pos (by omega) ?_)
  have e0 : rd l 0 = l[0] := bl_rd_lt l 0 h
  rw [e0]
  refine key (l.length - 1) 1 _ (by omega) (List.getElem_mem _) fun j hj => ?_
  have : j = 0 := by omega
  subst this
  simp [List.getD_eq_getElem?_getD, List.getElem?_eq_getElem h]
def p2 (n : Nat) : Int := ((2 ^ n : Nat) : Int)
end Go.Proofs.Ytcmkijmjafgkfaa.P
namespace Go.Proofs.Ytcmkijmjafgkfaa.P
open Go.RowKit Go.Proofs.YtcmkijmjafgkfaaW.PrintWords Go.Proofs.YtcmkijmjafgkfaaW.PrintLast Go.Proofs.YtcmkijmjafgkfaaW.PrintMore Go.Proofs.Ytcmkijmjafgkfaa.Wp
set_option linter.unusedVariables false
set_option linter.unusedSimpArgs false
def tn (p : Nd) : S54 := ⟨p.1, p.2⟩
theorem tn_rd (q : List Nd) (i : Nat) : rd_T54 (q.map tn) (i : Int) = tn (nd q i) := by
  unfold rd_T54 nd
  rw [Int.toNat_natCast, List.getD_eq_getElem?_getD, List.getD_eq_getElem?_getD, List.getElem?_map]
  cases q[i]? <;> rfl
theorem tn_erase (q : List Nd) (i : Nat) : (q.map tn).eraseIdx i = (q.eraseIdx i).map tn := by
  induction q generalizing i with
  | nil => simp
  | cons a q ih => cases i <;> simp [ih]
theorem w_iTake {P : List Int → Prop} (q : List Nd) (x : List Int) (t w : Int) (s : List Int) (hq : 0 < q.length) (hl : q.length ≤ 1000) (hs : s.length + (nd q (am q)).2.length ≤ 1000000)
    (hn : Wp (fun k => impl_CodeLengths.l2 k x ((rest1 q).map tn) (wrap64 (t + 1)) (wrap64 (w + (nd q (am q)).1)) (s ++ (nd q (am q)).2)) P) :
    Wp (fun k => impl_CodeLengths.l3 k x (q.map tn) 0 t (q.map tn) ((q.map tn).length : Int) 0 w s) P := by
  have hm := am_min q hq
  have key : ∀ d (i : Nat), i + d = q.length → Wp (fun k => impl_CodeLengths.l3 k x (q.map tn) (amTo q i : Nat) t (q.map tn) (q.length : Nat) i w s) P := by
    intro d
    induction d with
    | zero =>
      intro i hd
      have : i = q.length := by omega
      subst this
      refine Wp.step (fun k => impl_CodeLengths.l3.eq_2 ..) (Wp.neg (by omega) ?_)
      have h1 := hm.1
      unfold am at h1 hs
      refine Wp.pos (by omega) (Wp.pos (by rw [List.length_map]; omega) ?_)
      rw [tn_rd]
      refine Wp.pos (by show s.length + (nd q (amTo q q.length)).2.length < _; omega) ?_
      rw [Int.toNat_natCast, tn_erase]
      exact hn
    | succ d ih =>
      intro i hd
      have n := ih (i + 1) (by omega)
      have hb : amTo q i ≤ i ∧ amTo q i < q.length := by
        cases i with
        | zero => exact ⟨Nat.le_refl _, hq⟩
        | succ i => have := (amTo_spec q i).1; omega
      refine Wp.step (fun k => impl_CodeLengths.l3.eq_2 ..) (Wp.pos (by omega) (Wp.pos (by omega) (Wp.pos (by rw [List.length_map]; omega) (Wp.pos (by omega) (Wp.pos (by rw [List.length_map]; omega) ?_)))))
      rw [tn_rd, tn_rd, w64 (x := (i : Int) + 1) (by omega) (by omega)]
      refine Wp.ite (fun h => ?_) (fun h => ?_)
      · have h : wt q i < wt q (amTo q i) := h
        rw [show amTo q (i + 1) = i from if_pos h] at n
        exact n
      · have h : ¬ wt q i < wt q (amTo q i) := h
        rw [show amTo q (i + 1) = amTo q i from if_neg h] at n
        exact n
  have := key q.length 0 (by omega)
  rw [List.length_map]
  exact this
theorem w_iHuff (n : Nat) (hn : n ≤ 1000) : ∀ (f : Nat) (q : List Nd) (x : List Int) (B : Int),
    q.length ≤ f → f ≤ 1000 → NdOk n q 100000000 1000 → x.length = n → LnOk x B → 0 ≤ B → B + 1000 * q.length ≤ 100000000 →
    Wp (fun k => impl_CodeLengths.l1 k x (q.map tn)) (fun r => r = huff f q x) := by
  intro f
  induction f with
  | zero =>
    intro q x B hf _ _ _ _ _ _
    exact Wp.step (fun k => impl_CodeLengths.l1.eq_2 ..) (Wp.neg (by rw [List.length_map]; omega) (Wp.ret rfl))
  | succ f ih =>
    intro q x B hf hf2 hq hx hB hB0 hB1
    unfold huff
    refine Wp.step (fun k => impl_CodeLengths.l1.eq_2 ..) (Wp.ite (fun h => ?_) (fun h => Wp.ret (by rw [List.length_map] at h; rw [if_pos (show q.length ≤ 1 by omega)])))
    rw [List.length_map] at h
    have hq1 : 1 < q.length := by omega
    rw [if_neg (show ¬ q.length ≤ 1 by omega)]
    obtain ⟨⟨s0, s1⟩, hsy, hsl, hq'⟩ := hq.parts hq1
    have l1 := rest1_len q (by omega)
    have l2 := mrg_len q hq1
    have m1 := (am_min q (by omega)).1
    have m2 := (am_min (rest1 q) (by omega)).1
    have a1 := (hq.1 _ (nd_mem q _ m1)).1
    have a2 := (hq.1 _ (List.mem_of_mem_eraseIdx (nd_mem (rest1 q) _ m2))).1
    have esw : (nd q (am q)).1 + (nd (rest1 q) (am (rest1 q))).1 = sw q := rfl
    have esy : (nd q (am q)).2 ++ (nd (rest1 q) (am (rest1 q))).2 = sy q := rfl
    have elen : (nd q (am q)).2.length + (nd (rest1 q) (am (rest1 q))).2.length = (sy q).length := by rw [← esy, List.length_append]
    refine Wp.step (fun k => impl_CodeLengths.l2.eq_2 ..) (Wp.pos (by omega) ?_)
    refine w_iTake q x 0 0 [] (by omega) (by omega) (by simp only [List.length_nil]; omega) ?_
    rw [w64 (x := (0 : Int) + 1) (by omega) (by omega), w64 (x := (0 : Int) + (nd q (am q)).1) (by omega) (by omega), Int.zero_add, Int.zero_add, List.nil_append]
    refine Wp.step (fun k => impl_CodeLengths.l2.eq_2 ..) (Wp.pos (by omega) ?_)
    refine w_iTake (rest1 q) x 1 _ _ (by omega) (by omega) (by omega) ?_
    rw [w64 (x := (1 : Int) + 1) (by omega) (by omega), w64 (x := (nd q (am q)).1 + _) (by omega) (by omega), esw, esy, show (1 : Int) + 1 = 2 by omega]
    refine Wp.step (fun k => impl_CodeLengths.l2.eq_2 ..) (Wp.neg (by omega) ?_)
    have fin : Wp (fun k => impl_CodeLengths.l4 k (bump x (sy q)) ((rest2 q).map tn) (sy q) ((sy q).length : Int) ((sy q).length : Nat) (sw q) (sy q)) (fun r => r = huff f (mrg q) (bump x (sy q))) := by
      refine Wp.step (fun k => impl_CodeLengths.l4.eq_2 ..) (Wp.neg (by omega) (Wp.pos (by rw [List.length_map]; have := rest2_len q hq1; omega) ?_))
      have e : (rest2 q).map tn ++ [(⟨sw q, sy q⟩ : S54)] = (mrg q).map tn := by unfold mrg; rw [List.map_append]; rfl
      rw [e]
      refine ih (mrg q) _ (B + 1000) (by omega) (by omega) hq' (by rw [bump_len]; exact hx) (fun v hv => ?_) (by omega) (by omega)
      have := hB.bump hB0 (sy q) v hv
      omega
    have key : ∀ d (i : Nat), i + d = (sy q).length → Wp (fun k => impl_CodeLengths.l4 k (bump x ((sy q).take i)) ((rest2 q).map tn) (sy q) ((sy q).length : Int) i (sw q) (sy q)) (fun r => r = huff f (mrg q) (bump x (sy q))) := by
      intro d
      induction d with
      | zero =>
        intro i hd
        have : i = (sy q).length := by omega
        subst this
        rw [List.take_length]
        exact fin
      | succ d ihd =>
        intro i hd
        have hi : i < (sy q).length := by omega
        have h := ihd (i + 1) (by omega)
        rw [bump_get, dif_pos hi] at h
        have hs := hsy _ (List.getElem_mem hi)
        refine Wp.step (fun k => impl_CodeLengths.l4.eq_2 ..) (Wp.pos (by omega) (Wp.pos (by omega) (Wp.pos (by omega) ?_)))
        rw [bl_rd_lt _ i hi, w64 (x := (i : Int) + 1) (by omega) (by omega)]
        generalize (sy q)[i] = s at hs h
        obtain ⟨s, rfl⟩ := Int.eq_ofNat_of_zero_le hs.1
        refine Wp.pos (by omega) (Wp.pos (by rw [bump_len]; omega) ?_)
        have hv := (hB.bump hB0 ((sy q).take i)).get (by rw [List.length_take]; omega) s
        rw [List.length_take] at hv
        rw [bl_rd, w64 (x := _ + 1) (by omega) (by omega)]
        exact h
    exact key (sy q).length 0 (by omega)
theorem w_iCodeLengths (l : List Int) (hl : l.length ≤ 1000000000) : Wp (fun k => impl_CodeLengths.f k l) (fun r => r = if VC l then clOf l else []) := by
  unfold impl_CodeLengths.f
  have no : ¬ VC l → Wp (fun k => impl_CodeLengths.j0 k l true) (fun r => r = if VC l then clOf l else []) := fun h =>
    Wp.step (fun k => impl_CodeLengths.j0.eq_2 ..) (Wp.pos rfl (Wp.ret (if_neg h).symm))
  refine Wp.ite (fun h => no fun e => by have := e.1.1; omega) (fun h0 => ?_)
  refine Wp.ite (fun h => no fun e => by have := e.1.2; omega) (fun h1 => ?_)
  refine Wp.call (w_min l hl (by omega)) ?_
  rintro m ⟨hm, hmin⟩
  refine Wp.ite (fun h => no fun e => ?_) (fun h2 => ?_)
  · have := of_decide_eq_true (List.all_eq_true.1 e.2 m hm)
    omega
  refine Wp.call (w_max l hl (by omega)) ?_
  rintro M ⟨hM, hmax⟩
  by_cases h3 : M > 9999
  · rw [decide_eq_true h3]
    exact no fun e => by have := of_decide_eq_true (List.all_eq_true.1 e.2 M hM); omega
  rw [decide_eq_false h3]
  have hV : VC l := ⟨⟨by omega, by omega⟩, List.all_eq_true.2 fun x hx => decide_eq_true (by have := hmin x hx; have := hmax x hx; omega)⟩
  rw [if_pos hV]
  have hl16 := hV.1.2
  refine Wp.step (fun k => impl_CodeLengths.j0.eq_2 ..) (Wp.neg (by decide) (Wp.pos (by omega) (Wp.pos (by omega) ?_)))
  rw [Int.toNat_natCast]
  have fin : Wp (fun k => impl_CodeLengths.l0 k (List.replicate l.length 0) ((nodes0 l).map tn) l (l.length : Int) (l.length : Nat)) (fun r => r = clOf l) := by
    have hnl := nodesTo_len l l.length
    have hok := nodesTo_ok hV l.length (Nat.le_refl _)
    refine Wp.step (fun k => impl_CodeLengths.l0.eq_2 ..) (Wp.neg (by omega) ?_)
    have hgo : ∀ y : List Int, y.length = l.length → LnOk y 1 → Wp (fun k => impl_CodeLengths.j2 k y ((nodes0 l).map tn)) (fun r => r = huff (nodes0 l).length (nodes0 l) y) := fun y hy hb => by
      refine Wp.step (fun k => impl_CodeLengths.j2.eq_2 ..) ?_
      unfold nodes0 at *
      exact w_iHuff l.length (by omega) _ _ _ 1 (Nat.le_refl _) (by omega) ⟨hok.1, by have := hok.2.1; omega, by have := hok.2.2; omega⟩ hy hb (by omega) (by omega)
    have hz : LnOk (List.replicate l.length 0) 1 := fun v hv => by rw [List.eq_of_mem_replicate hv]; omega
    rw [List.length_map]
    unfold clOf
    refine Wp.ite (fun h1 => ?_) (fun h1 => ?_)
    · have h1 : (nodes0 l).length = 1 := by omega
      rw [if_pos h1]
      obtain ⟨i, hi, e⟩ := node_one hV h1
      have r0 : rd_T54 ((nodes0 l).map tn) 0 = tn (l.getD i 0, [(i : Int)]) := by rw [e]; rfl
      rw [r0]
      have r1 : rd (tn (l.getD i 0, [(i : Int)])).f1 0 = (i : Int) := rfl
      rw [r1]
      refine Wp.pos (by omega) (Wp.pos (by show (0 : Int) < ([(i : Int)].length : Int); simp) (Wp.pos (by omega) (Wp.pos (by simp; omega) ?_)))
      rw [Int.toNat_natCast]
      have e2 : ((nd (nodes0 l) 0).2.getD 0 0).toNat = i := by rw [e]; simp [nd]
      rw [e2]
      have h := hgo ((List.replicate l.length 0).set i 1) (by simp) (fun v hv => by
        rcases List.mem_or_eq_of_mem_set hv with h | h
        · rw [List.eq_of_mem_replicate h]; omega
        · omega)
      rw [h1] at h
      have e3 : huff 1 (nodes0 l) ((List.replicate l.length 0).set i 1) = (List.replicate l.length 0).set i 1 := by
        unfold huff
        rw [if_pos (by omega)]
      rw [e3] at h
      exact h
    · have h1 : ¬ (nodes0 l).length = 1 := by omega
      rw [if_neg h1]
      exact hgo _ (by simp) hz
  have key : ∀ d (i : Nat), i + d = l.length → Wp (fun k => impl_CodeLengths.l0 k (List.replicate l.length 0) ((nodesTo l i).map tn) l (l.length : Int) i) (fun r => r = clOf l) := by
    intro d
    induction d with
    | zero =>
      intro i hd
      have : i = l.length := by omega
      subst this
      exact fin
    | succ d ih =>
      intro i hd
      have h := ih (i + 1) (by omega)
      have hnl := nodesTo_len l i
      refine Wp.step (fun k => impl_CodeLengths.l0.eq_2 ..) (Wp.pos (by omega) (Wp.pos (by omega) (Wp.pos (by omega) ?_)))
      rw [bl_rd, w64 (x := (i : Int) + 1) (by omega) (by omega)]
      refine Wp.ite (fun h1 => Wp.pos (by rw [List.length_map]; omega) ?_) (fun h1 => ?_)
      · rw [show nodesTo l (i + 1) = nodesTo l i ++ [(l.getD i 0, [(i : Int)])] from if_pos h1, List.map_append] at h
        exact h
      · rw [show nodesTo l (i + 1) = nodesTo l i from if_neg h1] at h
        exact h
  exact key l.length 0 (by omega)
end Go.Proofs.Ytcmkijmjafgkfaa.P
namespace Go.Proofs.Ytcmkijmjafgkfaa.P
open Go.RowKit Go.Proofs.YtcmkijmjafgkfaaW.PrintWords Go.Proofs.YtcmkijmjafgkfaaW.PrintLast Go.Proofs.YtcmkijmjafgkfaaW.PrintMore Go.Proofs.Ytcmkijmjafgkfaa.Wp
set_option linter.unusedVariables false
set_option linter.unusedSimpArgs false
def ins (c : Nd) : List Nd → List Nd
  | [] => [c]
  | h :: t => if c.1 < h.1 then c :: h :: t else h :: ins c t
theorem ins_mem {c x : Nd} {r : List Nd} : x ∈ ins c r ↔ x = c ∨ x ∈ r := by
  induction r with
  | nil => simp [ins]
  | cons h t ih =>
    unfold ins
    split
    · simp
    · simp only [List.mem_cons, ih]
      constructor
      · rintro (e | e | e) <;> simp [e]
      · rintro (e | e | e) <;> simp [e]
theorem ins_perm (c : Nd) (r : List Nd) : (ins c r).Perm (c :: r) := by
  induction r with
  | nil => exact List.Perm.refl _
  | cons h t ih =>
    unfold ins
    split
    · exact List.Perm.refl _
    · exact (List.Perm.cons h ih).trans (List.Perm.swap ..)
def Asc (q : List Nd) : Prop := q.Pairwise fun x y => x.1 ≤ y.1
theorem ins_asc {c : Nd} {r : List Nd} (h : Asc r) : Asc (ins c r) := by
  unfold Asc at h ⊢
  induction r with
  | nil => simp [ins]
  | cons a t ih =>
    have h' := List.pairwise_cons.1 h
    unfold ins
    split
    · refine List.pairwise_cons.2 ⟨fun y hy => ?_, h⟩
      rcases List.mem_cons.1 hy with e | e
      · rw [e]; omega
      · have := h'.1 y e; omega
    · refine List.pairwise_cons.2 ⟨fun y hy => ?_, ih h'.2⟩
      rcases ins_mem.1 hy with e | e
      · rw [e]; omega
      · exact h'.1 y e
def syms (q : List Nd) : List Int := q.flatMap (·.2)
theorem syms_perm {p q : List Nd} (h : p.Perm q) : (syms p).Perm (syms q) := h.flatMap_right _
def Good (q : List Nd) : Prop := Asc q ∧ (syms q).Nodup ∧ (∀ p ∈ q, p.2 ≠ []) ∧ ∀ p ∈ q, 0 ≤ p.1
theorem Good.step {a b : Nd} {r : List Nd} (h : Good (a :: b :: r)) : Good (ins (a.1 + b.1, a.2 ++ b.2) r) := by
  obtain ⟨h1, h2, h3, h4⟩ := h
  have ha := List.pairwise_cons.1 h1
  have hb := List.pairwise_cons.1 ha.2
  refine ⟨ins_asc hb.2, ?_, fun p hp => ?_, fun p hp => ?_⟩
  · refine (syms_perm (ins_perm _ r)).nodup_iff.2 ?_
    simpa [syms] using h2
  · rcases ins_mem.1 hp with e | e
    · have := h3 a (by simp)
      rw [e]
      simp [this]
    · exact h3 p (by simp [e])
  · rcases ins_mem.1 hp with e | e
    · have i1 := h4 a (by simp); have i2 := h4 b (by simp); rw [e]; show 0 ≤ a.1 + b.1; omega
    · exact h4 p (by simp [e])
def room (n : Int) : Nat := 2 ^ (16 - n.toNat)
def hd (x : Nd) : Int := x.2.headD 0
def dbl (p : Nd) : Nd := (2 * p.1, p.2)
theorem dbl_nd (q : List Nd) (i : Nat) : nd (q.map dbl) i = dbl (nd q i) := by
  unfold nd
  rw [List.getD_eq_getElem?_getD, List.getD_eq_getElem?_getD, List.getElem?_map]
  cases q[i]? <;> rfl
theorem dbl_am (q : List Nd) (h : 0 < q.length) : am (q.map dbl) = am q := by
  have w : ∀ i, wt (q.map dbl) i = 2 * wt q i := fun i => by unfold wt; rw [dbl_nd]; rfl
  obtain ⟨m1, m2, m3⟩ := am_min q h
  refine am_eq ⟨by simpa using m1, fun i hi => ?_, fun i hi => ?_⟩
  · rw [w, w]; have := m2 i (by simpa using hi); omega
  · rw [w, w]; have := m3 i hi; omega
theorem map_eraseIdx_ {α β : Type} (f : α → β) (q : List α) (i : Nat) : (q.map f).eraseIdx i = (q.eraseIdx i).map f := by
  induction q generalizing i with
  | nil => simp
  | cons a q ih => cases i <;> simp [ih]
theorem dbl_rest1 (q : List Nd) (h : 0 < q.length) : rest1 (q.map dbl) = (rest1 q).map dbl := by
  unfold rest1
  rw [dbl_am q h, map_eraseIdx_]
theorem dbl_mrg (q : List Nd) (h : 1 < q.length) : mrg (q.map dbl) = (mrg q).map dbl ∧ sy (q.map dbl) = sy q := by
  have h1 := rest1_len q (by omega)
  have e2 : rest2 (q.map dbl) = (rest2 q).map dbl := by
    unfold rest2
    rw [dbl_rest1 q (by omega), dbl_am _ (by omega), map_eraseIdx_]
  have es : sy (q.map dbl) = sy q := by
    unfold sy
    rw [dbl_rest1 q (by omega), dbl_am _ (by omega), dbl_am _ (by omega), dbl_nd, dbl_nd]
    rfl
  have ew : sw (q.map dbl) = 2 * sw q := by
    unfold sw
    rw [dbl_rest1 q (by omega), dbl_am _ (by omega), dbl_am _ (by omega), dbl_nd, dbl_nd]
    show 2 * _ + 2 * _ = _
    omega
  refine ⟨?_, es⟩
  unfold mrg
  rw [e2, es, ew, List.map_append]
  rfl
theorem dbl_huff (f : Nat) : ∀ (q : List Nd) (x : List Int), huff f (q.map dbl) x = huff f q x := by
  induction f with
  | zero => intro q x; rfl
  | succ f ih =>
    intro q x
    unfold huff
    rw [List.length_map]
    by_cases h : q.length ≤ 1
    · rw [if_pos h, if_pos h]
    · rw [if_neg h, if_neg h, (dbl_mrg q (by omega)).1, (dbl_mrg q (by omega)).2, ih]
theorem dbl_nodes (l : List Int) (i : Nat) : nodesTo (l.map (2 * ·)) i = (nodesTo l i).map dbl := by
  induction i with
  | zero => rfl
  | succ i ih =>
    have e : (l.map (2 * ·)).getD i 0 = 2 * l.getD i 0 := by
      rw [List.getD_eq_getElem?_getD, List.getD_eq_getElem?_getD, List.getElem?_map]
      cases l[i]? <;> rfl
    unfold nodesTo
    rw [ih, e]
    by_cases h : 0 < l.getD i 0
    · rw [if_pos h, if_pos (by omega), List.map_append]; rfl
    · rw [if_neg h, if_neg (by omega)]
theorem cl_dbl (l : List Int) : clOf (l.map (2 * ·)) = clOf l := by
  have e : nodes0 (l.map (2 * ·)) = (nodes0 l).map dbl := by unfold nodes0; rw [List.length_map]; exact dbl_nodes l _
  unfold clOf
  rw [e, List.length_map, List.length_map, dbl_nd, dbl_huff]
  rfl
end Go.Proofs.Ytcmkijmjafgkfaa.P
namespace Go.Proofs.Ytcmkijmjafgkfaa.P
open Go.RowKit Go.Proofs.YtcmkijmjafgkfaaW.PrintWords Go.Proofs.YtcmkijmjafgkfaaW.PrintLast Go.Proofs.YtcmkijmjafgkfaaW.PrintMore Go.Proofs.Ytcmkijmjafgkfaa.Wp
set_option linter.unusedVariables false
theorem rd_mem (l : List Int) (i : Int) (h0 : 0 ≤ i) (h1 : i < (l.length : Int)) : rd l i ∈ l := by
  unfold rd
  rw [List.getD_eq_getElem?_getD, List.getElem?_eq_getElem (by omega)]
  exact List.getElem_mem _
theorem rd_le {l : List Int} {a b : Int} (h : ∀ x ∈ l, a ≤ x ∧ x ≤ b) (i : Int) (h0 : 0 ≤ i) (h1 : i < (l.length : Int)) : a ≤ rd l i ∧ rd l i ≤ b := h _ (rd_mem l i h0 h1)
def Rdr (b : List Int) (p : Int) : Prop := (∀ x ∈ b, 0 ≤ x ∧ x ≤ 255) ∧ b.length ≤ 2000 ∧ 0 ≤ p ∧ p ≤ 1000000
theorem tmod_range (x n : Int) (hx : 0 ≤ x) (hn : 0 < n) : 0 ≤ Int.tmod x n ∧ Int.tmod x n < n := by
  rw [Int.tmod_eq_emod_of_nonneg hx]
  exact ⟨Int.emod_nonneg _ (by omega), Int.emod_lt_of_pos _ hn⟩
theorem bits_xor_nonneg (x y : Int) (hx : 0 ≤ x) (hx2 : x ≤ 1000000000000) (hy : 0 ≤ y) (hy2 : y ≤ 1000000000000) : 0 ≤ Go.bits .xor .i64 x y := by
  obtain ⟨a, rfl⟩ := Int.eq_ofNat_of_zero_le hx
  obtain ⟨b, rfl⟩ := Int.eq_ofNat_of_zero_le hy
  have ha : a < 2 ^ 62 := by omega
  have hb : b < 2 ^ 62 := by omega
  have ha' : a % 2 ^ 64 = a := Nat.mod_eq_of_lt (by omega)
  have hb' : b % 2 ^ 64 = b := Nat.mod_eq_of_lt (by omega)
  have hc : a ^^^ b < 2 ^ 62 := Nat.xor_lt_two_pow ha hb
  have hw : IntKind.i64.wrap ((a ^^^ b : Nat) : Int) = ((a ^^^ b : Nat) : Int) := by
    have h64 : IntKind.i64.wrap ((a ^^^ b : Nat) : Int) = wrap64 ((a ^^^ b : Nat) : Int) := i64_w _
    rw [h64, w64 (by omega) (by omega)]
  have he : Go.bits .xor .i64 (a : Int) (b : Int) = ((a ^^^ b : Nat) : Int) := by
    have hbits : IntKind.i64.bits = 64 := rfl
    simp only [Go.bits, BitVec.ofInt_natCast, BitVec.toNat_xor, BitVec.toNat_ofNat, hbits, ha', hb', hw]
  rw [he]
  exact Int.natCast_nonneg _
theorem w_newReader (l : List Int) (hb : ∀ x ∈ l, (Lit.int .u8 x).wf = true) : Wp (fun _ => spec_newReader.f l) (fun r => Rdr r.1 r.2 ∧ r.2 = 0) := by
  have hb' : ∀ x ∈ l, 0 ≤ x ∧ x ≤ 255 := fun x hx => by
    have h := hb x hx
    simp only [Lit.wf, Bool.and_eq_true, decide_eq_true_eq] at h
    have h0 : IntKind.u8.min = 0 := rfl
    have h1 : IntKind.u8.max = 255 := rfl
    omega
  unfold spec_newReader.f
  refine Wp.ite (fun h => Wp.pos (by omega) (Wp.ret ?_)) (fun h => Wp.ret ?_)
  · exact ⟨⟨fun x hx => hb' x (List.mem_of_mem_take hx), by show (l.take 2000).length ≤ 2000; rw [List.length_take]; omega, Int.le_refl _, by show (0 : Int) ≤ 1000000; omega⟩, rfl⟩
  · exact ⟨⟨hb', by show l.length ≤ 2000; omega, Int.le_refl _, by show (0 : Int) ≤ 1000000; omega⟩, rfl⟩
theorem w_pick (b : List Int) (p n : Int) (h : Rdr b p) (hp : p < 1000000) (hn : n ≤ 1000000000000) :
    Wp (fun k => spec_reader_pick.f k b p n) (fun r => ∃ x, r = (x, p + 1) ∧ 0 ≤ x ∧ (1 ≤ n → x < n) ∧ (n < 1 → x = 0)) := by
  obtain ⟨hb, hl, h0, h1⟩ := h
  unfold spec_reader_pick.f
  rw [w64 (x := p + 1) (by omega) (by omega)]
  refine Wp.ite (fun hn1 => ?_) (fun hn1 => ?_)
  · refine Wp.step (fun k => spec_reader_pick.j0.eq_2 ..) (Wp.pos rfl (Wp.ret ?_))
    exact ⟨0, rfl, by omega, by omega, fun _ => rfl⟩
  · refine Wp.step (fun k => spec_reader_pick.j0.eq_2 ..) ?_
    rw [show p + 1 - 1 = p by omega, w64 (x := p) (by omega) (by omega)]
    refine Wp.ite (fun hz => Wp.ret ?_) (fun hz => ?_)
    · exact ⟨0, rfl, by omega, by omega, by omega⟩
    · have hpos : 0 < (b.length : Int) := by
        have : ¬ (b.length : Int) = 0 := by simpa using hz
        omega
      refine Wp.ite (fun hlt => ?_) (fun hge => ?_)
      · refine Wp.pos h0 (Wp.neg (by omega) (Wp.ret ?_))
        have hr := rd_le hb p h0 hlt
        rw [w64 (x := rd b p) (by omega) (by omega)]
        have := tmod_range (rd b p) n hr.1 (by omega)
        exact ⟨_, rfl, this.1, fun _ => this.2, by omega⟩
      · refine Wp.neg (by omega) ?_
        have t1 := tmod_range p b.length h0 hpos
        refine Wp.pos t1.1 (Wp.pos t1.2 ?_)
        rw [w64 (x := p * 7) (by omega) (by omega), w64 (x := p * 7 + 3) (by omega) (by omega)]
        have t2 := tmod_range (p * 7 + 3) b.length (by omega) hpos
        refine Wp.pos t2.1 (Wp.pos t2.2 (Wp.neg (by omega) (Wp.ret ?_)))
        have r1 := rd_le hb _ t1.1 t1.2
        have r2 := rd_le hb _ t2.1 t2.2
        generalize rd b (Int.tmod p b.length) = u at r1 ⊢
        generalize rd b (Int.tmod (p * 7 + 3) b.length) = v at r2 ⊢
        have hd : 0 ≤ Int.tdiv p b.length ∧ Int.tdiv p b.length ≤ p := by
          rw [Int.tdiv_eq_ediv_of_nonneg h0]
          exact ⟨Int.ediv_nonneg h0 (by omega), Int.ediv_le_self _ h0⟩
        generalize Int.tdiv p b.length = d at hd ⊢
        rw [w64 (x := u) (by omega) (by omega), w64 (x := u * 131) (by omega) (by omega), w64 (x := v) (by omega) (by omega), w64 (x := v * 1117) (by omega) (by omega),
          w64 (x := u * 131 + v * 1117) (by omega) (by omega), w64 (x := p * 29) (by omega) (by omega), w64 (x := u * 131 + v * 1117 + p * 29) (by omega) (by omega),
          w64 (x := d) (by omega) (by omega), w64 (x := d * 53) (by omega) (by omega), w64 (x := u * 131 + v * 1117 + p * 29 + d * 53) (by omega) (by omega)]
        have hs : 0 ≤ u * 131 + v * 1117 + p * 29 + d * 53 ∧ u * 131 + v * 1117 + p * 29 + d * 53 ≤ 1000000000 := by omega
        generalize u * 131 + v * 1117 + p * 29 + d * 53 = s at hs ⊢
        have hq : 0 ≤ Int.tdiv s 64 ∧ Int.tdiv s 64 ≤ s := by
          rw [Int.tdiv_eq_ediv_of_nonneg hs.1]
          exact ⟨Int.ediv_nonneg hs.1 (by omega), Int.ediv_le_self _ hs.1⟩
        rw [w64 (x := Int.tdiv s 64) (by omega) (by omega)]
        have hx := bits_xor_nonneg s (Int.tdiv s 64) hs.1 (by omega) hq.1 (by omega)
        have := tmod_range _ n hx (by omega)
        exact ⟨_, rfl, this.1, fun _ => this.2, by omega⟩
theorem Rdr.up {b : List Int} {p q : Int} (h : Rdr b p) (h1 : p ≤ q) (h2 : q ≤ 1000000) : Rdr b q := ⟨h.1, h.2.1, by have := h.2.2.1; omega, h2⟩
theorem w_one (b : List Int) (p : Int) (l : List Int) (h : Rdr b p) (hp : p < 1000000) (hl : 0 < l.length) (hl2 : l.length ≤ 1000) :
    Wp (fun k => spec_reader_one.f k b p l) (fun r => ∃ x, r = (x, p + 1) ∧ x ∈ l) := by
  unfold spec_reader_one.f
  refine Wp.call (w_pick b p l.length h hp (by omega)) ?_
  rintro _ ⟨x, rfl, h0, h1, _⟩
  have h1 := h1 (by omega)
  exact Wp.pos h0 (Wp.pos h1 (Wp.ret ⟨_, rfl, rd_mem l x h0 h1⟩))
end Go.Proofs.Ytcmkijmjafgkfaa.P
namespace Go.Proofs.Ytcmkijmjafgkfaa.P
open Go.RowKit Go.Proofs.YtcmkijmjafgkfaaW.PrintWords Go.Proofs.YtcmkijmjafgkfaaW.PrintLast Go.Proofs.YtcmkijmjafgkfaaW.PrintMore Go.Proofs.Ytcmkijmjafgkfaa.Wp
set_option linter.unusedVariables false
set_option linter.unusedSimpArgs false
theorem w_spoil (b : List Int) (p : Int) (l : List Int) (n : Int) (h : Rdr b p) (hp : p ≤ 999900) (hl : l.length ≤ 1000000) :
    Wp (fun k => spec_reader_spoil.f k b p l n) (fun r => r.1.length ≤ l.length + 1 ∧ p ≤ r.2 ∧ r.2 ≤ p + 3) := by
  unfold spec_reader_spoil.f
  refine Wp.call (w_copyInts l (by omega)) ?_
  rintro _ rfl
  refine Wp.call (w_pick b p 20 h (by omega) (by omega)) ?_
  rintro _ ⟨x, rfl, x0, x1, _⟩
  have h1 := h.up (q := p + 1) (by omega) (by omega)
  refine Wp.ite (fun _ => Wp.pos (by omega) (Wp.ret ⟨by first | (simp; done) | (simp; omega), by first | (simp; done) | (simp; omega), by first | (simp; done) | (simp; omega)⟩)) (fun _ => ?_)
  refine Wp.ite (fun _ => Wp.ite (fun _ => Wp.pos (by omega) (Wp.ret ⟨by first | (simp; done) | (simp; omega), by first | (simp; done) | (simp; omega), by first | (simp; done) | (simp; omega)⟩)) (fun _ => Wp.ret ⟨by first | (simp; done) | (simp; omega), by first | (simp; done) | (simp; omega), by first | (simp; done) | (simp; omega)⟩)) (fun _ => ?_)
  refine Wp.ite (fun _ => Wp.ite (fun hg => ?_) (fun _ => Wp.ret ⟨by first | (simp; done) | (simp; omega), by first | (simp; done) | (simp; omega), by first | (simp; done) | (simp; omega)⟩)) (fun _ => Wp.ret ⟨by first | (simp; done) | (simp; omega), by first | (simp; done) | (simp; omega), by first | (simp; done) | (simp; omega)⟩)
  refine Wp.call (w_pick b _ _ h1 (by omega) (by omega)) ?_
  rintro _ ⟨y, rfl, y0, y1, _⟩
  have y1 := y1 (by omega)
  have h2 := h.up (q := p + 1 + 1) (by omega) (by omega)
  refine Wp.call (w_one b _ _ h2 (by omega) (by simp) (by simp)) ?_
  rintro _ ⟨z, rfl, hz⟩
  exact Wp.pos y0 (Wp.pos y1 (Wp.ret ⟨by first | (simp; done) | (simp; omega), by first | (simp; done) | (simp; omega), by first | (simp; done) | (simp; omega)⟩))
end Go.Proofs.Ytcmkijmjafgkfaa.P
namespace Go.Proofs.Ytcmkijmjafgkfaa.P
open Go.RowKit Go.Proofs.YtcmkijmjafgkfaaW.PrintWords Go.Proofs.YtcmkijmjafgkfaaW.PrintLast Go.Proofs.YtcmkijmjafgkfaaW.PrintMore Go.Proofs.Ytcmkijmjafgkfaa.Wp
set_option linter.unusedVariables false
set_option linter.unusedSimpArgs false
theorem w_anyCounts (b : List Int) (q : Int) (h : Rdr b q) (hq : q ≤ 900000) : Wp (fun k => spec_anyCounts.f k b q) (fun r => r.1.length ≤ 18 ∧ q ≤ r.2 ∧ r.2 ≤ q + 30) := by
  unfold spec_anyCounts.f
  refine Wp.call (w_one b q _ h (by omega) (by simp) (by simp)) ?_
  rintro _ ⟨n, rfl, hn⟩
  have hn : 0 ≤ n ∧ n ≤ 17 := by simp only [List.mem_cons, List.not_mem_nil, or_false] at hn; omega
  have key : ∀ (d : Nat) (x : List Int) (p : Int), (x.length : Int) + d ≤ 17 → d ≤ 17 → q + 1 ≤ p → p ≤ q + 1 + 17 - d → Wp (fun k => spec_anyCounts.l0 k x d b p) (fun r => r.1.length ≤ 18 ∧ q ≤ r.2 ∧ r.2 ≤ q + 30) := by
    intro d
    induction d with
    | zero =>
      intro x p hx hd hp hp2
      refine Wp.step (fun k => spec_anyCounts.l0.eq_2 ..) (Wp.neg (by omega) ?_)
      refine Wp.call (w_spoil b p x 10000 (h.up (by omega) (by omega)) (by omega) (by omega)) ?_
      rintro r ⟨h1, h2, h3⟩
      exact Wp.ret ⟨by first | omega | (simp only; omega), by first | omega | (simp only; omega), by first | omega | (simp only; omega)⟩
    | succ d ih =>
      intro x p hx hd hp hp2
      refine Wp.step (fun k => spec_anyCounts.l0.eq_2 ..) (Wp.pos (by omega) ?_)
      refine Wp.call (w_one b p _ (h.up (by omega) (by omega)) (by omega) (by simp) (by simp)) ?_
      rintro _ ⟨v, rfl, _⟩
      refine Wp.pos (by omega) ?_
      rw [w64 (x := ((d + 1 : Nat) : Int) - 1) (by omega) (by omega), show ((d + 1 : Nat) : Int) - 1 = (d : Int) by omega]
      exact ih _ _ (by rw [List.length_append]; simp; omega) (by omega) (by first | omega | (simp only; omega)) (by first | omega | (simp only; omega))
  obtain ⟨n, rfl⟩ := Int.eq_ofNat_of_zero_le hn.1
  exact key n [] (q + 1) (by simp; omega) (by omega) (by omega) (by omega)
theorem w_DrawCounts (l : List Int) (hb : ∀ x ∈ l, (Lit.int .u8 x).wf = true) : Wp (fun k => spec_DrawCodeLengths.f k l) (fun r => r.length ≤ 18) := by
  unfold spec_DrawCodeLengths.f
  refine Wp.call (w_newReader l hb) ?_
  rintro ⟨b, q⟩ ⟨h, e⟩
  simp only at e h
  subst e
  refine Wp.call (w_anyCounts b 0 h (by omega)) ?_
  rintro r ⟨h1, _⟩
  exact Wp.ret h1
end Go.Proofs.Ytcmkijmjafgkfaa.P
namespace Go.Proofs.Ytcmkijmjafgkfaa.Pure
open Go.RowKit Go.Proofs.Ytcmkijmjafgkfaa.P Go.Proofs.YtcmkijmjafgkfaaW.PrintWords Go.Proofs.YtcmkijmjafgkfaaW.PrintMore Go.Proofs.Ytcmkijmjafgkfaa.Wp
set_option linter.unusedVariables false
theorem FnCodeLengthsScale : laws_FnCodeLengthsScale.Pure := by
  intro l _ _ hb
  refine Wp.rounds ?_
  unfold laws_FnCodeLengthsScale.f
  refine Wp.ite (fun _ => Wp.ret rfl) (fun _ => ?_)
  refine Wp.call (w_DrawCounts l hb) ?_
  intro x hx
  have hr : (if VC x then clOf x else []).length ≤ 1000 := by
    split
    · rw [clOf_len]; omega
    · simp
  refine Wp.call (w_iCodeLengths x (by omega)) ?_
  rintro _ rfl
  refine Wp.call (w_sCodeLengths x (by omega)) ?_
  rintro _ rfl
  refine Wp.call (w_equalInts _ _ (by omega)) ?_
  rintro _ rfl
  refine Wp.pos (by simp) ?_
  refine Wp.step (fun k => laws_FnCodeLengthsScale.j0.eq_2 ..) (Wp.ite (fun _ => ?_) (fun h => ?_))
  · refine Wp.call (w_sCodeLengths x (by omega)) ?_
    rintro _ rfl
    refine Wp.call (w_equalInts _ _ (by omega)) ?_
    rintro _ rfl
    exact Wp.ret (by simp)
  · by_cases hV : VC x
    · rw [if_pos hV]
      have hc := clOf_len x
      have key : ∀ d (i : Nat), i + d = x.length → (∀ j, j < i → 2 * x.getD j 0 ≤ 9999) → Wp (fun k => laws_FnCodeLengthsScale.l0 k x (clOf x) ((x.take i).map (2 * ·)) i) (fun r => r = true) := by
        intro d
        induction d with
        | zero =>
          intro i hd hs
          have : i = x.length := by omega
          subst this
          rw [List.take_length]
          refine Wp.step (fun k => laws_FnCodeLengthsScale.l0.eq_2 ..) (Wp.neg (by omega) ?_)
          refine Wp.call (w_iCodeLengths _ (by rw [List.length_map]; omega)) ?_
          rintro _ rfl
          have hV2 : VC (x.map (2 * ·)) := by
            refine ⟨by rw [List.length_map]; exact hV.1, List.all_eq_true.2 fun y hy => decide_eq_true ?_⟩
            obtain ⟨z, hz, rfl⟩ := List.mem_map.1 hy
            obtain ⟨j, hj, rfl⟩ := List.getElem_of_mem hz
            have h1 := hs j hj
            have h2 := hV.get j
            simp only [List.getD_eq_getElem?_getD, List.getElem?_eq_getElem hj, Option.getD_some] at h1 h2
            omega
          rw [if_pos hV2, cl_dbl]
          refine Wp.call (w_equalInts _ _ (by omega)) ?_
          rintro _ rfl
          exact Wp.ret (by simp)
        | succ d ih =>
          intro i hd hs
          have hg := hV.get i
          refine Wp.step (fun k => laws_FnCodeLengthsScale.l0.eq_2 ..) (Wp.pos (by omega) (Wp.pos (by omega) ?_))
          rw [w64 (x := (i : Int) + 1) (by omega) (by omega), bl_rd, w64 (x := 2 * x.getD i 0) (by omega) (by omega)]
          refine Wp.ite (fun _ => Wp.ret rfl) (fun h1 => Wp.pos (by rw [List.length_map, List.length_take]; omega) ?_)
          have n := ih (i + 1) (by omega) (fun j hj => by
            by_cases e : j = i
            · subst e; omega
            · exact hs j (by omega))
          rw [List.take_succ_eq_append_getElem (by omega), List.map_append] at n
          have e : x.getD i 0 = x[i] := by simp [List.getD_eq_getElem?_getD, List.getElem?_eq_getElem (show i < x.length by omega)]
          rw [e]
          exact n
      exact key x.length 0 (by omega) (fun j hj => absurd hj (Nat.not_lt_zero _))
    · rw [if_neg hV] at h
      simp at h
end Go.Proofs.Ytcmkijmjafgkfaa.Pure
