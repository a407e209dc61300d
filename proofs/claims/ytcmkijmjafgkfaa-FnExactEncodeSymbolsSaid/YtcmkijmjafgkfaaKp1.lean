/- Pure lemmas: what the printed functions answer, for every input; no Go, no memory, no condition but those that each lemma names. -/
import Derived.Test.YtcmkijmjafgkfaaVWords
import Derived.Test.YtcmkijmjafgkfaaK1
/- Rules for functions that are told with a number of rounds: what they answer once the rounds are enough. Plain lemmas, for every input; no condition. -/
namespace Go.Proofs.Ytcmkijmjafgkfaa.Wp
open Go.RowKit Go.Proofs.YtcmkijmjafgkfaaW.PrintWords
set_option linter.unusedVariables false

/-- With enough rounds g answers, and the answer is as P says. -/
def Wp {α : Type} (g : Nat → Option α) (P : α → Prop) : Prop := ∃ r, P r ∧ ∃ K, ∀ k, K ≤ k → g k = some r

theorem Wp.mono {α : Type} {g : Nat → Option α} {P Q : α → Prop} (h : Wp g P) (hi : ∀ a, P a → Q a) : Wp g Q := by
  obtain ⟨r, hp, K, hk⟩ := h
  exact ⟨r, hi r hp, K, hk⟩
theorem Wp.ret {α : Type} {P : α → Prop} {r : α} (h : P r) : Wp (fun _ => some r) P := ⟨r, h, 0, fun _ _ => rfl⟩
theorem Wp.bind {α β : Type} {g : Nat → Option α} {f : Nat → α → Option β} {P : β → Prop} (h : Wp g (fun a => Wp (fun k => f k a) P)) : Wp (fun k => (g k).bind (f k)) P := by
  obtain ⟨a, ⟨r, hp, K, hk⟩, K', hk'⟩ := h
  refine ⟨r, hp, max K K', fun k hkk => ?_⟩
  show (g k).bind (f k) = some r
  rw [hk' k (by omega)]
  exact hk k (by omega)
/-- A call, and what follows. -/
theorem Wp.call {α β : Type} {g : Nat → Option α} {f : Nat → α → Option β} {Q : α → Prop} {P : β → Prop} (h : Wp g Q) (hf : ∀ a, Q a → Wp (fun k => f k a) P) : Wp (fun k => (g k).bind (f k)) P :=
  Wp.bind (h.mono hf)
theorem Wp.ite {α : Type} {c : Prop} [Decidable c] {g h : Nat → Option α} {P : α → Prop} (h1 : c → Wp g P) (h2 : ¬ c → Wp h P) : Wp (fun k => if c then g k else h k) P := by
  by_cases hc : c
  · simpa only [if_pos hc] using h1 hc
  · simpa only [if_neg hc] using h2 hc
theorem Wp.pos {α : Type} {c : Prop} [Decidable c] {g h : Nat → Option α} {P : α → Prop} (hc : c) (h1 : Wp g P) : Wp (fun k => if c then g k else h k) P := Wp.ite (fun _ => h1) (fun h => absurd hc h)
theorem Wp.neg {α : Type} {c : Prop} [Decidable c] {g h : Nat → Option α} {P : α → Prop} (hc : ¬ c) (h1 : Wp h P) : Wp (fun k => if c then g k else h k) P := Wp.ite (fun h => absurd h hc) (fun _ => h1)
/-- A round. -/
theorem Wp.step {α : Type} {g f : Nat → Option α} {P : α → Prop} (h : ∀ k, g (k + 1) = f k) (hf : Wp f P) : Wp g P := by
  obtain ⟨r, hp, K, hk⟩ := hf
  refine ⟨r, hp, K + 1, fun k hkk => ?_⟩
  obtain ⟨k, rfl⟩ : ∃ m, k = m + 1 := ⟨k - 1, by omega⟩
  rw [h k]
  exact hk k (by omega)
theorem Wp.of {α : Type} {g : Nat → Option α} {P : α → Prop} {r : α} (h : ∀ k, g k = some r) (hp : P r) : Wp g P := ⟨r, hp, 0, fun k _ => h k⟩
theorem Wp.rounds {α : Type} {g : Nat → Option α} {r : α} (h : Wp g (fun a => a = r)) : ∃ k, g k = some r := by
  obtain ⟨r', rfl, K, hk⟩ := h
  exact ⟨K, hk K (Nat.le_refl K)⟩
/-- The same answer by two ways. -/
theorem Wp.eq_of {α : Type} {g : Nat → Option α} {P : α → Prop} {r : α} {Q : α → Prop} (h : Wp g P) (k : Wp g Q) : Wp g (fun a => P a ∧ Q a) := by
  obtain ⟨a, hp, K, hk⟩ := h
  obtain ⟨b, hq, K', hk'⟩ := k
  have e : a = b := by
    have h1 := hk (max K K') (by omega)
    have h2 := hk' (max K K') (by omega)
    rw [h1] at h2
    exact Option.some.inj h2
  subst e
  exact ⟨a, ⟨hp, hq⟩, K, hk⟩
/-- A loop over a number that counts down. -/
theorem Wp.loop {σ α : Type} {g : σ → Nat → Option α} {P : α → Prop} (m : σ → Nat) (I : σ → Prop) (h : ∀ s, I s → (∀ s', I s' → m s' < m s → Wp (g s') P) → Wp (g s) P) (s : σ) (hs : I s) : Wp (g s) P := by
  generalize hn : m s = n
  induction n using Nat.strongRecOn generalizing s with
  | _ n ih => exact h s hs fun s' hs' hlt => ih (m s') (by omega) s' hs' rfl

theorem w64 {x : Int} (h0 : -9223372036854775808 ≤ x) (h1 : x ≤ 9223372036854775807) : wrap64 x = x := by
  unfold wrap64
  omega
end Go.Proofs.Ytcmkijmjafgkfaa.Wp

/- Lists of numbers: what the loops over them answer (all in a range, copies, equality, marks). Plain lemmas; the only condition is a bound on lengths. -/
namespace Go.Proofs.Ytcmkijmjafgkfaa.P
open Go.RowKit Go.Proofs.YtcmkijmjafgkfaaW.PrintWords Go.Proofs.YtcmkijmjafgkfaaW.PrintLast Go.Proofs.YtcmkijmjafgkfaaW.PrintMore Go.Proofs.Ytcmkijmjafgkfaa.Wp
set_option linter.unusedVariables false
set_option linter.unusedSimpArgs false

theorem bl_rd (l : List Int) (i : Nat) : rd l (i : Int) = l.getD i 0 := by simp [rd]
theorem bl_rd_lt (l : List Int) (i : Nat) (h : i < l.length) : rd l (i : Int) = l[i] := by simp [rd, List.getD_eq_getElem?_getD, List.getElem?_eq_getElem h]
theorem bl_ext {x l : List Int} (hx : x.length = l.length) (h : ∀ j, j < l.length → x.getD j 0 = l.getD j 0) : x = l := by
  apply List.ext_getElem hx
  intro j h1 h2
  have := h j h2
  simpa [List.getD_eq_getElem?_getD, List.getElem?_eq_getElem h1, List.getElem?_eq_getElem h2] using this
theorem bl_set {x : List Int} {i : Nat} (v : Int) (j : Nat) (hi : i < x.length) : (x.set i v).getD j 0 = if j = i then v else x.getD j 0 := by
  simp only [List.getD_eq_getElem?_getD, List.getElem?_set]
  by_cases h : i = j
  · subst h; simp [hi]
  · simp [h, Ne.symm h, eq_comm]
theorem bl_map_range (f : Nat → Int) (n j : Nat) (hj : j < n) : ((List.range n).map f).getD j 0 = f j := by
  simp [List.getD_eq_getElem?_getD, hj]
theorem bl_all_drop (l : List Int) (p : Int → Bool) (i : Nat) (h : i < l.length) : (l.drop i).all p = (p (l.getD i 0) && (l.drop (i + 1)).all p) := by
  rw [List.drop_eq_getElem_cons h, List.all_cons]
  simp [List.getD_eq_getElem?_getD, List.getElem?_eq_getElem h]
/-- All numbers in 0..255. -/
def allB (l : List Int) : Bool := l.all fun n => decide (0 ≤ n ∧ n ≤ 255)
theorem allB_mem {l : List Int} (h : allB l = true) : ∀ x ∈ l, 0 ≤ x ∧ x ≤ 255 := fun x hx => of_decide_eq_true (List.all_eq_true.1 h x hx)
theorem allB_of {l : List Int} (h : ∀ x ∈ l, 0 ≤ x ∧ x ≤ 255) : allB l = true := List.all_eq_true.2 fun x hx => decide_eq_true (h x hx)
theorem rd_leB {l : List Int} (h : allB l = true) (i : Nat) (hi : i < l.length) : 0 ≤ l.getD i 0 ∧ l.getD i 0 ≤ 255 := by
  have := allB_mem h l[i] (List.getElem_mem hi)
  simpa [List.getD_eq_getElem?_getD, List.getElem?_eq_getElem hi] using this
theorem w_inRange0 (a b c : Int) : Wp (fun _ => spec_inRange.f a b c) (fun r => r = decide (b ≤ a ∧ a ≤ c)) := by
  unfold spec_inRange.f
  refine Wp.ite (fun h => Wp.ret ?_) (fun h => Wp.ret ?_)
  · simp [h]
  · simp [h]
theorem w_allIn (l : List Int) (a b : Int) (hl : l.length ≤ 1000000000) : Wp (fun k => spec_allIn.f k l a b) (fun r => r = l.all fun n => decide (a ≤ n ∧ n ≤ b)) := by
  unfold spec_allIn.f
  have key : ∀ d (i : Nat), i + d = l.length → Wp (fun k => spec_allIn.l0 k l a b i) (fun r => r = (l.drop i).all fun n => decide (a ≤ n ∧ n ≤ b)) := by
    intro d
    induction d with
    | zero =>
      intro i hd
      refine Wp.step (fun k => spec_allIn.l0.eq_2 ..) (Wp.neg (by omega) (Wp.ret ?_))
      rw [List.drop_of_length_le (by omega)]
      rfl
    | succ d ih =>
      intro i hd
      refine Wp.step (fun k => spec_allIn.l0.eq_2 ..) (Wp.pos (by omega) (Wp.pos (by omega) ?_))
      refine Wp.call (w_inRange0 _ _ _) ?_
      rintro _ rfl
      rw [bl_all_drop l _ i (by omega), bl_rd]
      refine Wp.ite (fun h => ?_) (fun h => Wp.ret ?_)
      · rw [h, Bool.true_and, w64 (x := (i : Int) + 1) (by omega) (by omega)]
        exact ih (i + 1) (by omega)
      · rw [Bool.not_eq_true] at h
        rw [h, Bool.false_and]
  exact key l.length 0 (by omega)
theorem w_allB (l : List Int) (hl : l.length ≤ 1000000000) : Wp (fun k => spec_allIn.f k l 0 255) (fun r => r = allB l) := w_allIn l 0 255 hl
theorem w_toIntS (l : List Int) (hl : l.length ≤ 1000000000) : Wp (fun k => laws_toIntS.f k l) (fun r => r = l) := by
  unfold laws_toIntS.f
  refine Wp.pos (by omega) (Wp.pos (by omega) ?_)
  have key : ∀ d (i : Nat) (x : List Int), i + d = l.length → x.length = l.length → (∀ j, j < i → x.getD j 0 = l.getD j 0) → Wp (fun k => laws_toIntS.l0 k l x i) (fun r => r = l) := by
    intro d
    induction d with
    | zero =>
      intro i x hd hx h
      refine Wp.step (fun k => laws_toIntS.l0.eq_2 ..) (Wp.neg (by omega) (Wp.ret ?_))
      exact bl_ext hx fun j hj => h j (by omega)
    | succ d ih =>
      intro i x hd hx h
      refine Wp.step (fun k => laws_toIntS.l0.eq_2 ..) (Wp.pos (by omega) (Wp.pos (by omega) (Wp.pos (by omega) ?_)))
      rw [w64 (x := (i : Int) + 1) (by omega) (by omega), bl_rd, Int.toNat_natCast]
      refine ih (i + 1) _ (by omega) (by rw [List.length_set]; exact hx) fun j hj => ?_
      rw [bl_set _ _ (by omega)]
      split
      · rename_i e; rw [e]
      · exact h j (by omega)
  exact key l.length 0 _ (by omega) (by simp) (fun j hj => by omega)
theorem w_eqIntS (a b : List Int) (hl : a.length ≤ 1000000000) : Wp (fun k => laws_eqIntS.f k a b) (fun r => r = decide (a = b)) := by
  unfold laws_eqIntS.f
  refine Wp.ite (fun he => ?_) (fun he => Wp.ret ?_)
  · have key : ∀ d (i : Nat), i + d = a.length → (∀ j, j < i → a.getD j 0 = b.getD j 0) → Wp (fun k => laws_eqIntS.l0 k a b i) (fun r => r = decide (a = b)) := by
      intro d
      induction d with
      | zero =>
        intro i hd h
        refine Wp.step (fun k => laws_eqIntS.l0.eq_2 ..) (Wp.neg (by omega) (Wp.ret ?_))
        exact (decide_eq_true (bl_ext (by omega) fun j hj => h j (by omega))).symm
      | succ d ih =>
        intro i hd h
        refine Wp.step (fun k => laws_eqIntS.l0.eq_2 ..) (Wp.pos (by omega) (Wp.pos (by omega) (Wp.pos (by omega) ?_)))
        rw [bl_rd, bl_rd]
        refine Wp.ite (fun h1 => ?_) (fun h1 => Wp.ret ?_)
        · rw [w64 (x := (i : Int) + 1) (by omega) (by omega)]
          refine ih (i + 1) (by omega) fun j hj => ?_
          by_cases e : j = i
          · rw [e]; exact h1
          · exact h j (by omega)
        · exact (decide_eq_false fun e => h1 (by rw [e])).symm
    exact key a.length 0 (by omega) (fun j hj => by omega)
  · exact (decide_eq_false fun e => he (by rw [e])).symm
/-- The numbers from a on. -/
def marks (a : Int) (n : Nat) : List Int := (List.range n).map fun j : Nat => a + (j : Int)
theorem marks_length (a : Int) (n : Nat) : (marks a n).length = n := by simp [marks]
theorem marks_get (a : Int) (n j : Nat) (hj : j < n) : (marks a n).getD j 0 = a + j := bl_map_range _ n j hj
theorem w_markIntS (l : List Int) (a : Int) (hl : l.length ≤ 1000000000) (h0 : 0 ≤ a) (h1 : a ≤ 1000000000) : Wp (fun k => laws_markIntS.f k l a) (fun r => r = (a + l.length, marks a l.length)) := by
  unfold laws_markIntS.f
  have key : ∀ d (i : Nat) (x : List Int), i + d = l.length → x.length = l.length → (∀ j, j < i → x.getD j 0 = a + j) → Wp (fun k => laws_markIntS.l0 k x (a + i) i) (fun r => r = (a + l.length, marks a l.length)) := by
    intro d
    induction d with
    | zero =>
      intro i x hd hx h
      refine Wp.step (fun k => laws_markIntS.l0.eq_2 ..) (Wp.neg (by omega) (Wp.ret ?_))
      rw [show (i : Int) = l.length by omega]
      congr 1
      exact bl_ext (by rw [marks_length]; exact hx) fun j hj => by rw [marks_length] at hj; rw [marks_get _ _ _ hj]; exact h j (by omega)
    | succ d ih =>
      intro i x hd hx h
      refine Wp.step (fun k => laws_markIntS.l0.eq_2 ..) (Wp.pos (by omega) (Wp.pos (by omega) ?_))
      rw [w64 (x := (i : Int) + 1) (by omega) (by omega), w64 (x := a + (i : Int) + 1) (by omega) (by omega), Int.toNat_natCast]
      have := ih (i + 1) (x.set i (a + i)) (by omega) (by rw [List.length_set]; exact hx) fun j hj => by
        rw [bl_set _ _ (by omega)]
        split
        · rename_i e; rw [e]
        · exact h j (by omega)
      rw [show a + ((i + 1 : Nat) : Int) = a + (i : Int) + 1 by omega] at this
      exact this
  have := key l.length 0 l (by omega) rfl (fun j hj => by omega)
  simpa using this
theorem w_heldIntS (n : Nat) (a : Int) (hl : n ≤ 1000000000) (h0 : 0 ≤ a) (h1 : a ≤ 1000000000) : Wp (fun k => laws_heldIntS.f k (marks a n) a) (fun r => r = a + n) := by
  unfold laws_heldIntS.f
  have hlen : (marks a n).length = n := marks_length a n
  have key : ∀ d (i : Nat), i + d = n → Wp (fun k => laws_heldIntS.l0 k (marks a n) (a + i) i) (fun r => r = a + n) := by
    intro d
    induction d with
    | zero =>
      intro i hd
      refine Wp.step (fun k => laws_heldIntS.l0.eq_2 ..) (Wp.neg (by omega) (Wp.ret ?_))
      omega
    | succ d ih =>
      intro i hd
      refine Wp.step (fun k => laws_heldIntS.l0.eq_2 ..) (Wp.pos (by omega) (Wp.pos (by omega) ?_))
      rw [bl_rd, marks_get _ _ _ (by omega)]
      refine Wp.pos rfl ?_
      rw [w64 (x := (i : Int) + 1) (by omega) (by omega), w64 (x := a + (i : Int) + 1) (by omega) (by omega)]
      have := ih (i + 1) (by omega)
      rw [show a + ((i + 1 : Nat) : Int) = a + (i : Int) + 1 by omega] at this
      exact this
  have := key n 0 (by omega)
  simpa using this
theorem w_equalInts (a b : List Int) (hl : a.length ≤ 1000000000) : Wp (fun k => laws_equalInts.f k a b) (fun r => r = decide (a = b)) := by
  unfold laws_equalInts.f
  refine Wp.ite (fun he => ?_) (fun he => Wp.ret ?_)
  · have key : ∀ d (i : Nat), i + d = a.length → (∀ j, j < i → a.getD j 0 = b.getD j 0) → Wp (fun k => laws_equalInts.l0 k a b i) (fun r => r = decide (a = b)) := by
      intro d
      induction d with
      | zero =>
        intro i hd h
        refine Wp.step (fun k => laws_equalInts.l0.eq_2 ..) (Wp.neg (by omega) (Wp.ret ?_))
        exact (decide_eq_true (bl_ext (by omega) fun j hj => h j (by omega))).symm
      | succ d ih =>
        intro i hd h
        refine Wp.step (fun k => laws_equalInts.l0.eq_2 ..) (Wp.pos (by omega) (Wp.pos (by omega) (Wp.pos (by omega) ?_)))
        rw [bl_rd, bl_rd]
        refine Wp.ite (fun h1 => ?_) (fun h1 => Wp.ret ?_)
        · rw [w64 (x := (i : Int) + 1) (by omega) (by omega)]
          refine ih (i + 1) (by omega) fun j hj => ?_
          by_cases e : j = i
          · rw [e]; exact h1
          · exact h j (by omega)
        · exact (decide_eq_false fun e => h1 (by rw [e])).symm
    exact key a.length 0 (by omega) (fun j hj => by omega)
  · exact (decide_eq_false fun e => he (by rw [e])).symm
end Go.Proofs.Ytcmkijmjafgkfaa.P

/- The least and the greatest number of a row, and powers of two by shifts. Plain lemmas; the conditions are bounds. -/
namespace Go.Proofs.Ytcmkijmjafgkfaa.P
open Go.RowKit Go.Proofs.YtcmkijmjafgkfaaW.PrintWords Go.Proofs.YtcmkijmjafgkfaaW.PrintLast Go.Proofs.YtcmkijmjafgkfaaW.PrintMore Go.Proofs.Ytcmkijmjafgkfaa.Wp
set_option linter.unusedVariables false
set_option linter.unusedSimpArgs false

theorem w_min (l : List Int) (hl : l.length ≤ 1000000000) (h : 0 < l.length) : Wp (fun k => slices_Min_int_int.f k l) (fun r => r ∈ l ∧ ∀ x ∈ l, r ≤ x) := by
  unfold slices_Min_int_int.f
  have key : ∀ d (i : Nat) (m : Int), i + d = l.length → m ∈ l → (∀ j, j < i → m ≤ l.getD j 0) → Wp (fun k => slices_Min_int_int.l0 k l m i) (fun r => r ∈ l ∧ ∀ x ∈ l, r ≤ x) := by
    intro d
    induction d with
    | zero =>
      intro i m hd hm h
      refine Wp.step (fun k => slices_Min_int_int.l0.eq_2 ..) (Wp.neg (by omega) (Wp.ret ⟨hm, fun x hx => ?_⟩))
      obtain ⟨j, hj, rfl⟩ := List.getElem_of_mem hx
      have := h j (by omega)
      simpa [List.getD_eq_getElem?_getD, List.getElem?_eq_getElem hj] using this
    | succ d ih =>
      intro i m hd hm h
      refine Wp.step (fun k => slices_Min_int_int.l0.eq_2 ..) (Wp.pos (by omega) (Wp.pos (by omega) ?_))
      rw [w64 (x := (i : Int) + 1) (by omega) (by omega), bl_rd]
      have hmem : l.getD i 0 ∈ l := by rw [← bl_rd, bl_rd_lt l i (by omega)]; exact List.getElem_mem _
      refine ih (i + 1) _ (by omega) ?_ fun j hj => ?_
      · unfold mn
        split
        · exact hmem
        · exact hm
      · have h1 : mn m (l.getD i 0) ≤ m ∧ mn m (l.getD i 0) ≤ l.getD i 0 := by unfold mn; split <;> omega
        by_cases e : j = i
        · rw [e]; exact h1.2
        · exact Int.le_trans h1.1 (h j (by omega))
  refine Wp.neg (by omega) (Wp.pos (by omega) ?_)
  have e0 : rd l 0 = l[0] := bl_rd_lt l 0 h
  rw [e0]
  refine key (l.length - 1) 1 _ (by omega) (List.getElem_mem _) fun j hj => ?_
  have : j = 0 := by omega
  subst this
  simp [List.getD_eq_getElem?_getD, List.getElem?_eq_getElem h]
theorem w_max (l : List Int) (hl : l.length ≤ 1000000000) (h : 0 < l.length) : Wp (fun k => slices_Max_int_int.f k l) (fun r => r ∈ l ∧ ∀ x ∈ l, x ≤ r) := by
  unfold slices_Max_int_int.f
  have key : ∀ d (i : Nat) (m : Int), i + d = l.length → m ∈ l → (∀ j, j < i → l.getD j 0 ≤ m) → Wp (fun k => slices_Max_int_int.l0 k l m i) (fun r => r ∈ l ∧ ∀ x ∈ l, x ≤ r) := by
    intro d
    induction d with
    | zero =>
      intro i m hd hm h
      refine Wp.step (fun k => slices_Max_int_int.l0.eq_2 ..) (Wp.neg (by omega) (Wp.ret ⟨hm, fun x hx => ?_⟩))
      obtain ⟨j, hj, rfl⟩ := List.getElem_of_mem hx
      have := h j (by omega)
      simpa [List.getD_eq_getElem?_getD, List.getElem?_eq_getElem hj] using this
    | succ d ih =>
      intro i m hd hm h
      refine Wp.step (fun k => slices_Max_int_int.l0.eq_2 ..) (Wp.pos (by omega) (Wp.pos (by omega) ?_))
      rw [w64 (x := (i : Int) + 1) (by omega) (by omega), bl_rd]
      have hmem : l.getD i 0 ∈ l := by rw [← bl_rd, bl_rd_lt l i (by omega)]; exact List.getElem_mem _
      refine ih (i + 1) _ (by omega) ?_ fun j hj => ?_
      · unfold mx
        split
        · exact hmem
        · exact hm
      · have h1 : m ≤ mx m (l.getD i 0) ∧ l.getD i 0 ≤ mx m (l.getD i 0) := by unfold mx; split <;> omega
        by_cases e : j = i
        · rw [e]; exact h1.2
        · exact Int.le_trans (h j (by omega)) h1.1
  refine Wp.neg (by omega) (Wp.pos (by omega) ?_)
  have e0 : rd l 0 = l[0] := bl_rd_lt l 0 h
  rw [e0]
  refine key (l.length - 1) 1 _ (by omega) (List.getElem_mem _) fun j hj => ?_
  have : j = 0 := by omega
  subst this
  simp [List.getD_eq_getElem?_getD, List.getElem?_eq_getElem h]
/-- Two to the power of n. -/
def p2 (n : Nat) : Int := ((2 ^ n : Nat) : Int)
theorem p2_pos (n : Nat) : 1 ≤ p2 n := by
  unfold p2
  have : 0 < 2 ^ n := Nat.pow_pos (by omega)
  omega
theorem p2_succ (n : Nat) : p2 (n + 1) = 2 * p2 n := by
  unfold p2
  rw [Nat.pow_succ]
  omega
theorem p2_add (a b : Nat) : p2 (a + b) = p2 a * p2 b := by
  unfold p2
  rw [Nat.pow_add, Int.natCast_mul]
theorem p2_mono {a b : Nat} (h : a ≤ b) : p2 a ≤ p2 b := by
  unfold p2
  have := Nat.pow_le_pow_right (n := 2) (by omega) h
  omega
theorem p2_16 : p2 16 = 65536 := by decide
theorem shl_p2 (x : Int) (n : Nat) (hn : n ≤ 20) (h0 : 0 ≤ x) (h1 : x ≤ 1000000000) : shl .i64 x (n : Int) = x * p2 n := by
  unfold shl
  have e : min ((n : Int).toNat) IntKind.i64.bits = n := by
    rw [Int.toNat_natCast]
    exact Nat.min_eq_left (by show n ≤ 64; omega)
  rw [e, show (2 : Int) ^ n = p2 n by unfold p2; rw [Int.natCast_pow]; rfl]
  have h2 : p2 n ≤ p2 20 := p2_mono hn
  have h20 : p2 20 = 1048576 := by decide
  have hp := p2_pos n
  have m0 : 0 ≤ x * p2 n := Int.mul_nonneg h0 (by omega)
  have m1 : x * p2 n ≤ 1000000000 * 1048576 := Int.mul_le_mul h1 (by omega) (by omega) (by omega)
  exact (i64_w _).trans (w64 (by omega) (by omega))
theorem shr_p2 (x : Int) (n : Nat) (hn : n ≤ 60) : shr .i64 x (n : Int) = x / p2 n := by
  unfold shr
  have e : min ((n : Int).toNat) IntKind.i64.bits = n := by
    rw [Int.toNat_natCast]
    exact Nat.min_eq_left (by show n ≤ 64; omega)
  rw [e, show (2 : Int) ^ n = p2 n by unfold p2; rw [Int.natCast_pow]; rfl]
end Go.Proofs.Ytcmkijmjafgkfaa.P

/- The codes of lengths: what both ways answer, and the order of the codes. Plain lemmas; the conditions are bounds. -/
namespace Go.Proofs.Ytcmkijmjafgkfaa.P
open Go.RowKit Go.Proofs.YtcmkijmjafgkfaaW.PrintWords Go.Proofs.YtcmkijmjafgkfaaW.PrintLast Go.Proofs.YtcmkijmjafgkfaaW.PrintMore Go.Proofs.Ytcmkijmjafgkfaa.Wp
set_option linter.unusedVariables false
set_option linter.unusedSimpArgs false

/-- A symbol of the length n gets the next code. -/
def cnStep (l : List Int) (n : Int) (s : List Int × Int) (i : Nat) : List Int × Int := if l.getD i 0 = n then (s.1.set i s.2, s.2 + 1) else s
/-- The first i symbols. -/
def cnRow (l : List Int) (n : Int) (s : List Int × Int) : Nat → List Int × Int
  | 0 => s
  | i + 1 => cnStep l n (cnRow l n s i) i
/-- The lengths up to n. -/
def cnAll (l : List Int) : Nat → List Int × Int
  | 0 => (List.replicate l.length 0, 0)
  | n + 1 => cnRow l ((n : Int) + 1) ((cnAll l n).1, 2 * (cnAll l n).2) l.length
def cnOf (l : List Int) : List Int := (cnAll l 16).1
theorem cnStep_len (l : List Int) (n : Int) (s : List Int × Int) (i : Nat) : (cnStep l n s i).1.length = s.1.length := by
  unfold cnStep
  split <;> simp
theorem cnRow_len (l : List Int) (n : Int) (s : List Int × Int) (i : Nat) : (cnRow l n s i).1.length = s.1.length := by
  induction i with
  | zero => rfl
  | succ i ih => exact (cnStep_len l n _ i).trans ih
theorem cnAll_len (l : List Int) (n : Nat) : (cnAll l n).1.length = l.length := by
  induction n with
  | zero => simp [cnAll]
  | succ n ih => exact (cnRow_len l _ _ _).trans ih
theorem cnOf_len (l : List Int) : (cnOf l).length = l.length := cnAll_len l 16
theorem cnRow_next (l : List Int) (n : Int) (s : List Int × Int) (i : Nat) : s.2 ≤ (cnRow l n s i).2 ∧ (cnRow l n s i).2 ≤ s.2 + i := by
  induction i with
  | zero => exact ⟨Int.le_refl _, by show s.2 ≤ s.2 + ((0 : Nat) : Int); omega⟩
  | succ i ih =>
    have : (cnRow l n s i).2 ≤ (cnStep l n (cnRow l n s i) i).2 ∧ (cnStep l n (cnRow l n s i) i).2 ≤ (cnRow l n s i).2 + 1 := by
      unfold cnStep
      split <;> (try simp only) <;> omega
    show s.2 ≤ (cnStep l n (cnRow l n s i) i).2 ∧ (cnStep l n (cnRow l n s i) i).2 ≤ s.2 + ((i + 1 : Nat) : Int)
    omega
theorem cnAll_next (l : List Int) (hl : l.length ≤ 16) (n : Nat) : 0 ≤ (cnAll l n).2 ∧ (cnAll l n).2 ≤ 16 * p2 n - 16 := by
  induction n with
  | zero => exact ⟨Int.le_refl _, by show (0 : Int) ≤ 16 * p2 0 - 16; decide⟩
  | succ n ih =>
    have h := cnRow_next l ((n : Int) + 1) ((cnAll l n).1, 2 * (cnAll l n).2) l.length
    try simp only at h
    rw [p2_succ]
    show 0 ≤ (cnRow l ((n : Int) + 1) ((cnAll l n).1, 2 * (cnAll l n).2) l.length).2 ∧ _ ≤ _
    constructor
    · omega
    · show (cnRow l ((n : Int) + 1) ((cnAll l n).1, 2 * (cnAll l n).2) l.length).2 ≤ _
      omega
theorem cnAll_small (l : List Int) (hl : l.length ≤ 16) (n : Nat) (hn : n ≤ 16) : 0 ≤ (cnAll l n).2 ∧ (cnAll l n).2 ≤ 1048576 := by
  have h := cnAll_next l hl n
  have := p2_mono hn
  rw [p2_16] at this
  omega
/-- The reference's codes. -/
theorem w_sCanon (l : List Int) (hl : l.length ≤ 16) : Wp (fun k => spec_canonicalCodes.f k l) (fun r => r = cnOf l) := by
  unfold spec_canonicalCodes.f
  refine Wp.pos (by omega) (Wp.pos (by omega) ?_)
  have row : ∀ (n : Nat), n < 16 → Wp (fun k => spec_canonicalCodes.l0 k l (cnAll l (n + 1)).1 (cnAll l (n + 1)).2 ((n : Int) + 1 + 1)) (fun r => r = cnOf l) → ∀ d (i : Nat), i + d = l.length →
      Wp (fun k => spec_canonicalCodes.l1 k l (cnRow l ((n : Int) + 1) ((cnAll l n).1, 2 * (cnAll l n).2) i).1 (cnRow l ((n : Int) + 1) ((cnAll l n).1, 2 * (cnAll l n).2) i).2 ((n : Int) + 1) i) (fun r => r = cnOf l) := by
    intro n hn next d
    induction d with
    | zero =>
      intro i hd
      refine Wp.step (fun k => spec_canonicalCodes.l1.eq_2 ..) (Wp.neg (by omega) ?_)
      rw [w64 (x := (n : Int) + 1 + 1) (by omega) (by omega)]
      have : i = l.length := by omega
      subst this
      exact next
    | succ d ih =>
      intro i hd
      have h := ih (i + 1) (by omega)
      have hb := cnRow_next l ((n : Int) + 1) ((cnAll l n).1, 2 * (cnAll l n).2) i
      have hs := cnAll_small l hl n (by omega)
      have hlen := (cnRow_len l ((n : Int) + 1) ((cnAll l n).1, 2 * (cnAll l n).2) i).trans (cnAll_len l n)
      try simp only at hb
      refine Wp.step (fun k => spec_canonicalCodes.l1.eq_2 ..) (Wp.pos (by omega) (Wp.pos (by omega) ?_))
      rw [bl_rd, w64 (x := (i : Int) + 1) (by omega) (by omega), w64 (x := _ + 1) (by omega) (by omega)]
      refine Wp.ite (fun h1 => Wp.pos (by omega) ?_) (fun h1 => ?_)
      · rw [show cnRow l ((n : Int) + 1) ((cnAll l n).1, 2 * (cnAll l n).2) (i + 1) = (((cnRow l ((n : Int) + 1) ((cnAll l n).1, 2 * (cnAll l n).2) i).1.set i (cnRow l ((n : Int) + 1) ((cnAll l n).1, 2 * (cnAll l n).2) i).2), (cnRow l ((n : Int) + 1) ((cnAll l n).1, 2 * (cnAll l n).2) i).2 + 1) from if_pos h1] at h
        exact h
      · rw [show cnRow l ((n : Int) + 1) ((cnAll l n).1, 2 * (cnAll l n).2) (i + 1) = cnRow l ((n : Int) + 1) ((cnAll l n).1, 2 * (cnAll l n).2) i from if_neg h1] at h
        exact h
  have key : ∀ d (n : Nat), n + d = 16 → Wp (fun k => spec_canonicalCodes.l0 k l (cnAll l n).1 (cnAll l n).2 ((n : Int) + 1)) (fun r => r = cnOf l) := by
    intro d
    induction d with
    | zero =>
      intro n hd
      refine Wp.step (fun k => spec_canonicalCodes.l0.eq_2 ..) (Wp.neg (by omega) (Wp.ret ?_))
      have : n = 16 := by omega
      subst this
      rfl
    | succ d ih =>
      intro n hd
      have hs := cnAll_small l hl n (by omega)
      refine Wp.step (fun k => spec_canonicalCodes.l0.eq_2 ..) (Wp.pos (by omega) ?_)
      rw [w64 (x := 2 * _) (by omega) (by omega)]
      exact row n (by omega) (ih (n + 1) (by omega)) l.length 0 (by omega)
  exact key 16 0 (by omega)
/-- What a length takes of all room. -/
def kw (x : Int) : Int := if 0 < x then p2 (16 - x).toNat else 0
def kr (l : List Int) : Int := (l.map kw).sum
theorem kr_take (l : List Int) (i : Nat) (h : i < l.length) : kr (l.take (i + 1)) = kr (l.take i) + kw (l.getD i 0) := by
  unfold kr
  rw [List.take_succ_eq_append_getElem h, List.map_append, List.sum_append]
  simp [List.getD_eq_getElem?_getD, List.getElem?_eq_getElem h]
theorem kw_range (x : Int) (h : 0 ≤ x) : 0 ≤ kw x ∧ kw x ≤ 65536 := by
  unfold kw
  split
  · have h1 := p2_pos (16 - x).toNat
    have h2 := p2_mono (show (16 - x).toNat ≤ 16 by omega)
    rw [p2_16] at h2
    omega
  · omega
theorem kr_range (l : List Int) (h : ∀ x ∈ l, 0 ≤ x) : 0 ≤ kr l ∧ kr l ≤ 65536 * l.length := by
  induction l with
  | nil => exact ⟨Int.le_refl _, by simp [kr]⟩
  | cons x l ih =>
    have h1 := kw_range x (h x (List.mem_cons_self ..))
    have h2 := ih fun y hy => h y (List.mem_cons_of_mem _ hy)
    have e : kr (x :: l) = kw x + kr l := by simp [kr]
    rw [e, List.length_cons]
    omega
/-- A length in 0..16. -/
def all16 (l : List Int) : Bool := l.all fun n => decide (0 ≤ n ∧ n ≤ 16)
theorem all16_mem {l : List Int} (h : all16 l = true) : ∀ x ∈ l, 0 ≤ x ∧ x ≤ 16 := fun x hx => of_decide_eq_true (List.all_eq_true.1 h x hx)
theorem all16_get {l : List Int} (h : all16 l = true) (i : Nat) : 0 ≤ l.getD i 0 ∧ l.getD i 0 ≤ 16 := by
  rcases Nat.lt_or_ge i l.length with hi | hi
  · have := all16_mem h l[i] (List.getElem_mem hi)
    simpa [List.getD_eq_getElem?_getD, List.getElem?_eq_getElem hi] using this
  · simp [List.getD_eq_getElem?_getD, List.getElem?_eq_none hi]
/-- Lengths of codes. -/
def VL (l : List Int) : Prop := (1 ≤ l.length ∧ l.length ≤ 16) ∧ all16 l = true ∧ kr l ≤ 65536
instance (l : List Int) : Decidable (VL l) := inferInstanceAs (Decidable (_ ∧ _ ∧ _))
theorem w_kraft (l : List Int) (hl : l.length ≤ 16) (ha : all16 l = true) : Wp (fun k => spec_kraft.f k l) (fun r => r = kr l) := by
  unfold spec_kraft.f
  have key : ∀ d (i : Nat), i + d = l.length → Wp (fun k => spec_kraft.l0 k l (kr (l.take i)) i) (fun r => r = kr l) := by
    intro d
    induction d with
    | zero =>
      intro i hd
      refine Wp.step (fun k => spec_kraft.l0.eq_2 ..) (Wp.neg (by omega) (Wp.ret ?_))
      rw [List.take_of_length_le (by omega)]
    | succ d ih =>
      intro i hd
      have h := ih (i + 1) (by omega)
      have hr := all16_get ha i
      have hk := kr_range (l.take i) fun x hx => (all16_mem ha x (List.mem_of_mem_take hx)).1
      rw [List.length_take] at hk
      rw [kr_take l i (by omega)] at h
      refine Wp.step (fun k => spec_kraft.l0.eq_2 ..) (Wp.pos (by omega) (Wp.pos (by omega) ?_))
      rw [bl_rd, w64 (x := (i : Int) + 1) (by omega) (by omega), w64 (x := 16 - _) (by omega) (by omega)]
      have hkw := kw_range (l.getD i 0) hr.1
      refine Wp.ite (fun h1 => Wp.pos (by omega) ?_) (fun h1 => ?_)
      · have e : shl .i64 1 (16 - l.getD i 0) = kw (l.getD i 0) := by
          have := shl_p2 1 (16 - l.getD i 0).toNat (by omega) (by omega) (by omega)
          rw [Int.toNat_of_nonneg (by omega), Int.one_mul] at this
          rw [this]
          unfold kw
          rw [if_pos h1]
        rw [e, w64 (x := kr (l.take i) + _) (by omega) (by omega)]
        exact h
      · rw [show kw (l.getD i 0) = 0 from if_neg h1, Int.add_zero] at h
        exact h
  exact key l.length 0 (by omega)
theorem w_validLengths (l : List Int) (hl : l.length ≤ 1000000000) : Wp (fun k => spec_validLengths.f k l) (fun r => r = decide (VL l)) := by
  unfold spec_validLengths.f
  refine Wp.call (w_inRange0 _ _ _) ?_
  rintro _ rfl
  refine Wp.ite (fun h => ?_) (fun h => Wp.ret (decide_eq_false fun e => h (decide_eq_true ⟨by have := e.1.1; omega, by have := e.1.2; omega⟩)).symm)
  have h := of_decide_eq_true h
  refine Wp.call (w_allIn l 0 16 hl) ?_
  rintro _ rfl
  refine Wp.ite (fun ha => ?_) (fun ha => Wp.ret (decide_eq_false fun e => ha e.2.1).symm)
  refine Wp.call (w_kraft l (by omega) ha) ?_
  rintro _ rfl
  refine Wp.ret ?_
  by_cases hk : kr l ≤ 65536
  · rw [decide_eq_true hk, decide_eq_true (show VL l from ⟨by omega, ha, hk⟩)]
  · rw [decide_eq_false hk, decide_eq_false (show ¬ VL l from fun e => hk e.2.2)]
/-- The program's codes. -/
theorem w_canonical (l : List Int) (hl : l.length ≤ 1000000000) : Wp (fun k => impl_canonical.f k l) (fun r => r = if VL l then (cnOf l, true) else ([], false)) := by
  unfold impl_canonical.f
  have bad : ¬ VL l → Wp (fun k => impl_canonical.j0 k l true) (fun r => r = if VL l then (cnOf l, true) else ([], false)) := fun h =>
    Wp.step (fun k => impl_canonical.j0.eq_2 ..) (Wp.pos rfl (Wp.ret (if_neg h).symm))
  refine Wp.ite (fun h => bad fun e => by have := e.1.1; omega) (fun h0 => ?_)
  refine Wp.ite (fun h => bad fun e => by have := e.1.2; omega) (fun h1 => ?_)
  refine Wp.call (w_min l hl (by omega)) ?_
  rintro a ⟨ha, ha'⟩
  refine Wp.ite (fun h => bad fun e => by have := (all16_mem e.2.1 a ha).1; omega) (fun h2 => ?_)
  refine Wp.call (w_max l hl (by omega)) ?_
  rintro b ⟨hb, hb'⟩
  by_cases hb16 : b > 16
  · rw [decide_eq_true hb16]
    exact bad fun e => by have := (all16_mem e.2.1 b hb).2; omega
  · rw [decide_eq_false hb16]
    have h16 : all16 l = true := List.all_eq_true.2 fun x hx => decide_eq_true ⟨by have := ha' x hx; omega, by have := hb' x hx; omega⟩
    refine Wp.step (fun k => impl_canonical.j0.eq_2 ..) (Wp.neg (by decide) ?_)
    have fin : Wp (fun k => impl_canonical.l0 k l (kr l) l l.length (l.length : Nat)) (fun r => r = if VL l then (cnOf l, true) else ([], false)) := by
      refine Wp.step (fun k => impl_canonical.l0.eq_2 ..) (Wp.neg (by omega) ?_)
      refine Wp.ite (fun hk => Wp.ret (if_neg fun e => by have := e.2.2; omega).symm) (fun hk => ?_)
      rw [if_pos (show VL l from ⟨by omega, h16, by omega⟩)]
      refine Wp.pos (by omega) (Wp.pos (by omega) ?_)
      have row : ∀ (n : Nat), n < 16 → Wp (fun k => impl_canonical.l1 k l (cnAll l (n + 1)).1 (cnAll l (n + 1)).2 ((n : Int) + 1 + 1)) (fun r => r = (cnOf l, true)) → ∀ d (i : Nat), i + d = l.length →
          Wp (fun k => impl_canonical.l2 k l (cnRow l ((n : Int) + 1) ((cnAll l n).1, 2 * (cnAll l n).2) i).1 (cnRow l ((n : Int) + 1) ((cnAll l n).1, 2 * (cnAll l n).2) i).2 ((n : Int) + 1) l l.length i) (fun r => r = (cnOf l, true)) := by
        intro n hn next d
        induction d with
        | zero =>
          intro i hd
          refine Wp.step (fun k => impl_canonical.l2.eq_2 ..) (Wp.neg (by omega) ?_)
          rw [w64 (x := (n : Int) + 1 + 1) (by omega) (by omega)]
          have : i = l.length := by omega
          subst this
          exact next
        | succ d ih =>
          intro i hd
          have h := ih (i + 1) (by omega)
          have hb := cnRow_next l ((n : Int) + 1) ((cnAll l n).1, 2 * (cnAll l n).2) i
          have hs := cnAll_small l (by omega) n (by omega)
          have hlen := (cnRow_len l ((n : Int) + 1) ((cnAll l n).1, 2 * (cnAll l n).2) i).trans (cnAll_len l n)
          try simp only at hb
          refine Wp.step (fun k => impl_canonical.l2.eq_2 ..) (Wp.pos (by omega) (Wp.pos (by omega) (Wp.pos (by omega) ?_)))
          rw [bl_rd, w64 (x := (i : Int) + 1) (by omega) (by omega), w64 (x := _ + 1) (by omega) (by omega)]
          refine Wp.ite (fun h1 => Wp.pos (by omega) ?_) (fun h1 => ?_)
          · rw [show cnRow l ((n : Int) + 1) ((cnAll l n).1, 2 * (cnAll l n).2) (i + 1) = (((cnRow l ((n : Int) + 1) ((cnAll l n).1, 2 * (cnAll l n).2) i).1.set i (cnRow l ((n : Int) + 1) ((cnAll l n).1, 2 * (cnAll l n).2) i).2), (cnRow l ((n : Int) + 1) ((cnAll l n).1, 2 * (cnAll l n).2) i).2 + 1) from if_pos h1] at h
            exact h
          · rw [show cnRow l ((n : Int) + 1) ((cnAll l n).1, 2 * (cnAll l n).2) (i + 1) = cnRow l ((n : Int) + 1) ((cnAll l n).1, 2 * (cnAll l n).2) i from if_neg h1] at h
            exact h
      have key : ∀ d (n : Nat), n + d = 16 → Wp (fun k => impl_canonical.l1 k l (cnAll l n).1 (cnAll l n).2 ((n : Int) + 1)) (fun r => r = (cnOf l, true)) := by
        intro d
        induction d with
        | zero =>
          intro n hd
          refine Wp.step (fun k => impl_canonical.l1.eq_2 ..) (Wp.neg (by omega) (Wp.ret ?_))
          have : n = 16 := by omega
          subst this
          rfl
        | succ d ih =>
          intro n hd
          have hs := cnAll_small l (by omega) n (by omega)
          refine Wp.step (fun k => impl_canonical.l1.eq_2 ..) (Wp.pos (by omega) ?_)
          rw [Int.mul_comm _ 2, w64 (x := 2 * _) (by omega) (by omega)]
          exact row n (by omega) (ih (n + 1) (by omega)) l.length 0 (by omega)
      exact key 16 0 (by omega)
    have key : ∀ d (i : Nat), i + d = l.length → Wp (fun k => impl_canonical.l0 k l (kr (l.take i)) l l.length i) (fun r => r = if VL l then (cnOf l, true) else ([], false)) := by
      intro d
      induction d with
      | zero =>
        intro i hd
        have : i = l.length := by omega
        subst this
        rw [List.take_length]
        exact fin
      | succ d ih =>
        intro i hd
        have h := ih (i + 1) (by omega)
        have hr := all16_get h16 i
        have hk := kr_range (l.take i) fun x hx => (all16_mem h16 x (List.mem_of_mem_take hx)).1
        rw [List.length_take] at hk
        rw [kr_take l i (by omega)] at h
        refine Wp.step (fun k => impl_canonical.l0.eq_2 ..) (Wp.pos (by omega) (Wp.pos (by omega) (Wp.pos (by omega) ?_)))
        rw [bl_rd, w64 (x := (i : Int) + 1) (by omega) (by omega), w64 (x := 16 - _) (by omega) (by omega)]
        have hkw := kw_range (l.getD i 0) hr.1
        refine Wp.ite (fun h1 => Wp.pos (by omega) ?_) (fun h1 => ?_)
        · have e : shl .i64 1 (16 - l.getD i 0) = kw (l.getD i 0) := by
            have := shl_p2 1 (16 - l.getD i 0).toNat (by omega) (by omega) (by omega)
            rw [Int.toNat_of_nonneg (by omega), Int.one_mul] at this
            rw [this]
            unfold kw
            rw [if_pos h1]
          rw [e, w64 (x := kr (l.take i) + _) (by omega) (by omega)]
          exact h
        · rw [show kw (l.getD i 0) = 0 from if_neg h1, Int.add_zero] at h
          exact h
    exact key l.length 0 (by omega)
theorem w_iCanonical (l : List Int) (hl : l.length ≤ 1000000000) : Wp (fun k => impl_CanonicalCodes.f k l) (fun r => r = if VL l then cnOf l else []) := by
  unfold impl_CanonicalCodes.f
  refine Wp.call (w_canonical l hl) ?_
  rintro _ rfl
  refine Wp.ret ?_
  split <;> rfl
theorem w_sCanonical (l : List Int) (hl : l.length ≤ 1000000000) : Wp (fun k => spec_CanonicalCodes.f k l) (fun r => r = if VL l then cnOf l else []) := by
  unfold spec_CanonicalCodes.f
  refine Wp.call (w_validLengths l hl) ?_
  rintro _ rfl
  refine Wp.ite (fun h => ?_) (fun h => Wp.ret ?_)
  · have h := of_decide_eq_true h
    refine Wp.call (w_sCanon l h.1.2) ?_
    rintro _ rfl
    exact Wp.ret (if_pos h).symm
  · exact (if_neg fun e => h (decide_eq_true e)).symm
end Go.Proofs.Ytcmkijmjafgkfaa.P

/- Symbols as codes: what both ways answer. Plain lemmas; the conditions are bounds. -/
namespace Go.Proofs.Ytcmkijmjafgkfaa.P
open Go.RowKit Go.Proofs.YtcmkijmjafgkfaaW.PrintWords Go.Proofs.YtcmkijmjafgkfaaW.PrintLast Go.Proofs.YtcmkijmjafgkfaaW.PrintMore Go.Proofs.Ytcmkijmjafgkfaa.Wp
set_option linter.unusedVariables false
set_option linter.unusedSimpArgs false

/-- Every code is a number from 0 on, and not great. -/
def CnOk (c : List Int) : Prop := ∀ x ∈ c, 0 ≤ x ∧ x ≤ 1048592
theorem cnRow_ok (l : List Int) (n : Int) (s : List Int × Int) (i : Nat) (hi : i ≤ 16) (h : CnOk s.1) (h0 : 0 ≤ s.2) (h1 : s.2 ≤ 1048576) : CnOk (cnRow l n s i).1 := by
  induction i with
  | zero => exact h
  | succ i ih =>
    have hb := cnRow_next l n s i
    show CnOk (cnStep l n (cnRow l n s i) i).1
    unfold cnStep
    split
    · intro x hx
      rcases List.mem_or_eq_of_mem_set hx with h2 | h2
      · exact ih (by omega) x h2
      · rw [h2]; omega
    · exact ih (by omega)
theorem cnAll_ok (l : List Int) (hl : l.length ≤ 16) (n : Nat) (hn : n ≤ 16) : CnOk (cnAll l n).1 := by
  induction n with
  | zero => intro x hx; rw [List.eq_of_mem_replicate hx]; omega
  | succ n ih =>
    have h1 := cnAll_next l hl n
    have h2 := p2_mono (show n ≤ 15 by omega)
    have h3 : p2 15 = 32768 := by decide
    exact cnRow_ok l _ _ _ hl (ih (by omega)) (by show 0 ≤ 2 * (cnAll l n).2; omega) (by show 2 * (cnAll l n).2 ≤ 1048576; omega)
theorem cnOf_get (l : List Int) (hl : l.length ≤ 16) (i : Nat) : 0 ≤ (cnOf l).getD i 0 ∧ (cnOf l).getD i 0 ≤ 1048592 := by
  rcases Nat.lt_or_ge i (cnOf l).length with h | h
  · have := cnAll_ok l hl 16 (by omega) _ (List.getElem_mem h)
    simpa [List.getD_eq_getElem?_getD, List.getElem?_eq_getElem h] using this
  · simp [List.getD_eq_getElem?_getD, List.getElem?_eq_none h]
/-- The digits of a code. -/
def digs (c : Int) : Nat → List Int
  | 0 => []
  | n + 1 => (48 + c / p2 n % 2) :: digs c n
theorem digs_len (c : Int) (n : Nat) : (digs c n).length = n := by
  induction n with
  | zero => rfl
  | succ n ih => simp [digs, ih]
theorem and_one (x : Int) (h0 : 0 ≤ x) (h1 : x ≤ 1000000000000) : Go.bits .and .i64 x 1 = x % 2 := by
  obtain ⟨a, rfl⟩ := Int.eq_ofNat_of_zero_le h0
  have ha' : a % 2 ^ 64 = a := Nat.mod_eq_of_lt (by omega)
  have hc : a &&& 1 = a % 2 := Nat.and_one_is_mod a
  have hw : IntKind.i64.wrap ((a &&& 1 : Nat) : Int) = ((a &&& 1 : Nat) : Int) := by
    have h64 : IntKind.i64.wrap ((a &&& 1 : Nat) : Int) = wrap64 ((a &&& 1 : Nat) : Int) := i64_w _
    rw [h64, w64 (by omega) (by omega)]
  have he : Go.bits .and .i64 (a : Int) ((1 : Nat) : Int) = ((a &&& 1 : Nat) : Int) := by
    have hbits : IntKind.i64.bits = 64 := rfl
    simp only [Go.bits, BitVec.ofInt_natCast, BitVec.toNat_and, BitVec.toNat_ofNat, hbits, ha', show 1 % 2 ^ 64 = 1 from rfl, hw]
  show Go.bits .and .i64 (a : Int) ((1 : Nat) : Int) = _
  rw [he, hc]
  omega
theorem half_range (c : Int) (n : Nat) (h0 : 0 ≤ c) (h1 : c ≤ 1048592) : 0 ≤ c / p2 n ∧ c / p2 n ≤ 1048592 := by
  have hp := p2_pos n
  exact ⟨Int.ediv_nonneg h0 (by omega), Int.le_trans (Int.ediv_le_self _ h0) h1⟩
theorem w_digits (c : Int) (n : Nat) (hn : n ≤ 16) (h0 : 0 ≤ c) (h1 : c ≤ 1048592) : Wp (fun k => spec_digits.f k c n) (fun r => r = strOfNums (digs c n)) := by
  unfold spec_digits.f
  have key : ∀ (n : Nat) (a : List Int), n ≤ 16 → a.length ≤ 1000 - n → Wp (fun k => spec_digits.l0 k c a ((n : Int) - 1)) (fun r => r = strOfNums (a ++ digs c n)) := by
    intro n
    induction n with
    | zero =>
      intro a _ _
      refine Wp.step (fun k => spec_digits.l0.eq_2 ..) (Wp.neg (by omega) (Wp.ret ?_))
      simp [digs]
    | succ n ih =>
      intro a hn ha
      have h := ih (a ++ [48 + c / p2 n % 2]) (by omega) (by rw [List.length_append]; simp; omega)
      rw [List.append_assoc] at h
      have hr := half_range c n h0 h1
      refine Wp.step (fun k => spec_digits.l0.eq_2 ..) (Wp.pos (by omega) (Wp.pos (by omega) (Wp.pos (by omega) ?_)))
      rw [show ((n + 1 : Nat) : Int) - 1 = (n : Int) by omega, w64 (x := (n : Int) - 1) (by omega) (by omega), shr_p2 c n (by omega), Int.tmod_eq_emod_of_nonneg hr.1, w64 (x := 48 + _) (by omega) (by omega),
        show (48 + c / p2 n % 2) % 256 = 48 + c / p2 n % 2 by omega]
      exact h
  rw [w64 (x := (n : Int) - 1) (by omega) (by omega)]
  exact key n [] hn (by simp)
/-- A symbol that has no code. -/
def NoSym (l : List Int) (s : Int) : Prop := s < 0 ∨ (l.length : Int) ≤ s ∨ l.getD s.toNat 0 = 0
instance (l : List Int) (s : Int) : Decidable (NoSym l s) := inferInstanceAs (Decidable (_ ∨ _ ∨ _))
/-- The digits of symbols, where all have codes. -/
def encL (l c : List Int) : List Int → Option (List Int)
  | [] => some []
  | s :: x => if NoSym l s then none else (encL l c x).map fun y => digs (c.getD s.toNat 0) (l.getD s.toNat 0).toNat ++ y
def encR (a : List Int) : Option (List Int) → ByteArray × Bool
  | none => (⟨#[]⟩, false)
  | some y => (strOfNums (a ++ y), true)
/-- EncodeSymbols. -/
def encAll (x l : List Int) : ByteArray × Bool := if VL l ∧ x.length ≤ 1200 then encR [] (encL l (cnOf l) x) else (⟨#[]⟩, false)
theorem encL_drop (l c x : List Int) (i : Nat) (h : i < x.length) : encL l c (x.drop i) = if NoSym l (x.getD i 0) then none else (encL l c (x.drop (i + 1))).map fun y => digs (c.getD (x.getD i 0).toNat 0) (l.getD (x.getD i 0).toNat 0).toNat ++ y := by
  rw [List.drop_eq_getElem_cons h]
  simp [encL, List.getD_eq_getElem?_getD, List.getElem?_eq_getElem h]
theorem encR_map (a d : List Int) (o : Option (List Int)) : encR a (o.map fun y => d ++ y) = encR (a ++ d) o := by
  cases o <;> simp [encR]
theorem str_append (a b : List Int) : strOfNums (a ++ b) = strOfNums a ++ strOfNums b := by
  apply ByteArray.ext
  simp [strOfNums]
theorem w_sEncode (x l : List Int) (hl : l.length ≤ 1000000000) (hx : x.length ≤ 1000000000) : Wp (fun k => spec_EncodeSymbols.f k x l) (fun r => r = encAll x l) := by
  unfold spec_EncodeSymbols.f
  refine Wp.call (w_validLengths l hl) ?_
  rintro _ rfl
  have bad : ¬ (VL l ∧ x.length ≤ 1200) → Wp (fun _ => some ((⟨#[]⟩ : ByteArray), false)) (fun r => r = encAll x l) := fun h => Wp.ret (if_neg h).symm
  refine Wp.ite (fun h => ?_) (fun h => bad fun e => h (decide_eq_true e.1))
  have hV := of_decide_eq_true h
  refine Wp.ite (fun h2 => bad fun e => by omega) (fun h2 => ?_)
  ·
    unfold encAll
    rw [if_pos ⟨hV, by omega⟩]
    unfold spec_encodeSymbols.f
    refine Wp.call (Q := fun r => r = encR [] (encL l (cnOf l) x)) ?_ (by rintro _ rfl; exact Wp.ret rfl)
    refine Wp.call (w_sCanon l hV.1.2) ?_
    rintro _ rfl
    have hcl := cnOf_len l
    have hl16 := hV.1.2
    have key : ∀ d (i : Nat) (a : List Int), i + d = x.length → a.length ≤ 16 * i → Wp (fun k => spec_encodeSymbols.l0 k x l (strOfNums a) (cnOf l) i) (fun r => r = encR a (encL l (cnOf l) (x.drop i))) := by
      intro d
      induction d with
      | zero =>
        intro i a hd ha
        refine Wp.step (fun k => spec_encodeSymbols.l0.eq_2 ..) (Wp.neg (by omega) (Wp.ret ?_))
        rw [List.drop_of_length_le (by omega)]
        simp [encL, encR]
      | succ d ih =>
        intro i a hd ha
        refine Wp.step (fun k => spec_encodeSymbols.l0.eq_2 ..) (Wp.pos (by omega) (Wp.pos (by omega) ?_))
        refine Wp.call (w_inRange0 _ _ _) ?_
        rintro _ rfl
        rw [bl_rd, encL_drop l _ x i (by omega), w64 (x := (l.length : Int) - 1) (by omega) (by omega)]
        generalize x.getD i 0 = s
        refine Wp.ite (fun h => ?_) (fun h => Wp.ret ?_)
        · have h := of_decide_eq_true h
          obtain ⟨s, rfl⟩ := Int.eq_ofNat_of_zero_le h.1
          rw [bl_rd, bl_rd, Int.toNat_natCast]
          have hr := all16_get hV.2.1 s
          have hc := cnOf_get l hl16 s
          refine Wp.pos (by omega) (Wp.pos (by omega) (Wp.ite (fun h3 => Wp.ret ?_) (fun h3 => Wp.pos (by omega) ?_)))
          · rw [if_pos (show NoSym l s from .inr (.inr (by rw [Int.toNat_natCast]; exact h3)))]
            rfl
          · have hd2 := w_digits ((cnOf l).getD s 0) (l.getD s 0).toNat (by omega) hc.1 hc.2
            rw [Int.toNat_of_nonneg hr.1] at hd2
            refine Wp.call hd2 ?_
            rintro _ rfl
            have hdl := digs_len ((cnOf l).getD s 0) (l.getD s 0).toNat
            refine Wp.pos (by rw [strOfNums_size, strOfNums_size]; omega) ?_
            have hns : ¬ NoSym l s := by
              rintro (e | e | e)
              · omega
              · omega
              · rw [Int.toNat_natCast] at e; exact h3 e
            rw [if_neg hns, encR_map, ← str_append, w64 (x := (i : Int) + 1) (by omega) (by omega)]
            exact ih (i + 1) _ (by omega) (by rw [List.length_append]; omega)
        · rw [if_pos (show NoSym l s from ?_)]
          · rfl
          · rcases Decidable.em (0 ≤ s) with e | e
            · exact .inr (.inl (by have h : ¬ (0 ≤ s ∧ s ≤ (l.length : Int) - 1) := fun e => h (decide_eq_true e)
                                   omega))
            · exact .inl (by omega)
    have := key x.length 0 [] (by omega) (by simp)
    exact this
theorem w_iEncode (x l : List Int) (hl : l.length ≤ 1000000000) (hx : x.length ≤ 1000000000) : Wp (fun k => impl_EncodeSymbols.f k x l) (fun r => r = encAll x l) := by
  unfold impl_EncodeSymbols.f
  refine Wp.call (w_canonical l hl) ?_
  rintro _ rfl
  have bad : ∀ c, ¬ (VL l ∧ x.length ≤ 1200) → Wp (fun k => impl_EncodeSymbols.j0 k x l c true) (fun r => r = encAll x l) := fun c h =>
    Wp.step (fun k => impl_EncodeSymbols.j0.eq_2 ..) (Wp.pos rfl (Wp.ret (if_neg h).symm))
  by_cases hV : VL l
  · rw [if_pos hV]
    refine Wp.pos rfl ?_
    by_cases h2 : (x.length : Int) > 1200
    · rw [decide_eq_true h2]
      exact bad _ fun e => by omega
    · rw [decide_eq_false h2]
      refine Wp.step (fun k => impl_EncodeSymbols.j0.eq_2 ..) (Wp.neg (by decide) ?_)
      unfold encAll
      rw [if_pos ⟨hV, by omega⟩]
      have hcl := cnOf_len l
      have hl16 := hV.1.2
      have key : ∀ d (i : Nat) (a : List Int), i + d = x.length → a.length ≤ 16 * i → Wp (fun k => impl_EncodeSymbols.l0 k l (cnOf l) a x x.length i) (fun r => r = encR a (encL l (cnOf l) (x.drop i))) := by
        intro d
        induction d with
        | zero =>
          intro i a hd ha
          refine Wp.step (fun k => impl_EncodeSymbols.l0.eq_2 ..) (Wp.neg (by omega) (Wp.ret ?_))
          rw [List.drop_of_length_le (by omega)]
          simp [encL, encR]
        | succ d ih =>
          intro i a hd ha
          refine Wp.step (fun k => impl_EncodeSymbols.l0.eq_2 ..) (Wp.pos (by omega) (Wp.pos (by omega) (Wp.pos (by omega) ?_)))
          rw [bl_rd, encL_drop l _ x i (by omega)]
          generalize x.getD i 0 = s
          have no : NoSym l s → Wp (fun k => impl_EncodeSymbols.j2 k l (cnOf l) a s x x.length i true) (fun r => r = encR a (if NoSym l s then none else (encL l (cnOf l) (x.drop (i + 1))).map fun y => digs ((cnOf l).getD s.toNat 0) (l.getD s.toNat 0).toNat ++ y)) := fun h =>
            Wp.step (fun k => impl_EncodeSymbols.j2.eq_2 ..) (Wp.pos rfl (Wp.ret (by rw [if_pos h]; rfl)))
          refine Wp.ite (fun h => no (.inl h)) (fun h0 => Wp.ite (fun h => no (.inr (.inl h))) (fun h1 => Wp.pos (by omega) (Wp.pos (by omega) ?_)))
          obtain ⟨s, rfl⟩ := Int.eq_ofNat_of_zero_le (show 0 ≤ s by omega)
          rw [bl_rd]
          by_cases h3 : l.getD s 0 = 0
          · rw [h3]
            exact no (.inr (.inr (by rw [Int.toNat_natCast]; exact h3)))
          · rw [show (l.getD s 0 == 0) = false from beq_eq_false_iff_ne.2 h3]
            have hns : ¬ NoSym l s := by
              rintro (e | e | e)
              · omega
              · omega
              · rw [Int.toNat_natCast] at e; exact h3 e
            rw [if_neg hns, encR_map, Int.toNat_natCast]
            have hr := all16_get hV.2.1 s
            have hc := cnOf_get l hl16 s
            refine Wp.step (fun k => impl_EncodeSymbols.j2.eq_2 ..) (Wp.neg (by decide) (Wp.pos (by omega) (Wp.pos (by omega) ?_)))
            rw [bl_rd, w64 (x := l.getD s 0 - 1) (by omega) (by omega)]
            have bits : ∀ (n : Nat) (b : List Int), n ≤ 16 → b.length ≤ 100000 - n → Wp (fun k => impl_EncodeSymbols.l0 k l (cnOf l) (b ++ digs ((cnOf l).getD s 0) n) x x.length ((i + 1 : Nat) : Int)) (fun r => r = encR (a ++ digs ((cnOf l).getD s 0) (l.getD s 0).toNat) (encL l (cnOf l) (x.drop (i + 1)))) →
                Wp (fun k => impl_EncodeSymbols.l1 k l (cnOf l) b s ((n : Int) - 1) x x.length i) (fun r => r = encR (a ++ digs ((cnOf l).getD s 0) (l.getD s 0).toNat) (encL l (cnOf l) (x.drop (i + 1)))) := by
              intro n
              induction n with
              | zero =>
                intro b _ _ hb
                refine Wp.step (fun k => impl_EncodeSymbols.l1.eq_2 ..) (Wp.neg (by omega) ?_)
                rw [w64 (x := (i : Int) + 1) (by omega) (by omega)]
                rw [show b ++ digs ((cnOf l).getD s 0) 0 = b from List.append_nil _] at hb
                exact hb
              | succ n ihn =>
                intro b hn hbl hb
                have hq := half_range ((cnOf l).getD s 0) n hc.1 hc.2
                refine Wp.step (fun k => impl_EncodeSymbols.l1.eq_2 ..) (Wp.pos (by omega) (Wp.pos (by omega) (Wp.pos (by omega) (Wp.pos (by omega) (Wp.pos (by omega) ?_)))))
                rw [show ((n + 1 : Nat) : Int) - 1 = (n : Int) by omega, w64 (x := (n : Int) - 1) (by omega) (by omega), bl_rd, shr_p2 _ n (by omega), and_one _ hq.1 (by omega), w64 (x := 48 + _) (by omega) (by omega),
                  show (48 + (cnOf l).getD s 0 / p2 n % 2) % 256 = 48 + (cnOf l).getD s 0 / p2 n % 2 by omega]
                refine ihn _ (by omega) (by rw [List.length_append]; simp; omega) ?_
                rw [List.append_assoc]
                exact hb
            have hdl := digs_len ((cnOf l).getD s 0) (l.getD s 0).toNat
            have := bits (l.getD s 0).toNat a (by omega) (by omega) (ih (i + 1) _ (by omega) (by rw [List.length_append]; omega))
            rw [Int.toNat_of_nonneg hr.1] at this
            exact this
      have := key x.length 0 [] (by omega) (by simp)
      exact this
  · rw [if_neg hV]
    exact Wp.neg (by decide) (bad _ fun e => hV e.1)
end Go.Proofs.Ytcmkijmjafgkfaa.P

/- The program's EncodeSymbols answers what the reference's answers, for all lists, and leaves them alone. -/
namespace Go.Proofs.Ytcmkijmjafgkfaa.Pure
open Go.RowKit Go.Proofs.Ytcmkijmjafgkfaa.P Go.Proofs.YtcmkijmjafgkfaaW.PrintWords Go.Proofs.Ytcmkijmjafgkfaa.Wp
set_option linter.unusedVariables false

theorem FnExactEncodeSymbols : laws_FnExactEncodeSymbols.Pure := by
  intro x l _ _ _ _ _ _
  refine Wp.rounds ?_
  unfold laws_FnExactEncodeSymbols.f
  refine Wp.ite (fun _ => Wp.ret rfl) (fun hx => ?_)
  refine Wp.ite (fun _ => Wp.ret rfl) (fun hl => ?_)
  have hx : x.length ≤ 1000000000 := by omega
  have hl : l.length ≤ 1000000000 := by omega
  refine Wp.call (w_toIntS x hx) ?_
  rintro _ rfl
  refine Wp.call (w_toIntS l hl) ?_
  rintro _ rfl
  refine Wp.call (w_sEncode _ _ hl hx) ?_
  rintro _ rfl
  refine Wp.call (w_toIntS _ hx) ?_
  rintro _ rfl
  refine Wp.call (w_toIntS _ hl) ?_
  rintro _ rfl
  refine Wp.call (w_iEncode _ _ hl hx) ?_
  rintro _ rfl
  refine Wp.pos rfl ?_
  rw [show ((encAll _ _).2 != (encAll _ _).2) = false by simp]
  refine Wp.step (fun k => laws_FnExactEncodeSymbols.j0.eq_2 ..) (Wp.neg (by decide) ?_)
  refine Wp.call (w_toIntS _ hx) ?_
  rintro _ rfl
  refine Wp.call (w_eqIntS _ _ hx) ?_
  rintro _ rfl
  refine Wp.pos (by simp) ?_
  refine Wp.call (w_toIntS _ hl) ?_
  rintro _ rfl
  refine Wp.call (w_eqIntS _ _ hl) ?_
  rintro _ rfl
  exact Wp.pos (by simp) (Wp.ret rfl)
end Go.Proofs.Ytcmkijmjafgkfaa.Pure
