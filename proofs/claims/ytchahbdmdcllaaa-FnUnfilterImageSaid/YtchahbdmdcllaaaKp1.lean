/- Pure lemmas: what the printed functions answer, for every input; no Go, no memory, no condition but those that each lemma names. -/
import Derived.Test.YtchahbdmdcllaaaVWords
import Derived.Test.YtchahbdmdcllaaaK1
import Derived.Test.YtchahbdmdcllaaaK2
import Derived.Test.YtchahbdmdcllaaaK3
import Derived.Test.YtchahbdmdcllaaaK4
/- Rules for functions that are told with a number of rounds: what they answer once the rounds are enough. Plain lemmas, for every input; no condition. -/
namespace Go.Proofs.Ytchahbdmdcllaaa.Wp
open Go.RowKit Go.Proofs.YtchahbdmdcllaaaW.PrintWords
set_option linter.unusedVariables false

/-- With enough rounds g answers, and the answer is as P says. -/
def Wp {α : Type} (g : Nat → Option α) (P : α → Prop) : Prop := ∃ r, P r ∧ ∃ K, ∀ k, K ≤ k → g k = some r

theorem Wp.mono {α : Type} {g : Nat → Option α} {P Q : α → Prop} (h : Wp g P) (hi : ∀ a, P a → Q a) : Wp g Q := by
  obtain ⟨r, hp, K, hk⟩ := h
  exact ⟨r, hi r hp, K, hk⟩
theorem Wp.ret {α : Type} {P : α → Prop} {r : α} (h : P r) : Wp (fun _ => some r) P := ⟨r, h, 0, fun _ _ => rfl⟩
theorem Wp.bind {α β : Type} {g : Nat → Option α} {f : Nat → α → Option β} {P : β → Prop} (h : Wp g (fun a => Wp (fun k => f k a) P)) : Wp (fun k => (g k).bind (f k)) P := by
  obtain ⟨a, ⟨r, hp, K, hk⟩, K', hk'⟩ := h
  refine ⟨r, hp, max K K', fun k hkk => ?_⟩
  show (g k).bind (f k) = some r
  rw [hk' k (by omega)]
  exact hk k (by omega)
/-- A call, and what follows. -/
theorem Wp.call {α β : Type} {g : Nat → Option α} {f : Nat → α → Option β} {Q : α → Prop} {P : β → Prop} (h : Wp g Q) (hf : ∀ a, Q a → Wp (fun k => f k a) P) : Wp (fun k => (g k).bind (f k)) P :=
  Wp.bind (h.mono hf)
theorem Wp.ite {α : Type} {c : Prop} [Decidable c] {g h : Nat → Option α} {P : α → Prop} (h1 : c → Wp g P) (h2 : ¬ c → Wp h P) : Wp (fun k => if c then g k else h k) P := by
  by_cases hc : c
  · simpa only [if_pos hc] using h1 hc
  · simpa only [if_neg hc] using h2 hc
theorem Wp.pos {α : Type} {c : Prop} [Decidable c] {g h : Nat → Option α} {P : α → Prop} (hc : c) (h1 : Wp g P) : Wp (fun k => if c then g k else h k) P := Wp.ite (fun _ => h1) (fun h => absurd hc h)
theorem Wp.neg {α : Type} {c : Prop} [Decidable c] {g h : Nat → Option α} {P : α → Prop} (hc : ¬ c) (h1 : Wp h P) : Wp (fun k => if c then g k else h k) P := Wp.ite (fun h => absurd h hc) (fun _ => h1)
/-- A round. -/
theorem Wp.step {α : Type} {g f : Nat → Option α} {P : α → Prop} (h : ∀ k, g (k + 1) = f k) (hf : Wp f P) : Wp g P := by
  obtain ⟨r, hp, K, hk⟩ := hf
  refine ⟨r, hp, K + 1, fun k hkk => ?_⟩
  obtain ⟨k, rfl⟩ : ∃ m, k = m + 1 := ⟨k - 1, by omega⟩
  rw [h k]
  exact hk k (by omega)
theorem Wp.of {α : Type} {g : Nat → Option α} {P : α → Prop} {r : α} (h : ∀ k, g k = some r) (hp : P r) : Wp g P := ⟨r, hp, 0, fun k _ => h k⟩
theorem Wp.rounds {α : Type} {g : Nat → Option α} {r : α} (h : Wp g (fun a => a = r)) : ∃ k, g k = some r := by
  obtain ⟨r', rfl, K, hk⟩ := h
  exact ⟨K, hk K (Nat.le_refl K)⟩
/-- The same answer by two ways. -/
theorem Wp.eq_of {α : Type} {g : Nat → Option α} {P : α → Prop} {r : α} {Q : α → Prop} (h : Wp g P) (k : Wp g Q) : Wp g (fun a => P a ∧ Q a) := by
  obtain ⟨a, hp, K, hk⟩ := h
  obtain ⟨b, hq, K', hk'⟩ := k
  have e : a = b := by
    have h1 := hk (max K K') (by omega)
    have h2 := hk' (max K K') (by omega)
    rw [h1] at h2
    exact Option.some.inj h2
  subst e
  exact ⟨a, ⟨hp, hq⟩, K, hk⟩
/-- A loop over a number that counts down. -/
theorem Wp.loop {σ α : Type} {g : σ → Nat → Option α} {P : α → Prop} (m : σ → Nat) (I : σ → Prop) (h : ∀ s, I s → (∀ s', I s' → m s' < m s → Wp (g s') P) → Wp (g s) P) (s : σ) (hs : I s) : Wp (g s) P := by
  generalize hn : m s = n
  induction n using Nat.strongRecOn generalizing s with
  | _ n ih => exact h s hs fun s' hs' hlt => ih (m s') (by omega) s' hs' rfl

theorem w64 {x : Int} (h0 : -9223372036854775808 ≤ x) (h1 : x ≤ 9223372036854775807) : wrap64 x = x := by
  unfold wrap64
  omega
end Go.Proofs.Ytchahbdmdcllaaa.Wp

/- Lists of numbers: what the loops over them answer (all in a range, copies, equality, marks). Plain lemmas; the only condition is a bound on lengths. -/
namespace Go.Proofs.Ytchahbdmdcllaaa.P
open Go.RowKit Go.Proofs.YtchahbdmdcllaaaW.PrintWords Go.Proofs.YtchahbdmdcllaaaW.PrintLast Go.Proofs.YtchahbdmdcllaaaW.PrintMore Go.Proofs.Ytchahbdmdcllaaa.Wp
set_option linter.unusedVariables false
set_option linter.unusedSimpArgs false

theorem bl_rd (l : List Int) (i : Nat) : rd l (i : Int) = l.getD i 0 := by simp [rd]
theorem bl_rd_lt (l : List Int) (i : Nat) (h : i < l.length) : rd l (i : Int) = l[i] := by simp [rd, List.getD_eq_getElem?_getD, List.getElem?_eq_getElem h]
theorem bl_ext {x l : List Int} (hx : x.length = l.length) (h : ∀ j, j < l.length → x.getD j 0 = l.getD j 0) : x = l := by
  apply List.ext_getElem hx
  intro j h1 h2
  have := h j h2
  simpa [List.getD_eq_getElem?_getD, List.getElem?_eq_getElem h1, List.getElem?_eq_getElem h2] using this
theorem bl_set {x : List Int} {i : Nat} (v : Int) (j : Nat) (hi : i < x.length) : (x.set i v).getD j 0 = if j = i then v else x.getD j 0 := by
  simp only [List.getD_eq_getElem?_getD, List.getElem?_set]
  by_cases h : i = j
  · subst h; simp [hi]
  · simp [h, Ne.symm h, eq_comm]
theorem bl_map_range (f : Nat → Int) (n j : Nat) (hj : j < n) : ((List.range n).map f).getD j 0 = f j := by
  simp [List.getD_eq_getElem?_getD, hj]
theorem bl_all_drop (l : List Int) (p : Int → Bool) (i : Nat) (h : i < l.length) : (l.drop i).all p = (p (l.getD i 0) && (l.drop (i + 1)).all p) := by
  rw [List.drop_eq_getElem_cons h, List.all_cons]
  simp [List.getD_eq_getElem?_getD, List.getElem?_eq_getElem h]
/-- All numbers in 0..255. -/
def allB (l : List Int) : Bool := l.all fun n => decide (0 ≤ n ∧ n ≤ 255)
theorem allB_mem {l : List Int} (h : allB l = true) : ∀ x ∈ l, 0 ≤ x ∧ x ≤ 255 := fun x hx => of_decide_eq_true (List.all_eq_true.1 h x hx)
theorem allB_of {l : List Int} (h : ∀ x ∈ l, 0 ≤ x ∧ x ≤ 255) : allB l = true := List.all_eq_true.2 fun x hx => decide_eq_true (h x hx)
theorem rd_leB {l : List Int} (h : allB l = true) (i : Nat) (hi : i < l.length) : 0 ≤ l.getD i 0 ∧ l.getD i 0 ≤ 255 := by
  have := allB_mem h l[i] (List.getElem_mem hi)
  simpa [List.getD_eq_getElem?_getD, List.getElem?_eq_getElem hi] using this
theorem w_inRange0 (a b c : Int) : Wp (fun _ => spec_inRange.f a b c) (fun r => r = decide (b ≤ a ∧ a ≤ c)) := by
  unfold spec_inRange.f
  refine Wp.ite (fun h => Wp.ret ?_) (fun h => Wp.ret ?_)
  · simp [h]
  · simp [h]
theorem w_allIn (l : List Int) (a b : Int) (hl : l.length ≤ 1000000000) : Wp (fun k => spec_allIn.f k l a b) (fun r => r = l.all fun n => decide (a ≤ n ∧ n ≤ b)) := by
  unfold spec_allIn.f
  have key : ∀ d (i : Nat), i + d = l.length → Wp (fun k => spec_allIn.l0 k l a b i) (fun r => r = (l.drop i).all fun n => decide (a ≤ n ∧ n ≤ b)) := by
    intro d
    induction d with
    | zero =>
      intro i hd
      refine Wp.step (fun k => spec_allIn.l0.eq_2 ..) (Wp.neg (by omega) (Wp.ret ?_))
      rw [List.drop_of_length_le (by omega)]
      rfl
    | succ d ih =>
      intro i hd
      refine Wp.step (fun k => spec_allIn.l0.eq_2 ..) (Wp.pos (by omega) (Wp.pos (by omega) ?_))
      refine Wp.call (w_inRange0 _ _ _) ?_
      rintro _ rfl
      rw [bl_all_drop l _ i (by omega), bl_rd]
      refine Wp.ite (fun h => ?_) (fun h => Wp.ret ?_)
      · rw [h, Bool.true_and, w64 (x := (i : Int) + 1) (by omega) (by omega)]
        exact ih (i + 1) (by omega)
      · rw [Bool.not_eq_true] at h
        rw [h, Bool.false_and]
  exact key l.length 0 (by omega)
theorem w_allB (l : List Int) (hl : l.length ≤ 1000000000) : Wp (fun k => spec_allIn.f k l 0 255) (fun r => r = allB l) := w_allIn l 0 255 hl
theorem w_areBytes (l : List Int) : Wp (fun _ => impl_areBytes.f l) (fun r => r = allB l) := by
  unfold impl_areBytes.f
  refine Wp.ret ?_
  unfold allB
  induction l with
  | nil => rfl
  | cons x l ih =>
    simp only [List.any_cons, List.all_cons, Bool.not_or, ← ih]
    congr 1
    by_cases h0 : x < 0 <;> by_cases h1 : 255 < x <;> simp [h0, h1] <;> omega
theorem w_toIntS (l : List Int) (hl : l.length ≤ 1000000000) : Wp (fun k => laws_toIntS.f k l) (fun r => r = l) := by
  unfold laws_toIntS.f
  refine Wp.pos (by omega) (Wp.pos (by omega) ?_)
  have key : ∀ d (i : Nat) (x : List Int), i + d = l.length → x.length = l.length → (∀ j, j < i → x.getD j 0 = l.getD j 0) → Wp (fun k => laws_toIntS.l0 k l x i) (fun r => r = l) := by
    intro d
    induction d with
    | zero =>
      intro i x hd hx h
      refine Wp.step (fun k => laws_toIntS.l0.eq_2 ..) (Wp.neg (by omega) (Wp.ret ?_))
      exact bl_ext hx fun j hj => h j (by omega)
    | succ d ih =>
      intro i x hd hx h
      refine Wp.step (fun k => laws_toIntS.l0.eq_2 ..) (Wp.pos (by omega) (Wp.pos (by omega) (Wp.pos (by omega) ?_)))
      rw [w64 (x := (i : Int) + 1) (by omega) (by omega), bl_rd, Int.toNat_natCast]
      refine ih (i + 1) _ (by omega) (by rw [List.length_set]; exact hx) fun j hj => ?_
      rw [bl_set _ _ (by omega)]
      split
      · rename_i e; rw [e]
      · exact h j (by omega)
  exact key l.length 0 _ (by omega) (by simp) (fun j hj => by omega)
theorem w_eqIntS (a b : List Int) (hl : a.length ≤ 1000000000) : Wp (fun k => laws_eqIntS.f k a b) (fun r => r = decide (a = b)) := by
  unfold laws_eqIntS.f
  refine Wp.ite (fun he => ?_) (fun he => Wp.ret ?_)
  · have key : ∀ d (i : Nat), i + d = a.length → (∀ j, j < i → a.getD j 0 = b.getD j 0) → Wp (fun k => laws_eqIntS.l0 k a b i) (fun r => r = decide (a = b)) := by
      intro d
      induction d with
      | zero =>
        intro i hd h
        refine Wp.step (fun k => laws_eqIntS.l0.eq_2 ..) (Wp.neg (by omega) (Wp.ret ?_))
        exact (decide_eq_true (bl_ext (by omega) fun j hj => h j (by omega))).symm
      | succ d ih =>
        intro i hd h
        refine Wp.step (fun k => laws_eqIntS.l0.eq_2 ..) (Wp.pos (by omega) (Wp.pos (by omega) (Wp.pos (by omega) ?_)))
        rw [bl_rd, bl_rd]
        refine Wp.ite (fun h1 => ?_) (fun h1 => Wp.ret ?_)
        · rw [w64 (x := (i : Int) + 1) (by omega) (by omega)]
          refine ih (i + 1) (by omega) fun j hj => ?_
          by_cases e : j = i
          · rw [e]; exact h1
          · exact h j (by omega)
        · exact (decide_eq_false fun e => h1 (by rw [e])).symm
    exact key a.length 0 (by omega) (fun j hj => by omega)
  · exact (decide_eq_false fun e => he (by rw [e])).symm
/-- The numbers from a on. -/
def marks (a : Int) (n : Nat) : List Int := (List.range n).map fun j : Nat => a + (j : Int)
theorem marks_length (a : Int) (n : Nat) : (marks a n).length = n := by simp [marks]
theorem marks_get (a : Int) (n j : Nat) (hj : j < n) : (marks a n).getD j 0 = a + j := bl_map_range _ n j hj
theorem w_markIntS (l : List Int) (a : Int) (hl : l.length ≤ 1000000000) (h0 : 0 ≤ a) (h1 : a ≤ 1000000000) : Wp (fun k => laws_markIntS.f k l a) (fun r => r = (a + l.length, marks a l.length)) := by
  unfold laws_markIntS.f
  have key : ∀ d (i : Nat) (x : List Int), i + d = l.length → x.length = l.length → (∀ j, j < i → x.getD j 0 = a + j) → Wp (fun k => laws_markIntS.l0 k x (a + i) i) (fun r => r = (a + l.length, marks a l.length)) := by
    intro d
    induction d with
    | zero =>
      intro i x hd hx h
      refine Wp.step (fun k => laws_markIntS.l0.eq_2 ..) (Wp.neg (by omega) (Wp.ret ?_))
      rw [show (i : Int) = l.length by omega]
      congr 1
      exact bl_ext (by rw [marks_length]; exact hx) fun j hj => by rw [marks_length] at hj; rw [marks_get _ _ _ hj]; exact h j (by omega)
    | succ d ih =>
      intro i x hd hx h
      refine Wp.step (fun k => laws_markIntS.l0.eq_2 ..) (Wp.pos (by omega) (Wp.pos (by omega) ?_))
      rw [w64 (x := (i : Int) + 1) (by omega) (by omega), w64 (x := a + (i : Int) + 1) (by omega) (by omega), Int.toNat_natCast]
      have := ih (i + 1) (x.set i (a + i)) (by omega) (by rw [List.length_set]; exact hx) fun j hj => by
        rw [bl_set _ _ (by omega)]
        split
        · rename_i e; rw [e]
        · exact h j (by omega)
      rw [show a + ((i + 1 : Nat) : Int) = a + (i : Int) + 1 by omega] at this
      exact this
  have := key l.length 0 l (by omega) rfl (fun j hj => by omega)
  simpa using this
theorem w_heldIntS (n : Nat) (a : Int) (hl : n ≤ 1000000000) (h0 : 0 ≤ a) (h1 : a ≤ 1000000000) : Wp (fun k => laws_heldIntS.f k (marks a n) a) (fun r => r = a + n) := by
  unfold laws_heldIntS.f
  have hlen : (marks a n).length = n := marks_length a n
  have key : ∀ d (i : Nat), i + d = n → Wp (fun k => laws_heldIntS.l0 k (marks a n) (a + i) i) (fun r => r = a + n) := by
    intro d
    induction d with
    | zero =>
      intro i hd
      refine Wp.step (fun k => laws_heldIntS.l0.eq_2 ..) (Wp.neg (by omega) (Wp.ret ?_))
      omega
    | succ d ih =>
      intro i hd
      refine Wp.step (fun k => laws_heldIntS.l0.eq_2 ..) (Wp.pos (by omega) (Wp.pos (by omega) ?_))
      rw [bl_rd, marks_get _ _ _ (by omega)]
      refine Wp.pos rfl ?_
      rw [w64 (x := (i : Int) + 1) (by omega) (by omega), w64 (x := a + (i : Int) + 1) (by omega) (by omega)]
      have := ih (i + 1) (by omega)
      rw [show a + ((i + 1 : Nat) : Int) = a + (i : Int) + 1 by omega] at this
      exact this
  have := key n 0 (by omega)
  simpa using this
theorem w_equalInts (a b : List Int) (hl : a.length ≤ 1000000000) : Wp (fun k => laws_equalInts.f k a b) (fun r => r = decide (a = b)) := by
  unfold laws_equalInts.f
  refine Wp.ite (fun he => ?_) (fun he => Wp.ret ?_)
  · have key : ∀ d (i : Nat), i + d = a.length → (∀ j, j < i → a.getD j 0 = b.getD j 0) → Wp (fun k => laws_equalInts.l0 k a b i) (fun r => r = decide (a = b)) := by
      intro d
      induction d with
      | zero =>
        intro i hd h
        refine Wp.step (fun k => laws_equalInts.l0.eq_2 ..) (Wp.neg (by omega) (Wp.ret ?_))
        exact (decide_eq_true (bl_ext (by omega) fun j hj => h j (by omega))).symm
      | succ d ih =>
        intro i hd h
        refine Wp.step (fun k => laws_equalInts.l0.eq_2 ..) (Wp.pos (by omega) (Wp.pos (by omega) (Wp.pos (by omega) ?_)))
        rw [bl_rd, bl_rd]
        refine Wp.ite (fun h1 => ?_) (fun h1 => Wp.ret ?_)
        · rw [w64 (x := (i : Int) + 1) (by omega) (by omega)]
          refine ih (i + 1) (by omega) fun j hj => ?_
          by_cases e : j = i
          · rw [e]; exact h1
          · exact h j (by omega)
        · exact (decide_eq_false fun e => h1 (by rw [e])).symm
    exact key a.length 0 (by omega) (fun j hj => by omega)
  · exact (decide_eq_false fun e => he (by rw [e])).symm
end Go.Proofs.Ytchahbdmdcllaaa.P

/- Images, as both look at them. Plain lemmas, for every input; the conditions are bounds. -/
namespace Go.Proofs.Ytchahbdmdcllaaa.P
open Go.RowKit Go.Proofs.YtchahbdmdcllaaaW.PrintWords Go.Proofs.YtchahbdmdcllaaaW.PrintLast Go.Proofs.YtchahbdmdcllaaaW.PrintMore Go.Proofs.Ytchahbdmdcllaaa.Wp
set_option linter.unusedVariables false
set_option linter.unusedSimpArgs false

theorem rd_cut (l : List Int) (a b i : Int) (ha : 0 ≤ a) (hi : 0 ≤ i) (hb : a + i < b) : rd ((l.take b.toNat).drop a.toNat) i = rd l (a + i) := by
  unfold rd
  rw [List.getD_eq_getElem?_getD, List.getD_eq_getElem?_getD, List.getElem?_drop, List.getElem?_take, if_pos (by omega)]
  congr 2
  omega
theorem rd_nat (l : List Int) (i : Int) : rd l i = l.getD i.toNat 0 := rfl
theorem rd_B {l : List Int} (h : ∀ x ∈ l, 0 ≤ x ∧ x ≤ 255) (i : Int) (h0 : 0 ≤ i) (h1 : i < (l.length : Int)) : 0 ≤ rd l i ∧ rd l i ≤ 255 := by
  refine h _ ?_
  unfold rd
  rw [List.getD_eq_getElem?_getD, List.getElem?_eq_getElem (by omega)]
  exact List.getElem_mem _
/-- An image as the reference looks at it. -/
def imgB (a b c : Int) (l : List Int) : Bool := decide ((1 ≤ a ∧ a ≤ 16) ∧ (1 ≤ b ∧ b ≤ 16) ∧ (1 ≤ c ∧ c ≤ 4)) && decide ((l.length : Int) = a * b * c) && allB l
theorem imgB_ok {a b c : Int} {l : List Int} : imgB a b c l = true ↔ ImgOk a b c l := by
  unfold imgB ImgOk
  rw [Bool.and_eq_true, Bool.and_eq_true, decide_eq_true_eq, decide_eq_true_eq]
  constructor
  · rintro ⟨⟨h1, h2⟩, h3⟩
    exact ⟨h1.1, h1.2.1, h1.2.2, h2, allB_mem h3⟩
  · rintro ⟨h1, h2, h3, h4, h5⟩
    exact ⟨⟨⟨h1, h2, h3⟩, h4⟩, allB_of h5⟩
theorem w_iImage (a b c : Int) (l : List Int) : Wp (fun _ => impl_isImage.f a b c l) (fun r => r = imgB a b c l) := by
  obtain ⟨r, hr, hi⟩ := isImage_some a b c l
  refine Wp.of (fun _ => hr) ?_
  rw [Bool.eq_iff_iff, hi, imgB_ok]
theorem w_sImage (a b c : Int) (l : List Int) (hl : l.length ≤ 1000000000) : Wp (fun k => spec_validImage.f k a b c l) (fun r => r = imgB a b c l) := by
  unfold spec_validImage.f spec_validShape.f imgB
  refine Wp.call (Q := fun r => r = decide ((1 ≤ a ∧ a ≤ 16) ∧ (1 ≤ b ∧ b ≤ 16) ∧ (1 ≤ c ∧ c ≤ 4))) ?_ ?_
  · refine Wp.call (w_inRange0 _ _ _) ?_
    rintro _ rfl
    refine Wp.ite (fun h => ?_) (fun h => Wp.ret ?_)
    · refine Wp.call (w_inRange0 _ _ _) ?_
      rintro _ rfl
      refine Wp.ite (fun h2 => ?_) (fun h2 => Wp.ret ?_)
      · refine Wp.call (w_inRange0 _ _ _) ?_
        rintro _ rfl
        refine Wp.ret ?_
        rw [decide_eq_true_eq] at h h2
        rw [Bool.eq_iff_iff, decide_eq_true_eq, decide_eq_true_eq]
        exact ⟨fun h3 => ⟨h, h2, h3⟩, fun h3 => h3.2.2⟩
      · rw [decide_eq_true_eq] at h2
        exact (decide_eq_false fun h3 => h2 h3.2.1).symm
    · rw [decide_eq_true_eq] at h
      exact (decide_eq_false fun h3 => h h3.1).symm
  · rintro _ rfl
    refine Wp.ite (fun h => ?_) (fun h => Wp.ret ?_)
    · rw [h, Bool.true_and]
      rw [decide_eq_true_eq] at h
      obtain ⟨h0, h1, h2⟩ := h
      have hB := img_bounds h0 h1 h2
      rw [w64 (x := a * b) (by omega) (by omega), w64 (x := a * b * c) (by omega) (by omega)]
      refine Wp.ite (fun h3 => ?_) (fun h3 => Wp.ret ?_)
      · rw [decide_eq_true h3, Bool.true_and]
        refine Wp.call (w_allB l hl) ?_
        rintro _ rfl
        exact Wp.ret rfl
      · rw [decide_eq_false h3]; rfl
    · rw [Bool.not_eq_true] at h
      rw [h]; rfl
theorem w_newImage (a b c : Int) (h0 : 0 ≤ a ∧ a ≤ 1000) (h1 : 0 ≤ b ∧ b ≤ 1000) (h2 : 0 ≤ c ∧ c ≤ 1000) : Wp (fun _ => spec_newImage.f a b c) (fun r => r = (a, b, c, List.replicate (a * b * c).toNat 0)) := by
  have m1 : 0 ≤ a * b := Int.mul_nonneg h0.1 h1.1
  have m2 : a * b ≤ 1000 * 1000 := Int.mul_le_mul h0.2 h1.2 h1.1 (by omega)
  have m3 : 0 ≤ a * b * c := Int.mul_nonneg m1 h2.1
  have m4 : a * b * c ≤ 1000000 * 1000 := Int.mul_le_mul m2 h2.2 h2.1 (by omega)
  unfold spec_newImage.f
  rw [w64 (x := a * b) (by omega) (by omega), w64 (x := a * b * c) (by omega) (by omega)]
  exact Wp.pos m3 (Wp.pos (by omega) (Wp.ret rfl))
end Go.Proofs.Ytchahbdmdcllaaa.P

/- Filtered rows: both ways answer the same, and a row that is filtered and unfiltered stays as it is. Plain lemmas under bounds. -/
namespace Go.Proofs.Ytchahbdmdcllaaa.P
open Go.RowKit Go.Proofs.YtchahbdmdcllaaaW.PrintWords Go.Proofs.YtchahbdmdcllaaaW.PrintLast Go.Proofs.YtchahbdmdcllaaaW.PrintMore Go.Proofs.Ytchahbdmdcllaaa.Wp
set_option linter.unusedVariables false
set_option linter.unusedSimpArgs false

def dst (x : Int) : Int := if x < 0 then -x else x
/-- The neighbour that is nearest to their plane. -/
def pth (l u c : Int) : Int := if dst (l + u - c - l) ≤ dst (l + u - c - u) ∧ dst (l + u - c - l) ≤ dst (l + u - c - c) then l else if dst (l + u - c - u) ≤ dst (l + u - c - c) then u else c
/-- What a filter guesses. -/
def gval (f l u c : Int) : Int := if f = 1 then l else if f = 2 then u else if f = 3 then (l + u) / 2 else if f = 4 then pth l u c else 0
def gsv (f : Int) (row prev : List Int) (p i : Nat) : Int := gval f (if p ≤ i then row.getD (i - p) 0 else 0) (prev.getD i 0) (if p ≤ i then prev.getD (i - p) 0 else 0)
theorem gval_B {f l u c : Int} (hl : 0 ≤ l ∧ l ≤ 255) (hu : 0 ≤ u ∧ u ≤ 255) (hc : 0 ≤ c ∧ c ≤ 255) : 0 ≤ gval f l u c ∧ gval f l u c ≤ 255 := by
  unfold gval pth
  split
  · exact hl
  · split
    · exact hu
    · split
      · omega
      · split
        · split
          · exact hl
          · split
            · exact hu
            · exact hc
        · omega
theorem getD_B {l : List Int} (h : ∀ x ∈ l, 0 ≤ x ∧ x ≤ 255) (i : Nat) : 0 ≤ l.getD i 0 ∧ l.getD i 0 ≤ 255 := by
  by_cases hi : i < l.length
  · rw [← bl_rd]
    exact rd_B h i (by omega) (by omega)
  · rw [List.getD_eq_getElem?_getD, List.getElem?_eq_none (by omega)]
    simp
theorem gsv_B {f : Int} {row prev : List Int} {p i : Nat} (hr : ∀ x ∈ row, 0 ≤ x ∧ x ≤ 255) (hp : ∀ x ∈ prev, 0 ≤ x ∧ x ≤ 255) : 0 ≤ gsv f row prev p i ∧ gsv f row prev p i ≤ 255 := by
  unfold gsv
  refine gval_B ?_ (getD_B hp i) ?_
  · split
    · exact getD_B hr _
    · omega
  · split
    · exact getD_B hp _
    · omega
theorem w_distance (x : Int) (h0 : -1000000 ≤ x) (h1 : x ≤ 1000000) : Wp (fun _ => spec_distance.f x) (fun r => r = dst x) := by
  unfold spec_distance.f dst
  rw [w64 (x := -x) (by omega) (by omega)]
  exact Wp.ite (fun h => Wp.ret (by rw [if_pos h])) (fun h => Wp.ret (by rw [if_neg h]))
theorem w_paeth (l u c : Int) (hl : 0 ≤ l ∧ l ≤ 255) (hu : 0 ≤ u ∧ u ≤ 255) (hc : 0 ≤ c ∧ c ≤ 255) : Wp (fun k => spec_paeth.f k l u c) (fun r => r = pth l u c) := by
  unfold spec_paeth.f pth
  rw [w64 (x := l + u) (by omega) (by omega), w64 (x := l + u - c) (by omega) (by omega), w64 (x := l + u - c - l) (by omega) (by omega), w64 (x := l + u - c - u) (by omega) (by omega), w64 (x := l + u - c - c) (by omega) (by omega)]
  refine Wp.call (w_distance _ (by omega) (by omega)) ?_
  rintro _ rfl
  refine Wp.call (w_distance _ (by omega) (by omega)) ?_
  rintro _ rfl
  refine Wp.call (w_distance _ (by omega) (by omega)) ?_
  rintro _ rfl
  generalize dst (l + u - c - l) = d0
  generalize dst (l + u - c - u) = d1
  generalize dst (l + u - c - c) = d2
  have last : ∀ (P : Int → Prop), (d1 ≤ d2 → P u) → (¬ d1 ≤ d2 → P c) → Wp (fun _ => if d1 ≤ d2 then some u else some c) P := fun P h1 h2 => Wp.ite (fun h => Wp.ret (h1 h)) (fun h => Wp.ret (h2 h))
  refine Wp.ite (fun h1 => ?_) (fun h1 => ?_)
  · refine Wp.step (fun k => spec_paeth.j0.eq_2 ..) ?_
    refine Wp.ite (fun h2 => Wp.ret ?_) (fun h2 => ?_)
    · rw [if_pos ⟨h1, of_decide_eq_true h2⟩]
    · rw [decide_eq_true_eq] at h2
      rw [if_neg (show ¬ (d0 ≤ d1 ∧ d0 ≤ d2) from fun h => h2 h.2)]
      exact last _ (fun h => by rw [if_pos h]) (fun h => by rw [if_neg h])
  · refine Wp.step (fun k => spec_paeth.j0.eq_2 ..) (Wp.neg (by simp) ?_)
    rw [if_neg (show ¬ (d0 ≤ d1 ∧ d0 ≤ d2) from fun h => h1 h.1)]
    exact last _ (fun h => by rw [if_pos h]) (fun h => by rw [if_neg h])
theorem dst_flip (l u c v : Int) : dst (v - l - u + c) = dst (l + u - c - v) := by
  unfold dst
  split <;> split <;> omega
theorem pth_two (l u c b : Int) (hb : b = if dst (u - l - u + c) < dst (l - l - u + c) then u else l) : (if dst (c - l - u + c) < dst (b - l - u + c) then c else b) = pth l u c := by
  rw [dst_flip, dst_flip] at hb
  rw [dst_flip, dst_flip]
  unfold pth
  by_cases h : dst (l + u - c - u) < dst (l + u - c - l)
  · rw [if_pos h] at hb
    rw [hb]
    generalize dst (l + u - c - l) = d0 at *
    generalize dst (l + u - c - u) = d1 at *
    generalize dst (l + u - c - c) = d2 at *
    rw [if_neg (show ¬ (d0 ≤ d1 ∧ d0 ≤ d2) by omega)]
    by_cases h2 : d1 ≤ d2
    · rw [if_pos h2, if_neg (by omega)]
    · rw [if_neg h2, if_pos (by omega)]
  · rw [if_neg h] at hb
    rw [hb]
    generalize dst (l + u - c - l) = d0 at *
    generalize dst (l + u - c - u) = d1 at *
    generalize dst (l + u - c - c) = d2 at *
    by_cases h2 : d0 ≤ d2
    · rw [if_pos (show d0 ≤ d1 ∧ d0 ≤ d2 by omega), if_neg (by omega)]
    · rw [if_neg (show ¬ (d0 ≤ d1 ∧ d0 ≤ d2) by omega), if_pos (by omega), if_neg (by omega)]
theorem w_guess (f : Int) (row prev : List Int) (p i : Nat) (hp : i < prev.length) (hr : p ≤ i → i - p < row.length) (hl : prev.length ≤ 1000000) (hp2 : p ≤ 1000000) (hrb : ∀ x ∈ row, 0 ≤ x ∧ x ≤ 255) (hpb : ∀ x ∈ prev, 0 ≤ x ∧ x ≤ 255) :
    Wp (fun k => spec_guess.f k f row prev p i) (fun r => r = gsv f row prev p i) := by
  have main : ∀ (l c : Int), (0 ≤ l ∧ l ≤ 255) → (0 ≤ c ∧ c ≤ 255) → Wp (fun k => spec_guess.j0 k f prev i l c) (fun r => r = gval f l (prev.getD i 0) c) := by
    intro l c hlb hcb
    have hu := getD_B hpb i
    refine Wp.step (fun k => spec_guess.j0.eq_2 ..) ?_
    unfold gval
    rw [bl_rd]
    refine Wp.ite (fun h => Wp.ret (by rw [if_pos h])) (fun h => ?_)
    rw [if_neg h]
    refine Wp.ite (fun h => Wp.pos (by omega) (Wp.pos (by omega) (Wp.ret (by rw [if_pos h])))) (fun h => ?_)
    rw [if_neg h]
    refine Wp.ite (fun h => Wp.pos (by omega) (Wp.pos (by omega) (Wp.ret ?_))) (fun h => ?_)
    · rw [if_pos h, w64 (x := l + prev.getD i 0) (by omega) (by omega), Int.tdiv_eq_ediv_of_nonneg (by omega), w64 (by omega) (by omega)]
    rw [if_neg h]
    refine Wp.ite (fun h => Wp.pos (by omega) (Wp.pos (by omega) ?_)) (fun h => Wp.ret (by rw [if_neg h]))
    rw [if_pos h]
    refine Wp.call (w_paeth l _ c hlb hu hcb) ?_
    rintro _ rfl
    exact Wp.ret rfl
  unfold spec_guess.f gsv
  refine Wp.ite (fun h => ?_) (fun h => ?_)
  · rw [w64 (x := (i : Int) - p) (by omega) (by omega), if_pos (by omega), if_pos (by omega), show (i : Int) - p = ((i - p : Nat) : Int) by omega]
    have := hr (by omega)
    refine Wp.pos (by omega) (Wp.pos (by omega) (Wp.pos (by omega) ?_))
    rw [bl_rd, bl_rd]
    exact main _ _ (getD_B hrb _) (getD_B hpb _)
  · rw [if_neg (by omega), if_neg (by omega)]
    exact main 0 0 (by omega) (by omega)
theorem size_eq (x : Int) (h0 : -1000000 ≤ x) (h1 : x ≤ 1000000) : impl_size.f x = some (dst x) := by
  unfold impl_size.f mx dst
  rw [w64 (x := -x) (by omega) (by omega)]
  congr 1
  split <;> split <;> omega
theorem w_predicted (f : Int) (row prev : List Int) (p i : Nat) (hp : i < prev.length) (hr : p ≤ i → i - p < row.length) (hl : prev.length ≤ 1000000) (hp2 : p ≤ 1000000) (hrb : ∀ x ∈ row, 0 ≤ x ∧ x ≤ 255) (hpb : ∀ x ∈ prev, 0 ≤ x ∧ x ≤ 255) :
    Wp (fun k => impl_predicted.f k f row prev p i) (fun r => r = gsv f row prev p i) := by
  have main : ∀ (l u c : Int), (0 ≤ l ∧ l ≤ 255) → (0 ≤ u ∧ u ≤ 255) → (0 ≤ c ∧ c ≤ 255) → Wp (fun k => impl_predicted.j0 k f l u c) (fun r => r = gval f l u c) := by
    intro l u c hlb hu hcb
    refine Wp.step (fun k => impl_predicted.j0.eq_2 ..) ?_
    unfold gval
    refine Wp.ite (fun h => Wp.ret (by rw [if_pos h])) (fun h => ?_)
    rw [if_neg h]
    refine Wp.ite (fun h => Wp.ret (by rw [if_pos h])) (fun h => ?_)
    rw [if_neg h]
    refine Wp.ite (fun h => Wp.ret ?_) (fun h => ?_)
    · rw [if_pos h, w64 (x := l + u) (by omega) (by omega), Int.tdiv_eq_ediv_of_nonneg (by omega), w64 (by omega) (by omega)]
    rw [if_neg h]
    refine Wp.ite (fun h => ?_) (fun h => Wp.ret (by rw [if_neg h]))
    rw [if_pos h]
    have step : ∀ (b : Int) (i : Nat) (v : Int), (0 ≤ b ∧ b ≤ 255) → i < 2 → rd [u, c] i = v → (0 ≤ v ∧ v ≤ 255) → ∀ (P : Int → Prop),
        Wp (fun k => impl_predicted.l0 k l u c (if dst (v - l - u + c) < dst (b - l - u + c) then v else b) [u, c] 2 ((i + 1 : Nat) : Int)) P → Wp (fun k => impl_predicted.l0 k l u c b [u, c] 2 i) P := by
      intro b i v hb hi hv hvb P h
      refine Wp.step (fun k => impl_predicted.l0.eq_2 ..) (Wp.pos (by omega) (Wp.pos (by omega) (Wp.pos (by show (i : Int) < 2; omega) ?_)))
      rw [hv, w64 (x := v - l) (by omega) (by omega), w64 (x := v - l - u) (by omega) (by omega), w64 (x := v - l - u + c) (by omega) (by omega), w64 (x := b - l) (by omega) (by omega), w64 (x := b - l - u) (by omega) (by omega), w64 (x := b - l - u + c) (by omega) (by omega),
        w64 (x := (i : Int) + 1) (by omega) (by omega), size_eq _ (by omega) (by omega), size_eq _ (by omega) (by omega)]
      simp only [Option.bind_some]
      refine Wp.ite (fun h1 => ?_) (fun h1 => ?_)
      · rw [if_pos h1] at h; exact h
      · rw [if_neg h1] at h; exact h
    simp only [Option.bind_some]
    refine step l 0 u hlb (by omega) rfl hu _ ?_
    refine step _ 1 c (by split <;> omega) (by omega) rfl hcb _ ?_
    refine Wp.step (fun k => impl_predicted.l0.eq_2 ..) (Wp.neg (by omega) (Wp.ret ?_))
    exact pth_two l u c _ rfl
  have hu := getD_B hpb i
  unfold impl_predicted.f gsv
  refine Wp.pos (by omega) (Wp.pos (by omega) ?_)
  rw [bl_rd]
  refine Wp.ite (fun h => ?_) (fun h => ?_)
  · rw [w64 (x := (i : Int) - p) (by omega) (by omega), if_pos (by omega), if_pos (by omega), show (i : Int) - p = ((i - p : Nat) : Int) by omega]
    have := hr (by omega)
    refine Wp.pos (by omega) (Wp.pos (by omega) (Wp.pos (by omega) ?_))
    rw [bl_rd, bl_rd]
    exact main _ _ _ (getD_B hrb _) hu (getD_B hpb _)
  · rw [if_neg (by omega), if_neg (by omega)]
    exact main 0 _ 0 (by omega) hu (by omega)
/-- A filtered row. -/
def fR (f : Int) (row prev : List Int) (p : Nat) : List Int := (List.range row.length).map fun i => (row.getD i 0 - gsv f row prev p i + 256) % 256
theorem fR_len (f : Int) (row prev : List Int) (p : Nat) : (fR f row prev p).length = row.length := by simp [fR]
theorem fR_B (f : Int) (row prev : List Int) (p : Nat) : ∀ x ∈ fR f row prev p, 0 ≤ x ∧ x ≤ 255 := by
  intro x hx
  unfold fR at hx
  obtain ⟨i, _, rfl⟩ := List.mem_map.1 hx
  omega
theorem map_range_take (g : Nat → Int) (n i : Nat) (h : i < n) : ((List.range n).map g).take (i + 1) = ((List.range n).map g).take i ++ [g i] := by
  rw [List.take_add_one]
  congr 1
  simp [h]
theorem w_sFilterRow (f : Int) (row prev : List Int) (p : Nat) (hp1 : 1 ≤ p) (hl : row.length ≤ prev.length) (hl2 : prev.length ≤ 1000000) (hp2 : p ≤ 1000000) (hrb : ∀ x ∈ row, 0 ≤ x ∧ x ≤ 255) (hpb : ∀ x ∈ prev, 0 ≤ x ∧ x ≤ 255) :
    Wp (fun k => spec_filterRow.f k f row prev p) (fun r => r = fR f row prev p) := by
  unfold spec_filterRow.f
  have hlen := fR_len f row prev p
  have key : ∀ (d i : Nat), i + d = row.length → Wp (fun k => spec_filterRow.l0 k f row prev p ((fR f row prev p).take i) i) (fun r => r = fR f row prev p) := by
    intro d
    induction d with
    | zero =>
      intro i hd
      refine Wp.step (fun k => spec_filterRow.l0.eq_2 ..) (Wp.neg (by omega) (Wp.ret ?_))
      exact List.take_of_length_le (by omega)
    | succ d ih =>
      intro i hd
      refine Wp.step (fun k => spec_filterRow.l0.eq_2 ..) (Wp.pos (by omega) (Wp.pos (by omega) ?_))
      refine Wp.call (w_guess f row prev p i (by omega) (fun h => by omega) hl2 hp2 hrb hpb) ?_
      rintro _ rfl
      have hg := gsv_B (f := f) (p := p) (i := i) hrb hpb
      have hr := getD_B hrb i
      refine Wp.pos (by rw [List.length_take]; omega) ?_
      rw [bl_rd, w64 (x := row.getD i 0 - gsv f row prev p i) (by omega) (by omega), w64 (x := row.getD i 0 - gsv f row prev p i + 256) (by omega) (by omega), Int.tmod_eq_emod_of_nonneg (by omega), w64 (x := (i : Int) + 1) (by omega) (by omega)]
      have := ih (i + 1) (by omega)
      unfold fR at this ⊢
      rw [map_range_take _ _ _ (by omega)] at this
      exact this
  have := key row.length 0 (by omega)
  rw [List.take_zero] at this
  exact this
theorem w_iFilterRow (f : Int) (row prev : List Int) (p : Nat) (hp1 : 1 ≤ p) (hl : row.length ≤ prev.length) (hl2 : prev.length ≤ 1000000) (hp2 : p ≤ 1000000) (hrb : ∀ x ∈ row, 0 ≤ x ∧ x ≤ 255) (hpb : ∀ x ∈ prev, 0 ≤ x ∧ x ≤ 255) :
    Wp (fun k => impl_filterRow.f k f row prev p) (fun r => r = fR f row prev p) := by
  unfold impl_filterRow.f
  have hlen := fR_len f row prev p
  have key : ∀ (d i : Nat), i + d = row.length → Wp (fun k => impl_filterRow.l0 k f row prev p ((fR f row prev p).take i) row row.length i) (fun r => r = fR f row prev p) := by
    intro d
    induction d with
    | zero =>
      intro i hd
      refine Wp.step (fun k => impl_filterRow.l0.eq_2 ..) (Wp.neg (by omega) (Wp.ret ?_))
      exact List.take_of_length_le (by omega)
    | succ d ih =>
      intro i hd
      refine Wp.step (fun k => impl_filterRow.l0.eq_2 ..) (Wp.pos (by omega) (Wp.pos (by omega) (Wp.pos (by omega) ?_)))
      refine Wp.call (w_predicted f row prev p i (by omega) (fun h => by omega) hl2 hp2 hrb hpb) ?_
      rintro _ rfl
      have hg := gsv_B (f := f) (p := p) (i := i) hrb hpb
      have hr := getD_B hrb i
      refine Wp.pos (by rw [List.length_take]; omega) ?_
      rw [bl_rd, w64 (x := row.getD i 0 - gsv f row prev p i) (by omega) (by omega), w64 (x := row.getD i 0 - gsv f row prev p i + 256) (by omega) (by omega), Int.tmod_eq_emod_of_nonneg (by omega), w64 (x := (i : Int) + 1) (by omega) (by omega)]
      have := ih (i + 1) (by omega)
      unfold fR at this ⊢
      rw [map_range_take _ _ _ (by omega)] at this
      exact this
  have := key row.length 0 (by omega)
  rw [List.take_zero] at this
  exact this
/-- What a filtered row costs. -/
def csum (l : List Int) : Nat → Int
  | 0 => 0
  | i + 1 => csum l i + mn (l.getD i 0) (256 - l.getD i 0)
theorem csum_B {l : List Int} (h : ∀ x ∈ l, 0 ≤ x ∧ x ≤ 255) (i : Nat) : 0 ≤ csum l i ∧ csum l i ≤ 256 * i := by
  induction i with
  | zero => simp [csum]
  | succ i ih =>
    have hr := getD_B h i
    unfold csum mn
    split <;> omega
theorem w_cost (l : List Int) (h : ∀ x ∈ l, 0 ≤ x ∧ x ≤ 255) (hl : l.length ≤ 1000000) : Wp (fun k => spec_filterCost.f k l) (fun r => r = csum l l.length) := by
  unfold spec_filterCost.f
  have key : ∀ (d i : Nat), i + d = l.length → Wp (fun k => spec_filterCost.l0 k l (csum l i) i) (fun r => r = csum l l.length) := by
    intro d
    induction d with
    | zero =>
      intro i hd
      refine Wp.step (fun k => spec_filterCost.l0.eq_2 ..) (Wp.neg (by omega) (Wp.ret ?_))
      rw [show i = l.length by omega]
    | succ d ih =>
      intro i hd
      have hr := getD_B h i
      have hc := csum_B h i
      have hm : 0 ≤ mn (l.getD i 0) (256 - l.getD i 0) ∧ mn (l.getD i 0) (256 - l.getD i 0) ≤ 256 := by unfold mn; split <;> omega
      refine Wp.step (fun k => spec_filterCost.l0.eq_2 ..) (Wp.pos (by omega) (Wp.pos (by omega) ?_))
      rw [bl_rd, w64 (x := 256 - l.getD i 0) (by omega) (by omega), w64 (x := csum l i + mn (l.getD i 0) (256 - l.getD i 0)) (by omega) (by omega), w64 (x := (i : Int) + 1) (by omega) (by omega)]
      exact ih (i + 1) (by omega)
  exact key l.length 0 (by omega)
/-- The cost of a row by a filter; the better of two filters; the best one. -/
def cst (row prev : List Int) (p : Nat) (f : Int) : Int := csum (fR f row prev p) row.length
def bet (row prev : List Int) (p : Nat) (b f : Int) : Int := if cst row prev p f < cst row prev p b then f else b
def bst (row prev : List Int) (p : Nat) : Int := bet row prev p (bet row prev p (bet row prev p (bet row prev p 0 1) 2) 3) 4
theorem bet_B {row prev : List Int} {p : Nat} {b f : Int} (hb : 0 ≤ b ∧ b ≤ 4) (hf : 0 ≤ f ∧ f ≤ 4) : 0 ≤ bet row prev p b f ∧ bet row prev p b f ≤ 4 := by unfold bet; split <;> assumption
theorem bst_B (row prev : List Int) (p : Nat) : 0 ≤ bst row prev p ∧ bst row prev p ≤ 4 := by
  unfold bst
  exact bet_B (bet_B (bet_B (bet_B (by omega) (by omega)) (by omega)) (by omega)) (by omega)
theorem w_sBest (row prev : List Int) (p : Nat) (hp1 : 1 ≤ p) (hl : row.length ≤ prev.length) (hl2 : prev.length ≤ 1000000) (hp2 : p ≤ 1000000) (hrb : ∀ x ∈ row, 0 ≤ x ∧ x ≤ 255) (hpb : ∀ x ∈ prev, 0 ≤ x ∧ x ≤ 255) :
    Wp (fun k => spec_bestFilter.f k row prev p) (fun r => r = bst row prev p) := by
  unfold spec_bestFilter.f
  have step : ∀ (b i : Int) (P : Int → Prop), i ≤ 4 → 0 ≤ i → Wp (fun k => spec_bestFilter.l0 k row prev p (bet row prev p b i) (i + 1)) P → Wp (fun k => spec_bestFilter.l0 k row prev p b i) P := by
    intro b i P hi hi0 h
    refine Wp.step (fun k => spec_bestFilter.l0.eq_2 ..) (Wp.pos hi ?_)
    refine Wp.call (w_sFilterRow i row prev p hp1 hl hl2 hp2 hrb hpb) ?_
    rintro _ rfl
    refine Wp.call (w_cost _ (fR_B _ _ _ _) (by rw [fR_len]; omega)) ?_
    rintro _ rfl
    refine Wp.call (w_sFilterRow b row prev p hp1 hl hl2 hp2 hrb hpb) ?_
    rintro _ rfl
    refine Wp.call (w_cost _ (fR_B _ _ _ _) (by rw [fR_len]; omega)) ?_
    rintro _ rfl
    rw [w64 (x := i + 1) (by omega) (by omega)]
    unfold bet cst at h
    rw [fR_len, fR_len]
    refine Wp.ite (fun h1 => ?_) (fun h1 => ?_)
    · rw [if_pos h1] at h; exact h
    · rw [if_neg h1] at h; exact h
  refine step 0 1 _ (by omega) (by omega) (step _ 2 _ (by omega) (by omega) (step _ 3 _ (by omega) (by omega) (step _ 4 _ (by omega) (by omega) ?_)))
  exact Wp.step (fun k => spec_bestFilter.l0.eq_2 ..) (Wp.neg (by omega) (Wp.ret rfl))
theorem w_iBest (row prev : List Int) (p : Nat) (hp1 : 1 ≤ p) (hl : row.length ≤ prev.length) (hl2 : prev.length ≤ 1000000) (hp2 : p ≤ 1000000) (hrb : ∀ x ∈ row, 0 ≤ x ∧ x ≤ 255) (hpb : ∀ x ∈ prev, 0 ≤ x ∧ x ≤ 255) :
    Wp (fun k => impl_bestFilter.f k row prev p) (fun r => r = bst row prev p) := by
  unfold impl_bestFilter.f
  have hcB : ∀ f, 0 ≤ cst row prev p f := fun f => (csum_B (fR_B f row prev p) _).1
  have inner : ∀ (b c f : Int) (P : Int → Prop), f ≤ 4 → 0 ≤ f → Wp (fun k => impl_bestFilter.l0 k row prev p (if c < 0 ∨ cst row prev p f < c then f else b) (if c < 0 ∨ cst row prev p f < c then cst row prev p f else c) (f + 1)) P → Wp (fun k => impl_bestFilter.l0 k row prev p b c f) P := by
    intro b c f P hf hf0 h
    refine Wp.step (fun k => impl_bestFilter.l0.eq_2 ..) (Wp.pos hf ?_)
    refine Wp.call (w_iFilterRow f row prev p hp1 hl hl2 hp2 hrb hpb) ?_
    rintro _ rfl
    have hB := fR_B f row prev p
    have hlen := fR_len f row prev p
    unfold cst at h
    rw [← hlen] at h
    generalize fR f row prev p = t at h hB hlen ⊢
    have key : ∀ (d i : Nat), i + d = t.length → Wp (fun k => impl_bestFilter.l1 k row prev p b c f (csum t i) t t.length i) P := by
      intro d
      induction d with
      | zero =>
        intro i hd
        rw [show i = t.length by omega]
        refine Wp.step (fun k => impl_bestFilter.l1.eq_2 ..) (Wp.neg (by omega) ?_)
        rw [w64 (x := f + 1) (by omega) (by omega)]
        refine Wp.ite (fun h1 => ?_) (fun h1 => Wp.ite (fun h2 => ?_) (fun h2 => ?_))
        · rw [if_pos (.inl h1), if_pos (.inl h1)] at h; exact h
        · rw [if_pos (.inr h2), if_pos (.inr h2)] at h; exact h
        · rw [if_neg (by rintro (h | h) <;> contradiction), if_neg (by rintro (h | h) <;> contradiction)] at h; exact h
      | succ d ih =>
        intro i hd
        have hr := getD_B hB i
        have hc := csum_B hB i
        have hm : 0 ≤ mn (t.getD i 0) (256 - t.getD i 0) ∧ mn (t.getD i 0) (256 - t.getD i 0) ≤ 256 := by unfold mn; split <;> omega
        refine Wp.step (fun k => impl_bestFilter.l1.eq_2 ..) (Wp.pos (by omega) (Wp.pos (by omega) (Wp.pos (by omega) ?_)))
        rw [bl_rd, w64 (x := 256 - t.getD i 0) (by omega) (by omega), w64 (x := csum t i + mn (t.getD i 0) (256 - t.getD i 0)) (by omega) (by omega), w64 (x := (i : Int) + 1) (by omega) (by omega)]
        exact ih (i + 1) (by omega)
    exact key t.length 0 (by omega)
  have next : ∀ (b f : Int) (P : Int → Prop), f ≤ 4 → 0 ≤ f → Wp (fun k => impl_bestFilter.l0 k row prev p (bet row prev p b f) (cst row prev p (bet row prev p b f)) (f + 1)) P → Wp (fun k => impl_bestFilter.l0 k row prev p b (cst row prev p b) f) P := by
    intro b f P hf hf0 h
    refine inner b _ f P hf hf0 ?_
    have h0 := hcB b
    unfold bet at h
    by_cases h1 : cst row prev p f < cst row prev p b
    · rw [if_pos h1] at h
      rw [if_pos (.inr h1), if_pos (.inr h1)]
      exact h
    · rw [if_neg h1] at h
      rw [if_neg (by omega), if_neg (by omega)]
      exact h
  refine inner 0 (-1) 0 _ (by omega) (by omega) ?_
  rw [if_pos (.inl (by omega)), if_pos (.inl (by omega))]
  refine next 0 1 _ (by omega) (by omega) (next _ 2 _ (by omega) (by omega) (next _ 3 _ (by omega) (by omega) (next _ 4 _ (by omega) (by omega) ?_)))
  exact Wp.step (fun k => impl_bestFilter.l0.eq_2 ..) (Wp.neg (by omega) (Wp.ret rfl))
end Go.Proofs.Ytchahbdmdcllaaa.P

/- Unfiltered rows: both ways answer the same, and a row that is filtered and unfiltered stays as it is. Plain lemmas under bounds. -/
namespace Go.Proofs.Ytchahbdmdcllaaa.P
open Go.RowKit Go.Proofs.YtchahbdmdcllaaaW.PrintWords Go.Proofs.YtchahbdmdcllaaaW.PrintLast Go.Proofs.YtchahbdmdcllaaaW.PrintMore Go.Proofs.Ytchahbdmdcllaaa.Wp
set_option linter.unusedVariables false
set_option linter.unusedSimpArgs false

/-- An unfiltered row, up to its n-th number. -/
def uR (f : Int) (row prev : List Int) (p : Nat) : Nat → List Int
  | 0 => []
  | n + 1 => uR f row prev p n ++ [(row.getD n 0 + gsv f (uR f row prev p n) prev p n) % 256]
theorem uR_len (f : Int) (row prev : List Int) (p n : Nat) : (uR f row prev p n).length = n := by
  induction n with
  | zero => rfl
  | succ n ih => rw [uR, List.length_append, ih]; rfl
theorem uR_B (f : Int) (row prev : List Int) (p n : Nat) : ∀ x ∈ uR f row prev p n, 0 ≤ x ∧ x ≤ 255 := by
  induction n with
  | zero => intro x hx; simp [uR] at hx
  | succ n ih =>
    intro x hx
    rw [uR, List.mem_append, List.mem_singleton] at hx
    rcases hx with hx | rfl
    · exact ih x hx
    · omega
theorem uR_fR (f : Int) (row prev : List Int) (p n : Nat) (hp1 : 1 ≤ p) (hn : n ≤ row.length) (hrb : ∀ x ∈ row, 0 ≤ x ∧ x ≤ 255) (hpb : ∀ x ∈ prev, 0 ≤ x ∧ x ≤ 255) : uR f (fR f row prev p) prev p n = row.take n := by
  induction n with
  | zero => rfl
  | succ n ih =>
    rw [uR, ih (by omega), List.take_add_one]
    congr 1
    have hg : gsv f (row.take n) prev p n = gsv f row prev p n := by
      unfold gsv
      congr 1
      split
      · rw [List.getD_eq_getElem?_getD, List.getElem?_take, if_pos (by omega), ← List.getD_eq_getElem?_getD]
      · rfl
    have hB := gsv_B (f := f) (p := p) (i := n) hrb hpb
    have hr := getD_B hrb n
    rw [hg]
    unfold fR
    rw [bl_map_range _ _ _ (by omega), List.getElem?_eq_getElem (by omega)]
    have e : row.getD n 0 = row[n] := by rw [List.getD_eq_getElem?_getD, List.getElem?_eq_getElem (by omega)]; rfl
    rw [e] at hr ⊢
    simp only [Option.toList_some, List.cons.injEq, and_true]
    omega
theorem w_iUnRow (f : Int) (row prev : List Int) (p : Nat) (hp1 : 1 ≤ p) (hl : row.length ≤ prev.length) (hl2 : prev.length ≤ 1000000) (hp2 : p ≤ 1000000) (hrb : ∀ x ∈ row, 0 ≤ x ∧ x ≤ 255) (hpb : ∀ x ∈ prev, 0 ≤ x ∧ x ≤ 255) :
    Wp (fun k => impl_unfilterRow.f k f row prev p) (fun r => r = uR f row prev p row.length) := by
  unfold impl_unfilterRow.f
  have key : ∀ (d i : Nat), i + d = row.length → Wp (fun k => impl_unfilterRow.l0 k f prev p (uR f row prev p i) row row.length i) (fun r => r = uR f row prev p row.length) := by
    intro d
    induction d with
    | zero =>
      intro i hd
      refine Wp.step (fun k => impl_unfilterRow.l0.eq_2 ..) (Wp.neg (by omega) (Wp.ret ?_))
      rw [show i = row.length by omega]
    | succ d ih =>
      intro i hd
      have hlen := uR_len f row prev p i
      have hub := uR_B f row prev p i
      refine Wp.step (fun k => impl_unfilterRow.l0.eq_2 ..) (Wp.pos (by omega) (Wp.pos (by omega) (Wp.pos (by omega) ?_)))
      refine Wp.call (w_predicted f _ prev p i (by omega) (fun h => by omega) hl2 hp2 hub hpb) ?_
      rintro _ rfl
      have hg := gsv_B (f := f) (p := p) (i := i) hub hpb
      have hr := getD_B hrb i
      refine Wp.pos (by omega) ?_
      rw [bl_rd, w64 (x := row.getD i 0 + gsv f (uR f row prev p i) prev p i) (by omega) (by omega), Int.tmod_eq_emod_of_nonneg (by omega), w64 (x := (i : Int) + 1) (by omega) (by omega)]
      exact ih (i + 1) (by omega)
  exact key row.length 0 (by omega)
theorem w_sUnRow (f : Int) (row prev : List Int) (p : Nat) (hp1 : 1 ≤ p) (hl : row.length ≤ prev.length) (hl2 : prev.length ≤ 1000000) (hp2 : p ≤ 1000000) (hrb : ∀ x ∈ row, 0 ≤ x ∧ x ≤ 255) (hpb : ∀ x ∈ prev, 0 ≤ x ∧ x ≤ 255) :
    Wp (fun k => spec_unfilterRow.f k f row prev p) (fun r => r = uR f row prev p row.length) := by
  unfold spec_unfilterRow.f
  refine Wp.pos (by omega) (Wp.pos (by omega) ?_)
  have key : ∀ (d i : Nat) (x : List Int), i + d = row.length → x.length = row.length → x.take i = uR f row prev p i → (∀ v ∈ x, 0 ≤ v ∧ v ≤ 255) → Wp (fun k => spec_unfilterRow.l0 k f row prev p x i) (fun r => r = uR f row prev p row.length) := by
    intro d
    induction d with
    | zero =>
      intro i x hd hx h hb
      refine Wp.step (fun k => spec_unfilterRow.l0.eq_2 ..) (Wp.neg (by omega) (Wp.ret ?_))
      rw [← show i = row.length by omega, ← h, List.take_of_length_le (by omega)]
    | succ d ih =>
      intro i x hd hx h hb
      refine Wp.step (fun k => spec_unfilterRow.l0.eq_2 ..) (Wp.pos (by omega) (Wp.pos (by omega) ?_))
      refine Wp.call (w_guess f x prev p i (by omega) (fun h => by omega) hl2 hp2 hb hpb) ?_
      rintro _ rfl
      have hg := gsv_B (f := f) (p := p) (i := i) hb hpb
      have hr := getD_B hrb i
      have he : gsv f x prev p i = gsv f (uR f row prev p i) prev p i := by
        rw [← h]
        unfold gsv
        congr 1
        split
        · rw [List.getD_eq_getElem?_getD (l := x.take i), List.getElem?_take, if_pos (by omega), ← List.getD_eq_getElem?_getD]
        · rfl
      refine Wp.pos (by omega) ?_
      rw [bl_rd, w64 (x := row.getD i 0 + gsv f x prev p i) (by omega) (by omega), Int.tmod_eq_emod_of_nonneg (by omega), w64 (x := (i : Int) + 1) (by omega) (by omega), Int.toNat_natCast]
      refine ih (i + 1) _ (by omega) (by rw [List.length_set]; exact hx) ?_ (fun v hv => ?_)
      · rw [uR, ← he, ← h, List.take_add_one, List.take_set_of_le (Nat.le_refl i)]
        congr 1
        simp [hx, show i < row.length by omega]
      · rcases List.mem_or_eq_of_mem_set hv with h1 | h1
        · exact hb v h1
        · rw [h1]; omega
  exact key row.length 0 _ (by omega) (by simp) (by simp [uR]) (fun v hv => by rw [List.eq_of_mem_replicate hv]; omega)
end Go.Proofs.Ytchahbdmdcllaaa.P

/- Copies of lists. Plain lemma under a bound. -/
namespace Go.Proofs.Ytchahbdmdcllaaa.P
open Go.RowKit Go.Proofs.YtchahbdmdcllaaaW.PrintWords Go.Proofs.YtchahbdmdcllaaaW.PrintLast Go.Proofs.YtchahbdmdcllaaaW.PrintMore Go.Proofs.Ytchahbdmdcllaaa.Wp
set_option linter.unusedVariables false
set_option linter.unusedSimpArgs false

theorem w_copyInts (l : List Int) (hl : l.length ≤ 1000000000) : Wp (fun _ => spec_copyInts.f l) (fun r => r = l) := by
  unfold spec_copyInts.f
  exact Wp.pos (by simp; omega) (Wp.ret (by simp))
end Go.Proofs.Ytchahbdmdcllaaa.P

/- Filtered images: both ways answer the same. Plain lemmas under bounds. -/
namespace Go.Proofs.Ytchahbdmdcllaaa.P
open Go.RowKit Go.Proofs.YtchahbdmdcllaaaW.PrintWords Go.Proofs.YtchahbdmdcllaaaW.PrintLast Go.Proofs.YtchahbdmdcllaaaW.PrintMore Go.Proofs.Ytchahbdmdcllaaa.Wp
set_option linter.unusedVariables false
set_option linter.unusedSimpArgs false

/-- The i-th row of w numbers. -/
def rowOf (l : List Int) (w i : Nat) : List Int := (l.take ((i + 1) * w)).drop (i * w)
theorem rowOf_len {l : List Int} {w i m : Nat} (h : l.length = m * w) (hi : i < m) : (rowOf l w i).length = w := by
  have : (i + 1) * w ≤ m * w := Nat.mul_le_mul_right w hi
  rw [Nat.succ_mul] at this
  unfold rowOf
  rw [List.length_drop, List.length_take, Nat.succ_mul]
  omega
theorem rowOf_B {l : List Int} (h : ∀ x ∈ l, 0 ≤ x ∧ x ≤ 255) (w i : Nat) : ∀ x ∈ rowOf l w i, 0 ≤ x ∧ x ≤ 255 := fun x hx => h x (List.mem_of_mem_take (List.mem_of_mem_drop hx))
/-- The filtered rows, and the row before. -/
def fSt (l : List Int) (w p : Nat) : Nat → List Int × List Int
  | 0 => ([], List.replicate w 0)
  | i + 1 => ((fSt l w p i).1 ++ [bst (rowOf l w i) (fSt l w p i).2 p] ++ fR (bst (rowOf l w i) (fSt l w p i).2 p) (rowOf l w i) (fSt l w p i).2 p, rowOf l w i)
theorem fSt_prev {l : List Int} {w p m : Nat} (hl : l.length = m * w) (hb : ∀ x ∈ l, 0 ≤ x ∧ x ≤ 255) (i : Nat) (hi : i ≤ m) : (fSt l w p i).2.length = w ∧ ∀ x ∈ (fSt l w p i).2, 0 ≤ x ∧ x ≤ 255 := by
  cases i with
  | zero => exact ⟨by simp [fSt], fun x hx => by rw [List.eq_of_mem_replicate hx]; omega⟩
  | succ i => exact ⟨rowOf_len hl hi, rowOf_B hb w i⟩
theorem fSt_len {l : List Int} {w p m : Nat} (hl : l.length = m * w) (i : Nat) (hi : i ≤ m) : (fSt l w p i).1.length = i * (w + 1) := by
  induction i with
  | zero => simp [fSt]
  | succ i ih =>
    have h0 := rowOf_len hl (i := i) (by omega)
    rw [fSt, List.length_append, List.length_append, ih (by omega), fR_len, h0, Nat.succ_mul]
    simp only [List.length_singleton]
    omega
theorem fSt_B {l : List Int} {w p : Nat} (i : Nat) : ∀ x ∈ (fSt l w p i).1, 0 ≤ x ∧ x ≤ 255 := by
  induction i with
  | zero => intro x hx; simp [fSt] at hx
  | succ i ih =>
    intro x hx
    rw [fSt, List.mem_append, List.mem_append, List.mem_singleton] at hx
    rcases hx with (hx | rfl) | hx
    · exact ih x hx
    · have := bst_B (rowOf l w i) (fSt l w p i).2 p
      omega
    · exact fR_B _ _ _ _ x hx
/-- A filtered image. -/
def fltI (a b c : Int) (l : List Int) : List Int := if imgB a b c l = true then (fSt l (a * c).toNat c.toNat b.toNat).1 else []
theorem img_parts {a b c : Int} {l : List Int} (h : imgB a b c l = true) : ∃ n m p : Nat, a = n ∧ b = m ∧ c = p ∧ (1 ≤ n ∧ n ≤ 16) ∧ (1 ≤ m ∧ m ≤ 16) ∧ (1 ≤ p ∧ p ≤ 4) ∧ l.length = m * (n * p) ∧ (1 ≤ n * p ∧ n * p ≤ 64) ∧ m * (n * p) ≤ 1024 ∧ ∀ x ∈ l, 0 ≤ x ∧ x ≤ 255 := by
  obtain ⟨h0, h1, h2, h3, h4⟩ := imgB_ok.1 h
  obtain ⟨n, rfl⟩ := Int.eq_ofNat_of_zero_le (show 0 ≤ a by omega)
  obtain ⟨m, rfl⟩ := Int.eq_ofNat_of_zero_le (show 0 ≤ b by omega)
  obtain ⟨p, rfl⟩ := Int.eq_ofNat_of_zero_le (show 0 ≤ c by omega)
  have b1 : n * p ≤ 16 * 4 := Nat.mul_le_mul (by omega) (by omega)
  have b2 : 1 * 1 ≤ n * p := Nat.mul_le_mul (by omega) (by omega)
  have b3 : m * (n * p) ≤ 16 * 64 := Nat.mul_le_mul (by omega) (by omega)
  refine ⟨n, m, p, rfl, rfl, rfl, by omega, by omega, by omega, ?_, by omega, by omega, h4⟩
  rw [← Int.natCast_mul, ← Int.natCast_mul, Nat.mul_comm n m, Nat.mul_assoc] at h3
  omega
theorem w_rowData (n m p : Nat) (l : List Int) (i : Nat) (hi : i < m) (hm16 : m ≤ 16) (hl : l.length = m * (n * p)) (hw : n * p ≤ 64) (hm : m * (n * p) ≤ 1024) : Wp (fun _ => spec_rowData.f n m p l i) (fun r => r = rowOf l (n * p) i) := by
  unfold spec_rowData.f rowOf
  have b1 : (i + 1) * (n * p) ≤ m * (n * p) := Nat.mul_le_mul_right _ hi
  have b2 : (i + 1) * (n * p) = i * (n * p) + n * p := Nat.succ_mul ..
  have hx := hm
  generalize hA : n * p = w at *
  have e1 : (n : Int) * p = (w : Int) := by rw [← Int.natCast_mul, hA]
  have e2 : (i : Int) * w = ((i * w : Nat) : Int) := by rw [Int.natCast_mul]
  have e3 : ((i : Int) + 1) * w = (((i + 1) * w : Nat) : Int) := by rw [Int.natCast_mul]; rfl
  rw [e1, w64 (x := (w : Int)) (by omega) (by omega), w64 (x := (i : Int) + 1) (by omega) (by omega), e2, e3, w64 (x := ((i * w : Nat) : Int)) (by omega) (by omega), w64 (x := (((i + 1) * w : Nat) : Int)) (by omega) (by omega)]
  refine Wp.pos (by omega) (Wp.pos (by omega) (Wp.pos (by omega) ?_))
  simp only [Int.toNat_natCast]
  refine Wp.call (w_copyInts _ (by rw [List.length_drop, List.length_take]; omega)) ?_
  rintro _ rfl
  exact Wp.ret rfl
theorem w_sFilterI (a b c : Int) (l : List Int) (h : imgB a b c l = true) : Wp (fun k => spec_filterImage.f k a b c l) (fun r => r = (fSt l (a * c).toNat c.toNat b.toNat).1) := by
  obtain ⟨n, m, p, rfl, rfl, rfl, hn, hm, hp, hl, hw, hs, hB⟩ := img_parts h
  unfold spec_filterImage.f
  have e1 : (n : Int) * p = ((n * p : Nat) : Int) := by rw [Int.natCast_mul]
  rw [e1, w64 (x := ((n * p : Nat) : Int)) (by omega) (by omega)]
  refine Wp.pos (by omega) (Wp.pos (by omega) ?_)
  simp only [Int.toNat_natCast]
  have key : ∀ (d i : Nat), i + d = m → Wp (fun k => spec_filterImage.l0 k (fSt l (n * p) p i).1 (fSt l (n * p) p i).2 i n m p l) (fun r => r = (fSt l (n * p) p m).1) := by
    intro d
    induction d with
    | zero =>
      intro i hd
      refine Wp.step (fun k => spec_filterImage.l0.eq_2 ..) (Wp.neg (by omega) (Wp.ret ?_))
      rw [show i = m by omega]
    | succ d ih =>
      intro i hd
      have hpv := fSt_prev (p := p) hl hB i (by omega)
      have hfl := fSt_len (p := p) hl i (by omega)
      have hrl := rowOf_len hl (i := i) (by omega)
      have hrb := rowOf_B hB (n * p) i
      have hb1 : i * (n * p + 1) ≤ 16 * 65 := Nat.mul_le_mul (by omega) (by omega)
      refine Wp.step (fun k => spec_filterImage.l0.eq_2 ..) (Wp.pos (by omega) ?_)
      refine Wp.call (w_rowData n m p l i (by omega) hm.2 hl (by omega) hs) ?_
      rintro _ rfl
      refine Wp.call (w_sBest _ _ p hp.1 (by omega) (by omega) (by omega) hrb hpv.2) ?_
      rintro _ rfl
      refine Wp.pos (by omega) ?_
      refine Wp.call (Wp.ret (P := fun r => r = (fSt l (n * p) p i).1 ++ [bst (rowOf l (n * p) i) (fSt l (n * p) p i).2 p]) rfl) ?_
      rintro _ rfl
      refine Wp.call (w_sFilterRow _ _ _ p hp.1 (by omega) (by omega) (by omega) hrb hpv.2) ?_
      rintro _ rfl
      refine Wp.pos (by rw [List.length_append, fR_len]; simp only [List.length_singleton]; omega) ?_
      rw [w64 (x := (i : Int) + 1) (by omega) (by omega)]
      exact ih (i + 1) (by omega)
  exact key m 0 (by omega)
theorem w_iFilterI (a b c : Int) (l : List Int) (h : imgB a b c l = true) : Wp (fun k => impl_filterImage.f k a b c l) (fun r => r = (fSt l (a * c).toNat c.toNat b.toNat).1) := by
  obtain ⟨n, m, p, rfl, rfl, rfl, hn, hm, hp, hl, hw, hs, hB⟩ := img_parts h
  unfold impl_filterImage.f
  have e1 : (n : Int) * p = ((n * p : Nat) : Int) := by rw [Int.natCast_mul]
  rw [e1, w64 (x := ((n * p : Nat) : Int)) (by omega) (by omega)]
  refine Wp.pos (by omega) (Wp.pos (by omega) ?_)
  simp only [Int.toNat_natCast]
  have key : ∀ (d i : Nat), i + d = m → Wp (fun k => impl_filterImage.l0 k (fSt l (n * p) p i).1 ((n * p : Nat) : Int) (fSt l (n * p) p i).2 m i n m p l) (fun r => r = (fSt l (n * p) p m).1) := by
    intro d
    induction d with
    | zero =>
      intro i hd
      refine Wp.step (fun k => impl_filterImage.l0.eq_2 ..) (Wp.neg (by omega) (Wp.ret ?_))
      rw [show i = m by omega]
    | succ d ih =>
      intro i hd
      have hpv := fSt_prev (p := p) hl hB i (by omega)
      have hfl := fSt_len (p := p) hl i (by omega)
      have hrl := rowOf_len hl (i := i) (by omega)
      have hrb := rowOf_B hB (n * p) i
      have hb1 : i * (n * p + 1) ≤ 16 * 65 := Nat.mul_le_mul (by omega) (by omega)
      have b1 : (i + 1) * (n * p) ≤ m * (n * p) := Nat.mul_le_mul_right _ (by omega)
      have b2 : (i + 1) * (n * p) = i * (n * p) + n * p := Nat.succ_mul ..
      have e2 : (i : Int) * ((n * p : Nat) : Int) = ((i * (n * p) : Nat) : Int) := by rw [Int.natCast_mul i (n * p)]
      have e3 : ((i : Int) + 1) * ((n * p : Nat) : Int) = (((i + 1) * (n * p) : Nat) : Int) := by rw [Int.natCast_mul (i + 1) (n * p)]; rfl
      refine Wp.step (fun k => impl_filterImage.l0.eq_2 ..) (Wp.pos (by omega) ?_)
      rw [w64 (x := (i : Int) + 1) (by omega) (by omega), e2, e3, w64 (x := ((i * (n * p) : Nat) : Int)) (by omega) (by omega), w64 (x := (((i + 1) * (n * p) : Nat) : Int)) (by omega) (by omega)]
      refine Wp.pos (by omega) (Wp.pos (by omega) (Wp.pos (by omega) ?_))
      simp only [Int.toNat_natCast]
      refine Wp.call (Wp.ret (P := fun r => r = rowOf l (n * p) i) rfl) ?_
      rintro _ rfl
      refine Wp.call (w_iBest _ _ p hp.1 (by omega) (by omega) (by omega) hrb hpv.2) ?_
      rintro _ rfl
      refine Wp.pos (by omega) ?_
      refine Wp.call (Wp.ret (P := fun r => r = (fSt l (n * p) p i).1 ++ [bst (rowOf l (n * p) i) (fSt l (n * p) p i).2 p]) rfl) ?_
      rintro _ rfl
      refine Wp.call (w_iFilterRow _ _ _ p hp.1 (by omega) (by omega) (by omega) hrb hpv.2) ?_
      rintro _ rfl
      refine Wp.pos (by rw [List.length_append, fR_len]; simp only [List.length_singleton]; omega) ?_
      exact ih (i + 1) (by omega)
  exact key m 0 (by omega)
theorem fltI_len (a b c : Int) (l : List Int) : (fltI a b c l).length ≤ 2000 := by
  unfold fltI
  split
  · rename_i h
    obtain ⟨n, m, p, rfl, rfl, rfl, hn, hm, hp, hl, hw, hs, hB⟩ := img_parts h
    have e1 : ((n : Int) * p).toNat = n * p := by rw [← Int.natCast_mul, Int.toNat_natCast]
    rw [e1, Int.toNat_natCast, Int.toNat_natCast, fSt_len hl m (Nat.le_refl m)]
    have hb1 : m * (n * p + 1) ≤ 16 * 65 := Nat.mul_le_mul (by omega) (by omega)
    omega
  · simp
theorem w_sFilter (a b c : Int) (l : List Int) (hl : l.length ≤ 1000000000) : Wp (fun k => spec_FilterImage.f k a b c l) (fun r => r = fltI a b c l) := by
  unfold spec_FilterImage.f fltI
  refine Wp.call (w_sImage a b c l hl) ?_
  rintro _ rfl
  refine Wp.ite (fun h => ?_) (fun h => Wp.ret (by rw [if_neg h]))
  rw [if_pos h]
  refine Wp.call (w_sFilterI a b c l h) ?_
  rintro _ rfl
  exact Wp.ret rfl
theorem w_iFilter (a b c : Int) (l : List Int) : Wp (fun k => impl_FilterImage.f k a b c l) (fun r => r = fltI a b c l) := by
  unfold impl_FilterImage.f fltI
  refine Wp.call (w_iImage a b c l) ?_
  rintro _ rfl
  refine Wp.ite (fun h => ?_) (fun h => Wp.ret (by rw [if_neg h]))
  rw [if_pos h]
  refine Wp.call (w_iFilterI a b c l h) ?_
  rintro _ rfl
  exact Wp.ret rfl
end Go.Proofs.Ytchahbdmdcllaaa.P

/- The shape of an image. Plain lemma. -/
namespace Go.Proofs.Ytchahbdmdcllaaa.P
open Go.RowKit Go.Proofs.YtchahbdmdcllaaaW.PrintWords Go.Proofs.YtchahbdmdcllaaaW.PrintLast Go.Proofs.YtchahbdmdcllaaaW.PrintMore Go.Proofs.Ytchahbdmdcllaaa.Wp
set_option linter.unusedVariables false
set_option linter.unusedSimpArgs false

theorem w_validShape (a b c : Int) : Wp (fun _ => spec_validShape.f a b c) (fun r => r = decide ((1 ≤ a ∧ a ≤ 16) ∧ (1 ≤ b ∧ b ≤ 16) ∧ (1 ≤ c ∧ c ≤ 4))) := by
  unfold spec_validShape.f
  refine Wp.call (w_inRange0 _ _ _) ?_
  rintro _ rfl
  refine Wp.ite (fun h => ?_) (fun h => Wp.ret ?_)
  · refine Wp.call (w_inRange0 _ _ _) ?_
    rintro _ rfl
    refine Wp.ite (fun h2 => ?_) (fun h2 => Wp.ret ?_)
    · refine Wp.call (w_inRange0 _ _ _) ?_
      rintro _ rfl
      refine Wp.ret ?_
      rw [decide_eq_true_eq] at h h2
      rw [Bool.eq_iff_iff, decide_eq_true_eq, decide_eq_true_eq]
      exact ⟨fun h3 => ⟨h, h2, h3⟩, fun h3 => h3.2.2⟩
    · rw [decide_eq_true_eq] at h2
      exact (decide_eq_false fun h3 => h2 h3.2.1).symm
  · rw [decide_eq_true_eq] at h
    exact (decide_eq_false fun h3 => h h3.1).symm
end Go.Proofs.Ytchahbdmdcllaaa.P

/- Unfiltered images: both ways answer the same; an image that is filtered and unfiltered stays as it is. Plain lemmas under bounds. -/
namespace Go.Proofs.Ytchahbdmdcllaaa.P
open Go.RowKit Go.Proofs.YtchahbdmdcllaaaW.PrintWords Go.Proofs.YtchahbdmdcllaaaW.PrintLast Go.Proofs.YtchahbdmdcllaaaW.PrintMore Go.Proofs.Ytchahbdmdcllaaa.Wp
set_option linter.unusedVariables false
set_option linter.unusedSimpArgs false

/-- The rows that are unfiltered, one after the other; nothing if a row names no filter. -/
def uGo (l : List Int) (w p : Nat) : Nat → Nat → List Int → List Int → Option (List Int)
  | 0, i, o, pr => some o
  | d + 1, i, o, pr => if l.getD (i * (w + 1)) 0 > 4 then none else uGo l w p d (i + 1) (o ++ uR (l.getD (i * (w + 1)) 0) ((l.take ((i + 1) * (w + 1))).drop (i * (w + 1) + 1)) pr p w) (uR (l.getD (i * (w + 1)) 0) ((l.take ((i + 1) * (w + 1))).drop (i * (w + 1) + 1)) pr p w)
def unfR (a b c : Int) : Option (List Int) → Int × Int × Int × List Int × Bool
  | some o => (a, b, c, o, true)
  | none => (0, 0, 0, [], false)
/-- An unfiltered image. -/
def unfI (a b c : Int) (l : List Int) : Int × Int × Int × List Int × Bool :=
  if ((1 ≤ a ∧ a ≤ 16) ∧ (1 ≤ b ∧ b ≤ 16) ∧ (1 ≤ c ∧ c ≤ 4)) ∧ (l.length : Int) = b * (a * c + 1) ∧ allB l = true then unfR a b c (uGo l (a * c).toNat c.toNat b.toNat 0 [] (List.replicate (a * c).toNat 0)) else (0, 0, 0, [], false)
theorem unf_parts {a b c : Int} {l : List Int} (h : ((1 ≤ a ∧ a ≤ 16) ∧ (1 ≤ b ∧ b ≤ 16) ∧ (1 ≤ c ∧ c ≤ 4)) ∧ (l.length : Int) = b * (a * c + 1) ∧ allB l = true) :
    ∃ n m p : Nat, a = n ∧ b = m ∧ c = p ∧ (1 ≤ n ∧ n ≤ 16) ∧ (1 ≤ m ∧ m ≤ 16) ∧ (1 ≤ p ∧ p ≤ 4) ∧ l.length = m * (n * p + 1) ∧ (1 ≤ n * p ∧ n * p ≤ 64) ∧ m * (n * p + 1) ≤ 1040 ∧ (∀ x ∈ l, 0 ≤ x ∧ x ≤ 255) ∧ m * (n * p) ≤ 1024 := by
  obtain ⟨⟨h0, h1, h2⟩, h3, h4⟩ := h
  obtain ⟨n, rfl⟩ := Int.eq_ofNat_of_zero_le (show 0 ≤ a by omega)
  obtain ⟨m, rfl⟩ := Int.eq_ofNat_of_zero_le (show 0 ≤ b by omega)
  obtain ⟨p, rfl⟩ := Int.eq_ofNat_of_zero_le (show 0 ≤ c by omega)
  have b1 : n * p ≤ 16 * 4 := Nat.mul_le_mul (by omega) (by omega)
  have b2 : 1 * 1 ≤ n * p := Nat.mul_le_mul (by omega) (by omega)
  have b3 : m * (n * p) ≤ 16 * 64 := Nat.mul_le_mul (by omega) (by omega)
  have b4 : m * (n * p + 1) ≤ 16 * 65 := Nat.mul_le_mul (by omega) (by omega)
  refine ⟨n, m, p, rfl, rfl, rfl, by omega, by omega, by omega, ?_, by omega, by omega, allB_mem h4, by omega⟩
  have e : (m : Int) * ((n : Int) * p + 1) = ((m * (n * p + 1) : Nat) : Int) := by rw [Int.natCast_mul m, Int.natCast_add, Int.natCast_mul]; rfl
  rw [e] at h3
  omega
theorem cut_len {l : List Int} {w i m : Nat} (hl : l.length = m * (w + 1)) (hi : i < m) : ((l.take ((i + 1) * (w + 1))).drop (i * (w + 1) + 1)).length = w ∧ (i + 1) * (w + 1) = i * (w + 1) + (w + 1) ∧ (i + 1) * (w + 1) ≤ l.length := by
  have h1 : (i + 1) * (w + 1) ≤ m * (w + 1) := Nat.mul_le_mul_right _ hi
  have h2 : (i + 1) * (w + 1) = i * (w + 1) + (w + 1) := Nat.succ_mul ..
  refine ⟨?_, h2, by omega⟩
  rw [List.length_drop, List.length_take]
  omega
theorem take_set_succ (x : List Int) (t : Nat) (v : Int) (h : t < x.length) : (x.set t v).take (t + 1) = x.take t ++ [v] := by
  rw [List.take_add_one, List.take_set_of_le (Nat.le_refl t)]
  congr 1
  simp [h]
theorem take_succ_getD (x : List Int) (t : Nat) (h : t < x.length) : x.take (t + 1) = x.take t ++ [x.getD t 0] := by
  rw [List.take_add_one]
  congr 1
  simp [List.getD_eq_getElem?_getD, h]
theorem w_sUnfI (n m p : Nat) (l : List Int) (hn : 1 ≤ n ∧ n ≤ 16) (hm : 1 ≤ m ∧ m ≤ 16) (hp : 1 ≤ p ∧ p ≤ 4) (hl : l.length = m * (n * p + 1)) (hw : 1 ≤ n * p ∧ n * p ≤ 64) (hs : m * (n * p + 1) ≤ 1040) (hB : ∀ x ∈ l, 0 ≤ x ∧ x ≤ 255) (hs2 : m * (n * p) ≤ 1024) :
    Wp (fun k => spec_unfilterImage.f k n m p l) (fun r => r = unfR n m p (uGo l (n * p) p m 0 [] (List.replicate (n * p) 0))) := by
  unfold spec_unfilterImage.f
  refine Wp.call (w_newImage n m p (by omega) (by omega) (by omega)) ?_
  rintro _ rfl
  have e0 : ((n : Int) * m * p).toNat = m * (n * p) := by rw [← Int.natCast_mul, ← Int.natCast_mul, Int.toNat_natCast, Nat.mul_comm n m, Nat.mul_assoc]
  have e1 : (n : Int) * p = ((n * p : Nat) : Int) := by rw [Int.natCast_mul]
  rw [e0, e1, w64 (x := ((n * p : Nat) : Int)) (by omega) (by omega)]
  refine Wp.pos (by omega) (Wp.pos (by omega) ?_)
  simp only [Int.toNat_natCast]
  generalize n * p = w at *
  have ew : (w : Int) + 1 = ((w + 1 : Nat) : Int) := rfl
  have key : ∀ (d i : Nat) (o pr x : List Int), i + d = m → pr.length = w → (∀ v ∈ pr, 0 ≤ v ∧ v ≤ 255) → x.length = m * w → x.take (i * w) = o → Wp (fun k => spec_unfilterImage.l0 k m p l w pr i n m p x) (fun r => r = unfR n m p (uGo l w p d i o pr)) := by
    intro d
    induction d with
    | zero =>
      intro i o pr x hd hpr hpb hx ho
      refine Wp.step (fun k => spec_unfilterImage.l0.eq_2 ..) (Wp.neg (by omega) (Wp.ret ?_))
      rw [show i = m by omega, List.take_of_length_le (by omega)] at ho
      rw [ho]
      rfl
    | succ d ih =>
      intro i o pr x hd hpr hpb hx ho
      obtain ⟨hc1, hc2, hc3⟩ := cut_len hl (i := i) (by omega)
      have hb1 : i * (w + 1) ≤ 16 * 65 := Nat.mul_le_mul (by omega) (by omega)
      have hb2 : i * w ≤ 16 * 64 := Nat.mul_le_mul (by omega) (by omega)
      have hb3 : (i + 1) * w ≤ m * w := Nat.mul_le_mul_right w (by omega)
      have hb4 : (i + 1) * w = i * w + w := Nat.succ_mul ..
      have e2 : (i : Int) * ((w + 1 : Nat) : Int) = ((i * (w + 1) : Nat) : Int) := by rw [Int.natCast_mul]
      have e3 : (i : Int) * (w : Int) = ((i * w : Nat) : Int) := by rw [Int.natCast_mul]
      refine Wp.step (fun k => spec_unfilterImage.l0.eq_2 ..) (Wp.pos (by omega) ?_)
      rw [w64 (x := (w : Int) + 1) (by omega) (by omega), ew, e2, w64 (x := ((i * (w + 1) : Nat) : Int)) (by omega) (by omega), bl_rd]
      have hv := getD_B hB (i * (w + 1))
      refine Wp.pos (by omega) (Wp.pos (by omega) ?_)
      refine Wp.call (w_inRange0 _ _ _) ?_
      rintro _ rfl
      rw [uGo]
      generalize hf : l.getD (i * (w + 1)) 0 = f at hv
      refine Wp.ite (fun h4 => ?_) (fun h4 => Wp.ret ?_)
      · rw [decide_eq_true_eq] at h4
        rw [if_neg (by omega), w64 (x := ((i * (w + 1) : Nat) : Int) + 1) (by omega) (by omega), w64 (x := ((i * (w + 1) : Nat) : Int) + 1 + w) (by omega) (by omega)]
        refine Wp.pos (by omega) (Wp.pos (by omega) (Wp.pos (by omega) ?_))
        rw [show (((i * (w + 1) : Nat) : Int) + 1 + w).toNat = (i + 1) * (w + 1) by omega, show (((i * (w + 1) : Nat) : Int) + 1).toNat = i * (w + 1) + 1 by omega]
        refine Wp.call (w_sUnRow f _ pr p hp.1 (by omega) (by omega) (by omega) (fun v hv => hB v (List.mem_of_mem_take (List.mem_of_mem_drop hv))) hpb) ?_
        rintro _ rfl
        rw [hc1]
        have hul := uR_len f ((l.take ((i + 1) * (w + 1))).drop (i * (w + 1) + 1)) pr p w
        have hub := uR_B f ((l.take ((i + 1) * (w + 1))).drop (i * (w + 1) + 1)) pr p w
        generalize uR f ((l.take ((i + 1) * (w + 1))).drop (i * (w + 1) + 1)) pr p w = row at hul hub ⊢
        have inner : ∀ (e j : Nat) (x : List Int), j + e = w → x.length = m * w → x.take (i * w + j) = o ++ row.take j → Wp (fun k => spec_unfilterImage.l1 k m p l w i row j n m p x) (fun r => r = unfR n m p (uGo l w p d (i + 1) (o ++ row) row)) := by
          intro e
          induction e with
          | zero =>
            intro j x hj hx ht
            refine Wp.step (fun k => spec_unfilterImage.l1.eq_2 ..) (Wp.neg (by omega) ?_)
            rw [w64 (x := (i : Int) + 1) (by omega) (by omega)]
            refine ih (i + 1) _ row x (by omega) hul hub hx ?_
            rw [show (i + 1) * w = i * w + j by omega, ht, List.take_of_length_le (by omega)]
          | succ e ih2 =>
            intro j x hj hx ht
            refine Wp.step (fun k => spec_unfilterImage.l1.eq_2 ..) (Wp.pos (by omega) (Wp.pos (by omega) (Wp.pos (by omega) ?_)))
            rw [e3, w64 (x := ((i * w : Nat) : Int)) (by omega) (by omega), w64 (x := ((i * w : Nat) : Int) + j) (by omega) (by omega), w64 (x := (j : Int) + 1) (by omega) (by omega), bl_rd, show (((i * w : Nat) : Int) + j).toNat = i * w + j by omega]
            refine Wp.pos (by omega) (Wp.pos (by omega) ?_)
            refine ih2 (j + 1) _ (by omega) (by rw [List.length_set]; exact hx) ?_
            rw [show i * w + (j + 1) = i * w + j + 1 by omega, take_set_succ _ _ _ (by omega), ht, take_succ_getD row j (by omega), List.append_assoc]
        exact inner w 0 x (by omega) hx (by rw [Nat.add_zero, ho]; simp)
      · rw [decide_eq_true_eq] at h4
        rw [if_pos (by omega)]
        rfl
  exact key m 0 [] _ _ (by omega) (by simp) (fun v hv => by rw [List.eq_of_mem_replicate hv]; omega) (by simp) (by simp)
theorem w_sUnf (a b c : Int) (l : List Int) (hl : l.length ≤ 1000000000) : Wp (fun k => spec_UnfilterImage.f k a b c l) (fun r => r = unfI a b c l) := by
  unfold spec_UnfilterImage.f unfI
  refine Wp.call (w_validShape a b c) ?_
  rintro _ rfl
  refine Wp.ite (fun hsh => ?_) (fun hsh => Wp.ret ?_)
  · rw [decide_eq_true_eq] at hsh
    have m1 : 1 * 1 ≤ a * c := Int.mul_le_mul hsh.1.1 hsh.2.2.1 (by omega) (by omega)
    have m2 : a * c ≤ 16 * 4 := Int.mul_le_mul hsh.1.2 hsh.2.2.2 (by omega) (by omega)
    have m3 : 1 * 1 ≤ b * (a * c + 1) := Int.mul_le_mul hsh.2.1.1 (by omega) (by omega) (by omega)
    have m4 : b * (a * c + 1) ≤ 16 * 65 := Int.mul_le_mul hsh.2.1.2 (by omega) (by omega) (by omega)
    rw [w64 (x := a * c) (by omega) (by omega), w64 (x := a * c + 1) (by omega) (by omega), w64 (x := b * (a * c + 1)) (by omega) (by omega)]
    refine Wp.ite (fun h1 => ?_) (fun h1 => Wp.ret (by rw [if_neg fun h => h1 h.2.1]))
    refine Wp.call (w_allB l hl) ?_
    rintro _ rfl
    refine Wp.ite (fun h2 => ?_) (fun h2 => Wp.ret (by rw [if_neg fun h => h2 h.2.2]))
    rw [if_pos ⟨hsh, h1, h2⟩]
    obtain ⟨n, m, p, rfl, rfl, rfl, hn, hm, hp, hl, hw, hs, hB, hs2⟩ := unf_parts ⟨hsh, h1, h2⟩
    have e1 : ((n : Int) * p).toNat = n * p := by rw [← Int.natCast_mul, Int.toNat_natCast]
    simp only [e1, Int.toNat_natCast]
    refine Wp.call (w_sUnfI n m p l hn hm hp hl hw hs hB hs2) ?_
    rintro _ rfl
    exact Wp.ret rfl
  · rw [decide_eq_true_eq] at hsh
    rw [if_neg fun h => hsh h.1]
theorem w_iUnf (a b c : Int) (l : List Int) : Wp (fun k => impl_UnfilterImage.f k a b c l) (fun r => r = unfI a b c l) := by
  unfold impl_UnfilterImage.f
  refine Wp.call (Q := fun r => r = unfI a b c l) ?_ (by rintro _ rfl; exact Wp.ret rfl)
  unfold impl_unfilterImage.f unfI
  have bad : Wp (fun k => impl_unfilterImage.j0 k a b c l true) (fun r => r = (0, 0, 0, [], false)) := Wp.step (fun k => impl_unfilterImage.j0.eq_2 ..) (Wp.pos rfl (Wp.ret rfl))
  rw [isShape_some]
  simp only [Option.bind_some]
  refine Wp.ite (fun hsh => ?_) (fun hsh => bad.mono fun r h => ?_)
  · rw [decide_eq_true_eq] at hsh
    have m1 : 1 * 1 ≤ a * c := Int.mul_le_mul hsh.1.1 hsh.2.2.1 (by omega) (by omega)
    have m2 : a * c ≤ 16 * 4 := Int.mul_le_mul hsh.1.2 hsh.2.2.2 (by omega) (by omega)
    have m3 : 1 * 1 ≤ b * (a * c + 1) := Int.mul_le_mul hsh.2.1.1 (by omega) (by omega) (by omega)
    have m4 : b * (a * c + 1) ≤ 16 * 65 := Int.mul_le_mul hsh.2.1.2 (by omega) (by omega) (by omega)
    refine Wp.call (w_areBytes l) ?_
    rintro _ rfl
    refine Wp.ite (fun h2 => ?_) (fun h2 => bad.mono fun r h => by rw [h, if_neg fun h => h2 h.2.2])
    refine Wp.step (fun k => impl_unfilterImage.j0.eq_2 ..) ?_
    rw [w64 (x := a * c) (by omega) (by omega), w64 (x := 1 + a * c) (by omega) (by omega), Int.add_comm 1, w64 (x := b * (a * c + 1)) (by omega) (by omega)]
    refine Wp.ite (fun h1 => Wp.ret ?_) (fun h1 => ?_)
    · rw [if_neg]
      rintro ⟨_, h, _⟩
      rw [h] at h1
      simp at h1
    · have h1 : (l.length : Int) = b * (a * c + 1) := by simpa using h1
      rw [if_pos ⟨hsh, h1, h2⟩]
      obtain ⟨n, m, p, rfl, rfl, rfl, hn, hm, hp, hl, hw, hs, hB, hs2⟩ := unf_parts ⟨hsh, h1, h2⟩
      have e1 : ((n : Int) * p).toNat = n * p := by rw [← Int.natCast_mul, Int.toNat_natCast]
      have e0 : (n : Int) * p = ((n * p : Nat) : Int) := by rw [Int.natCast_mul]
      simp only [e1, Int.toNat_natCast]
      refine Wp.pos (by omega) (Wp.pos (by omega) ?_)
      rw [e0]
      clear h1 e0 e1 m1 m2 m3 m4 bad hsh h2
      generalize n * p = w at *
      have key : ∀ (d i : Nat) (o pr : List Int), i + d = m → pr.length = w → (∀ v ∈ pr, 0 ≤ v ∧ v ≤ 255) → o.length = i * w → Wp (fun k => impl_unfilterImage.l0 k p l w pr m i n m p o) (fun r => r = unfR n m p (uGo l w p d i o pr)) := by
        intro d
        induction d with
        | zero =>
          intro i o pr hd hpr hpb ho
          refine Wp.step (fun k => impl_unfilterImage.l0.eq_2 ..) (Wp.neg (by omega) (Wp.ret rfl))
        | succ d ih =>
          intro i o pr hd hpr hpb ho
          obtain ⟨hc1, hc2, hc3⟩ := cut_len hl (i := i) (by omega)
          have hb1 : i * (w + 1) ≤ 16 * 65 := Nat.mul_le_mul (by omega) (by omega)
          have hb2 : i * w ≤ 16 * 64 := Nat.mul_le_mul (by omega) (by omega)
          have hb4 : (i + 1) * w = i * w + w := Nat.succ_mul ..
          have e2 : (i : Int) * ((w : Int) + 1) = ((i * (w + 1) : Nat) : Int) := by rw [Int.natCast_mul]; rfl
          have e3 : ((i : Int) + 1) * ((w : Int) + 1) = (((i + 1) * (w + 1) : Nat) : Int) := by rw [Int.natCast_mul]; rfl
          refine Wp.step (fun k => impl_unfilterImage.l0.eq_2 ..) (Wp.pos (by omega) ?_)
          rw [w64 (x := 1 + (w : Int)) (by omega) (by omega), Int.add_comm 1, w64 (x := (i : Int) + 1) (by omega) (by omega), e2, e3, w64 (x := ((i * (w + 1) : Nat) : Int)) (by omega) (by omega), w64 (x := (((i + 1) * (w + 1) : Nat) : Int)) (by omega) (by omega)]
          have hv := getD_B hB (i * (w + 1))
          refine Wp.pos (by omega) (Wp.pos (by omega) (Wp.pos (by omega) ?_))
          simp only [Int.toNat_natCast]
          have h0 : rd ((l.take ((i + 1) * (w + 1))).drop (i * (w + 1))) 0 = l.getD (i * (w + 1)) 0 := by
            have := rd_cut l ((i * (w + 1) : Nat) : Int) (((i + 1) * (w + 1) : Nat) : Int) 0 (by omega) (by omega) (by omega)
            simp only [Int.toNat_natCast] at this
            rw [this, Int.add_zero, bl_rd]
          have hcl : ((l.take ((i + 1) * (w + 1))).drop (i * (w + 1))).length = w + 1 := by rw [List.length_drop, List.length_take]; omega
          rw [h0, hcl]
          refine Wp.pos (by omega) ?_
          rw [uGo]
          generalize hf : l.getD (i * (w + 1)) 0 = f at hv
          refine Wp.ite (fun h4 => Wp.ret ?_) (fun h4 => Wp.pos (by omega) ?_)
          · rw [if_pos h4]; rfl
          rw [if_neg h4, List.drop_drop]
          refine Wp.call (w_iUnRow f _ pr p hp.1 (by omega) (by omega) (by omega) (fun v hv => hB v (List.mem_of_mem_take (List.mem_of_mem_drop hv))) hpb) ?_
          rintro _ rfl
          rw [hc1]
          have hul := uR_len f ((l.take ((i + 1) * (w + 1))).drop (i * (w + 1) + 1)) pr p w
          have hub := uR_B f ((l.take ((i + 1) * (w + 1))).drop (i * (w + 1) + 1)) pr p w
          refine Wp.pos (by omega) ?_
          exact ih (i + 1) _ _ (by omega) hul hub (by rw [List.length_append]; omega)
      exact key m 0 [] _ (by omega) (by simp) (fun v hv => by rw [List.eq_of_mem_replicate hv]; omega) (by simp)
  · rw [decide_eq_true_eq] at hsh
    rw [h, if_neg fun h => hsh h.1]
/-- What is filtered and unfiltered. -/
theorem unf_flt (a b c : Int) (l : List Int) (h : imgB a b c l = true) : unfI a b c (fltI a b c l) = (a, b, c, l, true) ∧ ((fltI a b c l).length : Int) = b * (a * c + 1) ∧ 1 ≤ (fltI a b c l).length := by
  unfold unfI fltI
  rw [if_pos h]
  obtain ⟨n, m, p, rfl, rfl, rfl, hn, hm, hp, hl, hw, hs, hB⟩ := img_parts h
  have e1 : ((n : Int) * p).toNat = n * p := by rw [← Int.natCast_mul, Int.toNat_natCast]
  simp only [e1, Int.toNat_natCast]
  have hFl := fSt_len (p := p) hl m (Nat.le_refl m)
  have hFB := fSt_B (l := l) (w := n * p) (p := p) m
  have e2 : (m : Int) * ((n : Int) * p + 1) = ((m * (n * p + 1) : Nat) : Int) := by rw [Int.natCast_mul m, Int.natCast_add, Int.natCast_mul]; rfl
  have b4 : 1 * 1 ≤ m * (n * p + 1) := Nat.mul_le_mul hm.1 (by omega)
  refine ⟨?_, by rw [e2]; omega, by omega⟩
  rw [if_pos ⟨by omega, by rw [e2]; omega, allB_of hFB⟩]
  generalize n * p = w at *
  have pre : ∀ (d i : Nat), i + d = m → ∃ t, (fSt l w p m).1 = (fSt l w p i).1 ++ t := by
    intro d
    induction d with
    | zero => intro i hd; exact ⟨[], by rw [show i = m by omega]; simp⟩
    | succ d ih =>
      intro i hd
      obtain ⟨t, ht⟩ := ih (i + 1) (by omega)
      exact ⟨_, by rw [ht, fSt, List.append_assoc, List.append_assoc]⟩
  have key : ∀ (d i : Nat), i + d = m → uGo (fSt l w p m).1 w p d i (l.take (i * w)) (fSt l w p i).2 = some l := by
    intro d
    induction d with
    | zero =>
      intro i hd
      rw [uGo, show i = m by omega, List.take_of_length_le (by omega)]
    | succ d ih =>
      intro i hd
      obtain ⟨t, ht⟩ := pre d (i + 1) (by omega)
      have hil := fSt_len (p := p) hl i (by omega)
      have hil1 := fSt_len (p := p) hl (i + 1) (by omega)
      have hpv := fSt_prev (p := p) hl hB i (by omega)
      have hrl := rowOf_len hl (i := i) (by omega)
      have hrb := rowOf_B hB w i
      have hb := bst_B (rowOf l w i) (fSt l w p i).2 p
      have hc2 : (i + 1) * (w + 1) = i * (w + 1) + (w + 1) := Nat.succ_mul ..
      have b5 : (i + 1) * w = i * w + w := Nat.succ_mul ..
      have b6 : (i + 1) * w ≤ m * w := Nat.mul_le_mul_right w (by omega)
      have hrow : (fSt l w p m).1.take ((i + 1) * (w + 1)) = (fSt l w p (i + 1)).1 := by rw [ht, ← hil1, List.take_left']; rfl
      have hget : (fSt l w p m).1.getD (i * (w + 1)) 0 = bst (rowOf l w i) (fSt l w p i).2 p := by
        rw [ht, fSt, List.append_assoc, List.append_assoc, List.getD_eq_getElem?_getD, List.getElem?_append_right (by omega), hil, Nat.sub_self]
        rfl
      have hcut : ((fSt l w p m).1.take ((i + 1) * (w + 1))).drop (i * (w + 1) + 1) = fR (bst (rowOf l w i) (fSt l w p i).2 p) (rowOf l w i) (fSt l w p i).2 p := by
        rw [hrow, fSt, List.drop_left' (by rw [List.length_append, hil]; rfl)]
      have hu := uR_fR (bst (rowOf l w i) (fSt l w p i).2 p) (rowOf l w i) (fSt l w p i).2 p w hp.1 (by omega) hrb hpv.2
      rw [List.take_of_length_le (by omega)] at hu
      rw [uGo, hget, if_neg (by omega), hcut, hu]
      have := ih (i + 1) (by omega)
      rw [fSt] at this
      simp only at this
      have ht2 : l.take ((i + 1) * w) = l.take (i * w) ++ rowOf l w i := by
        unfold rowOf
        have := List.take_append_drop (i * w) (l.take ((i + 1) * w))
        rw [List.take_take, Nat.min_eq_left (by omega)] at this
        exact this.symm
      rw [ht2] at this
      exact this
  have := key m 0 (by omega)
  rw [Nat.zero_mul, List.take_zero] at this
  rw [show List.replicate w (0 : Int) = (fSt l w p 0).2 from rfl, this]
  rfl
/-- What is unfiltered is an image. -/
theorem uGo_B (l : List Int) (w p : Nat) : ∀ (d i : Nat) (o pr r : List Int), uGo l w p d i o pr = some r → o.length = i * w → (∀ x ∈ o, 0 ≤ x ∧ x ≤ 255) → r.length = (i + d) * w ∧ ∀ x ∈ r, 0 ≤ x ∧ x ≤ 255 := by
  intro d
  induction d with
  | zero =>
    intro i o pr r h ho hb
    rw [uGo] at h
    obtain rfl := Option.some.inj h
    exact ⟨ho, hb⟩
  | succ d ih =>
    intro i o pr r h ho hb
    rw [uGo] at h
    by_cases h4 : l.getD (i * (w + 1)) 0 > 4
    · rw [if_pos h4] at h; cases h
    · rw [if_neg h4] at h
      have b5 : (i + 1) * w = i * w + w := Nat.succ_mul ..
      have := ih (i + 1) _ _ r h (by rw [List.length_append, uR_len]; omega) (fun x hx => by
        rcases List.mem_append.1 hx with hx | hx
        · exact hb x hx
        · exact uR_B _ _ _ _ _ x hx)
      rw [show i + (d + 1) = i + 1 + d by omega]
      exact this
theorem unfI_ok (a b c : Int) (l : List Int) : unfI a b c l = (0, 0, 0, [], false) ∨ ∃ o, unfI a b c l = (a, b, c, o, true) ∧ imgB a b c o = true := by
  unfold unfI
  split
  · rename_i h
    obtain ⟨n, m, p, rfl, rfl, rfl, hn, hm, hp, hl, hw, hs, hB, hs2⟩ := unf_parts h
    have e1 : ((n : Int) * p).toNat = n * p := by rw [← Int.natCast_mul, Int.toNat_natCast]
    simp only [e1, Int.toNat_natCast]
    cases hu : uGo l (n * p) p m 0 [] (List.replicate (n * p) 0) with
    | none => exact .inl rfl
    | some o =>
      refine .inr ⟨o, rfl, ?_⟩
      obtain ⟨h1, h2⟩ := uGo_B l (n * p) p m 0 [] _ o hu (by simp) (by simp)
      refine imgB_ok.2 ⟨by omega, by omega, by omega, ?_, h2⟩
      rw [h1, Nat.zero_add, Int.natCast_mul, Int.natCast_mul, ← Int.mul_assoc, Int.mul_comm (m : Int)]
  · exact .inl rfl
theorem unfI_len (a b c : Int) (l : List Int) : (unfI a b c l).2.2.2.1.length ≤ 2000 := by
  rcases unfI_ok a b c l with h | ⟨o, h, hi⟩
  · rw [h]; simp
  · rw [h]
    obtain ⟨n, m, p, rfl, rfl, rfl, hn, hm, hp, hl, hw, hs, hB⟩ := img_parts hi
    simp only
    omega
end Go.Proofs.Ytchahbdmdcllaaa.P

/- The reader of draws: what it yields lies in its range, and its place goes on by one. Plain lemmas; the conditions are the bytes' range and a bound on the place. -/
namespace Go.Proofs.Ytchahbdmdcllaaa.P
open Go.RowKit Go.Proofs.YtchahbdmdcllaaaW.PrintWords Go.Proofs.YtchahbdmdcllaaaW.PrintLast Go.Proofs.YtchahbdmdcllaaaW.PrintMore Go.Proofs.Ytchahbdmdcllaaa.Wp
set_option linter.unusedVariables false

theorem rd_mem (l : List Int) (i : Int) (h0 : 0 ≤ i) (h1 : i < (l.length : Int)) : rd l i ∈ l := by
  unfold rd
  rw [List.getD_eq_getElem?_getD, List.getElem?_eq_getElem (by omega)]
  exact List.getElem_mem _
theorem rd_le {l : List Int} {a b : Int} (h : ∀ x ∈ l, a ≤ x ∧ x ≤ b) (i : Int) (h0 : 0 ≤ i) (h1 : i < (l.length : Int)) : a ≤ rd l i ∧ rd l i ≤ b := h _ (rd_mem l i h0 h1)
/-- A reader: bytes, few of them, and its place. -/
def Rdr (b : List Int) (p : Int) : Prop := (∀ x ∈ b, 0 ≤ x ∧ x ≤ 255) ∧ b.length ≤ 2000 ∧ 0 ≤ p ∧ p ≤ 1000000
theorem tmod_range (x n : Int) (hx : 0 ≤ x) (hn : 0 < n) : 0 ≤ Int.tmod x n ∧ Int.tmod x n < n := by
  rw [Int.tmod_eq_emod_of_nonneg hx]
  exact ⟨Int.emod_nonneg _ (by omega), Int.emod_lt_of_pos _ hn⟩
theorem bits_xor_nonneg (x y : Int) (hx : 0 ≤ x) (hx2 : x ≤ 1000000000000) (hy : 0 ≤ y) (hy2 : y ≤ 1000000000000) : 0 ≤ Go.bits .xor .i64 x y := by
  obtain ⟨a, rfl⟩ := Int.eq_ofNat_of_zero_le hx
  obtain ⟨b, rfl⟩ := Int.eq_ofNat_of_zero_le hy
  have ha : a < 2 ^ 62 := by omega
  have hb : b < 2 ^ 62 := by omega
  have ha' : a % 2 ^ 64 = a := Nat.mod_eq_of_lt (by omega)
  have hb' : b % 2 ^ 64 = b := Nat.mod_eq_of_lt (by omega)
  have hc : a ^^^ b < 2 ^ 62 := Nat.xor_lt_two_pow ha hb
  have hw : IntKind.i64.wrap ((a ^^^ b : Nat) : Int) = ((a ^^^ b : Nat) : Int) := by
    have h64 : IntKind.i64.wrap ((a ^^^ b : Nat) : Int) = wrap64 ((a ^^^ b : Nat) : Int) := i64_w _
    rw [h64, w64 (by omega) (by omega)]
  have he : Go.bits .xor .i64 (a : Int) (b : Int) = ((a ^^^ b : Nat) : Int) := by
    have hbits : IntKind.i64.bits = 64 := rfl
    simp only [Go.bits, BitVec.ofInt_natCast, BitVec.toNat_xor, BitVec.toNat_ofNat, hbits, ha', hb', hw]
  rw [he]
  exact Int.natCast_nonneg _
theorem w_newReader (l : List Int) (hb : ∀ x ∈ l, (Lit.int .u8 x).wf = true) : Wp (fun _ => spec_newReader.f l) (fun r => Rdr r.1 r.2 ∧ r.2 = 0) := by
  have hb' : ∀ x ∈ l, 0 ≤ x ∧ x ≤ 255 := fun x hx => by
    have h := hb x hx
    simp only [Lit.wf, Bool.and_eq_true, decide_eq_true_eq] at h
    have h0 : IntKind.u8.min = 0 := rfl
    have h1 : IntKind.u8.max = 255 := rfl
    omega
  unfold spec_newReader.f
  refine Wp.ite (fun h => Wp.pos (by omega) (Wp.ret ?_)) (fun h => Wp.ret ?_)
  · exact ⟨⟨fun x hx => hb' x (List.mem_of_mem_take hx), by show (l.take 2000).length ≤ 2000; rw [List.length_take]; omega, Int.le_refl _, by show (0 : Int) ≤ 1000000; omega⟩, rfl⟩
  · exact ⟨⟨hb', by show l.length ≤ 2000; omega, Int.le_refl _, by show (0 : Int) ≤ 1000000; omega⟩, rfl⟩
theorem w_pick (b : List Int) (p n : Int) (h : Rdr b p) (hp : p < 1000000) (hn : n ≤ 1000000000000) :
    Wp (fun k => spec_reader_pick.f k b p n) (fun r => ∃ x, r = (x, p + 1) ∧ 0 ≤ x ∧ (1 ≤ n → x < n) ∧ (n < 1 → x = 0)) := by
  obtain ⟨hb, hl, h0, h1⟩ := h
  unfold spec_reader_pick.f
  rw [w64 (x := p + 1) (by omega) (by omega)]
  refine Wp.ite (fun hn1 => ?_) (fun hn1 => ?_)
  · refine Wp.step (fun k => spec_reader_pick.j0.eq_2 ..) (Wp.pos rfl (Wp.ret ?_))
    exact ⟨0, rfl, by omega, by omega, fun _ => rfl⟩
  · refine Wp.step (fun k => spec_reader_pick.j0.eq_2 ..) ?_
    rw [show p + 1 - 1 = p by omega, w64 (x := p) (by omega) (by omega)]
    refine Wp.ite (fun hz => Wp.ret ?_) (fun hz => ?_)
    · exact ⟨0, rfl, by omega, by omega, by omega⟩
    · have hpos : 0 < (b.length : Int) := by
        have : ¬ (b.length : Int) = 0 := by simpa using hz
        omega
      refine Wp.ite (fun hlt => ?_) (fun hge => ?_)
      · refine Wp.pos h0 (Wp.neg (by omega) (Wp.ret ?_))
        have hr := rd_le hb p h0 hlt
        rw [w64 (x := rd b p) (by omega) (by omega)]
        have := tmod_range (rd b p) n hr.1 (by omega)
        exact ⟨_, rfl, this.1, fun _ => this.2, by omega⟩
      · refine Wp.neg (by omega) ?_
        have t1 := tmod_range p b.length h0 hpos
        refine Wp.pos t1.1 (Wp.pos t1.2 ?_)
        rw [w64 (x := p * 7) (by omega) (by omega), w64 (x := p * 7 + 3) (by omega) (by omega)]
        have t2 := tmod_range (p * 7 + 3) b.length (by omega) hpos
        refine Wp.pos t2.1 (Wp.pos t2.2 (Wp.neg (by omega) (Wp.ret ?_)))
        have r1 := rd_le hb _ t1.1 t1.2
        have r2 := rd_le hb _ t2.1 t2.2
        generalize rd b (Int.tmod p b.length) = u at r1 ⊢
        generalize rd b (Int.tmod (p * 7 + 3) b.length) = v at r2 ⊢
        have hd : 0 ≤ Int.tdiv p b.length ∧ Int.tdiv p b.length ≤ p := by
          rw [Int.tdiv_eq_ediv_of_nonneg h0]
          exact ⟨Int.ediv_nonneg h0 (by omega), Int.ediv_le_self _ h0⟩
        generalize Int.tdiv p b.length = d at hd ⊢
        rw [w64 (x := u) (by omega) (by omega), w64 (x := u * 131) (by omega) (by omega), w64 (x := v) (by omega) (by omega), w64 (x := v * 1117) (by omega) (by omega),
          w64 (x := u * 131 + v * 1117) (by omega) (by omega), w64 (x := p * 29) (by omega) (by omega), w64 (x := u * 131 + v * 1117 + p * 29) (by omega) (by omega),
          w64 (x := d) (by omega) (by omega), w64 (x := d * 53) (by omega) (by omega), w64 (x := u * 131 + v * 1117 + p * 29 + d * 53) (by omega) (by omega)]
        have hs : 0 ≤ u * 131 + v * 1117 + p * 29 + d * 53 ∧ u * 131 + v * 1117 + p * 29 + d * 53 ≤ 1000000000 := by omega
        generalize u * 131 + v * 1117 + p * 29 + d * 53 = s at hs ⊢
        have hq : 0 ≤ Int.tdiv s 64 ∧ Int.tdiv s 64 ≤ s := by
          rw [Int.tdiv_eq_ediv_of_nonneg hs.1]
          exact ⟨Int.ediv_nonneg hs.1 (by omega), Int.ediv_le_self _ hs.1⟩
        rw [w64 (x := Int.tdiv s 64) (by omega) (by omega)]
        have hx := bits_xor_nonneg s (Int.tdiv s 64) hs.1 (by omega) hq.1 (by omega)
        have := tmod_range _ n hx (by omega)
        exact ⟨_, rfl, this.1, fun _ => this.2, by omega⟩
theorem Rdr.up {b : List Int} {p q : Int} (h : Rdr b p) (h1 : p ≤ q) (h2 : q ≤ 1000000) : Rdr b q := ⟨h.1, h.2.1, by have := h.2.2.1; omega, h2⟩
theorem w_one (b : List Int) (p : Int) (l : List Int) (h : Rdr b p) (hp : p < 1000000) (hl : 0 < l.length) (hl2 : l.length ≤ 1000) :
    Wp (fun k => spec_reader_one.f k b p l) (fun r => ∃ x, r = (x, p + 1) ∧ x ∈ l) := by
  unfold spec_reader_one.f
  refine Wp.call (w_pick b p l.length h hp (by omega)) ?_
  rintro _ ⟨x, rfl, h0, h1, _⟩
  have h1 := h1 (by omega)
  exact Wp.pos h0 (Wp.pos h1 (Wp.ret ⟨_, rfl, rd_mem l x h0 h1⟩))
end Go.Proofs.Ytchahbdmdcllaaa.P

/- Drawn images: their sides, their bytes, and how far the reader's place has come. Plain lemmas under bounds. -/
namespace Go.Proofs.Ytchahbdmdcllaaa.P
open Go.RowKit Go.Proofs.YtchahbdmdcllaaaW.PrintWords Go.Proofs.YtchahbdmdcllaaaW.PrintLast Go.Proofs.YtchahbdmdcllaaaW.PrintMore Go.Proofs.Ytchahbdmdcllaaa.Wp
set_option linter.unusedVariables false
set_option linter.unusedSimpArgs false

theorem m_B {x : Int} : (0 ≤ x ∧ x ≤ 255) ↔ (0 ≤ x ∧ x < 256) := by omega
theorem allB_set {l : List Int} (h : ∀ x ∈ l, 0 ≤ x ∧ x ≤ 255) (i : Nat) (v : Int) (hv : 0 ≤ v ∧ v ≤ 255) : ∀ x ∈ l.set i v, 0 ≤ x ∧ x ≤ 255 := fun x hx => by
  rcases List.mem_or_eq_of_mem_set hx with h1 | h1
  · exact h x h1
  · rw [h1]; exact hv
/-- What is drawn: a few planes, sides from one to eight, bytes. -/
def Rnd (p : Int) (r : Int × Int × Int × List Int × Int) (q : Int) : Prop :=
  (1 ≤ r.1 ∧ r.1 ≤ 8) ∧ (1 ≤ r.2.1 ∧ r.2.1 ≤ 8) ∧ r.2.2.1 = p ∧ (r.2.2.2.1.length : Int) = r.1 * r.2.1 * p ∧ (∀ x ∈ r.2.2.2.1, 0 ≤ x ∧ x ≤ 255) ∧ q ≤ r.2.2.2.2 ∧ r.2.2.2.2 ≤ q + 300
theorem prod_le {a b c : Int} (h0 : 1 ≤ a ∧ a ≤ 8) (h1 : 1 ≤ b ∧ b ≤ 8) (h2 : 1 ≤ c ∧ c ≤ 4) : 1 ≤ a * b ∧ a * b ≤ 64 ∧ 1 ≤ a * b * c ∧ a * b * c ≤ 256 := by
  have m1 : 1 * 1 ≤ a * b := Int.mul_le_mul h0.1 h1.1 (by omega) (by omega)
  have m2 : a * b ≤ 8 * 8 := Int.mul_le_mul h0.2 h1.2 (by omega) (by omega)
  have m3 : 1 * 1 ≤ a * b * c := Int.mul_le_mul (by omega) h2.1 (by omega) (by omega)
  have m4 : a * b * c ≤ 64 * 4 := Int.mul_le_mul (by omega) h2.2 (by omega) (by omega)
  omega
theorem w_randomImage (b : List Int) (q p : Int) (h : Rdr b q) (hq : q ≤ 900000) (hp : 1 ≤ p ∧ p ≤ 4) : Wp (fun k => spec_randomImage.f k b q p) (fun r => Rnd p r q) := by
  unfold spec_randomImage.f
  refine Wp.call (w_one b q _ h (by omega) (by simp) (by simp)) ?_
  rintro _ ⟨sx, rfl, hsx⟩
  have hsx : 1 ≤ sx ∧ sx ≤ 8 := by simp only [List.mem_cons, List.not_mem_nil, or_false] at hsx; omega
  refine Wp.call (w_one b _ _ (h.up (by first | omega | (simp only; omega)) (by first | omega | (simp only; omega))) (by first | omega | (simp only; omega)) (by simp) (by simp)) ?_
  rintro _ ⟨sy, rfl, hsy⟩
  have hsy : 1 ≤ sy ∧ sy ≤ 8 := by simp only [List.mem_cons, List.not_mem_nil, or_false] at hsy; omega
  refine Wp.call (w_newImage sx sy p (by omega) (by omega) (by omega)) ?_
  rintro _ rfl
  refine Wp.call (w_pick b _ 4 (h.up (by first | omega | (simp only; omega)) (by first | omega | (simp only; omega))) (by first | omega | (simp only; omega)) (by omega)) ?_
  rintro _ ⟨md, rfl, md0, md1, _⟩
  refine Wp.call (w_pick b _ 256 (h.up (by first | omega | (simp only; omega)) (by first | omega | (simp only; omega))) (by first | omega | (simp only; omega)) (by omega)) ?_
  rintro _ ⟨v, rfl, v0, v1, _⟩
  have v1 := v1 (by omega)
  have hP := prod_le hsx hsy hp
  generalize hL : (sx * sy * p).toNat = L
  have hlen : (List.replicate L (0 : Int)).length = L := by simp
  have hbs : ∀ x ∈ List.replicate L (0 : Int), 0 ≤ x ∧ x ≤ 255 := fun x hx => by rw [List.eq_of_mem_replicate hx]; omega
  dsimp only
  generalize List.replicate L (0 : Int) = l at hlen hbs
  have key : ∀ (d i : Nat) (l : List Int) (v r : Int), i + d = L → l.length = L → (∀ x ∈ l, 0 ≤ x ∧ x ≤ 255) → 0 ≤ v → v < 256 → q ≤ r → r ≤ q + 4 + i → Wp (fun k => spec_randomImage.l0 k md v i b r sx sy p l) (fun r => Rnd p r q) := by
    intro d
    induction d with
    | zero =>
      intro i l v r hd hl hb hv hv1 hr hr1
      refine Wp.step (fun k => spec_randomImage.l0.eq_2 ..) (Wp.neg (by omega) (Wp.ret ?_))
      exact ⟨hsx, hsy, rfl, by first | omega | (simp only; omega), hb, hr, by first | omega | (simp only; omega)⟩
    | succ d ih =>
      intro i l v r hd hl hb hv hv1 hr hr1
      have hR : Rdr b r := h.up hr (by omega)
      have next : ∀ (v' r' : Int), 0 ≤ v' → v' < 256 → q ≤ r' → r' ≤ q + 4 + (i + 1 : Nat) → Wp (fun k => spec_randomImage.l0 k md v' (wrap64 ((i : Int) + 1)) b r' sx sy p (l.set (i : Int).toNat v')) (fun r => Rnd p r q) := by
        intro v' r' h1 h2 h3 h4
        rw [w64 (x := (i : Int) + 1) (by omega) (by omega)]
        exact ih (i + 1) _ v' r' (by omega) (by rw [List.length_set]; exact hl) (allB_set hb _ _ (by omega)) h1 h2 h3 h4
      refine Wp.step (fun k => spec_randomImage.l0.eq_2 ..) (Wp.pos (by omega) ?_)
      refine Wp.ite (fun _ => ?_) (fun _ => Wp.ite (fun _ => ?_) (fun _ => Wp.ite (fun _ => ?_) (fun _ => ?_)))
      · refine Wp.call (w_pick b r 256 hR (by omega) (by omega)) ?_
        rintro _ ⟨u, rfl, u0, u1, _⟩
        exact Wp.pos (by omega) (next u _ u0 (u1 (by omega)) (by first | omega | (simp only; omega)) (by first | omega | (simp only; omega)))
      · refine Wp.call (w_pick b r 5 hR (by omega) (by omega)) ?_
        rintro _ ⟨u, rfl, u0, u1, _⟩
        have u1 := u1 (by omega)
        refine Wp.pos (by omega) ?_
        simp only
        rw [w64 (x := v + u) (by omega) (by omega), w64 (x := v + u + 254) (by omega) (by omega)]
        have ht := tmod_range (v + u + 254) 256 (by omega) (by omega)
        exact next _ _ ht.1 ht.2 (by first | omega | (simp only; omega)) (by first | omega | (simp only; omega))
      · refine Wp.call (w_pick b r 4 hR (by omega) (by omega)) ?_
        rintro _ ⟨u, rfl, u0, u1, _⟩
        have u1 := u1 (by omega)
        refine Wp.pos (by omega) ?_
        simp only
        rw [w64 (x := 60 * u) (by omega) (by omega)]
        exact next _ _ (by omega) (by omega) (by omega) (by omega)
      · exact Wp.pos (by omega) (next v r hv hv1 hr (by omega))
  exact key L 0 l v _ (by omega) hlen hbs v0 v1 (by first | omega | (simp only; omega)) (by first | omega | (simp only; omega))
/-- A drawn image, perhaps spoiled: not many bytes, and sides near those of an image. -/
def Spl (q : Int) (r : Int × Int × Int × List Int × Int) : Prop :=
  (0 ≤ r.1 ∧ r.1 ≤ 17) ∧ (0 ≤ r.2.1 ∧ r.2.1 ≤ 17) ∧ (0 ≤ r.2.2.1 ∧ r.2.2.1 ≤ 5) ∧ r.2.2.2.1.length ≤ 1024 ∧ q ≤ r.2.2.2.2 ∧ r.2.2.2.2 ≤ q + 1000
theorem w_spoilImage (bb : List Int) (q a b c : Int) (l : List Int) (h : Rdr bb q) (hq : q ≤ 900000) (ha : 0 ≤ a ∧ a ≤ 16) (hb : 0 ≤ b ∧ b ≤ 16) (hc : 0 ≤ c ∧ c ≤ 4) (hl : 1 ≤ l.length) (hl2 : l.length ≤ 1024) :
    Wp (fun k => spec_spoilImage.f k bb q a b c l) (fun r => (0 ≤ r.1 ∧ r.1 ≤ 17) ∧ (0 ≤ r.2.1 ∧ r.2.1 ≤ 17) ∧ (0 ≤ r.2.2.1 ∧ r.2.2.1 ≤ 5) ∧ r.2.2.2.1.length ≤ 1024 ∧ q ≤ r.2.2.2.2 ∧ r.2.2.2.2 ≤ q + 2) := by
  unfold spec_spoilImage.f
  refine Wp.call (w_pick bb q 40 h (by omega) (by omega)) ?_
  rintro _ ⟨u, rfl, u0, u1, _⟩
  have h1 : Rdr bb (q + 1) := h.up (by omega) (by omega)
  simp only
  refine Wp.ite (fun _ => ?_) (fun _ => Wp.ite (fun _ => ?_) (fun _ => Wp.ite (fun _ => ?_) (fun _ => Wp.ite (fun _ => ?_) (fun _ => ?_))))
  · refine Wp.call (w_one bb _ _ h1 (by omega) (by simp) (by simp)) ?_
    rintro _ ⟨x, rfl, hx⟩
    rw [w64 (x := a + 1) (by omega) (by omega)] at hx
    simp only [List.mem_cons, List.not_mem_nil, or_false] at hx
    exact Wp.ret ⟨by first | omega | (simp only; omega), by first | omega | (simp only; omega), by first | omega | (simp only; omega), hl2, by first | omega | (simp only; omega), by first | omega | (simp only; omega)⟩
  · exact Wp.pos (by omega) (Wp.ret ⟨by first | omega | (simp only; omega), by first | omega | (simp only; omega), by first | omega | (simp only; omega), by simp only [List.length_drop]; omega, by first | omega | (simp only; omega), by first | omega | (simp only; omega)⟩)
  · refine Wp.call (w_one bb _ _ h1 (by omega) (by simp) (by simp)) ?_
    rintro _ ⟨x, rfl, hx⟩
    exact Wp.pos (by omega) (Wp.ret ⟨by first | omega | (simp only; omega), by first | omega | (simp only; omega), by first | omega | (simp only; omega), by simp only [List.length_set]; omega, by first | omega | (simp only; omega), by first | omega | (simp only; omega)⟩)
  · refine Wp.call (w_one bb _ _ h1 (by omega) (by simp) (by simp)) ?_
    rintro _ ⟨x, rfl, hx⟩
    simp only [List.mem_cons, List.not_mem_nil, or_false] at hx
    exact Wp.ret ⟨by first | omega | (simp only; omega), by first | omega | (simp only; omega), by first | omega | (simp only; omega), hl2, by first | omega | (simp only; omega), by first | omega | (simp only; omega)⟩
  · exact Wp.ret ⟨by first | omega | (simp only; omega), by first | omega | (simp only; omega), by first | omega | (simp only; omega), hl2, by first | omega | (simp only; omega), by first | omega | (simp only; omega)⟩
theorem w_anyPlanes (b : List Int) (q : Int) (h : Rdr b q) (hq : q ≤ 900000) : Wp (fun k => spec_anyPlanes.f k b q) (fun r => (1 ≤ r.1 ∧ r.1 ≤ 4) ∧ r.2 = q + 1) := by
  unfold spec_anyPlanes.f
  refine Wp.call (w_one b q _ h (by omega) (by simp) (by simp)) ?_
  rintro _ ⟨x, rfl, hx⟩
  simp only [List.mem_cons, List.not_mem_nil, or_false] at hx
  exact Wp.ret ⟨by first | omega | (simp only; omega), rfl⟩
theorem Rnd.len {p q : Int} {r : Int × Int × Int × List Int × Int} (h : Rnd p r q) (hp : 1 ≤ p ∧ p ≤ 4) : 1 ≤ r.2.2.2.1.length ∧ r.2.2.2.1.length ≤ 256 := by
  obtain ⟨h0, h1, h2, h3, _⟩ := h
  have := prod_le h0 h1 hp
  omega
/-- A random image, spoiled. -/
theorem w_randomSpoil (b : List Int) (q p : Int) (r : Int × Int × Int × List Int × Int) (h : Rdr b q) (hq : q ≤ 800000) (hp : 1 ≤ p ∧ p ≤ 4) (hr : Rnd p r q) :
    Wp (fun k => spec_spoilImage.f k b r.2.2.2.2 r.1 r.2.1 r.2.2.1 r.2.2.2.1) (fun r => Spl q r ∧ r.2.2.2.2 ≤ q + 302) := by
  have hl := hr.len hp
  obtain ⟨h0, h1, h2, h3, h4, h5, h6⟩ := hr
  refine (w_spoilImage b r.2.2.2.2 _ _ _ _ (h.up h5 (by omega)) (by omega) (by omega) (by omega) (by omega) hl.1 (by omega)).mono ?_
  rintro s ⟨a0, a1, a2, a3, a4, a5⟩
  exact ⟨⟨a0, a1, a2, a3, by omega, by omega⟩, by omega⟩
theorem w_anyImage (b : List Int) (q : Int) (h : Rdr b q) (hq : q ≤ 700000) : Wp (fun k => spec_anyImage.f k b q) (fun r => Spl q r) := by
  unfold spec_anyImage.f
  refine Wp.call (w_anyPlanes b q h (by omega)) ?_
  rintro ⟨p, q'⟩ ⟨hp, e⟩
  simp only at hp e
  subst e
  refine Wp.call (w_randomImage b (q + 1) p (h.up (by omega) (by omega)) (by omega) hp) ?_
  intro r hr
  refine Wp.call (w_randomSpoil b (q + 1) p r (h.up (by omega) (by omega)) (by omega) hp hr) ?_
  rintro s ⟨⟨a0, a1, a2, a3, a4, a5⟩, a6⟩
  refine Wp.ret ⟨a0, a1, a2, a3, by first | omega | (simp only; omega), ?_⟩
  simp only
  omega
end Go.Proofs.Ytchahbdmdcllaaa.P

/- Likeness of drawn images. Plain lemma under bounds. -/
namespace Go.Proofs.Ytchahbdmdcllaaa.P
open Go.RowKit Go.Proofs.YtchahbdmdcllaaaW.PrintWords Go.Proofs.YtchahbdmdcllaaaW.PrintLast Go.Proofs.YtchahbdmdcllaaaW.PrintMore Go.Proofs.Ytchahbdmdcllaaa.Wp
set_option linter.unusedVariables false
set_option linter.unusedSimpArgs false

theorem w_equalImage (a b c : Int) (l : List Int) (a' b' c' : Int) (l' : List Int) (hl : l.length ≤ 1000000000) : Wp (fun k => laws_equalImage.f k a b c l a' b' c' l') (fun r => r = decide ((a, b, c, l) = (a', b', c', l'))) := by
  unfold laws_equalImage.f
  refine Wp.ite (fun h => ?_) (fun h => Wp.ret (decide_eq_false fun e => h (congrArg (·.1) e)).symm)
  refine Wp.ite (fun h1 => ?_) (fun h1 => Wp.ret (decide_eq_false fun e => h1 (congrArg (·.2.1) e)).symm)
  refine Wp.ite (fun h2 => ?_) (fun h2 => Wp.ret (decide_eq_false fun e => h2 (congrArg (·.2.2.1) e)).symm)
  refine Wp.call (w_equalInts l l' hl) ?_
  rintro _ rfl
  refine Wp.ret ?_
  subst h h1 h2
  rw [Bool.eq_iff_iff, decide_eq_true_eq, decide_eq_true_eq]
  exact ⟨fun e => by rw [e], fun e => congrArg (·.2.2.2) e⟩
end Go.Proofs.Ytchahbdmdcllaaa.P

/- Drawn lists that are spoiled in some cases: how long they are, and how far the reader's place has come. Plain lemmas under bounds. -/
namespace Go.Proofs.Ytchahbdmdcllaaa.P
open Go.RowKit Go.Proofs.YtchahbdmdcllaaaW.PrintWords Go.Proofs.YtchahbdmdcllaaaW.PrintLast Go.Proofs.YtchahbdmdcllaaaW.PrintMore Go.Proofs.Ytchahbdmdcllaaa.Wp
set_option linter.unusedVariables false
set_option linter.unusedSimpArgs false

theorem w_spoil (b : List Int) (p : Int) (l : List Int) (n : Int) (h : Rdr b p) (hp : p ≤ 999900) (hl : l.length ≤ 1000000) :
    Wp (fun k => spec_reader_spoil.f k b p l n) (fun r => r.1.length ≤ l.length + 1 ∧ p ≤ r.2 ∧ r.2 ≤ p + 3) := by
  unfold spec_reader_spoil.f
  refine Wp.call (w_copyInts l (by omega)) ?_
  rintro _ rfl
  refine Wp.call (w_pick b p 20 h (by omega) (by omega)) ?_
  rintro _ ⟨x, rfl, x0, x1, _⟩
  have h1 := h.up (q := p + 1) (by omega) (by omega)
  refine Wp.ite (fun _ => Wp.pos (by omega) (Wp.ret ⟨by first | (simp; done) | (simp; omega), by first | (simp; done) | (simp; omega), by first | (simp; done) | (simp; omega)⟩)) (fun _ => ?_)
  refine Wp.ite (fun _ => Wp.ite (fun _ => Wp.pos (by omega) (Wp.ret ⟨by first | (simp; done) | (simp; omega), by first | (simp; done) | (simp; omega), by first | (simp; done) | (simp; omega)⟩)) (fun _ => Wp.ret ⟨by first | (simp; done) | (simp; omega), by first | (simp; done) | (simp; omega), by first | (simp; done) | (simp; omega)⟩)) (fun _ => ?_)
  refine Wp.ite (fun _ => Wp.ite (fun hg => ?_) (fun _ => Wp.ret ⟨by first | (simp; done) | (simp; omega), by first | (simp; done) | (simp; omega), by first | (simp; done) | (simp; omega)⟩)) (fun _ => Wp.ret ⟨by first | (simp; done) | (simp; omega), by first | (simp; done) | (simp; omega), by first | (simp; done) | (simp; omega)⟩)
  refine Wp.call (w_pick b _ _ h1 (by omega) (by omega)) ?_
  rintro _ ⟨y, rfl, y0, y1, _⟩
  have y1 := y1 (by omega)
  have h2 := h.up (q := p + 1 + 1) (by omega) (by omega)
  refine Wp.call (w_one b _ _ h2 (by omega) (by simp) (by simp)) ?_
  rintro _ ⟨z, rfl, hz⟩
  exact Wp.pos y0 (Wp.pos y1 (Wp.ret ⟨by first | (simp; done) | (simp; omega), by first | (simp; done) | (simp; omega), by first | (simp; done) | (simp; omega)⟩))
end Go.Proofs.Ytchahbdmdcllaaa.P

/- The program's UnfilterImage answers as the reference's on drawn lists; what it answers stays as it is when it is filtered and unfiltered. -/
namespace Go.Proofs.Ytchahbdmdcllaaa.Pure
open Go.RowKit Go.Proofs.Ytchahbdmdcllaaa.P Go.Proofs.YtchahbdmdcllaaaW.PrintWords Go.Proofs.Ytchahbdmdcllaaa.Wp
set_option linter.unusedVariables false

theorem w_DrawUnf (l : List Int) (hb : ∀ x ∈ l, (Lit.int .u8 x).wf = true) : Wp (fun k => spec_DrawUnfilterImage.f k l) (fun r => r.2.2.2.length ≤ 10000) := by
  unfold spec_DrawUnfilterImage.f
  refine Wp.call (w_newReader l hb) ?_
  rintro ⟨bb, p⟩ ⟨h, e⟩
  simp only at e h
  subst e
  refine Wp.call (w_anyImage bb 0 h (by omega)) ?_
  rintro ⟨a, b, c, d, q⟩ ⟨_, _, _, hl, hq, hq2⟩
  simp only at hl hq hq2
  refine Wp.call (w_sFilter a b c d (by omega)) ?_
  rintro _ rfl
  have hF := fltI_len a b c d
  have hR : Rdr bb q := h.up hq (by omega)
  have go : ∀ (f : Bool) (q : Int), Rdr bb q → q ≤ 2000 → (f = true → 0 < (fltI a b c d).length) → Wp (fun k => spec_DrawUnfilterImage.j0 k (fltI a b c d) f bb q a b c d) (fun r => r.2.2.2.length ≤ 10000) := by
    intro f q hR hq hf
    refine Wp.step (fun k => spec_DrawUnfilterImage.j0.eq_2 ..) ?_
    refine Wp.ite (fun h1 => ?_) (fun h1 => ?_)
    · refine Wp.call (w_one bb q _ hR (by omega) (by simp) (by simp)) ?_
      rintro _ ⟨x, rfl, hx⟩
      have := hf h1
      refine Wp.pos (by omega) ?_
      refine Wp.call (w_spoil bb (q + 1) _ 256 (hR.up (by omega) (by omega)) (by omega) (by rw [List.length_set]; omega)) ?_
      rintro ⟨y, z⟩ ⟨hy, _⟩
      rw [List.length_set] at hy
      exact Wp.ret (by simp only at hy ⊢; omega)
    · refine Wp.call (w_spoil bb q _ 256 hR (by omega) (by omega)) ?_
      rintro ⟨y, z⟩ ⟨hy, _⟩
      exact Wp.ret (by simp only at hy ⊢; omega)
  refine Wp.ite (fun h1 => ?_) (fun h1 => go false q hR (by omega) (by simp))
  refine Wp.call (w_pick bb q 4 hR (by omega) (by omega)) ?_
  rintro _ ⟨x, rfl, _⟩
  exact go _ _ (hR.up (by simp only; omega) (by simp only; omega)) (by simp only; omega) (fun _ => by omega)
theorem FnUnfilterImage : laws_FnUnfilterImage.Pure := by
  intro l _ _ hb
  refine Wp.rounds ?_
  unfold laws_FnUnfilterImage.f
  refine Wp.ite (fun _ => Wp.ret rfl) (fun _ => ?_)
  refine Wp.call (w_DrawUnf l hb) ?_
  rintro ⟨a, b, c, d⟩ hl
  simp only at hl
  refine Wp.call (w_iUnf a b c d) ?_
  rintro _ rfl
  refine Wp.call (w_sUnf a b c d (by omega)) ?_
  rintro _ rfl
  have hu : (unfI a b c d).2.2.2.1.length ≤ 1000000000 := Nat.le_trans (unfI_len a b c d) (by omega)
  refine Wp.call (w_equalImage _ _ _ _ _ _ _ _ hu) ?_
  rintro _ rfl
  refine Wp.pos (by simp) (Wp.neg (by simp) ?_)
  refine Wp.step (fun k => laws_FnUnfilterImage.j0.eq_2 ..) ?_
  refine Wp.ite (fun h0 => ?_) (fun h0 => ?_)
  · refine Wp.call (w_equalImage _ _ _ _ _ _ _ _ hu) ?_
    rintro _ rfl
    exact Wp.pos (by simp) (Wp.ret (by simp))
  · rcases unfI_ok a b c d with h | ⟨o, h, hi⟩
    · rw [h] at h0
      exact absurd rfl h0
    · rw [h] at hu ⊢
      dsimp only at hu ⊢
      refine Wp.call (w_iFilter a b c o) ?_
      rintro _ rfl
      refine Wp.call (w_iUnf a b c _) ?_
      rintro _ rfl
      refine Wp.call (Q := fun r => r = imgB a b c o) (by
        unfold impl_ValidImage.f
        refine Wp.call (w_iImage a b c o) ?_
        rintro _ rfl
        exact Wp.ret rfl) ?_
      rintro _ rfl
      rw [(unf_flt a b c o hi).1]
      refine Wp.pos hi (Wp.pos rfl ?_)
      refine Wp.call (w_equalImage _ _ _ _ _ _ _ _ hu) ?_
      rintro _ rfl
      exact Wp.ret (by simp)
end Go.Proofs.Ytchahbdmdcllaaa.Pure
