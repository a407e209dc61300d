/- Pure lemmas: what the printed functions answer, for every input; no Go, no memory, no condition but those that each lemma names. -/
import Derived.Test.YtnamhlcdlbjcfaaVWords
import Derived.Test.YtnamhlcdlbjcfaaK1
import Derived.Test.YtnamhlcdlbjcfaaK2
import Derived.Test.YtnamhlcdlbjcfaaK3
namespace Go.Proofs.Ytnamhlcdlbjcfaa.Wp
open Go.RowKit Go.Proofs.YtnamhlcdlbjcfaaW.PrintWords
set_option linter.unusedVariables false
def Wp {α : Type} (g : Nat → Option α) (P : α → Prop) : Prop := ∃ r, P r ∧ ∃ K, ∀ k, K ≤ k → g k = some r
theorem Wp.mono {α : Type} {g : Nat → Option α} {P Q : α → Prop} (h : Wp g P) (hi : ∀ a, P a → Q a) : Wp g Q := by
  obtain ⟨r, hp, K, hk⟩ := h
  exact ⟨r, hi r hp, K, hk⟩
theorem Wp.ret {α : Type} {P : α → Prop} {r : α} (h : P r) : Wp (fun _ => some r) P := ⟨r, h, 0, fun _ _ => rfl⟩
theorem Wp.bind {α β : Type} {g : Nat → Option α} {f : Nat → α → Option β} {P : β → Prop} (h : Wp g (fun a => Wp (fun k => f k a) P)) : Wp (fun k => (g k).bind (f k)) P := by
  obtain ⟨a, ⟨r, hp, K, hk⟩, K', hk'⟩ := h
  refine ⟨r, hp, max K K', fun k hkk => ?_⟩
  show (g k).bind (f k) = some r
  rw [hk' k (by omega)]
  exact hk k (by omega)
theorem Wp.call {α β : Type} {g : Nat → Option α} {f : Nat → α → Option β} {Q : α → Prop} {P : β → Prop} (h : Wp g Q) (hf : ∀ a, Q a → Wp (fun k => f k a) P) : Wp (fun k => (g k).bind (f k)) P :=
  Wp.bind (h.mono hf)
theorem Wp.ite {α : Type} {c : Prop} [Decidable c] {g h : Nat → Option α} {P : α → Prop} (h1 : c → Wp g P) (h2 : ¬ c → Wp h P) : Wp (fun k => if c then g k else h k) P := by
  by_cases hc : c
  · simpa only [if_pos hc] using h1 hc
  · simpa only [if_neg hc] using h2 hc
theorem Wp.pos {α : Type} {c : Prop} [Decidable c] {g h : Nat → Option α} {P : α → Prop} (hc : c) (h1 : Wp g P) : Wp (fun k => if c then g k else h k) P := Wp.ite (fun _ => h1) (fun h => absurd hc h)
theorem Wp.neg {α : Type} {c : Prop} [Decidable c] {g h : Nat → Option α} {P : α → Prop} (hc : ¬ c) (h1 : Wp h P) : Wp (fun k => if c then g k else h k) P := Wp.ite (fun h => absurd h hc) (fun _ => h1)
theorem Wp.step {α : Type} {g f : Nat → Option α} {P : α → Prop} (h : ∀ k, g (k + 1) = f k) (hf : Wp f P) : Wp g P := by
  obtain ⟨r, hp, K, hk⟩ := hf
  refine ⟨r, hp, K + 1, fun k hkk => ?_⟩
  obtain ⟨k, rfl⟩ : ∃ m, k = m + 1 := ⟨k - 1, by omega⟩
  rw [h k]
  exact hk k (by omega)
theorem Wp.of {α : Type} {g : Nat → Option α} {P : α → Prop} {r : α} (h : ∀ k, g k = some r) (hp : P r) : Wp g P := ⟨r, hp, 0, fun k _ => h k⟩
theorem Wp.rounds {α : Type} {g : Nat → Option α} {r : α} (h : Wp g (fun a => a = r)) : ∃ k, g k = some r := by
  obtain ⟨r', rfl, K, hk⟩ := h
  exact ⟨K, hk K (Nat.le_refl K)⟩
theorem w64 {x : Int} (h0 : -9223372036854775808 ≤ x) (h1 : x ≤ 9223372036854775807) : wrap64 x = x := by
  unfold wrap64
  omega
end Go.Proofs.Ytnamhlcdlbjcfaa.Wp
namespace Go.Proofs.Ytnamhlcdlbjcfaa.P
open Go.RowKit Go.Proofs.YtnamhlcdlbjcfaaW.PrintWords Go.Proofs.YtnamhlcdlbjcfaaW.PrintLast Go.Proofs.YtnamhlcdlbjcfaaW.PrintMore Go.Proofs.Ytnamhlcdlbjcfaa.Wp
set_option linter.unusedVariables false
set_option linter.unusedSimpArgs false
theorem bl_rd (l : List Int) (i : Nat) : rd l (i : Int) = l.getD i 0 := by simp [rd]
theorem bl_ext {x l : List Int} (hx : x.length = l.length) (h : ∀ j, j < l.length → x.getD j 0 = l.getD j 0) : x = l := by
  apply List.ext_getElem hx
  intro j h1 h2
  have := h j h2
  simpa [List.getD_eq_getElem?_getD, List.getElem?_eq_getElem h1, List.getElem?_eq_getElem h2] using this
theorem bl_set {x : List Int} {i : Nat} (v : Int) (j : Nat) (hi : i < x.length) : (x.set i v).getD j 0 = if j = i then v else x.getD j 0 := by
  simp only [List.getD_eq_getElem?_getD, List.getElem?_set]
  by_cases h : i = j
  · subst h; simp [hi]
  · simp [h, Ne.symm h, eq_comm]
theorem bl_map_range (f : Nat → Int) (n j : Nat) (hj : j < n) : ((List.range n).map f).getD j 0 = f j := by
  simp [List.getD_eq_getElem?_getD, hj]
theorem bl_all_drop (l : List Int) (p : Int → Bool) (i : Nat) (h : i < l.length) : (l.drop i).all p = (p (l.getD i 0) && (l.drop (i + 1)).all p) := by
  rw [List.drop_eq_getElem_cons h, List.all_cons]
  simp [List.getD_eq_getElem?_getD, List.getElem?_eq_getElem h]
def allB (l : List Int) : Bool := l.all fun n => decide (0 ≤ n ∧ n ≤ 255)
theorem allB_mem {l : List Int} (h : allB l = true) : ∀ x ∈ l, 0 ≤ x ∧ x ≤ 255 := fun x hx => of_decide_eq_true (List.all_eq_true.1 h x hx)
theorem allB_of {l : List Int} (h : ∀ x ∈ l, 0 ≤ x ∧ x ≤ 255) : allB l = true := List.all_eq_true.2 fun x hx => decide_eq_true (h x hx)
theorem w_inRange0 (a b c : Int) : Wp (fun _ => spec_inRange.f a b c) (fun r => r = decide (b ≤ a ∧ a ≤ c)) := by
  unfold spec_inRange.f
  refine Wp.ite (fun h => Wp.ret ?_) (fun h => Wp.ret ?_)
  · simp [h]
  · simp [h]
theorem w_allIn (l : List Int) (a b : Int) (hl : l.length ≤ 1000000000) : Wp (fun k => spec_allIn.f k l a b) (fun r => r = l.all fun n => decide (a ≤ n ∧ n ≤ b)) := by
  unfold spec_allIn.f
  have key : ∀ d (i : Nat), i + d = l.length → Wp (fun k => spec_allIn.l0 k l a b i) (fun r => r = (l.drop i).all fun n => decide (a ≤ n ∧ n ≤ b)) := by
    intro d
    induction d with
    | zero =>
      intro i hd
      refine Wp.step (fun k => spec_allIn.l0.eq_2 ..) (Wp.neg (by omega) (Wp.ret ?_))
      rw [List.drop_of_length_le (by omega)]
      rfl
    | succ d ih =>
      intro i hd
      refine Wp.step (fun k => spec_allIn.l0.eq_2 ..) (Wp.pos (by omega) (Wp.pos (by omega) ?_))
      refine Wp.call (w_inRange0 _ _ _) ?_
      rintro _ rfl
      rw [bl_all_drop l _ i (by omega), bl_rd]
      refine Wp.ite (fun h => ?_) (fun h => Wp.ret ?_)
      · rw [h, Bool.true_and, w64 (x := (i : Int) + 1) (by omega) (by omega)]
        exact ih (i + 1) (by omega)
      · rw [Bool.not_eq_true] at h
        rw [h, Bool.false_and]
  exact key l.length 0 (by omega)
theorem w_allB (l : List Int) (hl : l.length ≤ 1000000000) : Wp (fun k => spec_allIn.f k l 0 255) (fun r => r = allB l) := w_allIn l 0 255 hl
theorem w_toIntS (l : List Int) (hl : l.length ≤ 1000000000) : Wp (fun k => laws_toIntS.f k l) (fun r => r = l) := by
  unfold laws_toIntS.f
  refine Wp.pos (by omega) (Wp.pos (by omega) ?_)
  have key : ∀ d (i : Nat) (x : List Int), i + d = l.length → x.length = l.length → (∀ j, j < i → x.getD j 0 = l.getD j 0) → Wp (fun k => laws_toIntS.l0 k l x i) (fun r => r = l) := by
    intro d
    induction d with
    | zero =>
      intro i x hd hx h
      refine Wp.step (fun k => laws_toIntS.l0.eq_2 ..) (Wp.neg (by omega) (Wp.ret ?_))
      exact bl_ext hx fun j hj => h j (by omega)
    | succ d ih =>
      intro i x hd hx h
      refine Wp.step (fun k => laws_toIntS.l0.eq_2 ..) (Wp.pos (by omega) (Wp.pos (by omega) (Wp.pos (by omega) ?_)))
      rw [w64 (x := (i : Int) + 1) (by omega) (by omega), bl_rd, Int.toNat_natCast]
      refine ih (i + 1) _ (by omega) (by rw [List.length_set]; exact hx) fun j hj => ?_
      rw [bl_set _ _ (by omega)]
      split
      · rename_i e; rw [e]
      · exact h j (by omega)
  exact key l.length 0 _ (by omega) (by simp) (fun j hj => by omega)
theorem w_eqIntS (a b : List Int) (hl : a.length ≤ 1000000000) : Wp (fun k => laws_eqIntS.f k a b) (fun r => r = decide (a = b)) := by
  unfold laws_eqIntS.f
  refine Wp.ite (fun he => ?_) (fun he => Wp.ret ?_)
  · have key : ∀ d (i : Nat), i + d = a.length → (∀ j, j < i → a.getD j 0 = b.getD j 0) → Wp (fun k => laws_eqIntS.l0 k a b i) (fun r => r = decide (a = b)) := by
      intro d
      induction d with
      | zero =>
        intro i hd h
        refine Wp.step (fun k => laws_eqIntS.l0.eq_2 ..) (Wp.neg (by omega) (Wp.ret ?_))
        exact (decide_eq_true (bl_ext (by omega) fun j hj => h j (by omega))).symm
      | succ d ih =>
        intro i hd h
        refine Wp.step (fun k => laws_eqIntS.l0.eq_2 ..) (Wp.pos (by omega) (Wp.pos (by omega) (Wp.pos (by omega) ?_)))
        rw [bl_rd, bl_rd]
        refine Wp.ite (fun h1 => ?_) (fun h1 => Wp.ret ?_)
        · rw [w64 (x := (i : Int) + 1) (by omega) (by omega)]
          refine ih (i + 1) (by omega) fun j hj => ?_
          by_cases e : j = i
          · rw [e]; exact h1
          · exact h j (by omega)
        · exact (decide_eq_false fun e => h1 (by rw [e])).symm
    exact key a.length 0 (by omega) (fun j hj => by omega)
  · exact (decide_eq_false fun e => he (by rw [e])).symm
def marks (a : Int) (n : Nat) : List Int := (List.range n).map fun j : Nat => a + (j : Int)
theorem marks_length (a : Int) (n : Nat) : (marks a n).length = n := by simp [marks]
theorem marks_get (a : Int) (n j : Nat) (hj : j < n) : (marks a n).getD j 0 = a + j := bl_map_range _ n j hj
theorem w_markIntS (l : List Int) (a : Int) (hl : l.length ≤ 1000000000) (h0 : 0 ≤ a) (h1 : a ≤ 1000000000) : Wp (fun k => laws_markIntS.f k l a) (fun r => r = (a + l.length, marks a l.length)) := by
  unfold laws_markIntS.f
  have key : ∀ d (i : Nat) (x : List Int), i + d = l.length → x.length = l.length → (∀ j, j < i → x.getD j 0 = a + j) → Wp (fun k => laws_markIntS.l0 k x (a + i) i) (fun r => r = (a + l.length, marks a l.length)) := by
    intro d
    induction d with
    | zero =>
      intro i x hd hx h
      refine Wp.step (fun k => laws_markIntS.l0.eq_2 ..) (Wp.neg (by omega) (Wp.ret ?_))
      rw [show (i : Int) = l.length by omega]
      congr 1
      exact bl_ext (by rw [marks_length]; exact hx) fun j hj => by rw [marks_length] at hj; rw [marks_get _ _ _ hj]; exact h j (by omega)
    | succ d ih =>
      intro i x hd hx h
      refine Wp.step (fun k => laws_markIntS.l0.eq_2 ..) (Wp.pos (by omega) (Wp.pos (by omega) ?_))
      rw [w64 (x := (i : Int) + 1) (by omega) (by omega), w64 (x := a + (i : Int) + 1) (by omega) (by omega), Int.toNat_natCast]
      have := ih (i + 1) (x.set i (a + i)) (by omega) (by rw [List.length_set]; exact hx) fun j hj => by
        rw [bl_set _ _ (by omega)]
        split
        · rename_i e; rw [e]
        · exact h j (by omega)
      rw [show a + ((i + 1 : Nat) : Int) = a + (i : Int) + 1 by omega] at this
      exact this
  have := key l.length 0 l (by omega) rfl (fun j hj => by omega)
  simpa using this
theorem w_heldIntS (n : Nat) (a : Int) (hl : n ≤ 1000000000) (h0 : 0 ≤ a) (h1 : a ≤ 1000000000) : Wp (fun k => laws_heldIntS.f k (marks a n) a) (fun r => r = a + n) := by
  unfold laws_heldIntS.f
  have hlen : (marks a n).length = n := marks_length a n
  have key : ∀ d (i : Nat), i + d = n → Wp (fun k => laws_heldIntS.l0 k (marks a n) (a + i) i) (fun r => r = a + n) := by
    intro d
    induction d with
    | zero =>
      intro i hd
      refine Wp.step (fun k => laws_heldIntS.l0.eq_2 ..) (Wp.neg (by omega) (Wp.ret ?_))
      omega
    | succ d ih =>
      intro i hd
      refine Wp.step (fun k => laws_heldIntS.l0.eq_2 ..) (Wp.pos (by omega) (Wp.pos (by omega) ?_))
      rw [bl_rd, marks_get _ _ _ (by omega)]
      refine Wp.pos rfl ?_
      rw [w64 (x := (i : Int) + 1) (by omega) (by omega), w64 (x := a + (i : Int) + 1) (by omega) (by omega)]
      have := ih (i + 1) (by omega)
      rw [show a + ((i + 1 : Nat) : Int) = a + (i : Int) + 1 by omega] at this
      exact this
  have := key n 0 (by omega)
  simpa using this
end Go.Proofs.Ytnamhlcdlbjcfaa.P
namespace Go.Proofs.Ytnamhlcdlbjcfaa.P
open Go.RowKit Go.Proofs.YtnamhlcdlbjcfaaW.PrintWords Go.Proofs.YtnamhlcdlbjcfaaW.PrintLast Go.Proofs.YtnamhlcdlbjcfaaW.PrintMore Go.Proofs.Ytnamhlcdlbjcfaa.Wp
set_option linter.unusedVariables false
set_option linter.unusedSimpArgs false
theorem w_szImage (a b c : Int) (l : List Int) (hl : l.length ≤ maxLen) : Wp (fun _ => laws_szImage.f a b c l 1048576) (fun r => r < 0 ∨ l.length ≤ 1048576) := by
  unfold maxLen at hl
  unfold laws_szImage.f laws_szIntS.f
  rw [w64 (x := 1048576 - (l.length : Int)) (by omega) (by omega)]
  refine Wp.call (Q := fun r => r < 0 ∨ l.length ≤ 1048576) ?_ ?_
  · exact Wp.ite (fun _ => Wp.ret (by omega)) (fun _ => Wp.ret (by omega))
  · intro r hr
    exact Wp.ite (fun _ => Wp.ret (by omega)) (fun _ => Wp.ret hr)
theorem w_toImage (a b c : Int) (l : List Int) (hl : l.length ≤ 1000000000) : Wp (fun k => laws_toImage.f k a b c l) (fun r => r = (a, b, c, l)) := by
  unfold laws_toImage.f
  refine Wp.call (w_toIntS l hl) ?_
  rintro _ rfl
  exact Wp.ret rfl
theorem w_eqImage (a b c : Int) (l : List Int) (a' b' c' : Int) (l' : List Int) (hl : l.length ≤ 1000000000) : Wp (fun k => laws_eqImage.f k a b c l a' b' c' l') (fun r => r = decide ((a, b, c, l) = (a', b', c', l'))) := by
  unfold laws_eqImage.f
  refine Wp.ite (fun h => ?_) (fun h => Wp.ret (decide_eq_false fun e => h (congrArg (·.1) e)).symm)
  refine Wp.ite (fun h1 => ?_) (fun h1 => Wp.ret (decide_eq_false fun e => h1 (congrArg (·.2.1) e)).symm)
  refine Wp.ite (fun h2 => ?_) (fun h2 => Wp.ret (decide_eq_false fun e => h2 (congrArg (·.2.2.1) e)).symm)
  refine Wp.call (w_eqIntS l l' hl) ?_
  rintro _ rfl
  refine Wp.ite (fun h3 => Wp.ret ?_) (fun h3 => Wp.ret (decide_eq_false fun e => h3 (decide_eq_true (congrArg (·.2.2.2) e))).symm)
  rw [decide_eq_true_eq] at h3
  rw [h, h1, h2, h3]
  exact (decide_eq_true rfl).symm
theorem w_markImage (a b c : Int) (l : List Int) (x : Int) (hl : l.length ≤ 1000000000) (h0 : 0 ≤ x) (h1 : x ≤ 1000000000) : Wp (fun k => laws_markImage.f k a b c l x) (fun r => r = (x + l.length, marks x l.length)) := by
  unfold laws_markImage.f
  refine Wp.call (w_markIntS l x hl h0 h1) ?_
  rintro _ rfl
  exact Wp.ret rfl
end Go.Proofs.Ytnamhlcdlbjcfaa.P
namespace Go.Proofs.Ytnamhlcdlbjcfaa.P
open Go.RowKit Go.Proofs.YtnamhlcdlbjcfaaW.PrintWords Go.Proofs.YtnamhlcdlbjcfaaW.PrintLast Go.Proofs.YtnamhlcdlbjcfaaW.PrintMore Go.Proofs.Ytnamhlcdlbjcfaa.Wp
set_option linter.unusedVariables false
set_option linter.unusedSimpArgs false
theorem rd_cut (l : List Int) (a b i : Int) (ha : 0 ≤ a) (hi : 0 ≤ i) (hb : a + i < b) : rd ((l.take b.toNat).drop a.toNat) i = rd l (a + i) := by
  unfold rd
  rw [List.getD_eq_getElem?_getD, List.getD_eq_getElem?_getD, List.getElem?_drop, List.getElem?_take, if_pos (by omega)]
  congr 2
  omega
def imgB (a b c : Int) (l : List Int) : Bool := decide ((1 ≤ a ∧ a ≤ 16) ∧ (1 ≤ b ∧ b ≤ 16) ∧ (1 ≤ c ∧ c ≤ 4)) && decide ((l.length : Int) = a * b * c) && allB l
theorem imgB_ok {a b c : Int} {l : List Int} : imgB a b c l = true ↔ ImgOk a b c l := by
  unfold imgB ImgOk
  rw [Bool.and_eq_true, Bool.and_eq_true, decide_eq_true_eq, decide_eq_true_eq]
  constructor
  · rintro ⟨⟨h1, h2⟩, h3⟩
    exact ⟨h1.1, h1.2.1, h1.2.2, h2, allB_mem h3⟩
  · rintro ⟨h1, h2, h3, h4, h5⟩
    exact ⟨⟨⟨h1, h2, h3⟩, h4⟩, allB_of h5⟩
theorem w_iImage (a b c : Int) (l : List Int) : Wp (fun _ => impl_isImage.f a b c l) (fun r => r = imgB a b c l) := by
  obtain ⟨r, hr, hi⟩ := isImage_some a b c l
  refine Wp.of (fun _ => hr) ?_
  rw [Bool.eq_iff_iff, hi, imgB_ok]
theorem w_sImage (a b c : Int) (l : List Int) (hl : l.length ≤ 1000000000) : Wp (fun k => spec_validImage.f k a b c l) (fun r => r = imgB a b c l) := by
  unfold spec_validImage.f spec_validShape.f imgB
  refine Wp.call (Q := fun r => r = decide ((1 ≤ a ∧ a ≤ 16) ∧ (1 ≤ b ∧ b ≤ 16) ∧ (1 ≤ c ∧ c ≤ 4))) ?_ ?_
  · refine Wp.call (w_inRange0 _ _ _) ?_
    rintro _ rfl
    refine Wp.ite (fun h => ?_) (fun h => Wp.ret ?_)
    · refine Wp.call (w_inRange0 _ _ _) ?_
      rintro _ rfl
      refine Wp.ite (fun h2 => ?_) (fun h2 => Wp.ret ?_)
      · refine Wp.call (w_inRange0 _ _ _) ?_
        rintro _ rfl
        refine Wp.ret ?_
        rw [decide_eq_true_eq] at h h2
        rw [Bool.eq_iff_iff, decide_eq_true_eq, decide_eq_true_eq]
        exact ⟨fun h3 => ⟨h, h2, h3⟩, fun h3 => h3.2.2⟩
      · rw [decide_eq_true_eq] at h2
        exact (decide_eq_false fun h3 => h2 h3.2.1).symm
    · rw [decide_eq_true_eq] at h
      exact (decide_eq_false fun h3 => h h3.1).symm
  · rintro _ rfl
    refine Wp.ite (fun h => ?_) (fun h => Wp.ret ?_)
    · rw [h, Bool.true_and]
      rw [decide_eq_true_eq] at h
      obtain ⟨h0, h1, h2⟩ := h
      have hB := img_bounds h0 h1 h2
      rw [w64 (x := a * b) (by omega) (by omega), w64 (x := a * b * c) (by omega) (by omega)]
      refine Wp.ite (fun h3 => ?_) (fun h3 => Wp.ret ?_)
      · rw [decide_eq_true h3, Bool.true_and]
        refine Wp.call (w_allB l hl) ?_
        rintro _ rfl
        exact Wp.ret rfl
      · rw [decide_eq_false h3]; rfl
    · rw [Bool.not_eq_true] at h
      rw [h]; rfl
theorem w_newImage (a b c : Int) (h0 : 0 ≤ a ∧ a ≤ 1000) (h1 : 0 ≤ b ∧ b ≤ 1000) (h2 : 0 ≤ c ∧ c ≤ 1000) : Wp (fun _ => spec_newImage.f a b c) (fun r => r = (a, b, c, List.replicate (a * b * c).toNat 0)) := by
  have m1 : 0 ≤ a * b := Int.mul_nonneg h0.1 h1.1
  have m2 : a * b ≤ 1000 * 1000 := Int.mul_le_mul h0.2 h1.2 h1.1 (by omega)
  have m3 : 0 ≤ a * b * c := Int.mul_nonneg m1 h2.1
  have m4 : a * b * c ≤ 1000000 * 1000 := Int.mul_le_mul m2 h2.2 h2.1 (by omega)
  unfold spec_newImage.f
  rw [w64 (x := a * b) (by omega) (by omega), w64 (x := a * b * c) (by omega) (by omega)]
  exact Wp.pos m3 (Wp.pos (by omega) (Wp.ret rfl))
end Go.Proofs.Ytnamhlcdlbjcfaa.P
namespace Go.Proofs.Ytnamhlcdlbjcfaa.P
open Go.RowKit Go.Proofs.YtnamhlcdlbjcfaaW.PrintWords Go.Proofs.YtnamhlcdlbjcfaaW.PrintLast Go.Proofs.YtnamhlcdlbjcfaaW.PrintMore Go.Proofs.Ytnamhlcdlbjcfaa.Wp
set_option linter.unusedVariables false
set_option linter.unusedSimpArgs false
theorem img_fm (f : Int → Int → List Int) (h : Nat → List Int) (n m : Nat) (hh : ∀ i j, j < n → i < m → f (j : Int) (i : Int) = h (i * n + j)) : imgOf f n m = (List.range (m * n)).flatMap h := by
  induction m with
  | zero => simp [imgOf]
  | succ m ih =>
    rw [imgOf_succ, ih fun i j hj hi => hh i j hj (by omega), Nat.succ_mul, List.range_add, List.flatMap_append]
    congr 1
    unfold imgRow
    rw [List.flatMap_map]
    have : ∀ (a : List Nat), (∀ x ∈ a, x < n) → a.flatMap (fun j : Nat => f (j : Int) (m : Int)) = a.flatMap (fun x => h (m * n + x)) := by
      intro a
      induction a with
      | nil => intro _; rfl
      | cons x a iha =>
        intro hx
        rw [List.flatMap_cons, List.flatMap_cons, iha fun y hy => hx y (List.mem_cons_of_mem _ hy), hh m x (hx x (List.mem_cons_self ..)) (by omega)]
    exact this _ fun x hx => List.mem_range.1 hx
end Go.Proofs.Ytnamhlcdlbjcfaa.P
namespace Go.Proofs.Ytnamhlcdlbjcfaa.P
open Go.RowKit Go.Proofs.YtnamhlcdlbjcfaaW.PrintWords Go.Proofs.YtnamhlcdlbjcfaaW.PrintLast Go.Proofs.YtnamhlcdlbjcfaaW.PrintMore Go.Proofs.Ytnamhlcdlbjcfaa.Wp
set_option linter.unusedVariables false
set_option linter.unusedSimpArgs false
theorem pix_get {l : List Int} {n p x y : Int} (q : Nat) (h0 : 0 ≤ (y * n + x) * p) (hq : (q : Int) < p) : (pixOf l n p x y).getD q 0 = rd l ((y * n + x) * p + q) := by
  unfold pixOf
  have := rd_cut l ((y * n + x) * p) ((y * n + x) * p + p) q h0 (by omega) (by omega)
  rw [← this, bl_rd]
end Go.Proofs.Ytnamhlcdlbjcfaa.P
namespace Go.Proofs.Ytnamhlcdlbjcfaa.P
open Go.RowKit Go.Proofs.YtnamhlcdlbjcfaaW.PrintWords Go.Proofs.YtnamhlcdlbjcfaaW.PrintLast Go.Proofs.YtnamhlcdlbjcfaaW.PrintMore Go.Proofs.Ytnamhlcdlbjcfaa.Wp
set_option linter.unusedVariables false
set_option linter.unusedSimpArgs false
theorem img_nat {a b c : Int} {l : List Int} (hi : imgB a b c l = true) : ∃ a' b' p : Nat, a = a' ∧ b = b' ∧ c = p ∧ (1 ≤ a' ∧ a' ≤ 16) ∧ (1 ≤ b' ∧ b' ≤ 16) ∧ (1 ≤ p ∧ p ≤ 4) ∧ l.length = b' * a' * p ∧ ∀ v ∈ l, 0 ≤ v ∧ v ≤ 255 := by
  obtain ⟨h0, h1, h2, hlen, hB⟩ := imgB_ok.1 hi
  obtain ⟨a, rfl⟩ := Int.eq_ofNat_of_zero_le (show 0 ≤ a by omega)
  obtain ⟨b, rfl⟩ := Int.eq_ofNat_of_zero_le (show 0 ≤ b by omega)
  obtain ⟨p, rfl⟩ := Int.eq_ofNat_of_zero_le (show 0 ≤ c by omega)
  refine ⟨a, b, p, rfl, rfl, rfl, by omega, by omega, by omega, ?_, hB⟩
  rw [← Int.natCast_mul, ← Int.natCast_mul, Nat.mul_comm a b] at hlen
  omega
theorem pix_len (l : List Int) (a b p i j : Nat) (hl : l.length = b * a * p) (hi : i < a) (hj : j < b) : (pixOf l a p i j).length = p := by
  have hf := pix_fits (a0 := a) (a1 := b) (a2 := p) (x := i) (y := j) (by omega) (by omega) (by omega) (by omega) (by omega)
  have hz : 0 ≤ (j : Int) * a := Int.mul_nonneg (by omega) (by omega)
  have := pixOf_length (l := l) (n := a) (p := p) (x := i) (y := j) (Int.mul_nonneg (by omega) (by omega)) (by omega) (by
    rw [hl, Int.natCast_mul, Int.natCast_mul, Int.mul_comm (b : Int)]
    exact hf)
  omega
end Go.Proofs.Ytnamhlcdlbjcfaa.P
namespace Go.Proofs.Ytnamhlcdlbjcfaa.P
open Go.RowKit Go.Proofs.YtnamhlcdlbjcfaaW.PrintWords Go.Proofs.YtnamhlcdlbjcfaaW.PrintLast Go.Proofs.YtnamhlcdlbjcfaaW.PrintMore Go.Proofs.Ytnamhlcdlbjcfaa.Wp
set_option linter.unusedVariables false
set_option linter.unusedSimpArgs false
def splI (a b c : Int) (l : List Int) : List S26 := if imgB a b c l = true then splAll l a b c c.toNat else []
theorem w_iSplit (a b c : Int) (l : List Int) : Wp (fun _ => impl_SplitPlanes.f a b c l) (fun r => r = splI a b c l) := by
  unfold impl_SplitPlanes.f splI
  refine Wp.call (w_iImage a b c l) ?_
  rintro _ rfl
  exact Wp.ite (fun hi => Wp.ret (if_pos hi).symm) (fun hi => Wp.ret (if_neg hi).symm)
theorem one_get (px : List Int) (k : Nat) (h : k < px.length) : (px.take (k + 1)).drop k = [px.getD k 0] := by
  rw [List.take_succ_eq_append_getElem h, List.drop_append_of_le_length (by rw [List.length_take]; omega)]
  rw [List.drop_eq_nil_of_le (by rw [List.length_take]; omega)]
  simp [List.getD_eq_getElem?_getD, h]
theorem spl_get (l : List Int) (a c k x y : Int) (hk : 0 ≤ k) (h : k < (pixOf l a c x y).length) : splPix l a c k x y = [(pixOf l a c x y).getD k.toNat 0] := by
  obtain ⟨k, rfl⟩ := Int.eq_ofNat_of_zero_le hk
  unfold splPix
  rw [show ((k : Int) + 1).toNat = k + 1 by omega, Int.toNat_natCast]
  exact one_get _ k (by omega)
def plI (l : List Int) (p k n : Nat) : List Int := (List.range n).map fun i => l.getD (i * p + k) 0
theorem plI_len (l : List Int) (p k n : Nat) : (plI l p k n).length = n := by simp [plI]
theorem spl_img (l : List Int) (a b p k : Nat) (hl : l.length = b * a * p) (hk : k < p) : imgOf (fun x y => splPix l a p k x y) a b = plI l p k (b * a) := by
  rw [img_fm _ (fun t => [l.getD (t * p + k) 0]) a b ?_]
  · unfold plI
    generalize List.range (b * a) = r
    induction r with
    | nil => rfl
    | cons x r ih => rw [List.flatMap_cons, List.map_cons, ih]; rfl
  · intro i j hj hi
    have hlen := pix_len l a b p j i hl hj hi
    rw [spl_get _ _ _ _ _ _ (by omega) (by omega), Int.toNat_natCast, pix_get k (Int.mul_nonneg (Int.add_nonneg (Int.mul_nonneg (by omega) (by omega)) (by omega)) (by omega)) (by omega)]
    have e : ((i : Int) * a + j) * p + k = (((i * a + j) * p + k : Nat) : Int) := by rw [Int.natCast_add, Int.natCast_mul (i * a + j) p, Int.natCast_add, Int.natCast_mul]
    rw [e, bl_rd]
theorem splAll_pl (l : List Int) (a b p : Nat) (hl : l.length = b * a * p) : ∀ n : Nat, n ≤ p → splAll l a b p n = (List.range n).map fun k => (⟨a, b, 1, plI l p k (b * a)⟩ : S26) := by
  intro n
  induction n with
  | zero => intro _; rfl
  | succ n ih =>
    intro hn
    rw [splAll, ih (by omega), List.range_succ, List.map_append]
    simp only [Int.toNat_natCast]
    rw [spl_img l a b p n hl hn]
    rfl
theorem w_sSplit (a b c : Int) (l : List Int) (hl : l.length ≤ 1000000000) : Wp (fun k => spec_SplitPlanes.f k a b c l) (fun r => r = splI a b c l) := by
  unfold spec_SplitPlanes.f splI
  refine Wp.call (w_sImage a b c l hl) ?_
  rintro _ rfl
  refine Wp.ite (fun hi => ?_) (fun hi => Wp.ret (if_neg hi).symm)
  rw [if_pos hi]
  obtain ⟨a, b, p, rfl, rfl, rfl, ha, hb, hp, hlen, hB⟩ := img_nat hi
  rw [Int.toNat_natCast]
  have m1 : b * a ≤ 16 * 16 := Nat.mul_le_mul (by omega) (by omega)
  have e : ((a : Int) * b * 1).toNat = b * a := by rw [Int.mul_one, ← Int.natCast_mul, Int.toNat_natCast, Nat.mul_comm]
  have key : ∀ d (n : Nat), n + d = p → Wp (fun k => spec_SplitPlanes.l0 k (splAll l a b p n) n a b p l) (fun r => r = splAll l a b p p) := by
    intro d
    induction d with
    | zero =>
      intro n hn
      have : n = p := by omega
      subst this
      exact Wp.step (fun k => spec_SplitPlanes.l0.eq_2 ..) (Wp.neg (by omega) (Wp.ret rfl))
    | succ d ih =>
      intro n hn
      have nx := ih (n + 1) (by omega)
      refine Wp.step (fun k => spec_SplitPlanes.l0.eq_2 ..) (Wp.pos (by omega) ?_)
      refine Wp.call (w_newImage a b 1 (by omega) (by omega) (by omega)) ?_
      rintro _ rfl
      dsimp only
      rw [e]
      have inner : ∀ d (i : Nat) (x : List Int), i + d = b * a → x.length = b * a → (∀ j, j < i → x.getD j 0 = l.getD (j * p + n) 0) → Wp (fun k => spec_SplitPlanes.l1 k (splAll l a b p n) n i a b p l a b 1 x) (fun r => r = splAll l a b p p) := by
        intro d
        induction d with
        | zero =>
          intro i x hd hx h
          have hlA := splAll_len l a b p n
          refine Wp.step (fun k => spec_SplitPlanes.l1.eq_2 ..) (Wp.neg (by omega) (Wp.pos (by omega) ?_))
          rw [w64 (x := (n : Int) + 1) (by omega) (by omega)]
          have ex : x = imgOf (fun x y => splPix l a p n x y) a b := by
            rw [spl_img l a b p n hlen (by omega)]
            refine bl_ext (by rw [hx, plI_len]) fun j hj => ?_
            rw [plI_len] at hj
            unfold plI
            rw [h j (by omega), bl_map_range _ _ _ hj]
          have es : splAll l a b p n ++ [(⟨a, b, 1, x⟩ : S26)] = splAll l a b p (n + 1) := by
            rw [splAll, ex]
            rfl
          rw [es]
          exact nx
        | succ d ih2 =>
          intro i x hd hx h
          have hi2 : i * p + p ≤ b * a * p := by
            have : (i + 1) * p ≤ b * a * p := Nat.mul_le_mul_right p (by omega)
            rw [Nat.succ_mul] at this
            omega
          have m2 : b * a * p ≤ 256 * 4 := Nat.mul_le_mul m1 (by omega)
          refine Wp.step (fun k => spec_SplitPlanes.l1.eq_2 ..) (Wp.pos (by omega) ?_)
          have e2 : (i : Int) * p + n = ((i * p + n : Nat) : Int) := by rw [Int.natCast_add, Int.natCast_mul]
          rw [w64 (x := (i : Int) * p) (by rw [← Int.natCast_mul]; omega) (by rw [← Int.natCast_mul]; omega), e2, w64 (x := ((i * p + n : Nat) : Int)) (by omega) (by omega)]
          refine Wp.pos (by omega) (Wp.pos (by omega) (Wp.pos (by omega) ?_))
          rw [bl_rd, w64 (x := (i : Int) + 1) (by omega) (by omega), Int.toNat_natCast]
          refine ih2 (i + 1) _ (by omega) (by rw [List.length_set]; exact hx) fun j hj => ?_
          rw [bl_set _ _ (by omega)]
          split
          · rename_i ej; rw [ej]
          · exact h j (by omega)
      exact inner (b * a) 0 _ (by omega) (by simp) (fun j hj => absurd hj (Nat.not_lt_zero _))
  exact key p 0 (by omega)
theorem rdT_mem (x : List S26) (i : Nat) (h : i < x.length) : rd_T26 x (i : Int) ∈ x := by
  unfold rd_T26
  rw [Int.toNat_natCast, List.getD_eq_getElem?_getD, List.getElem?_eq_getElem h]
  exact List.getElem_mem _
end Go.Proofs.Ytnamhlcdlbjcfaa.P
namespace Go.Proofs.Ytnamhlcdlbjcfaa.P
open Go.RowKit Go.Proofs.YtnamhlcdlbjcfaaW.PrintWords Go.Proofs.YtnamhlcdlbjcfaaW.PrintLast Go.Proofs.YtnamhlcdlbjcfaaW.PrintMore Go.Proofs.Ytnamhlcdlbjcfaa.Wp
set_option linter.unusedVariables false
set_option linter.unusedSimpArgs false
theorem w_eqImageS (x : List S26) (h : x.length ≤ 1000000) (hm : ∀ m ∈ x, m.f3.length ≤ 1000000000) : Wp (fun k => laws_eqImageS.f k x x) (fun r => r = true) := by
  unfold laws_eqImageS.f
  refine Wp.pos rfl ?_
  have key : ∀ d (i : Nat), i + d = x.length → Wp (fun k => laws_eqImageS.l0 k x x i) (fun r => r = true) := by
    intro d
    induction d with
    | zero =>
      intro i hd
      exact Wp.step (fun k => laws_eqImageS.l0.eq_2 ..) (Wp.neg (by omega) (Wp.ret rfl))
    | succ d ih =>
      intro i hd
      have n := ih (i + 1) (by omega)
      refine Wp.step (fun k => laws_eqImageS.l0.eq_2 ..) (Wp.pos (by omega) (Wp.pos (by omega) (Wp.pos (by omega) ?_)))
      refine Wp.call (w_eqImage _ _ _ _ _ _ _ _ (hm _ (rdT_mem x i (by omega)))) ?_
      rintro _ rfl
      refine Wp.pos (by simp) ?_
      rw [w64 (x := (i : Int) + 1) (by omega) (by omega)]
      exact n
  exact key x.length 0 (by omega)
def totI (L : List S26) : Nat → Nat
  | 0 => 0
  | n + 1 => totI L n + 3 + (L.getD n z26).f3.length
theorem totI_le (L : List S26) {m n : Nat} (h : m ≤ n) : totI L m ≤ totI L n := by
  induction n with
  | zero => rw [show m = 0 by omega]; exact Nat.le_refl _
  | succ n ih =>
    by_cases e : m = n + 1
    · rw [e]; exact Nat.le_refl _
    · have := ih (by omega)
      rw [totI]; omega
theorem totI_B (L : List S26) (b : Nat) (hb : ∀ m ∈ L, m.f3.length ≤ b) : ∀ n, n ≤ L.length → totI L n ≤ n * (b + 3)
  | 0, _ => by rw [totI]; omega
  | n + 1, h => by
    have h1 := totI_B L b hb n (by omega)
    have h2 := hb (L.getD n z26) (by
      rw [List.getD_eq_getElem?_getD, List.getElem?_eq_getElem (by omega)]
      exact List.getElem_mem _)
    rw [totI, Nat.succ_mul]
    omega
def mkI (L : List S26) (a : Int) : List S26 := (List.range L.length).map fun i => ⟨a + (totI L i : Int), a + (totI L i : Int) + 1, a + (totI L i : Int) + 1 + 1, marks (a + (totI L i : Int) + 1 + 1 + 1) (L.getD i z26).f3.length⟩
theorem mkI_len (L : List S26) (a : Int) : (mkI L a).length = L.length := by simp [mkI]
theorem mkI_get (L : List S26) (a : Int) (i : Nat) (h : i < L.length) : (mkI L a).getD i z26 = ⟨a + (totI L i : Int), a + (totI L i : Int) + 1, a + (totI L i : Int) + 1 + 1, marks (a + (totI L i : Int) + 1 + 1 + 1) (L.getD i z26).f3.length⟩ := by
  unfold mkI
  rw [List.getD_eq_getElem?_getD, List.getElem?_map, List.getElem?_range h]
  rfl
theorem sl_ext {x y : List S26} (hl : x.length = y.length) (h : ∀ j, j < x.length → x.getD j z26 = y.getD j z26) : x = y := by
  refine List.ext_getElem hl fun j h1 h2 => ?_
  have := h j h1
  rw [List.getD_eq_getElem?_getD, List.getD_eq_getElem?_getD, List.getElem?_eq_getElem h1, List.getElem?_eq_getElem h2] at this
  exact this
theorem sl_set (x : List S26) (v : S26) {i : Nat} (j : Nat) (h : i < x.length) : (x.set i v).getD j z26 = if j = i then v else x.getD j z26 := by
  split
  · rename_i e
    subst e
    rw [List.getD_eq_getElem?_getD, List.getElem?_set_self h]
    rfl
  · rename_i e
    rw [List.getD_eq_getElem?_getD, List.getElem?_set_ne (by omega), ← List.getD_eq_getElem?_getD]
theorem w_markImageS (L : List S26) (a : Int) (h0 : 0 ≤ a) (h1 : a + (totI L L.length : Int) ≤ 1000000000) (hl : L.length ≤ 1048576) : Wp (fun k => laws_markImageS.f k L a) (fun r => r = (a + (totI L L.length : Int), mkI L a)) := by
  unfold laws_markImageS.f
  have key : ∀ d (i : Nat) (x : List S26), i + d = L.length → x.length = L.length → (∀ j, j < i → x.getD j z26 = (mkI L a).getD j z26) → (∀ j, i ≤ j → j < L.length → x.getD j z26 = L.getD j z26) →
      Wp (fun k => laws_markImageS.l0 k x (a + (totI L i : Int)) i) (fun r => r = (a + (totI L L.length : Int), mkI L a)) := by
    intro d
    induction d with
    | zero =>
      intro i x hd hx h _
      have : i = L.length := by omega
      subst this
      refine Wp.step (fun k => laws_markImageS.l0.eq_2 ..) (Wp.neg (by omega) (Wp.ret ?_))
      congr 1
      exact sl_ext (by rw [mkI_len]; exact hx) fun j hj => h j (by omega)
    | succ d ih =>
      intro i x hd hx h hr
      have ht := totI_le L (show i + 1 ≤ L.length by omega)
      rw [totI] at ht
      refine Wp.step (fun k => laws_markImageS.l0.eq_2 ..) (Wp.pos (by omega) (Wp.pos (by omega) ?_))
      rw [show rd_T26 x (i : Int) = x.getD i z26 from rfl, hr i (Nat.le_refl i) (by omega)]
      rw [w64 (x := a + (totI L i : Int) + 1) (by omega) (by omega), w64 (x := a + (totI L i : Int) + 1 + 1) (by omega) (by omega), w64 (x := a + (totI L i : Int) + 1 + 1 + 1) (by omega) (by omega)]
      refine Wp.call (w_markIntS (L.getD i z26).f3 (a + (totI L i : Int) + 1 + 1 + 1) (by omega) (by omega) (by omega)) ?_
      rintro _ rfl
      rw [w64 (x := (i : Int) + 1) (by omega) (by omega), Int.toNat_natCast]
      have := ih (i + 1) (x.set i ⟨a + (totI L i : Int), a + (totI L i : Int) + 1, a + (totI L i : Int) + 1 + 1, marks (a + (totI L i : Int) + 1 + 1 + 1) (L.getD i z26).f3.length⟩) (by omega) (by rw [List.length_set]; exact hx) (fun j hj => ?_) (fun j hj hj2 => ?_)
      · rw [totI, show a + ((totI L i + 3 + (L.getD i z26).f3.length : Nat) : Int) = a + (totI L i : Int) + 1 + 1 + 1 + ((L.getD i z26).f3.length : Int) by omega] at this
        exact this
      · rw [sl_set _ _ _ (by omega)]
        split
        · rename_i e; rw [e, mkI_get _ _ _ (by omega)]
        · exact h j (by omega)
      · rw [sl_set _ _ _ (by omega), if_neg (by omega)]
        exact hr j (by omega) hj2
  have := key L.length 0 L (by omega) rfl (fun j hj => by omega) (fun j _ _ => rfl)
  rw [totI] at this
  simpa using this
theorem w_heldImageS (L : List S26) (a : Int) (h0 : 0 ≤ a) (h1 : a + (totI L L.length : Int) ≤ 1000000000) (hl : L.length ≤ 1048576) : Wp (fun k => laws_heldImageS.f k (mkI L a) a) (fun r => r = a + (totI L L.length : Int)) := by
  unfold laws_heldImageS.f
  have hlen := mkI_len L a
  have key : ∀ d (i : Nat), i + d = L.length → Wp (fun k => laws_heldImageS.l0 k (mkI L a) (a + (totI L i : Int)) i) (fun r => r = a + (totI L L.length : Int)) := by
    intro d
    induction d with
    | zero =>
      intro i hd
      have : i = L.length := by omega
      subst this
      exact Wp.step (fun k => laws_heldImageS.l0.eq_2 ..) (Wp.neg (by omega) (Wp.ret rfl))
    | succ d ih =>
      intro i hd
      have ht := totI_le L (show i + 1 ≤ L.length by omega)
      rw [totI] at ht
      refine Wp.step (fun k => laws_heldImageS.l0.eq_2 ..) (Wp.pos (by omega) (Wp.pos (by omega) ?_))
      rw [show rd_T26 (mkI L a) (i : Int) = (mkI L a).getD i z26 from rfl, mkI_get _ _ _ (by omega)]
      rw [w64 (x := a + (totI L i : Int) + 1) (by omega) (by omega), w64 (x := a + (totI L i : Int) + 1 + 1) (by omega) (by omega), w64 (x := a + (totI L i : Int) + 1 + 1 + 1) (by omega) (by omega)]
      refine Wp.pos rfl (Wp.pos rfl (Wp.pos rfl ?_))
      refine Wp.call (w_heldIntS (L.getD i z26).f3.length (a + (totI L i : Int) + 1 + 1 + 1) (by omega) (by omega) (by omega)) ?_
      rintro _ rfl
      refine Wp.neg (by omega) ?_
      rw [w64 (x := (i : Int) + 1) (by omega) (by omega)]
      have := ih (i + 1) (by omega)
      rw [totI, show a + ((totI L i + 3 + (L.getD i z26).f3.length : Nat) : Int) = a + (totI L i : Int) + 1 + 1 + 1 + ((L.getD i z26).f3.length : Int) by omega] at this
      exact this
  have := key L.length 0 (by omega)
  rw [totI] at this
  simpa using this
theorem splI_small (a b c : Int) (l : List Int) : (splI a b c l).length ≤ 4 ∧ ∀ m ∈ splI a b c l, m.f3.length ≤ 256 := by
  unfold splI
  split
  · rename_i hi
    obtain ⟨a, b, p, rfl, rfl, rfl, ha, hb, hp, hlen, hB⟩ := img_nat hi
    have m1 : b * a ≤ 16 * 16 := Nat.mul_le_mul (by omega) (by omega)
    rw [Int.toNat_natCast, splAll_pl l a b p hlen p (Nat.le_refl _)]
    refine ⟨by rw [List.length_map, List.length_range]; omega, fun m hm => ?_⟩
    obtain ⟨k, hk, rfl⟩ := List.mem_map.1 hm
    show (plI l p k (b * a)).length ≤ _
    rw [plI_len]
    omega
  · simp
end Go.Proofs.Ytnamhlcdlbjcfaa.P
namespace Go.Proofs.Ytnamhlcdlbjcfaa.Pure
open Go.RowKit Go.Proofs.Ytnamhlcdlbjcfaa.P Go.Proofs.YtnamhlcdlbjcfaaW.PrintWords Go.Proofs.YtnamhlcdlbjcfaaW.PrintMore Go.Proofs.Ytnamhlcdlbjcfaa.Wp
set_option linter.unusedVariables false
theorem FnExactSplitPlanes : laws_FnExactSplitPlanes.Pure := by
  intro a b c l _ _ _ hm _
  refine Wp.rounds ?_
  unfold laws_FnExactSplitPlanes.f
  refine Wp.call (w_szImage a b c l hm) ?_
  intro sz hsz
  refine Wp.ite (fun _ => Wp.ret rfl) (fun h0 => ?_)
  have hl : l.length ≤ 1000000000 := by omega
  obtain ⟨g1, g2⟩ := splI_small a b c l
  have hT := totI_B (splI a b c l) 256 g2 _ (Nat.le_refl _)
  have hs : ∀ P : List S26 → Prop, P (splI a b c l) → Wp (fun k => spec_SplitPlanes.f k a b c l) P := fun P hP => (w_sSplit a b c l hl).mono fun r e => by rw [e]; exact hP
  have hi : ∀ P : List S26 → Prop, P (splI a b c l) → Wp (fun _ => impl_SplitPlanes.f a b c l) P := fun P hP => (w_iSplit a b c l).mono fun r e => by rw [e]; exact hP
  generalize splI a b c l = g at *
  have g3 : ∀ m ∈ g, m.f3.length ≤ 1000000000 := fun m h => Nat.le_trans (g2 m h) (by omega)
  have hT2 : totI g g.length ≤ 4 * 259 := Nat.le_trans hT (Nat.mul_le_mul g1 (Nat.le_refl _))
  clear hT
  repeat' first
    | with_reducible exact Wp.ret rfl
    | with_reducible refine Wp.step (fun k => laws_FnExactSplitPlanes.j0.eq_2 ..) ?_
    | ((with_reducible refine Wp.call (w_toImage _ _ _ _ hl) ?_); rintro _ rfl; dsimp only)
    | ((with_reducible refine Wp.call (hs (fun r => r = g) rfl) ?_); intro z_ hz_; have hy_ := hz_.symm; clear hz_; subst hy_)
    | ((with_reducible refine Wp.call (hi (fun r => r = g) rfl) ?_); intro z_ hz_; have hy_ := hz_.symm; clear hz_; subst hy_)
    | ((with_reducible refine Wp.call (w_eqImageS _ (Nat.le_trans g1 (by omega)) g3) ?_); rintro _ rfl)
    | ((with_reducible refine Wp.call (w_eqImage _ _ _ _ _ _ _ _ hl) ?_); rintro _ rfl)
    | ((with_reducible refine Wp.call (w_markImage _ _ _ _ 1 hl (by omega) (by omega)) ?_); rintro _ rfl; dsimp only)
    | ((with_reducible refine Wp.call (w_markImageS _ 1 (by omega) (by omega) (by omega)) ?_); rintro _ rfl; dsimp only)
    | ((with_reducible refine Wp.call (w_heldImageS _ 1 (by omega) (by omega) (by omega)) ?_); rintro _ rfl)
    | ((with_reducible refine Wp.pos ?c ?_); (case c => first | rfl | omega | (simp; done)))
    | ((with_reducible refine Wp.neg ?c ?_); (case c => first | omega | (simp; done)))
end Go.Proofs.Ytnamhlcdlbjcfaa.Pure
