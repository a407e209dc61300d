/- Pure lemmas: what the printed functions answer, for every input; no Go, no memory, no condition but those that each lemma names. -/
import Derived.Test.YtohbpilokmppbaaVWords
import Derived.Test.YtohbpilokmppbaaK1
import Derived.Test.YtohbpilokmppbaaK2
import Derived.Test.YtohbpilokmppbaaK3
namespace Go.Proofs.Ytohbpilokmppbaa.Wp
open Go.RowKit Go.Proofs.YtohbpilokmppbaaW.PrintWords
set_option linter.unusedVariables false
def Wp {α : Type} (g : Nat → Option α) (P : α → Prop) : Prop := ∃ r, P r ∧ ∃ K, ∀ k, K ≤ k → g k = some r
theorem Wp.mono {α : Type} {g : Nat → Option α} {P Q : α → Prop} (h : Wp g P) (hi : ∀ a, P a → Q a) : Wp g Q := by
  obtain ⟨r, hp, K, hk⟩ := h
  exact ⟨r, hi r hp, K, hk⟩
theorem Wp.ret {α : Type} {P : α → Prop} {r : α} (h : P r) : Wp (fun _ => some r) P := ⟨r, h, 0, fun _ _ => rfl⟩
theorem Wp.bind {α β : Type} {g : Nat → Option α} {f : Nat → α → Option β} {P : β → Prop} (h : Wp g (fun a => Wp (fun k => f k a) P)) : Wp (fun k => (g k).bind (f k)) P := by
  obtain ⟨a, ⟨r, hp, K, hk⟩, K', hk'⟩ := h
  refine ⟨r, hp, max K K', fun k hkk => ?_⟩
  show (g k).bind (f k) = some r
  rw [hk' k (by omega)]
  exact hk k (by omega)
theorem Wp.call {α β : Type} {g : Nat → Option α} {f : Nat → α → Option β} {Q : α → Prop} {P : β → Prop} (h : Wp g Q) (hf : ∀ a, Q a → Wp (fun k => f k a) P) : Wp (fun k => (g k).bind (f k)) P :=
  Wp.bind (h.mono hf)
theorem Wp.ite {α : Type} {c : Prop} [Decidable c] {g h : Nat → Option α} {P : α → Prop} (h1 : c → Wp g P) (h2 : ¬ c → Wp h P) : Wp (fun k => if c then g k else h k) P := by
  by_cases hc : c
  · simpa only [if_pos hc] using h1 hc
  · simpa only [if_neg hc] using h2 hc
theorem Wp.pos {α : Type} {c : Prop} [Decidable c] {g h : Nat → Option α} {P : α → Prop} (hc : c) (h1 : Wp g P) : Wp (fun k => if c then g k else h k) P := Wp.ite (fun _ => h1) (fun h => absurd hc h)
theorem Wp.neg {α : Type} {c : Prop} [Decidable c] {g h : Nat → Option α} {P : α → Prop} (hc : ¬ c) (h1 : Wp h P) : Wp (fun k => if c then g k else h k) P := Wp.ite (fun h => absurd h hc) (fun _ => h1)
theorem Wp.step {α : Type} {g f : Nat → Option α} {P : α → Prop} (h : ∀ k, g (k + 1) = f k) (hf : Wp f P) : Wp g P := by
  obtain ⟨r, hp, K, hk⟩ := hf
  refine ⟨r, hp, K + 1, fun k hkk => ?_⟩
  obtain ⟨k, rfl⟩ : ∃ m, k = m + 1 := ⟨k - 1, by omega⟩
  rw [h k]
  exact hk k (by omega)
theorem Wp.of {α : Type} {g : Nat → Option α} {P : α → Prop} {r : α} (h : ∀ k, g k = some r) (hp : P r) : Wp g P := ⟨r, hp, 0, fun k _ => h k⟩
theorem Wp.rounds {α : Type} {g : Nat → Option α} {r : α} (h : Wp g (fun a => a = r)) : ∃ k, g k = some r := by
  obtain ⟨r', rfl, K, hk⟩ := h
  exact ⟨K, hk K (Nat.le_refl K)⟩
theorem w64 {x : Int} (h0 : -9223372036854775808 ≤ x) (h1 : x ≤ 9223372036854775807) : wrap64 x = x := by
  unfold wrap64
  omega
end Go.Proofs.Ytohbpilokmppbaa.Wp
namespace Go.Proofs.Ytohbpilokmppbaa.P
open Go.RowKit Go.Proofs.YtohbpilokmppbaaW.PrintWords Go.Proofs.YtohbpilokmppbaaW.PrintLast Go.Proofs.YtohbpilokmppbaaW.PrintMore Go.Proofs.Ytohbpilokmppbaa.Wp
set_option linter.unusedVariables false
set_option linter.unusedSimpArgs false
theorem bl_rd (l : List Int) (i : Nat) : rd l (i : Int) = l.getD i 0 := by simp [rd]
theorem bl_ext {x l : List Int} (hx : x.length = l.length) (h : ∀ j, j < l.length → x.getD j 0 = l.getD j 0) : x = l := by
  apply List.ext_getElem hx
  intro j h1 h2
  have := h j h2
  simpa [List.getD_eq_getElem?_getD, List.getElem?_eq_getElem h1, List.getElem?_eq_getElem h2] using this
theorem bl_set {x : List Int} {i : Nat} (v : Int) (j : Nat) (hi : i < x.length) : (x.set i v).getD j 0 = if j = i then v else x.getD j 0 := by
  simp only [List.getD_eq_getElem?_getD, List.getElem?_set]
  by_cases h : i = j
  · subst h; simp [hi]
  · simp [h, Ne.symm h, eq_comm]
theorem bl_map_range (f : Nat → Int) (n j : Nat) (hj : j < n) : ((List.range n).map f).getD j 0 = f j := by
  simp [List.getD_eq_getElem?_getD, hj]
theorem bl_all_drop (l : List Int) (p : Int → Bool) (i : Nat) (h : i < l.length) : (l.drop i).all p = (p (l.getD i 0) && (l.drop (i + 1)).all p) := by
  rw [List.drop_eq_getElem_cons h, List.all_cons]
  simp [List.getD_eq_getElem?_getD, List.getElem?_eq_getElem h]
def allB (l : List Int) : Bool := l.all fun n => decide (0 ≤ n ∧ n ≤ 255)
theorem allB_mem {l : List Int} (h : allB l = true) : ∀ x ∈ l, 0 ≤ x ∧ x ≤ 255 := fun x hx => of_decide_eq_true (List.all_eq_true.1 h x hx)
theorem allB_of {l : List Int} (h : ∀ x ∈ l, 0 ≤ x ∧ x ≤ 255) : allB l = true := List.all_eq_true.2 fun x hx => decide_eq_true (h x hx)
theorem w_inRange0 (a b c : Int) : Wp (fun _ => spec_inRange.f a b c) (fun r => r = decide (b ≤ a ∧ a ≤ c)) := by
  unfold spec_inRange.f
  refine Wp.ite (fun h => Wp.ret ?_) (fun h => Wp.ret ?_)
  · simp [h]
  · simp [h]
theorem w_allIn (l : List Int) (a b : Int) (hl : l.length ≤ 1000000000) : Wp (fun k => spec_allIn.f k l a b) (fun r => r = l.all fun n => decide (a ≤ n ∧ n ≤ b)) := by
  unfold spec_allIn.f
  have key : ∀ d (i : Nat), i + d = l.length → Wp (fun k => spec_allIn.l0 k l a b i) (fun r => r = (l.drop i).all fun n => decide (a ≤ n ∧ n ≤ b)) := by
    intro d
    induction d with
    | zero =>
      intro i hd
      refine Wp.step (fun k => spec_allIn.l0.eq_2 ..) (Wp.neg (by omega) (Wp.ret ?_))
      rw [List.drop_of_length_le (by omega)]
      rfl
    | succ d ih =>
      intro i hd
      refine Wp.step (fun k => spec_allIn.l0.eq_2 ..) (Wp.pos (by omega) (Wp.pos (by omega) ?_))
      refine Wp.call (w_inRange0 _ _ _) ?_
      rintro _ rfl
      rw [bl_all_drop l _ i (by omega), bl_rd]
      refine Wp.ite (fun h => ?_) (fun h => Wp.ret ?_)
      · rw [h, Bool.true_and, w64 (x := (i : Int) + 1) (by omega) (by omega)]
        exact ih (i + 1) (by omega)
      · rw [Bool.not_eq_true] at h
        rw [h, Bool.false_and]
  exact key l.length 0 (by omega)
theorem w_allB (l : List Int) (hl : l.length ≤ 1000000000) : Wp (fun k => spec_allIn.f k l 0 255) (fun r => r = allB l) := w_allIn l 0 255 hl
theorem w_toIntS (l : List Int) (hl : l.length ≤ 1000000000) : Wp (fun k => laws_toIntS.f k l) (fun r => r = l) := by
  unfold laws_toIntS.f
  refine Wp.pos (by omega) (Wp.pos (by omega) ?_)
  have key : ∀ d (i : Nat) (x : List Int), i + d = l.length → x.length = l.length → (∀ j, j < i → x.getD j 0 = l.getD j 0) → Wp (fun k => laws_toIntS.l0 k l x i) (fun r => r = l) := by
    intro d
    induction d with
    | zero =>
      intro i x hd hx h
      refine Wp.step (fun k => laws_toIntS.l0.eq_2 ..) (Wp.neg (by omega) (Wp.ret ?_))
      exact bl_ext hx fun j hj => h j (by omega)
    | succ d ih =>
      intro i x hd hx h
      refine Wp.step (fun k => laws_toIntS.l0.eq_2 ..) (Wp.pos (by omega) (Wp.pos (by omega) (Wp.pos (by omega) ?_)))
      rw [w64 (x := (i : Int) + 1) (by omega) (by omega), bl_rd, Int.toNat_natCast]
      refine ih (i + 1) _ (by omega) (by rw [List.length_set]; exact hx) fun j hj => ?_
      rw [bl_set _ _ (by omega)]
      split
      · rename_i e; rw [e]
      · exact h j (by omega)
  exact key l.length 0 _ (by omega) (by simp) (fun j hj => by omega)
theorem w_eqIntS (a b : List Int) (hl : a.length ≤ 1000000000) : Wp (fun k => laws_eqIntS.f k a b) (fun r => r = decide (a = b)) := by
  unfold laws_eqIntS.f
  refine Wp.ite (fun he => ?_) (fun he => Wp.ret ?_)
  · have key : ∀ d (i : Nat), i + d = a.length → (∀ j, j < i → a.getD j 0 = b.getD j 0) → Wp (fun k => laws_eqIntS.l0 k a b i) (fun r => r = decide (a = b)) := by
      intro d
      induction d with
      | zero =>
        intro i hd h
        refine Wp.step (fun k => laws_eqIntS.l0.eq_2 ..) (Wp.neg (by omega) (Wp.ret ?_))
        exact (decide_eq_true (bl_ext (by omega) fun j hj => h j (by omega))).symm
      | succ d ih =>
        intro i hd h
        refine Wp.step (fun k => laws_eqIntS.l0.eq_2 ..) (Wp.pos (by omega) (Wp.pos (by omega) (Wp.pos (by omega) ?_)))
        rw [bl_rd, bl_rd]
        refine Wp.ite (fun h1 => ?_) (fun h1 => Wp.ret ?_)
        · rw [w64 (x := (i : Int) + 1) (by omega) (by omega)]
          refine ih (i + 1) (by omega) fun j hj => ?_
          by_cases e : j = i
          · rw [e]; exact h1
          · exact h j (by omega)
        · exact (decide_eq_false fun e => h1 (by rw [e])).symm
    exact key a.length 0 (by omega) (fun j hj => by omega)
  · exact (decide_eq_false fun e => he (by rw [e])).symm
def marks (a : Int) (n : Nat) : List Int := (List.range n).map fun j : Nat => a + (j : Int)
theorem marks_length (a : Int) (n : Nat) : (marks a n).length = n := by simp [marks]
theorem marks_get (a : Int) (n j : Nat) (hj : j < n) : (marks a n).getD j 0 = a + j := bl_map_range _ n j hj
theorem w_markIntS (l : List Int) (a : Int) (hl : l.length ≤ 1000000000) (h0 : 0 ≤ a) (h1 : a ≤ 1000000000) : Wp (fun k => laws_markIntS.f k l a) (fun r => r = (a + l.length, marks a l.length)) := by
  unfold laws_markIntS.f
  have key : ∀ d (i : Nat) (x : List Int), i + d = l.length → x.length = l.length → (∀ j, j < i → x.getD j 0 = a + j) → Wp (fun k => laws_markIntS.l0 k x (a + i) i) (fun r => r = (a + l.length, marks a l.length)) := by
    intro d
    induction d with
    | zero =>
      intro i x hd hx h
      refine Wp.step (fun k => laws_markIntS.l0.eq_2 ..) (Wp.neg (by omega) (Wp.ret ?_))
      rw [show (i : Int) = l.length by omega]
      congr 1
      exact bl_ext (by rw [marks_length]; exact hx) fun j hj => by rw [marks_length] at hj; rw [marks_get _ _ _ hj]; exact h j (by omega)
    | succ d ih =>
      intro i x hd hx h
      refine Wp.step (fun k => laws_markIntS.l0.eq_2 ..) (Wp.pos (by omega) (Wp.pos (by omega) ?_))
      rw [w64 (x := (i : Int) + 1) (by omega) (by omega), w64 (x := a + (i : Int) + 1) (by omega) (by omega), Int.toNat_natCast]
      have := ih (i + 1) (x.set i (a + i)) (by omega) (by rw [List.length_set]; exact hx) fun j hj => by
        rw [bl_set _ _ (by omega)]
        split
        · rename_i e; rw [e]
        · exact h j (by omega)
      rw [show a + ((i + 1 : Nat) : Int) = a + (i : Int) + 1 by omega] at this
      exact this
  have := key l.length 0 l (by omega) rfl (fun j hj => by omega)
  simpa using this
theorem w_heldIntS (n : Nat) (a : Int) (hl : n ≤ 1000000000) (h0 : 0 ≤ a) (h1 : a ≤ 1000000000) : Wp (fun k => laws_heldIntS.f k (marks a n) a) (fun r => r = a + n) := by
  unfold laws_heldIntS.f
  have hlen : (marks a n).length = n := marks_length a n
  have key : ∀ d (i : Nat), i + d = n → Wp (fun k => laws_heldIntS.l0 k (marks a n) (a + i) i) (fun r => r = a + n) := by
    intro d
    induction d with
    | zero =>
      intro i hd
      refine Wp.step (fun k => laws_heldIntS.l0.eq_2 ..) (Wp.neg (by omega) (Wp.ret ?_))
      omega
    | succ d ih =>
      intro i hd
      refine Wp.step (fun k => laws_heldIntS.l0.eq_2 ..) (Wp.pos (by omega) (Wp.pos (by omega) ?_))
      rw [bl_rd, marks_get _ _ _ (by omega)]
      refine Wp.pos rfl ?_
      rw [w64 (x := (i : Int) + 1) (by omega) (by omega), w64 (x := a + (i : Int) + 1) (by omega) (by omega)]
      have := ih (i + 1) (by omega)
      rw [show a + ((i + 1 : Nat) : Int) = a + (i : Int) + 1 by omega] at this
      exact this
  have := key n 0 (by omega)
  simpa using this
end Go.Proofs.Ytohbpilokmppbaa.P
namespace Go.Proofs.Ytohbpilokmppbaa.P
open Go.RowKit Go.Proofs.YtohbpilokmppbaaW.PrintWords Go.Proofs.YtohbpilokmppbaaW.PrintLast Go.Proofs.YtohbpilokmppbaaW.PrintMore Go.Proofs.Ytohbpilokmppbaa.Wp
set_option linter.unusedVariables false
set_option linter.unusedSimpArgs false
def imgB (a b c : Int) (l : List Int) : Bool := decide ((1 ≤ a ∧ a ≤ 16) ∧ (1 ≤ b ∧ b ≤ 16) ∧ (1 ≤ c ∧ c ≤ 4)) && decide ((l.length : Int) = a * b * c) && allB l
theorem imgB_ok {a b c : Int} {l : List Int} : imgB a b c l = true ↔ ImgOk a b c l := by
  unfold imgB ImgOk
  rw [Bool.and_eq_true, Bool.and_eq_true, decide_eq_true_eq, decide_eq_true_eq]
  constructor
  · rintro ⟨⟨h1, h2⟩, h3⟩
    exact ⟨h1.1, h1.2.1, h1.2.2, h2, allB_mem h3⟩
  · rintro ⟨h1, h2, h3, h4, h5⟩
    exact ⟨⟨⟨h1, h2, h3⟩, h4⟩, allB_of h5⟩
theorem w_iImage (a b c : Int) (l : List Int) : Wp (fun _ => impl_isImage.f a b c l) (fun r => r = imgB a b c l) := by
  obtain ⟨r, hr, hi⟩ := isImage_some a b c l
  refine Wp.of (fun _ => hr) ?_
  rw [Bool.eq_iff_iff, hi, imgB_ok]
theorem w_sImage (a b c : Int) (l : List Int) (hl : l.length ≤ 1000000000) : Wp (fun k => spec_validImage.f k a b c l) (fun r => r = imgB a b c l) := by
  unfold spec_validImage.f spec_validShape.f imgB
  refine Wp.call (Q := fun r => r = decide ((1 ≤ a ∧ a ≤ 16) ∧ (1 ≤ b ∧ b ≤ 16) ∧ (1 ≤ c ∧ c ≤ 4))) ?_ ?_
  · refine Wp.call (w_inRange0 _ _ _) ?_
    rintro _ rfl
    refine Wp.ite (fun h => ?_) (fun h => Wp.ret ?_)
    · refine Wp.call (w_inRange0 _ _ _) ?_
      rintro _ rfl
      refine Wp.ite (fun h2 => ?_) (fun h2 => Wp.ret ?_)
      · refine Wp.call (w_inRange0 _ _ _) ?_
        rintro _ rfl
        refine Wp.ret ?_
        rw [decide_eq_true_eq] at h h2
        rw [Bool.eq_iff_iff, decide_eq_true_eq, decide_eq_true_eq]
        exact ⟨fun h3 => ⟨h, h2, h3⟩, fun h3 => h3.2.2⟩
      · rw [decide_eq_true_eq] at h2
        exact (decide_eq_false fun h3 => h2 h3.2.1).symm
    · rw [decide_eq_true_eq] at h
      exact (decide_eq_false fun h3 => h h3.1).symm
  · rintro _ rfl
    refine Wp.ite (fun h => ?_) (fun h => Wp.ret ?_)
    · rw [h, Bool.true_and]
      rw [decide_eq_true_eq] at h
      obtain ⟨h0, h1, h2⟩ := h
      have hB := img_bounds h0 h1 h2
      rw [w64 (x := a * b) (by omega) (by omega), w64 (x := a * b * c) (by omega) (by omega)]
      refine Wp.ite (fun h3 => ?_) (fun h3 => Wp.ret ?_)
      · rw [decide_eq_true h3, Bool.true_and]
        refine Wp.call (w_allB l hl) ?_
        rintro _ rfl
        exact Wp.ret rfl
      · rw [decide_eq_false h3]; rfl
    · rw [Bool.not_eq_true] at h
      rw [h]; rfl
end Go.Proofs.Ytohbpilokmppbaa.P
namespace Go.Proofs.Ytohbpilokmppbaa.P
open Go.RowKit Go.Proofs.YtohbpilokmppbaaW.PrintWords Go.Proofs.YtohbpilokmppbaaW.PrintLast Go.Proofs.YtohbpilokmppbaaW.PrintMore Go.Proofs.Ytohbpilokmppbaa.Wp
set_option linter.unusedVariables false
set_option linter.unusedSimpArgs false
theorem img_nat {a b c : Int} {l : List Int} (hi : imgB a b c l = true) : ∃ a' b' p : Nat, a = a' ∧ b = b' ∧ c = p ∧ (1 ≤ a' ∧ a' ≤ 16) ∧ (1 ≤ b' ∧ b' ≤ 16) ∧ (1 ≤ p ∧ p ≤ 4) ∧ l.length = b' * a' * p ∧ ∀ v ∈ l, 0 ≤ v ∧ v ≤ 255 := by
  obtain ⟨h0, h1, h2, hlen, hB⟩ := imgB_ok.1 hi
  obtain ⟨a, rfl⟩ := Int.eq_ofNat_of_zero_le (show 0 ≤ a by omega)
  obtain ⟨b, rfl⟩ := Int.eq_ofNat_of_zero_le (show 0 ≤ b by omega)
  obtain ⟨p, rfl⟩ := Int.eq_ofNat_of_zero_le (show 0 ≤ c by omega)
  refine ⟨a, b, p, rfl, rfl, rfl, by omega, by omega, by omega, ?_, hB⟩
  rw [← Int.natCast_mul, ← Int.natCast_mul, Nat.mul_comm a b] at hlen
  omega
end Go.Proofs.Ytohbpilokmppbaa.P
namespace Go.Proofs.Ytohbpilokmppbaa.P
open Go.RowKit Go.Proofs.YtohbpilokmppbaaW.PrintWords Go.Proofs.YtohbpilokmppbaaW.PrintLast Go.Proofs.YtohbpilokmppbaaW.PrintMore Go.Proofs.Ytohbpilokmppbaa.Wp
set_option linter.unusedVariables false
set_option linter.unusedSimpArgs false
def palI (a b c : Int) (l : List Int) : List (List Int) × Bool :=
  if imgB a b c l = true then (if 16 < (palAll l a c b.toNat).length then ([], false) else (palAll l a c b.toNat, true)) else ([], false)
theorem w_iPal (a b c : Int) (l : List Int) : Wp (fun _ => impl_PaletteOf.f a b c l) (fun r => r = palI a b c l) := by
  unfold impl_PaletteOf.f palI
  refine Wp.call (w_iImage a b c l) ?_
  rintro _ rfl
  refine Wp.ite (fun hi => ?_) (fun hi => Wp.ret (by rw [if_neg hi]))
  rw [if_pos hi]
  exact Wp.ite (fun h => Wp.ret (by rw [if_pos h])) (fun h => Wp.ret (by rw [if_neg h]))
end Go.Proofs.Ytohbpilokmppbaa.P
namespace Go.Proofs.Ytohbpilokmppbaa.P
open Go.RowKit Go.Proofs.YtohbpilokmppbaaW.PrintWords Go.Proofs.YtohbpilokmppbaaW.PrintLast Go.Proofs.YtohbpilokmppbaaW.PrintMore Go.Proofs.Ytohbpilokmppbaa.Wp
set_option linter.unusedVariables false
set_option linter.unusedSimpArgs false
def Small (l : List (List Int)) : Prop := l.length ≤ 1048576 ∧ ∀ y ∈ l, y.length ≤ 1048576
theorem ll_rd (l : List (List Int)) (i : Nat) : rd_L1 l (i : Int) = l.getD i [] := by simp [rd_L1]
theorem ll_mem (l : List (List Int)) (i : Nat) (h : i < l.length) : l.getD i [] ∈ l := by
  rw [List.getD_eq_getElem?_getD, List.getElem?_eq_getElem h]
  exact List.getElem_mem _
theorem ll_ext {x l : List (List Int)} (hx : x.length = l.length) (h : ∀ j, j < l.length → x.getD j [] = l.getD j []) : x = l := by
  apply List.ext_getElem hx
  intro j h1 h2
  have := h j h2
  simpa [List.getD_eq_getElem?_getD, List.getElem?_eq_getElem h1, List.getElem?_eq_getElem h2] using this
theorem ll_set {x : List (List Int)} {i : Nat} (v : List Int) (j : Nat) (hi : i < x.length) : (x.set i v).getD j [] = if j = i then v else x.getD j [] := by
  simp only [List.getD_eq_getElem?_getD, List.getElem?_set]
  by_cases h : i = j
  · subst h; simp [hi]
  · simp [h, Ne.symm h, eq_comm]
theorem w_eqIntSS (a b : List (List Int)) (hl : Small a) : Wp (fun k => laws_eqIntSS.f k a b) (fun r => r = decide (a = b)) := by
  obtain ⟨hl, hy⟩ := hl
  unfold laws_eqIntSS.f
  refine Wp.ite (fun he => ?_) (fun he => Wp.ret ?_)
  · have key : ∀ d (i : Nat), i + d = a.length → (∀ j, j < i → a.getD j [] = b.getD j []) → Wp (fun k => laws_eqIntSS.l0 k a b i) (fun r => r = decide (a = b)) := by
      intro d
      induction d with
      | zero =>
        intro i hd h
        refine Wp.step (fun k => laws_eqIntSS.l0.eq_2 ..) (Wp.neg (by omega) (Wp.ret ?_))
        exact (decide_eq_true (ll_ext (by omega) fun j hj => h j (by omega))).symm
      | succ d ih =>
        intro i hd h
        refine Wp.step (fun k => laws_eqIntSS.l0.eq_2 ..) (Wp.pos (by omega) (Wp.pos (by omega) (Wp.pos (by omega) ?_)))
        rw [ll_rd, ll_rd]
        refine Wp.call (w_eqIntS _ _ (Nat.le_trans (hy _ (ll_mem a i (by omega))) (by omega))) ?_
        rintro _ rfl
        refine Wp.ite (fun h1 => ?_) (fun h1 => Wp.ret ?_)
        · rw [w64 (x := (i : Int) + 1) (by omega) (by omega)]
          refine ih (i + 1) (by omega) fun j hj => ?_
          by_cases e : j = i
          · rw [e]; exact of_decide_eq_true h1
          · exact h j (by omega)
        · exact (decide_eq_false fun e => h1 (decide_eq_true (by rw [e]))).symm
    exact key a.length 0 (by omega) (fun j hj => by omega)
  · exact (decide_eq_false fun e => he (by rw [e])).symm
end Go.Proofs.Ytohbpilokmppbaa.P
namespace Go.Proofs.Ytohbpilokmppbaa.P
open Go.RowKit Go.Proofs.YtohbpilokmppbaaW.PrintWords Go.Proofs.YtohbpilokmppbaaW.PrintLast Go.Proofs.YtohbpilokmppbaaW.PrintMore Go.Proofs.Ytohbpilokmppbaa.Wp
set_option linter.unusedVariables false
set_option linter.unusedSimpArgs false
theorem w_copyInts (l : List Int) (hl : l.length ≤ 1000000000) : Wp (fun _ => spec_copyInts.f l) (fun r => r = l) := by
  unfold spec_copyInts.f
  exact Wp.pos (by simp; omega) (Wp.ret (by simp))
end Go.Proofs.Ytohbpilokmppbaa.P
namespace Go.Proofs.Ytohbpilokmppbaa.P
open Go.RowKit Go.Proofs.YtohbpilokmppbaaW.PrintWords Go.Proofs.YtohbpilokmppbaaW.PrintLast Go.Proofs.YtohbpilokmppbaaW.PrintMore Go.Proofs.Ytohbpilokmppbaa.Wp
set_option linter.unusedVariables false
set_option linter.unusedSimpArgs false
theorem w_sEqL (a b : List Int) (hl : a.length ≤ 1000000000) : Wp (fun k => spec_equalInts.f k a b) (fun r => r = decide (a = b)) := by
  unfold spec_equalInts.f
  refine Wp.ite (fun he => ?_) (fun he => Wp.ret ?_)
  · have key : ∀ d (i : Nat), i + d = a.length → (∀ j, j < i → a.getD j 0 = b.getD j 0) → Wp (fun k => spec_equalInts.l0 k a b i) (fun r => r = decide (a = b)) := by
      intro d
      induction d with
      | zero =>
        intro i hd h
        refine Wp.step (fun k => spec_equalInts.l0.eq_2 ..) (Wp.neg (by omega) (Wp.ret ?_))
        exact (decide_eq_true (bl_ext (by omega) fun j hj => h j (by omega))).symm
      | succ d ih =>
        intro i hd h
        refine Wp.step (fun k => spec_equalInts.l0.eq_2 ..) (Wp.pos (by omega) (Wp.pos (by omega) (Wp.pos (by omega) ?_)))
        rw [bl_rd, bl_rd]
        refine Wp.ite (fun h1 => ?_) (fun h1 => Wp.ret ?_)
        · rw [w64 (x := (i : Int) + 1) (by omega) (by omega)]
          refine ih (i + 1) (by omega) fun j hj => ?_
          by_cases e : j = i
          · rw [e]; exact h1
          · exact h j (by omega)
        · exact (decide_eq_false fun e => h1 (by rw [e])).symm
    exact key a.length 0 (by omega) (fun j hj => by omega)
  · exact (decide_eq_false fun e => he (by rw [e])).symm
theorem w_colorAt (xs : List (List Int)) (px : List Int) (hl : xs.length ≤ 1048576) (hy : ∀ y ∈ xs, y.length ≤ 1048576) :
    Wp (fun k => spec_colorAt.f k xs px) (fun r => (r < 0 ∧ (xs.any fun x => decide (x = px)) = false) ∨ (¬ r < 0 ∧ (xs.any fun x => decide (x = px)) = true)) := by
  unfold spec_colorAt.f
  have key : ∀ d (i : Nat), i + d = xs.length → (∀ j, j < i → ¬ xs.getD j [] = px) →
      Wp (fun k => spec_colorAt.l0 k xs px i) (fun r => (r < 0 ∧ (xs.any fun x => decide (x = px)) = false) ∨ (¬ r < 0 ∧ (xs.any fun x => decide (x = px)) = true)) := by
    intro d
    induction d with
    | zero =>
      intro i hd h
      refine Wp.step (fun k => spec_colorAt.l0.eq_2 ..) (Wp.neg (by omega) (Wp.ret (Or.inl ⟨by decide, ?_⟩)))
      rw [List.any_eq_false]
      intro x hx
      obtain ⟨j, hj, rfl⟩ := List.getElem_of_mem hx
      have := h j (by omega)
      simpa [List.getD_eq_getElem?_getD, List.getElem?_eq_getElem hj] using this
    | succ d ih =>
      intro i hd h
      refine Wp.step (fun k => spec_colorAt.l0.eq_2 ..) (Wp.pos (by omega) (Wp.pos (by omega) ?_))
      rw [ll_rd]
      refine Wp.call (w_sEqL _ _ (Nat.le_trans (hy _ (ll_mem xs i (by omega))) (by omega))) ?_
      rintro _ rfl
      refine Wp.ite (fun h1 => Wp.ret (Or.inr ⟨by omega, ?_⟩)) (fun h1 => ?_)
      · rw [List.any_eq_true]
        exact ⟨_, ll_mem xs i (by omega), h1⟩
      · rw [w64 (x := (i : Int) + 1) (by omega) (by omega)]
        refine ih (i + 1) (by omega) fun j hj => ?_
        by_cases e : j = i
        · rw [e]
          exact fun h2 => h1 (decide_eq_true h2)
        · exact h j (by omega)
  exact key xs.length 0 (by omega) (fun j hj => by omega)
def pxN (l : List Int) (p n : Nat) : List Int := (l.take (n * p + p)).drop (n * p)
def palN (l : List Int) (p : Nat) : Nat → List (List Int)
  | 0 => []
  | n + 1 => palAdd (palN l p n) (pxN l p n)
theorem pxN_len (l : List Int) (p n : Nat) : (pxN l p n).length ≤ p := by
  unfold pxN
  rw [List.length_drop, List.length_take]
  omega
theorem pxN_pix (l : List Int) (a p x y : Nat) : pixOf l a p x y = pxN l p (y * a + x) := by
  unfold pixOf pxN
  have e : ((y : Int) * a + x) * p = (((y * a + x) * p : Nat) : Int) := by rw [Int.natCast_mul (y * a + x) p, Int.natCast_add, Int.natCast_mul]
  rw [e, show (((y * a + x) * p : Nat) : Int) + (p : Int) = (((y * a + x) * p + p : Nat) : Int) by omega, Int.toNat_natCast, Int.toNat_natCast]
theorem palRow_N (l : List Int) (a p y : Nat) : ∀ x, palRow l a p y (palN l p (y * a)) x = palN l p (y * a + x)
  | 0 => rfl
  | x + 1 => by rw [palRow, palRow_N l a p y x, pxN_pix, ← Nat.add_assoc, palN]
theorem palAll_N (l : List Int) (a p : Nat) : ∀ y, palAll l a p y = palN l p (y * a)
  | 0 => by rw [palAll, Nat.zero_mul, palN]
  | y + 1 => by rw [palAll, palAll_N l a p y, Int.toNat_natCast, palRow_N, Nat.succ_mul]
theorem palN_mem (l : List Int) (p : Nat) : ∀ n, ∀ z ∈ palN l p n, ∃ i, i < n ∧ z = pxN l p i
  | 0, z, h => by simp [palN] at h
  | n + 1, z, h => by
    rw [palN, palAdd] at h
    split at h
    · obtain ⟨i, hi, e⟩ := palN_mem l p n z h
      exact ⟨i, by omega, e⟩
    · rcases List.mem_append.1 h with h | h
      · obtain ⟨i, hi, e⟩ := palN_mem l p n z h
        exact ⟨i, by omega, e⟩
      · rw [List.mem_singleton] at h
        exact ⟨n, by omega, h⟩
theorem palN_len (l : List Int) (p : Nat) : ∀ n, (palN l p n).length ≤ n
  | 0 => Nat.le_refl _
  | n + 1 => by
    have := palN_len l p n
    rw [palN, palAdd]
    split
    · omega
    · rw [List.length_append, List.length_singleton]; omega
theorem w_allColors (a b : Int) (p N : Nat) (l : List Int) (hp : p ≤ 4) (hN : N ≤ 256) (hp1 : 1 ≤ p) (hl : l.length = N * p) : Wp (fun k => spec_allColors.f k a b p l) (fun r => r = palN l p N) := by
  unfold spec_allColors.f
  have hlb : l.length ≤ 256 * 4 := hl ▸ Nat.mul_le_mul hN hp
  have key : ∀ d (n : Nat), n + d = N → Wp (fun k => spec_allColors.l0 k (palN l p n) ((n * p : Nat) : Int) a b p l) (fun r => r = palN l p N) := by
    intro d
    induction d with
    | zero =>
      intro n hd
      have : n = N := by omega
      subst this
      exact Wp.step (fun k => spec_allColors.l0.eq_2 ..) (Wp.neg (by omega) (Wp.ret rfl))
    | succ d ih =>
      intro n hd
      have h1 : (n + 1) * p ≤ N * p := Nat.mul_le_mul_right p (by omega)
      have ih := ih (n + 1) (by omega)
      rw [palN] at ih
      rw [Nat.succ_mul] at h1 ih
      refine Wp.step (fun k => spec_allColors.l0.eq_2 ..) ?_
      rw [w64 (x := ((n * p : Nat) : Int) + (p : Int)) (by omega) (by omega), show ((n * p : Nat) : Int) + (p : Int) = ((n * p + p : Nat) : Int) by omega, Int.toNat_natCast, Int.toNat_natCast]
      refine Wp.pos (by omega) (Wp.pos (by omega) (Wp.pos (by omega) (Wp.pos (by omega) ?_)))
      show Wp (fun k => (spec_copyInts.f (pxN l p n)).bind _) _
      refine Wp.call (w_copyInts _ (Nat.le_trans (pxN_len l p n) (by omega))) ?_
      rintro _ rfl
      have hc := palN_len l p n
      refine Wp.call (w_colorAt (palN l p n) (pxN l p n) (by omega) (fun y hy => ?_)) ?_
      · obtain ⟨i, _, rfl⟩ := palN_mem l p n y hy
        exact Nat.le_trans (pxN_len l p i) (by omega)
      rintro r hr
      refine Wp.ite (fun h => Wp.pos (by omega) ?_) (fun h => ?_)
      · have e : palAdd (palN l p n) (pxN l p n) = palN l p n ++ [pxN l p n] := by
          unfold palAdd
          rw [if_neg]
          rcases hr with ⟨_, h2⟩ | ⟨h2, _⟩
          · rw [h2]; decide
          · exact absurd h h2
        rw [e] at ih
        exact ih
      · have e : palAdd (palN l p n) (pxN l p n) = palN l p n := by
          unfold palAdd
          rw [if_pos]
          rcases hr with ⟨h2, _⟩ | ⟨_, h2⟩
          · exact absurd h2 h
          · exact h2
        rw [e] at ih
        exact ih
  have := key N 0 (by omega)
  rw [Nat.zero_mul] at this
  exact this
theorem w_sPal (a b c : Int) (l : List Int) (hl : l.length ≤ 1000000000) : Wp (fun k => spec_PaletteOf.f k a b c l) (fun r => r = palI a b c l) := by
  unfold spec_PaletteOf.f palI
  refine Wp.call (w_sImage a b c l hl) ?_
  rintro _ rfl
  refine Wp.ite (fun hi => ?_) (fun hi => Wp.ret (by rw [if_neg hi]))
  rw [if_pos hi]
  obtain ⟨a', b', p, rfl, rfl, rfl, ha, hb, hp, hlen, _⟩ := img_nat hi
  have hN : b' * a' ≤ 16 * 16 := Nat.mul_le_mul (by omega) (by omega)
  rw [Int.toNat_natCast, palAll_N]
  refine Wp.call (w_allColors a' b' p (b' * a') l (by omega) (by omega) (by omega) hlen) ?_
  rintro _ rfl
  refine Wp.ite (fun h => Wp.ret (by rw [if_pos (by omega)])) (fun h => ?_)
  rw [if_neg (by omega)]
  refine Wp.call (w_allColors a' b' p (b' * a') l (by omega) (by omega) (by omega) hlen) ?_
  rintro _ rfl
  exact Wp.ret rfl
end Go.Proofs.Ytohbpilokmppbaa.P
namespace Go.Proofs.Ytohbpilokmppbaa.P
open Go.RowKit Go.Proofs.YtohbpilokmppbaaW.PrintWords Go.Proofs.YtohbpilokmppbaaW.PrintLast Go.Proofs.YtohbpilokmppbaaW.PrintMore Go.Proofs.Ytohbpilokmppbaa.Wp
set_option linter.unusedVariables false
set_option linter.unusedSimpArgs false
def tot (L : List (List Int)) : Nat → Nat
  | 0 => 0
  | n + 1 => tot L n + (L.getD n []).length
theorem tot_le (L : List (List Int)) {m n : Nat} (h : m ≤ n) : tot L m ≤ tot L n := by
  induction n with
  | zero => rw [show m = 0 by omega]; exact Nat.le_refl _
  | succ n ih =>
    by_cases e : m = n + 1
    · rw [e]; exact Nat.le_refl _
    · have := ih (by omega)
      rw [tot]; omega
def mkS (L : List (List Int)) (a : Int) : List (List Int) := (List.range L.length).map fun i => marks (a + (tot L i : Int)) (L.getD i []).length
theorem mkS_len (L : List (List Int)) (a : Int) : (mkS L a).length = L.length := by simp [mkS]
theorem mkS_get (L : List (List Int)) (a : Int) (i : Nat) (h : i < L.length) : (mkS L a).getD i [] = marks (a + (tot L i : Int)) (L.getD i []).length := by
  unfold mkS
  rw [List.getD_eq_getElem?_getD, List.getElem?_map, List.getElem?_range h]
  rfl
theorem w_markIntSS (L : List (List Int)) (a : Int) (h0 : 0 ≤ a) (h1 : a + (tot L L.length : Int) ≤ 1000000000) (hl : L.length ≤ 1048576) : Wp (fun k => laws_markIntSS.f k L a) (fun r => r = (a + (tot L L.length : Int), mkS L a)) := by
  unfold laws_markIntSS.f
  have key : ∀ d (i : Nat) (x : List (List Int)), i + d = L.length → x.length = L.length → (∀ j, j < i → x.getD j [] = marks (a + (tot L j : Int)) (L.getD j []).length) → (∀ j, i ≤ j → j < L.length → x.getD j [] = L.getD j []) →
      Wp (fun k => laws_markIntSS.l0 k x (a + (tot L i : Int)) i) (fun r => r = (a + (tot L L.length : Int), mkS L a)) := by
    intro d
    induction d with
    | zero =>
      intro i x hd hx h _
      have : i = L.length := by omega
      subst this
      refine Wp.step (fun k => laws_markIntSS.l0.eq_2 ..) (Wp.neg (by omega) (Wp.ret ?_))
      congr 1
      exact ll_ext (by rw [mkS_len]; exact hx) fun j hj => by rw [mkS_len] at hj; rw [mkS_get _ _ _ hj]; exact h j hj
    | succ d ih =>
      intro i x hd hx h hr
      have ht := tot_le L (show i + 1 ≤ L.length by omega)
      rw [tot] at ht
      refine Wp.step (fun k => laws_markIntSS.l0.eq_2 ..) (Wp.pos (by omega) (Wp.pos (by omega) ?_))
      rw [ll_rd, hr i (Nat.le_refl i) (by omega)]
      refine Wp.call (w_markIntS (L.getD i []) (a + (tot L i : Int)) (by omega) (by omega) (by omega)) ?_
      rintro _ rfl
      rw [w64 (x := (i : Int) + 1) (by omega) (by omega), Int.toNat_natCast]
      have := ih (i + 1) (x.set i (marks (a + (tot L i : Int)) (L.getD i []).length)) (by omega) (by rw [List.length_set]; exact hx) (fun j hj => ?_) (fun j hj hj2 => ?_)
      · rw [tot, Int.natCast_add, ← Int.add_assoc] at this
        exact this
      · rw [ll_set _ _ (by omega)]
        split
        · rename_i e; rw [e]
        · exact h j (by omega)
      · rw [ll_set _ _ (by omega), if_neg (by omega)]
        exact hr j (by omega) hj2
  have := key L.length 0 L (by omega) rfl (fun j hj => by omega) (fun j _ _ => rfl)
  rw [tot] at this
  simpa using this
theorem w_heldIntSS (L : List (List Int)) (a : Int) (h0 : 0 ≤ a) (h1 : a + (tot L L.length : Int) ≤ 1000000000) (hl : L.length ≤ 1048576) : Wp (fun k => laws_heldIntSS.f k (mkS L a) a) (fun r => r = a + (tot L L.length : Int)) := by
  unfold laws_heldIntSS.f
  have hlen := mkS_len L a
  have key : ∀ d (i : Nat), i + d = L.length → Wp (fun k => laws_heldIntSS.l0 k (mkS L a) (a + (tot L i : Int)) i) (fun r => r = a + (tot L L.length : Int)) := by
    intro d
    induction d with
    | zero =>
      intro i hd
      have : i = L.length := by omega
      subst this
      exact Wp.step (fun k => laws_heldIntSS.l0.eq_2 ..) (Wp.neg (by omega) (Wp.ret rfl))
    | succ d ih =>
      intro i hd
      have ht := tot_le L (show i + 1 ≤ L.length by omega)
      rw [tot] at ht
      refine Wp.step (fun k => laws_heldIntSS.l0.eq_2 ..) (Wp.pos (by omega) (Wp.pos (by omega) ?_))
      rw [ll_rd, mkS_get _ _ _ (by omega)]
      refine Wp.call (w_heldIntS (L.getD i []).length (a + (tot L i : Int)) (by omega) (by omega) (by omega)) ?_
      rintro _ rfl
      refine Wp.neg (by omega) ?_
      rw [w64 (x := (i : Int) + 1) (by omega) (by omega)]
      have := ih (i + 1) (by omega)
      rw [tot, Int.natCast_add, ← Int.add_assoc] at this
      exact this
  have := key L.length 0 (by omega)
  rw [tot] at this
  simpa using this
end Go.Proofs.Ytohbpilokmppbaa.P
namespace Go.Proofs.Ytohbpilokmppbaa.P
open Go.RowKit Go.Proofs.YtohbpilokmppbaaW.PrintWords Go.Proofs.YtohbpilokmppbaaW.PrintLast Go.Proofs.YtohbpilokmppbaaW.PrintMore Go.Proofs.Ytohbpilokmppbaa.Wp
set_option linter.unusedVariables false
set_option linter.unusedSimpArgs false
theorem w_szImage (a b c : Int) (l : List Int) (hl : l.length ≤ maxLen) : Wp (fun _ => laws_szImage.f a b c l 1048576) (fun r => r < 0 ∨ l.length ≤ 1048576) := by
  unfold maxLen at hl
  unfold laws_szImage.f laws_szIntS.f
  rw [w64 (x := 1048576 - (l.length : Int)) (by omega) (by omega)]
  refine Wp.call (Q := fun r => r < 0 ∨ l.length ≤ 1048576) ?_ ?_
  · exact Wp.ite (fun _ => Wp.ret (by omega)) (fun _ => Wp.ret (by omega))
  · intro r hr
    exact Wp.ite (fun _ => Wp.ret (by omega)) (fun _ => Wp.ret hr)
theorem w_toImage (a b c : Int) (l : List Int) (hl : l.length ≤ 1000000000) : Wp (fun k => laws_toImage.f k a b c l) (fun r => r = (a, b, c, l)) := by
  unfold laws_toImage.f
  refine Wp.call (w_toIntS l hl) ?_
  rintro _ rfl
  exact Wp.ret rfl
theorem w_eqImage (a b c : Int) (l : List Int) (a' b' c' : Int) (l' : List Int) (hl : l.length ≤ 1000000000) : Wp (fun k => laws_eqImage.f k a b c l a' b' c' l') (fun r => r = decide ((a, b, c, l) = (a', b', c', l'))) := by
  unfold laws_eqImage.f
  refine Wp.ite (fun h => ?_) (fun h => Wp.ret (decide_eq_false fun e => h (congrArg (·.1) e)).symm)
  refine Wp.ite (fun h1 => ?_) (fun h1 => Wp.ret (decide_eq_false fun e => h1 (congrArg (·.2.1) e)).symm)
  refine Wp.ite (fun h2 => ?_) (fun h2 => Wp.ret (decide_eq_false fun e => h2 (congrArg (·.2.2.1) e)).symm)
  refine Wp.call (w_eqIntS l l' hl) ?_
  rintro _ rfl
  refine Wp.ite (fun h3 => Wp.ret ?_) (fun h3 => Wp.ret (decide_eq_false fun e => h3 (decide_eq_true (congrArg (·.2.2.2) e))).symm)
  rw [decide_eq_true_eq] at h3
  rw [h, h1, h2, h3]
  exact (decide_eq_true rfl).symm
theorem w_markImage (a b c : Int) (l : List Int) (x : Int) (hl : l.length ≤ 1000000000) (h0 : 0 ≤ x) (h1 : x ≤ 1000000000) : Wp (fun k => laws_markImage.f k a b c l x) (fun r => r = (x + l.length, marks x l.length)) := by
  unfold laws_markImage.f
  refine Wp.call (w_markIntS l x hl h0 h1) ?_
  rintro _ rfl
  exact Wp.ret rfl
end Go.Proofs.Ytohbpilokmppbaa.P
namespace Go.Proofs.Ytohbpilokmppbaa.Pure
open Go.RowKit Go.Proofs.Ytohbpilokmppbaa.P Go.Proofs.YtohbpilokmppbaaW.PrintWords Go.Proofs.YtohbpilokmppbaaW.PrintMore Go.Proofs.Ytohbpilokmppbaa.Wp
set_option linter.unusedVariables false
theorem tot_B (L : List (List Int)) (b : Nat) (hb : ∀ m ∈ L, m.length ≤ b) : ∀ n, n ≤ L.length → tot L n ≤ n * b
  | 0, _ => by rw [tot]; omega
  | n + 1, h => by
    have h1 := tot_B L b hb n (by omega)
    have h2 := hb (L.getD n []) (ll_mem L n (by omega))
    rw [tot, Nat.succ_mul]
    omega
theorem pal_len (a b c : Int) (l : List Int) : (palI a b c l).1.length ≤ 256 ∧ ∀ y ∈ (palI a b c l).1, y.length ≤ 4 := by
  unfold palI
  split
  · rename_i hi
    obtain ⟨a', b', p, rfl, rfl, rfl, ha, hb, hp, hlen, _⟩ := img_nat hi
    have hN : b' * a' ≤ 16 * 16 := Nat.mul_le_mul (by omega) (by omega)
    rw [Int.toNat_natCast, palAll_N]
    have h1 := palN_len l p (b' * a')
    have h2 : ∀ y ∈ palN l p (b' * a'), y.length ≤ 4 := fun y hy => by
      obtain ⟨i, _, rfl⟩ := palN_mem l p _ y hy
      exact Nat.le_trans (pxN_len l p i) (by omega)
    split
    · simp
    · exact ⟨by simp only; omega, h2⟩
  · simp
theorem FnExactPaletteOf : laws_FnExactPaletteOf.Pure := by
  intro a b c l _ _ _ hm _
  refine Wp.rounds ?_
  unfold laws_FnExactPaletteOf.f
  refine Wp.call (w_szImage a b c l hm) ?_
  intro sz hsz
  refine Wp.ite (fun _ => Wp.ret rfl) (fun h0 => ?_)
  have hl : l.length ≤ 1000000000 := by omega
  obtain ⟨p1, p2⟩ := pal_len a b c l
  have hT := tot_B (palI a b c l).1 4 p2 _ (Nat.le_refl _)
  have hs : ∀ P : List (List Int) × Bool → Prop, P (palI a b c l) → Wp (fun k => spec_PaletteOf.f k a b c l) P := fun P hP => (w_sPal a b c l hl).mono fun r e => by rw [e]; exact hP
  have hi : ∀ P : List (List Int) × Bool → Prop, P (palI a b c l) → Wp (fun _ => impl_PaletteOf.f a b c l) P := fun P hP => (w_iPal a b c l).mono fun r e => by rw [e]; exact hP
  generalize palI a b c l = z at *
  obtain ⟨g, ok⟩ := z
  simp only at p1 p2 hT
  have hS : Small g := ⟨by omega, fun y hy => Nat.le_trans (p2 y hy) (by omega)⟩
  repeat' first
    | with_reducible exact Wp.ret rfl
    | with_reducible refine Wp.step (fun k => laws_FnExactPaletteOf.j0.eq_2 ..) ?_
    | with_reducible refine Wp.step (fun k => laws_FnExactPaletteOf.j1.eq_2 ..) ?_
    | with_reducible refine Wp.step (fun k => laws_FnExactPaletteOf.j2.eq_2 ..) ?_
    | ((with_reducible refine Wp.call (w_toImage _ _ _ _ hl) ?_); rintro _ rfl; dsimp only)
    | ((with_reducible refine Wp.call (hs (fun r => r = (g, ok)) rfl) ?_); rintro _ rfl; dsimp only)
    | ((with_reducible refine Wp.call (hi (fun r => r = (g, ok)) rfl) ?_); rintro _ rfl; dsimp only)
    | ((with_reducible refine Wp.call (w_eqIntSS _ _ hS) ?_); rintro _ rfl)
    | ((with_reducible refine Wp.call (w_eqImage _ _ _ _ _ _ _ _ hl) ?_); rintro _ rfl)
    | ((with_reducible refine Wp.call (w_markImage _ _ _ _ 1 hl (by omega) (by omega)) ?_); rintro _ rfl; dsimp only)
    | ((with_reducible refine Wp.call (w_markIntSS _ 1 (by omega) (by omega) (by omega)) ?_); rintro _ rfl; dsimp only)
    | ((with_reducible refine Wp.call (w_heldIntSS _ 1 (by omega) (by omega) (by omega)) ?_); rintro _ rfl)
    | ((with_reducible refine Wp.pos ?c ?_); (case c => first | rfl | omega | (simp; done)))
    | ((with_reducible refine Wp.neg ?c ?_); (case c => first | omega | (simp; done)))
end Go.Proofs.Ytohbpilokmppbaa.Pure
