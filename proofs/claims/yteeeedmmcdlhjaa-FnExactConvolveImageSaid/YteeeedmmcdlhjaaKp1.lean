/- Pure lemmas: what the printed functions answer, for every input; no Go, no memory, no condition but those that each lemma names. -/
import Derived.Test.YteeeedmmcdlhjaaVWords
import Derived.Test.YteeeedmmcdlhjaaK1
import Derived.Test.YteeeedmmcdlhjaaK2
import Derived.Test.YteeeedmmcdlhjaaK3
import Derived.Test.YteeeedmmcdlhjaaK4
namespace Go.Proofs.Yteeeedmmcdlhjaa.Wp
open Go.RowKit Go.Proofs.YteeeedmmcdlhjaaW.PrintWords
set_option linter.unusedVariables false
def Wp {α : Type} (g : Nat → Option α) (P : α → Prop) : Prop := ∃ r, P r ∧ ∃ K, ∀ k, K ≤ k → g k = some r
theorem Wp.mono {α : Type} {g : Nat → Option α} {P Q : α → Prop} (h : Wp g P) (hi : ∀ a, P a → Q a) : Wp g Q := by
  obtain ⟨r, hp, K, hk⟩ := h
  exact ⟨r, hi r hp, K, hk⟩
theorem Wp.ret {α : Type} {P : α → Prop} {r : α} (h : P r) : Wp (fun _ => some r) P := ⟨r, h, 0, fun _ _ => rfl⟩
theorem Wp.bind {α β : Type} {g : Nat → Option α} {f : Nat → α → Option β} {P : β → Prop} (h : Wp g (fun a => Wp (fun k => f k a) P)) : Wp (fun k => (g k).bind (f k)) P := by
  obtain ⟨a, ⟨r, hp, K, hk⟩, K', hk'⟩ := h
  refine ⟨r, hp, max K K', fun k hkk => ?_⟩
  show (g k).bind (f k) = some r
  rw [hk' k (by omega)]
  exact hk k (by omega)
theorem Wp.call {α β : Type} {g : Nat → Option α} {f : Nat → α → Option β} {Q : α → Prop} {P : β → Prop} (h : Wp g Q) (hf : ∀ a, Q a → Wp (fun k => f k a) P) : Wp (fun k => (g k).bind (f k)) P :=
  Wp.bind (h.mono hf)
theorem Wp.ite {α : Type} {c : Prop} [Decidable c] {g h : Nat → Option α} {P : α → Prop} (h1 : c → Wp g P) (h2 : ¬ c → Wp h P) : Wp (fun k => if c then g k else h k) P := by
  by_cases hc : c
  · simpa only [if_pos hc] using h1 hc
  · simpa only [if_neg hc] using h2 hc
theorem Wp.pos {α : Type} {c : Prop} [Decidable c] {g h : Nat → Option α} {P : α → Prop} (hc : c) (h1 : Wp g P) : Wp (fun k => if c then g k else h k) P := Wp.ite (fun _ => h1) (fun h => absurd hc h)
theorem Wp.neg {α : Type} {c : Prop} [Decidable c] {g h : Nat → Option α} {P : α → Prop} (hc : ¬ c) (h1 : Wp h P) : Wp (fun k => if c then g k else h k) P := Wp.ite (fun h => absurd h hc) (fun _ => h1)
theorem Wp.step {α : Type} {g f : Nat → Option α} {P : α → Prop} (h : ∀ k, g (k + 1) = f k) (hf : Wp f P) : Wp g P := by
  obtain ⟨r, hp, K, hk⟩ := hf
  refine ⟨r, hp, K + 1, fun k hkk => ?_⟩
  obtain ⟨k, rfl⟩ : ∃ m, k = m + 1 := ⟨k - 1, by omega⟩
  rw [h k]
  exact hk k (by omega)
theorem Wp.of {α : Type} {g : Nat → Option α} {P : α → Prop} {r : α} (h : ∀ k, g k = some r) (hp : P r) : Wp g P := ⟨r, hp, 0, fun k _ => h k⟩
theorem Wp.rounds {α : Type} {g : Nat → Option α} {r : α} (h : Wp g (fun a => a = r)) : ∃ k, g k = some r := by
  obtain ⟨r', rfl, K, hk⟩ := h
  exact ⟨K, hk K (Nat.le_refl K)⟩
theorem w64 {x : Int} (h0 : -9223372036854775808 ≤ x) (h1 : x ≤ 9223372036854775807) : wrap64 x = x := by
  unfold wrap64
  omega
end Go.Proofs.Yteeeedmmcdlhjaa.Wp
namespace Go.Proofs.Yteeeedmmcdlhjaa.P
open Go.RowKit Go.Proofs.YteeeedmmcdlhjaaW.PrintWords Go.Proofs.YteeeedmmcdlhjaaW.PrintLast Go.Proofs.YteeeedmmcdlhjaaW.PrintMore Go.Proofs.Yteeeedmmcdlhjaa.Wp
set_option linter.unusedVariables false
set_option linter.unusedSimpArgs false
def sumN (f : Nat → Int) : Nat → Int
  | 0 => 0
  | n + 1 => sumN f n + f n
end Go.Proofs.Yteeeedmmcdlhjaa.P
namespace Go.Proofs.Yteeeedmmcdlhjaa.P
open Go.RowKit Go.Proofs.YteeeedmmcdlhjaaW.PrintWords Go.Proofs.YteeeedmmcdlhjaaW.PrintLast Go.Proofs.YteeeedmmcdlhjaaW.PrintMore Go.Proofs.Yteeeedmmcdlhjaa.Wp
set_option linter.unusedVariables false
set_option linter.unusedSimpArgs false
theorem bl_rd (l : List Int) (i : Nat) : rd l (i : Int) = l.getD i 0 := by simp [rd]
theorem bl_ext {x l : List Int} (hx : x.length = l.length) (h : ∀ j, j < l.length → x.getD j 0 = l.getD j 0) : x = l := by
  apply List.ext_getElem hx
  intro j h1 h2
  have := h j h2
  simpa [List.getD_eq_getElem?_getD, List.getElem?_eq_getElem h1, List.getElem?_eq_getElem h2] using this
theorem bl_set {x : List Int} {i : Nat} (v : Int) (j : Nat) (hi : i < x.length) : (x.set i v).getD j 0 = if j = i then v else x.getD j 0 := by
  simp only [List.getD_eq_getElem?_getD, List.getElem?_set]
  by_cases h : i = j
  · subst h; simp [hi]
  · simp [h, Ne.symm h, eq_comm]
theorem bl_map_range (f : Nat → Int) (n j : Nat) (hj : j < n) : ((List.range n).map f).getD j 0 = f j := by
  simp [List.getD_eq_getElem?_getD, hj]
theorem bl_all_drop (l : List Int) (p : Int → Bool) (i : Nat) (h : i < l.length) : (l.drop i).all p = (p (l.getD i 0) && (l.drop (i + 1)).all p) := by
  rw [List.drop_eq_getElem_cons h, List.all_cons]
  simp [List.getD_eq_getElem?_getD, List.getElem?_eq_getElem h]
def allB (l : List Int) : Bool := l.all fun n => decide (0 ≤ n ∧ n ≤ 255)
theorem allB_mem {l : List Int} (h : allB l = true) : ∀ x ∈ l, 0 ≤ x ∧ x ≤ 255 := fun x hx => of_decide_eq_true (List.all_eq_true.1 h x hx)
theorem allB_of {l : List Int} (h : ∀ x ∈ l, 0 ≤ x ∧ x ≤ 255) : allB l = true := List.all_eq_true.2 fun x hx => decide_eq_true (h x hx)
theorem w_inRange0 (a b c : Int) : Wp (fun _ => spec_inRange.f a b c) (fun r => r = decide (b ≤ a ∧ a ≤ c)) := by
  unfold spec_inRange.f
  refine Wp.ite (fun h => Wp.ret ?_) (fun h => Wp.ret ?_)
  · simp [h]
  · simp [h]
theorem w_allIn (l : List Int) (a b : Int) (hl : l.length ≤ 1000000000) : Wp (fun k => spec_allIn.f k l a b) (fun r => r = l.all fun n => decide (a ≤ n ∧ n ≤ b)) := by
  unfold spec_allIn.f
  have key : ∀ d (i : Nat), i + d = l.length → Wp (fun k => spec_allIn.l0 k l a b i) (fun r => r = (l.drop i).all fun n => decide (a ≤ n ∧ n ≤ b)) := by
    intro d
    induction d with
    | zero =>
      intro i hd
      refine Wp.step (fun k => spec_allIn.l0.eq_2 ..) (Wp.neg (by omega) (Wp.ret ?_))
      rw [List.drop_of_length_le (by omega)]
      rfl
    | succ d ih =>
      intro i hd
      refine Wp.step (fun k => spec_allIn.l0.eq_2 ..) (Wp.pos (by omega) (Wp.pos (by omega) ?_))
      refine Wp.call (w_inRange0 _ _ _) ?_
      rintro _ rfl
      rw [bl_all_drop l _ i (by omega), bl_rd]
      refine Wp.ite (fun h => ?_) (fun h => Wp.ret ?_)
      · rw [h, Bool.true_and, w64 (x := (i : Int) + 1) (by omega) (by omega)]
        exact ih (i + 1) (by omega)
      · rw [Bool.not_eq_true] at h
        rw [h, Bool.false_and]
  exact key l.length 0 (by omega)
theorem w_allB (l : List Int) (hl : l.length ≤ 1000000000) : Wp (fun k => spec_allIn.f k l 0 255) (fun r => r = allB l) := w_allIn l 0 255 hl
theorem w_toIntS (l : List Int) (hl : l.length ≤ 1000000000) : Wp (fun k => laws_toIntS.f k l) (fun r => r = l) := by
  unfold laws_toIntS.f
  refine Wp.pos (by omega) (Wp.pos (by omega) ?_)
  have key : ∀ d (i : Nat) (x : List Int), i + d = l.length → x.length = l.length → (∀ j, j < i → x.getD j 0 = l.getD j 0) → Wp (fun k => laws_toIntS.l0 k l x i) (fun r => r = l) := by
    intro d
    induction d with
    | zero =>
      intro i x hd hx h
      refine Wp.step (fun k => laws_toIntS.l0.eq_2 ..) (Wp.neg (by omega) (Wp.ret ?_))
      exact bl_ext hx fun j hj => h j (by omega)
    | succ d ih =>
      intro i x hd hx h
      refine Wp.step (fun k => laws_toIntS.l0.eq_2 ..) (Wp.pos (by omega) (Wp.pos (by omega) (Wp.pos (by omega) ?_)))
      rw [w64 (x := (i : Int) + 1) (by omega) (by omega), bl_rd, Int.toNat_natCast]
      refine ih (i + 1) _ (by omega) (by rw [List.length_set]; exact hx) fun j hj => ?_
      rw [bl_set _ _ (by omega)]
      split
      · rename_i e; rw [e]
      · exact h j (by omega)
  exact key l.length 0 _ (by omega) (by simp) (fun j hj => by omega)
theorem w_eqIntS (a b : List Int) (hl : a.length ≤ 1000000000) : Wp (fun k => laws_eqIntS.f k a b) (fun r => r = decide (a = b)) := by
  unfold laws_eqIntS.f
  refine Wp.ite (fun he => ?_) (fun he => Wp.ret ?_)
  · have key : ∀ d (i : Nat), i + d = a.length → (∀ j, j < i → a.getD j 0 = b.getD j 0) → Wp (fun k => laws_eqIntS.l0 k a b i) (fun r => r = decide (a = b)) := by
      intro d
      induction d with
      | zero =>
        intro i hd h
        refine Wp.step (fun k => laws_eqIntS.l0.eq_2 ..) (Wp.neg (by omega) (Wp.ret ?_))
        exact (decide_eq_true (bl_ext (by omega) fun j hj => h j (by omega))).symm
      | succ d ih =>
        intro i hd h
        refine Wp.step (fun k => laws_eqIntS.l0.eq_2 ..) (Wp.pos (by omega) (Wp.pos (by omega) (Wp.pos (by omega) ?_)))
        rw [bl_rd, bl_rd]
        refine Wp.ite (fun h1 => ?_) (fun h1 => Wp.ret ?_)
        · rw [w64 (x := (i : Int) + 1) (by omega) (by omega)]
          refine ih (i + 1) (by omega) fun j hj => ?_
          by_cases e : j = i
          · rw [e]; exact h1
          · exact h j (by omega)
        · exact (decide_eq_false fun e => h1 (by rw [e])).symm
    exact key a.length 0 (by omega) (fun j hj => by omega)
  · exact (decide_eq_false fun e => he (by rw [e])).symm
def marks (a : Int) (n : Nat) : List Int := (List.range n).map fun j : Nat => a + (j : Int)
theorem marks_length (a : Int) (n : Nat) : (marks a n).length = n := by simp [marks]
theorem marks_get (a : Int) (n j : Nat) (hj : j < n) : (marks a n).getD j 0 = a + j := bl_map_range _ n j hj
theorem w_markIntS (l : List Int) (a : Int) (hl : l.length ≤ 1000000000) (h0 : 0 ≤ a) (h1 : a ≤ 1000000000) : Wp (fun k => laws_markIntS.f k l a) (fun r => r = (a + l.length, marks a l.length)) := by
  unfold laws_markIntS.f
  have key : ∀ d (i : Nat) (x : List Int), i + d = l.length → x.length = l.length → (∀ j, j < i → x.getD j 0 = a + j) → Wp (fun k => laws_markIntS.l0 k x (a + i) i) (fun r => r = (a + l.length, marks a l.length)) := by
    intro d
    induction d with
    | zero =>
      intro i x hd hx h
      refine Wp.step (fun k => laws_markIntS.l0.eq_2 ..) (Wp.neg (by omega) (Wp.ret ?_))
      rw [show (i : Int) = l.length by omega]
      congr 1
      exact bl_ext (by rw [marks_length]; exact hx) fun j hj => by rw [marks_length] at hj; rw [marks_get _ _ _ hj]; exact h j (by omega)
    | succ d ih =>
      intro i x hd hx h
      refine Wp.step (fun k => laws_markIntS.l0.eq_2 ..) (Wp.pos (by omega) (Wp.pos (by omega) ?_))
      rw [w64 (x := (i : Int) + 1) (by omega) (by omega), w64 (x := a + (i : Int) + 1) (by omega) (by omega), Int.toNat_natCast]
      have := ih (i + 1) (x.set i (a + i)) (by omega) (by rw [List.length_set]; exact hx) fun j hj => by
        rw [bl_set _ _ (by omega)]
        split
        · rename_i e; rw [e]
        · exact h j (by omega)
      rw [show a + ((i + 1 : Nat) : Int) = a + (i : Int) + 1 by omega] at this
      exact this
  have := key l.length 0 l (by omega) rfl (fun j hj => by omega)
  simpa using this
theorem w_heldIntS (n : Nat) (a : Int) (hl : n ≤ 1000000000) (h0 : 0 ≤ a) (h1 : a ≤ 1000000000) : Wp (fun k => laws_heldIntS.f k (marks a n) a) (fun r => r = a + n) := by
  unfold laws_heldIntS.f
  have hlen : (marks a n).length = n := marks_length a n
  have key : ∀ d (i : Nat), i + d = n → Wp (fun k => laws_heldIntS.l0 k (marks a n) (a + i) i) (fun r => r = a + n) := by
    intro d
    induction d with
    | zero =>
      intro i hd
      refine Wp.step (fun k => laws_heldIntS.l0.eq_2 ..) (Wp.neg (by omega) (Wp.ret ?_))
      omega
    | succ d ih =>
      intro i hd
      refine Wp.step (fun k => laws_heldIntS.l0.eq_2 ..) (Wp.pos (by omega) (Wp.pos (by omega) ?_))
      rw [bl_rd, marks_get _ _ _ (by omega)]
      refine Wp.pos rfl ?_
      rw [w64 (x := (i : Int) + 1) (by omega) (by omega), w64 (x := a + (i : Int) + 1) (by omega) (by omega)]
      have := ih (i + 1) (by omega)
      rw [show a + ((i + 1 : Nat) : Int) = a + (i : Int) + 1 by omega] at this
      exact this
  have := key n 0 (by omega)
  simpa using this
end Go.Proofs.Yteeeedmmcdlhjaa.P
namespace Go.Proofs.Yteeeedmmcdlhjaa.P
open Go.RowKit Go.Proofs.YteeeedmmcdlhjaaW.PrintWords Go.Proofs.YteeeedmmcdlhjaaW.PrintLast Go.Proofs.YteeeedmmcdlhjaaW.PrintMore Go.Proofs.Yteeeedmmcdlhjaa.Wp
set_option linter.unusedVariables false
set_option linter.unusedSimpArgs false
theorem rd_cut (l : List Int) (a b i : Int) (ha : 0 ≤ a) (hi : 0 ≤ i) (hb : a + i < b) : rd ((l.take b.toNat).drop a.toNat) i = rd l (a + i) := by
  unfold rd
  rw [List.getD_eq_getElem?_getD, List.getD_eq_getElem?_getD, List.getElem?_drop, List.getElem?_take, if_pos (by omega)]
  congr 2
  omega
def imgB (a b c : Int) (l : List Int) : Bool := decide ((1 ≤ a ∧ a ≤ 16) ∧ (1 ≤ b ∧ b ≤ 16) ∧ (1 ≤ c ∧ c ≤ 4)) && decide ((l.length : Int) = a * b * c) && allB l
theorem imgB_ok {a b c : Int} {l : List Int} : imgB a b c l = true ↔ ImgOk a b c l := by
  unfold imgB ImgOk
  rw [Bool.and_eq_true, Bool.and_eq_true, decide_eq_true_eq, decide_eq_true_eq]
  constructor
  · rintro ⟨⟨h1, h2⟩, h3⟩
    exact ⟨h1.1, h1.2.1, h1.2.2, h2, allB_mem h3⟩
  · rintro ⟨h1, h2, h3, h4, h5⟩
    exact ⟨⟨⟨h1, h2, h3⟩, h4⟩, allB_of h5⟩
theorem w_iImage (a b c : Int) (l : List Int) : Wp (fun _ => impl_isImage.f a b c l) (fun r => r = imgB a b c l) := by
  obtain ⟨r, hr, hi⟩ := isImage_some a b c l
  refine Wp.of (fun _ => hr) ?_
  rw [Bool.eq_iff_iff, hi, imgB_ok]
theorem w_sImage (a b c : Int) (l : List Int) (hl : l.length ≤ 1000000000) : Wp (fun k => spec_validImage.f k a b c l) (fun r => r = imgB a b c l) := by
  unfold spec_validImage.f spec_validShape.f imgB
  refine Wp.call (Q := fun r => r = decide ((1 ≤ a ∧ a ≤ 16) ∧ (1 ≤ b ∧ b ≤ 16) ∧ (1 ≤ c ∧ c ≤ 4))) ?_ ?_
  · refine Wp.call (w_inRange0 _ _ _) ?_
    rintro _ rfl
    refine Wp.ite (fun h => ?_) (fun h => Wp.ret ?_)
    · refine Wp.call (w_inRange0 _ _ _) ?_
      rintro _ rfl
      refine Wp.ite (fun h2 => ?_) (fun h2 => Wp.ret ?_)
      · refine Wp.call (w_inRange0 _ _ _) ?_
        rintro _ rfl
        refine Wp.ret ?_
        rw [decide_eq_true_eq] at h h2
        rw [Bool.eq_iff_iff, decide_eq_true_eq, decide_eq_true_eq]
        exact ⟨fun h3 => ⟨h, h2, h3⟩, fun h3 => h3.2.2⟩
      · rw [decide_eq_true_eq] at h2
        exact (decide_eq_false fun h3 => h2 h3.2.1).symm
    · rw [decide_eq_true_eq] at h
      exact (decide_eq_false fun h3 => h h3.1).symm
  · rintro _ rfl
    refine Wp.ite (fun h => ?_) (fun h => Wp.ret ?_)
    · rw [h, Bool.true_and]
      rw [decide_eq_true_eq] at h
      obtain ⟨h0, h1, h2⟩ := h
      have hB := img_bounds h0 h1 h2
      rw [w64 (x := a * b) (by omega) (by omega), w64 (x := a * b * c) (by omega) (by omega)]
      refine Wp.ite (fun h3 => ?_) (fun h3 => Wp.ret ?_)
      · rw [decide_eq_true h3, Bool.true_and]
        refine Wp.call (w_allB l hl) ?_
        rintro _ rfl
        exact Wp.ret rfl
      · rw [decide_eq_false h3]; rfl
    · rw [Bool.not_eq_true] at h
      rw [h]; rfl
end Go.Proofs.Yteeeedmmcdlhjaa.P
namespace Go.Proofs.Yteeeedmmcdlhjaa.P
open Go.RowKit Go.Proofs.YteeeedmmcdlhjaaW.PrintWords Go.Proofs.YteeeedmmcdlhjaaW.PrintLast Go.Proofs.YteeeedmmcdlhjaaW.PrintMore Go.Proofs.Yteeeedmmcdlhjaa.Wp
set_option linter.unusedVariables false
set_option linter.unusedSimpArgs false
theorem fm_len (h : Nat → List Int) (n p : Nat) (hf : ∀ i, i < n → (h i).length = p) : ((List.range n).flatMap h).length = n * p := by
  induction n with
  | zero => simp
  | succ n ih =>
    rw [List.range_succ, List.flatMap_append, List.length_append, ih fun i hi => hf i (by omega), Nat.succ_mul]
    simp [hf n (by omega)]
theorem fm_get (h : Nat → List Int) (n p j q : Nat) (hf : ∀ i, i < n → (h i).length = p) (hj : j < n) (hq : q < p) : ((List.range n).flatMap h).getD (j * p + q) 0 = (h j).getD q 0 := by
  induction n with
  | zero => omega
  | succ n ih =>
    have hlen := fm_len h n p fun i hi => hf i (by omega)
    rw [List.range_succ, List.flatMap_append, List.getD_eq_getElem?_getD]
    by_cases hjn : j < n
    · have : j * p + q < n * p := by
        have : (j + 1) * p ≤ n * p := Nat.mul_le_mul_right p (by omega)
        rw [Nat.succ_mul] at this
        omega
      rw [List.getElem?_append_left (by omega), ← List.getD_eq_getElem?_getD]
      exact ih (fun i hi => hf i (by omega)) hjn
    · have : j = n := by omega
      subst this
      rw [List.getElem?_append_right (by omega), hlen, show j * p + q - j * p = q by omega]
      simp [List.getD_eq_getElem?_getD]
theorem img_len (f : Int → Int → List Int) (n m p : Nat) (hf : ∀ i j : Nat, j < n → i < m → (f j i).length = p) : (imgOf f n m).length = m * n * p := by
  induction m with
  | zero => simp [imgOf]
  | succ m ih =>
    rw [imgOf_succ, List.length_append, ih fun i j hj hi => hf i j hj (by omega)]
    unfold imgRow
    rw [fm_len _ n p fun j hj => hf m j hj (by omega), Nat.succ_mul, Nat.add_mul]
theorem img_get (f : Int → Int → List Int) (n m p i j q : Nat) (hf : ∀ i j : Nat, j < n → i < m → (f j i).length = p) (hj : j < n) (hi : i < m) (hq : q < p) :
    (imgOf f n m).getD ((i * n + j) * p + q) 0 = (f j i).getD q 0 := by
  have e : imgOf f n m = (List.range m).flatMap fun i : Nat => imgRow f i n := rfl
  have hr : ∀ i : Nat, i < m → (imgRow f i n).length = n * p := fun i hi => by
    unfold imgRow
    exact fm_len _ n p fun j hj => hf i j hj hi
  have hb : j * p + q < n * p := by
    have : (j + 1) * p ≤ n * p := Nat.mul_le_mul_right p (by omega)
    rw [Nat.succ_mul] at this
    omega
  rw [e, show (i * n + j) * p + q = i * (n * p) + (j * p + q) by rw [Nat.add_mul, Nat.mul_assoc]; omega, fm_get _ m (n * p) i _ hr hi hb]
  unfold imgRow
  exact fm_get _ n p j q (fun j hj => hf i j hj hi) hj hq
theorem img_ext (f : Int → Int → List Int) (n m p : Nat) (x : List Int) (hf : ∀ i j : Nat, j < n → i < m → (f j i).length = p) (hx : x.length = m * n * p)
    (h : ∀ i j q : Nat, i < m → j < n → q < p → x.getD ((i * n + j) * p + q) 0 = (f j i).getD q 0) : x = imgOf f n m := by
  refine bl_ext (by rw [hx, img_len f n m p hf]) fun t ht => ?_
  rw [img_len f n m p hf] at ht
  have hp : 0 < p := by rcases Nat.eq_zero_or_pos p with h | h; (· subst h; omega); exact h
  have ht2 : t / p < m * n := Nat.div_lt_of_lt_mul (by rw [Nat.mul_comm]; exact ht)
  have hn : 0 < n := by rcases Nat.eq_zero_or_pos n with h | h; (· subst h; omega); exact h
  have hi : t / p / n < m := Nat.div_lt_of_lt_mul (by rw [Nat.mul_comm]; exact ht2)
  have hj : t / p % n < n := Nat.mod_lt _ hn
  have hq : t % p < p := Nat.mod_lt _ hp
  have e1 : t / p / n * n + t / p % n = t / p := by rw [Nat.mul_comm]; exact Nat.div_add_mod _ _
  have e2 : t / p * p + t % p = t := by rw [Nat.mul_comm]; exact Nat.div_add_mod _ _
  have h1 := h _ _ _ hi hj hq
  have h2 := img_get f n m p _ _ _ hf hj hi hq
  rw [e1, e2] at h1 h2
  rw [h1, h2]
end Go.Proofs.Yteeeedmmcdlhjaa.P
namespace Go.Proofs.Yteeeedmmcdlhjaa.P
open Go.RowKit Go.Proofs.YteeeedmmcdlhjaaW.PrintWords Go.Proofs.YteeeedmmcdlhjaaW.PrintLast Go.Proofs.YteeeedmmcdlhjaaW.PrintMore Go.Proofs.Yteeeedmmcdlhjaa.Wp
set_option linter.unusedVariables false
set_option linter.unusedSimpArgs false
theorem pix_get {l : List Int} {n p x y : Int} (q : Nat) (h0 : 0 ≤ (y * n + x) * p) (hq : (q : Int) < p) : (pixOf l n p x y).getD q 0 = rd l ((y * n + x) * p + q) := by
  unfold pixOf
  have := rd_cut l ((y * n + x) * p) ((y * n + x) * p + p) q h0 (by omega) (by omega)
  rw [← this, bl_rd]
theorem img_congr (f g : Int → Int → List Int) (n m : Nat) (h : ∀ i j : Nat, j < n → i < m → f j i = g j i) : imgOf f n m = imgOf g n m := by
  induction m with
  | zero => rfl
  | succ m ih =>
    rw [imgOf_succ, imgOf_succ, ih fun i j hj hi => h i j hj (by omega)]
    congr 1
    have hm : ∀ j : Nat, j < n → f j m = g j m := fun j hj => h m j hj (by omega)
    clear ih h
    induction n with
    | zero => rfl
    | succ n ih => rw [imgRow_succ, imgRow_succ, ih fun j hj => hm j (by omega), hm n (by omega)]
end Go.Proofs.Yteeeedmmcdlhjaa.P
namespace Go.Proofs.Yteeeedmmcdlhjaa.P
open Go.RowKit Go.Proofs.YteeeedmmcdlhjaaW.PrintWords Go.Proofs.YteeeedmmcdlhjaaW.PrintLast Go.Proofs.YteeeedmmcdlhjaaW.PrintMore Go.Proofs.Yteeeedmmcdlhjaa.Wp
set_option linter.unusedVariables false
set_option linter.unusedSimpArgs false
theorem mul_small {a b : Int} (m n : Int) (h0 : 0 ≤ a) (h1 : a ≤ m) (h2 : 0 ≤ b) (h3 : b ≤ n) : 0 ≤ a * b ∧ a * b ≤ m * n := ⟨Int.mul_nonneg h0 h2, Int.mul_le_mul h1 h3 h2 (by omega)⟩
def dat (l : List Int) (a p q : Nat) (i j : Nat) : Int := l.getD ((j * a + i) * p + q) 0
theorem dat_pix (l : List Int) (a b p : Nat) (hl : l.length = b * a * p) (i j q : Nat) (hi : i < a) (hj : j < b) (hq : q < p) : (pixOf l a p i j).getD q 0 = dat l a p q i j := by
  have e : ((j : Int) * a + i) * p = (((j * a + i) * p : Nat) : Int) := by rw [Int.natCast_mul (j * a + i) p, Int.natCast_add, Int.natCast_mul]
  rw [pix_get q (by rw [e]; omega) (by omega), e, ← Int.natCast_add, bl_rd]
  rfl
theorem dat_B (l : List Int) (a b p : Nat) (hl : l.length = b * a * p) (hB : ∀ v ∈ l, 0 ≤ v ∧ v ≤ 255) (i j q : Nat) (hi : i < a) (hj : j < b) (hq : q < p) : 0 ≤ dat l a p q i j ∧ dat l a p q i j ≤ 255 := by
  have h1 : j * a + i + 1 ≤ b * a := by
    have : (j + 1) * a ≤ b * a := Nat.mul_le_mul_right a hj
    rw [Nat.succ_mul] at this
    omega
  have h2 : (j * a + i + 1) * p ≤ b * a * p := Nat.mul_le_mul_right p h1
  rw [Nat.succ_mul] at h2
  refine hB _ ?_
  unfold dat
  rw [List.getD_eq_getElem?_getD, List.getElem?_eq_getElem (show (j * a + i) * p + q < l.length by omega)]
  exact List.getElem_mem _
theorem img_nat {a b c : Int} {l : List Int} (hi : imgB a b c l = true) : ∃ a' b' p : Nat, a = a' ∧ b = b' ∧ c = p ∧ (1 ≤ a' ∧ a' ≤ 16) ∧ (1 ≤ b' ∧ b' ≤ 16) ∧ (1 ≤ p ∧ p ≤ 4) ∧ l.length = b' * a' * p ∧ ∀ v ∈ l, 0 ≤ v ∧ v ≤ 255 := by
  obtain ⟨h0, h1, h2, hlen, hB⟩ := imgB_ok.1 hi
  obtain ⟨a, rfl⟩ := Int.eq_ofNat_of_zero_le (show 0 ≤ a by omega)
  obtain ⟨b, rfl⟩ := Int.eq_ofNat_of_zero_le (show 0 ≤ b by omega)
  obtain ⟨p, rfl⟩ := Int.eq_ofNat_of_zero_le (show 0 ≤ c by omega)
  refine ⟨a, b, p, rfl, rfl, rfl, by omega, by omega, by omega, ?_, hB⟩
  rw [← Int.natCast_mul, ← Int.natCast_mul, Nat.mul_comm a b] at hlen
  omega
end Go.Proofs.Yteeeedmmcdlhjaa.P
namespace Go.Proofs.Yteeeedmmcdlhjaa.P
open Go.RowKit Go.Proofs.YteeeedmmcdlhjaaW.PrintWords Go.Proofs.YteeeedmmcdlhjaaW.PrintLast Go.Proofs.YteeeedmmcdlhjaaW.PrintMore Go.Proofs.Yteeeedmmcdlhjaa.Wp
set_option linter.unusedVariables false
set_option linter.unusedSimpArgs false
theorem fd_emod_le (a b : Int) (ha : 0 ≤ a) (hb : 0 < b) : a % b ≤ a := by
  obtain ⟨m, rfl⟩ := Int.eq_ofNat_of_zero_le ha
  obtain ⟨n, rfl⟩ := Int.eq_ofNat_of_zero_le (Int.le_of_lt hb)
  have := Nat.mod_le m n
  omega
theorem fd_parts (a b : Int) (hb : 0 < b) : (0 ≤ Int.tmod a b ∧ a / b = Int.tdiv a b) ∨ (Int.tmod a b < 0 ∧ a / b = Int.tdiv a b - 1) := by
  have h1 : Int.tmod a b + b * Int.tdiv a b = a := Int.tmod_add_mul_tdiv a b
  have h2 : Int.tmod a b < b := Int.tmod_lt_of_pos a hb
  rcases Int.lt_or_le a 0 with ha | ha
  · have h3 : 0 ≤ Int.tmod (-a) b := Int.tmod_nonneg b (by omega)
    have h4 : Int.tmod (-a) b < b := Int.tmod_lt_of_pos (-a) hb
    rw [Int.neg_tmod] at h3 h4
    by_cases hz : Int.tmod a b = 0
    · left
      refine ⟨by omega, ?_⟩
      exact ((Int.ediv_emod_unique (r := Int.tmod a b) (q := Int.tdiv a b) hb).2 ⟨h1, by omega, h2⟩).1
    · right
      refine ⟨by omega, ?_⟩
      refine ((Int.ediv_emod_unique (r := Int.tmod a b + b) (q := Int.tdiv a b - 1) hb).2 ⟨?_, by omega, by omega⟩).1
      rw [Int.mul_sub]
      omega
  · left
    refine ⟨Int.tmod_nonneg b ha, ?_⟩
    exact (Int.tdiv_eq_ediv_of_nonneg ha).symm
theorem fd_bound (a b : Int) (hb : 0 < b) : -(a.natAbs : Int) ≤ Int.tdiv a b ∧ Int.tdiv a b ≤ a.natAbs := by
  have := Int.natAbs_tdiv_le_natAbs a b
  omega
theorem fd_mul (a b : Int) (hb : 0 < b) : Int.tdiv a b * b = a - Int.tmod a b := by
  have h1 : Int.tmod a b + b * Int.tdiv a b = a := Int.tmod_add_mul_tdiv a b
  rw [Int.mul_comm]
  omega
theorem fd_tmod_bound (a b : Int) (hb : 0 < b) : -(a.natAbs : Int) ≤ Int.tmod a b ∧ Int.tmod a b ≤ a.natAbs := by
  rcases Int.lt_or_le a 0 with ha | ha
  · have h3 : 0 ≤ Int.tmod (-a) b := Int.tmod_nonneg b (by omega)
    have h5 : Int.tmod (-a) b ≤ -a := by
      rw [Int.tmod_eq_emod_of_nonneg (by omega)]
      exact fd_emod_le _ b (by omega) hb
    rw [Int.neg_tmod] at h3 h5
    omega
  · have h3 : 0 ≤ Int.tmod a b := Int.tmod_nonneg b ha
    have h5 : Int.tmod a b ≤ a := by
      rw [Int.tmod_eq_emod_of_nonneg ha]
      exact fd_emod_le _ b ha hb
    omega
theorem w_iFloorDiv (a b : Int) (ha : -1000000000000000 ≤ a) (ha2 : a ≤ 1000000000000000) (hb : 0 < b) : Wp (fun _ => impl_floorDiv.f a b) (fun r => r = a / b) := by
  have h := fd_parts a b hb
  have q := fd_bound a b hb
  have m := fd_mul a b hb
  have t := fd_tmod_bound a b hb
  unfold impl_floorDiv.f
  rw [w64 (x := Int.tdiv a b) (by omega) (by omega), m, w64 (x := a - Int.tmod a b) (by omega) (by omega)]
  refine Wp.neg (by omega) (Wp.ite (fun h1 => Wp.ret ?_) (fun h1 => Wp.ret ?_))
  · rw [w64 (by omega) (by omega)]
    omega
  · omega
end Go.Proofs.Yteeeedmmcdlhjaa.P
namespace Go.Proofs.Yteeeedmmcdlhjaa.P
open Go.RowKit Go.Proofs.YteeeedmmcdlhjaaW.PrintWords Go.Proofs.YteeeedmmcdlhjaaW.PrintLast Go.Proofs.YteeeedmmcdlhjaaW.PrintMore Go.Proofs.Yteeeedmmcdlhjaa.Wp
set_option linter.unusedVariables false
set_option linter.unusedSimpArgs false
theorem sumN_abs {f : Nat → Int} {n : Nat} (c : Int) (h : ∀ i, i < n → -c ≤ f i ∧ f i ≤ c) : -((n : Int) * c) ≤ sumN f n ∧ sumN f n ≤ (n : Int) * c := by
  induction n with
  | zero => simp [sumN]
  | succ n ih =>
    have h1 := ih fun i hi => h i (by omega)
    have h2 := h n (by omega)
    rw [sumN, show ((n + 1 : Nat) : Int) * c = (n : Int) * c + c by rw [Int.natCast_add, Int.add_mul]; simp]
    omega
theorem mul_abs {a b : Int} (m n : Int) (h0 : -m ≤ a) (h1 : a ≤ m) (h2 : 0 ≤ b) (h3 : b ≤ n) (hm : 0 ≤ m) : -(m * n) ≤ a * b ∧ a * b ≤ m * n := by
  have u : m * b ≤ m * n := Int.mul_le_mul_of_nonneg_left h3 hm
  have v : a * b ≤ m * b := Int.mul_le_mul_of_nonneg_right h1 h2
  have w : (-m) * b ≤ a * b := Int.mul_le_mul_of_nonneg_right h0 h2
  rw [Int.neg_mul] at w
  omega
theorem near1_alt (z n : Int) : mn (n - 1) (mx 0 z) = near1 z n ∨ n < 1 := by
  unfold near1 mn mx
  split <;> split <;> split <;> omega
theorem near1_eq {z n : Int} (h : 1 ≤ n) : mn (n - 1) (mx 0 z) = near1 z n := by
  rcases near1_alt z n with h1 | h1
  · exact h1
  · omega
theorem kerOk_iff {r : Int} {ks : List Int} {d : Int} : kerOk r ks d = true ↔ (0 ≤ r ∧ r ≤ 2) ∧ (ks.length : Int) = (2 * r + 1) * (2 * r + 1) ∧ (1 ≤ d ∧ d ≤ 999) ∧ ∀ v ∈ ks, -99 ≤ v ∧ v ≤ 99 := by
  constructor
  · intro h
    obtain ⟨h0, h1, h2, _⟩ := kerOk_true h
    rw [kerOk_any h0 h1 h2, Bool.not_eq_true', List.any_eq_false] at h
    refine ⟨h0, h1, h2, fun v hv => ?_⟩
    have := h v hv
    simp only [Bool.or_eq_true, decide_eq_true_eq, not_or] at this
    omega
  · rintro ⟨h0, h1, h2, h3⟩
    rw [kerOk_any h0 h1 h2, Bool.not_eq_true', List.any_eq_false]
    intro v hv
    have := h3 v hv
    simp only [Bool.or_eq_true, decide_eq_true_eq, not_or]
    omega
def convS (l : List Int) (a b p : Nat) (r : Int) (ks : List Int) (sd x y : Int) (q t : Nat) : Int :=
  sumN (fun i => ks.getD i 0 * dat l a p q (near1 (x + (i : Int) % sd - r) a).toNat (near1 (y + (i : Int) / sd - r) b).toNat) t
def cvV (s d : Int) : Int := mn (mx ((2 * s + d) / (2 * d)) 0) 255
def convP (l : List Int) (a b p : Nat) (r : Int) (ks : List Int) (d : Int) (x y : Int) : List Int := (List.range p).map fun q => cvV (convS l a b p r ks (2 * r + 1) x y q ks.length) d
theorem convP_len (l : List Int) (a b p : Nat) (r : Int) (ks : List Int) (d x y : Int) : (convP l a b p r ks d x y).length = p := by simp [convP]
theorem convP_get (l : List Int) (a b p : Nat) (r : Int) (ks : List Int) (d x y : Int) (q : Nat) (hq : q < p) : (convP l a b p r ks d x y).getD q 0 = cvV (convS l a b p r ks (2 * r + 1) x y q ks.length) d := bl_map_range _ _ _ hq
theorem rndc_eq {s d : Int} (hs : -100000000000 ≤ s ∧ s ≤ 100000000000) (hd : 0 < d ∧ d ≤ 1000000) : rndc s d = (2 * s + d) / (2 * d) := by
  unfold rndc impl_rounded.f
  rw [w64 (x := 2 * s) (by omega) (by omega), w64 (x := 2 * s + d) (by omega) (by omega), w64 (x := 2 * d) (by omega) (by omega)]
  obtain ⟨r, hr, K, hK⟩ := w_iFloorDiv (2 * s + d) (2 * d) (by omega) (by omega) (by omega)
  have := hK K (Nat.le_refl K)
  simp only at this
  rw [this, hr]
  rfl
theorem ks_B {ks : List Int} (h : ∀ v ∈ ks, -99 ≤ v ∧ v ≤ 99) (i : Nat) : -99 ≤ ks.getD i 0 ∧ ks.getD i 0 ≤ 99 := by
  rw [List.getD_eq_getElem?_getD]
  rcases Nat.lt_or_ge i ks.length with hi | hi
  · rw [List.getElem?_eq_getElem hi]
    exact h _ (List.getElem_mem _)
  · rw [List.getElem?_eq_none hi]
    exact ⟨by decide, by decide⟩
theorem near1_nat {z : Int} {n : Nat} (h : 1 ≤ n) : ((near1 z n).toNat : Int) = near1 z n ∧ (near1 z n).toNat < n := by
  have := near1_on (z := z) (n := n) (by omega)
  omega
theorem term_B (l : List Int) (a b p : Nat) (r : Int) (ks : List Int) (sd x y : Int) (q i : Nat) (ha : 1 ≤ a) (hb : 1 ≤ b) (hl : l.length = b * a * p) (hB : ∀ v ∈ l, 0 ≤ v ∧ v ≤ 255) (hk : ∀ v ∈ ks, -99 ≤ v ∧ v ≤ 99) (hq : q < p) :
    -25245 ≤ ks.getD i 0 * dat l a p q (near1 (x + (i : Int) % sd - r) a).toNat (near1 (y + (i : Int) / sd - r) b).toNat ∧ ks.getD i 0 * dat l a p q (near1 (x + (i : Int) % sd - r) a).toNat (near1 (y + (i : Int) / sd - r) b).toNat ≤ 25245 := by
  have h1 := ks_B hk i
  have h2 := dat_B l a b p hl hB _ _ q (near1_nat (z := x + (i : Int) % sd - r) ha).2 (near1_nat (z := y + (i : Int) / sd - r) hb).2 hq
  exact mul_abs 99 255 h1.1 h1.2 h2.1 h2.2 (by omega)
theorem convS_B (l : List Int) (a b p : Nat) (r : Int) (ks : List Int) (sd x y : Int) (q t : Nat) (ha : 1 ≤ a) (hb : 1 ≤ b) (hl : l.length = b * a * p) (hB : ∀ v ∈ l, 0 ≤ v ∧ v ≤ 255) (hk : ∀ v ∈ ks, -99 ≤ v ∧ v ≤ 99) (hq : q < p) (ht : t ≤ 100) :
    -2524500 ≤ convS l a b p r ks sd x y q t ∧ convS l a b p r ks sd x y q t ≤ 2524500 := by
  have := sumN_abs (n := t) 25245 fun i _ => term_B l a b p r ks sd x y q i ha hb hl hB hk hq
  unfold convS
  omega
theorem addW_get (s px : List Int) (a : Int) (P : Nat) (hs : s.length = P) (ha : -1000 ≤ a ∧ a ≤ 1000) (h0 : ∀ q, q < P → -1000000000000 ≤ s.getD q 0 ∧ s.getD q 0 ≤ 1000000000000) (h1 : ∀ q, q < P → 0 ≤ px.getD q 0 ∧ px.getD q 0 ≤ 255) :
    ∀ k, k ≤ P → ∀ q, q < P → (addW s px a k).getD q 0 = if q < k then s.getD q 0 + a * px.getD q 0 else s.getD q 0 := by
  intro k
  induction k with
  | zero => intro _ q hq; rw [if_neg (by omega)]; rfl
  | succ k ih =>
    intro hk q hq
    have hl := addW_len s px a k
    rw [addW, bl_set _ _ (by omega), bl_rd, bl_rd, ih (by omega) k (by omega), if_neg (show ¬ k < k by omega)]
    by_cases e : q = k
    · subst e
      have b0 := h0 q hq
      have b1 := h1 q hq
      have b2 := mul_abs 1000 255 ha.1 ha.2 b1.1 b1.2 (by omega)
      rw [if_pos rfl, if_pos (by omega), w64 (x := a * px.getD q 0) (by omega) (by omega), w64 (by omega) (by omega)]
    · rw [if_neg e, ih (by omega) q hq]
      by_cases h : q < k
      · rw [if_pos h, if_pos (by omega)]
      · rw [if_neg h, if_neg (by omega)]
theorem convAll_get (l : List Int) (a b p : Nat) (r : Int) (ks : List Int) (sd x y : Int) (ha : 1 ≤ a) (hb : 1 ≤ b) (hl : l.length = b * a * p) (hB : ∀ v ∈ l, 0 ≤ v ∧ v ≤ 255) (hk : ∀ v ∈ ks, -99 ≤ v ∧ v ≤ 99) :
    ∀ t, t ≤ 100 → ∀ q, q < p → (convAll l a b p r ks sd x y t).getD q 0 = convS l a b p r ks sd x y q t := by
  intro t
  induction t with
  | zero =>
    intro _ q hq
    rw [convAll, convS, sumN]
    simp [List.getD_eq_getElem?_getD, hq]
  | succ t ih =>
    intro ht q hq
    have ih := ih (by omega)
    have kb := ks_B hk t
    obtain ⟨e1, e2⟩ := near1_nat (z := x + (t : Int) % sd - r) ha
    obtain ⟨e3, e4⟩ := near1_nat (z := y + (t : Int) / sd - r) hb
    have px : ∀ q, q < p → (pixOf l a p (near1 (x + (t : Int) % sd - r) a) (near1 (y + (t : Int) / sd - r) b)).getD q 0 = dat l a p q (near1 (x + (t : Int) % sd - r) a).toNat (near1 (y + (t : Int) / sd - r) b).toNat := fun q hq => by
      have := dat_pix l a b p hl (near1 (x + (t : Int) % sd - r) a).toNat (near1 (y + (t : Int) / sd - r) b).toNat q e2 e4 hq
      rw [e1, e3] at this
      exact this
    rw [convAll, addW_get _ _ _ p (by rw [convAll_len, Int.toNat_natCast]) (by rw [bl_rd]; omega) (fun q hq => by
      have := convS_B l a b p r ks sd x y q t ha hb hl hB hk hq (by omega)
      rw [ih q hq]
      omega) (fun q hq => by rw [px q hq]; exact dat_B l a b p hl hB _ _ q e2 e4 hq) _ (by omega) q hq, Int.toNat_natCast, if_pos hq, ih q hq, px q hq, bl_rd]
    unfold convS
    rw [sumN]
theorem clampK_get (p : Nat) (s : List Int) (d : Int) (hs : s.length = p) (hd : 0 < d ∧ d ≤ 1000000) (h0 : ∀ q, q < p → -100000000000 ≤ s.getD q 0 ∧ s.getD q 0 ≤ 100000000000) :
    ∀ k, k ≤ p → ∀ q, q < p → (clampK s d k).getD q 0 = if q < k then cvV (s.getD q 0) d else s.getD q 0 := by
  intro k
  induction k with
  | zero => intro _ q hq; rw [if_neg (by omega)]; rfl
  | succ k ih =>
    intro hk q hq
    have hl := clampK_len s d k
    rw [clampK, bl_set _ _ (by omega), bl_rd, ih (by omega) k (by omega), if_neg (show ¬ k < k by omega)]
    by_cases e : q = k
    · subst e
      rw [if_pos rfl, if_pos (by omega), rndc_eq (h0 q hq) hd]
      rfl
    · rw [if_neg e, ih (by omega) q hq]
      by_cases h : q < k
      · rw [if_pos h, if_pos (by omega)]
      · rw [if_neg h, if_neg (by omega)]
theorem convPix_eq (l : List Int) (a b p : Nat) (r : Int) (ks : List Int) (d x y : Int) (ha : 1 ≤ a) (hb : 1 ≤ b) (hl : l.length = b * a * p) (hB : ∀ v ∈ l, 0 ≤ v ∧ v ≤ 255) (hk : ∀ v ∈ ks, -99 ≤ v ∧ v ≤ 99) (hkl : ks.length ≤ 100) (hd : 0 < d ∧ d ≤ 1000000) :
    convPix l a b p r ks d (2 * r + 1) x y = convP l a b p r ks d x y := by
  have hA := convAll_get l a b p r ks (2 * r + 1) x y ha hb hl hB hk ks.length hkl
  unfold convPix
  rw [Int.toNat_natCast]
  refine bl_ext (by rw [clampK_len, convAll_len, convP_len]; simp) fun q hq => ?_
  rw [convP_len] at hq
  rw [clampK_get p _ _ (by rw [convAll_len, Int.toNat_natCast]) hd (fun q hq => by
    have := convS_B l a b p r ks (2 * r + 1) x y q ks.length ha hb hl hB hk hq hkl
    rw [hA q hq]
    omega) p (Nat.le_refl p) q hq, if_pos hq, hA q hq, convP_get _ _ _ _ _ _ _ _ _ _ hq]
end Go.Proofs.Yteeeedmmcdlhjaa.P
namespace Go.Proofs.Yteeeedmmcdlhjaa.P
open Go.RowKit Go.Proofs.YteeeedmmcdlhjaaW.PrintWords Go.Proofs.YteeeedmmcdlhjaaW.PrintLast Go.Proofs.YteeeedmmcdlhjaaW.PrintMore Go.Proofs.Yteeeedmmcdlhjaa.Wp
set_option linter.unusedVariables false
set_option linter.unusedSimpArgs false
theorem w_copyInts (l : List Int) (hl : l.length ≤ 1000000000) : Wp (fun _ => spec_copyInts.f l) (fun r => r = l) := by
  unfold spec_copyInts.f
  exact Wp.pos (by simp; omega) (Wp.ret (by simp))
end Go.Proofs.Yteeeedmmcdlhjaa.P
namespace Go.Proofs.Yteeeedmmcdlhjaa.P
open Go.RowKit Go.Proofs.YteeeedmmcdlhjaaW.PrintWords Go.Proofs.YteeeedmmcdlhjaaW.PrintLast Go.Proofs.YteeeedmmcdlhjaaW.PrintMore Go.Proofs.Yteeeedmmcdlhjaa.Wp
set_option linter.unusedVariables false
set_option linter.unusedSimpArgs false
theorem pix_before (n p i j i' j' q : Nat) (hj' : j' < n) (hq : q < p) (h : i' < i ∨ (i' = i ∧ j' < j)) : (i' * n + j') * p + q < (i * n + j) * p := by
  have h1 : i' * n + j' + 1 ≤ i * n + j := by
    rcases h with h | ⟨rfl, h⟩
    · have : (i' + 1) * n ≤ i * n := Nat.mul_le_mul_right n h
      rw [Nat.succ_mul] at this
      omega
    · omega
  have h2 : (i' * n + j' + 1) * p ≤ (i * n + j) * p := Nat.mul_le_mul_right p h1
  rw [Nat.succ_mul] at h2
  omega
def Painted (f : Int → Int → List Int) (n m p : Nat) (x : List Int) (i j : Nat) : Prop :=
  x.length = m * n * p ∧ ∀ i' j' q, (i' < i ∨ (i' = i ∧ j' < j)) → j' < n → i' < m → q < p → x.getD ((i' * n + j') * p + q) 0 = (f j' i').getD q 0
theorem Painted.start (f : Int → Int → List Int) (n m p : Nat) (x : List Int) (h : x.length = m * n * p) : Painted f n m p x 0 0 := ⟨h, fun i' j' q h1 => by omega⟩
theorem Painted.row {f : Int → Int → List Int} {n m p : Nat} {x : List Int} {i : Nat} (h : Painted f n m p x i n) : Painted f n m p x (i + 1) 0 :=
  ⟨h.1, fun i' j' q h1 h2 h3 h4 => h.2 i' j' q (by omega) h2 h3 h4⟩
theorem Painted.put {f : Int → Int → List Int} {n m p : Nat} {x y : List Int} {i j : Nat} (h : Painted f n m p x i j) (h0 : y.length = x.length) (h1 : ∀ q, q < p → y.getD ((i * n + j) * p + q) 0 = (f j i).getD q 0)
    (h2 : ∀ t, t < (i * n + j) * p → y.getD t 0 = x.getD t 0) : Painted f n m p y i (j + 1) := by
  refine ⟨h0.trans h.1, fun i' j' q h3 h4 h5 h6 => ?_⟩
  by_cases e : i' < i ∨ (i' = i ∧ j' < j)
  · rw [h2 _ (pix_before n p i j i' j' q h4 h6 e)]
    exact h.2 i' j' q e h4 h5 h6
  · have : i' = i ∧ j' = j := by omega
    rw [this.1, this.2]
    exact h1 q h6
theorem Painted.all {f : Int → Int → List Int} {n m p : Nat} {x : List Int} (h : Painted f n m p x m 0) (hf : ∀ i j : Nat, j < n → i < m → (f j i).length = p) : x = imgOf f n m :=
  img_ext f n m p x hf h.1 fun i j q h1 h2 h3 => h.2 i j q (by omega) h2 h1 h3
end Go.Proofs.Yteeeedmmcdlhjaa.P
namespace Go.Proofs.Yteeeedmmcdlhjaa.P
open Go.RowKit Go.Proofs.YteeeedmmcdlhjaaW.PrintWords Go.Proofs.YteeeedmmcdlhjaaW.PrintLast Go.Proofs.YteeeedmmcdlhjaaW.PrintMore Go.Proofs.Yteeeedmmcdlhjaa.Wp
set_option linter.unusedVariables false
set_option linter.unusedSimpArgs false
theorem w_sFloorDiv (a b : Int) (ha : -1000000000000000 ≤ a) (ha2 : a ≤ 1000000000000000) (hb : 0 < b) : Wp (fun _ => spec_floorDiv.f a b) (fun r => r = a / b) := by
  have h := fd_parts a b hb
  have q := fd_bound a b hb
  unfold spec_floorDiv.f
  rw [w64 (x := Int.tdiv a b) (by omega) (by omega)]
  refine Wp.neg (by omega) (Wp.ite (fun h1 => Wp.ret ?_) (fun h1 => Wp.ret ?_))
  · rw [w64 (by omega) (by omega)]
    omega
  · omega
end Go.Proofs.Yteeeedmmcdlhjaa.P
namespace Go.Proofs.Yteeeedmmcdlhjaa.P
open Go.RowKit Go.Proofs.YteeeedmmcdlhjaaW.PrintWords Go.Proofs.YteeeedmmcdlhjaaW.PrintLast Go.Proofs.YteeeedmmcdlhjaaW.PrintMore Go.Proofs.Yteeeedmmcdlhjaa.Wp
set_option linter.unusedVariables false
set_option linter.unusedSimpArgs false
theorem w_copyImage (a b c : Int) (l : List Int) (hl : l.length ≤ 1000000000) : Wp (fun _ => spec_copyImage.f a b c l) (fun r => r = (a, b, c, l)) := by
  unfold spec_copyImage.f
  refine Wp.call (w_copyInts l hl) ?_
  rintro _ rfl
  exact Wp.ret rfl
end Go.Proofs.Yteeeedmmcdlhjaa.P
namespace Go.Proofs.Yteeeedmmcdlhjaa.P
open Go.RowKit Go.Proofs.YteeeedmmcdlhjaaW.PrintWords Go.Proofs.YteeeedmmcdlhjaaW.PrintLast Go.Proofs.YteeeedmmcdlhjaaW.PrintMore Go.Proofs.Yteeeedmmcdlhjaa.Wp
set_option linter.unusedVariables false
set_option linter.unusedSimpArgs false
def convI (a b c : Int) (l : List Int) (r : Int) (ks : List Int) (d : Int) : Int × Int × Int × List Int :=
  if imgB a b c l = true ∧ kerOk r ks d = true then (a, b, c, imgOf (convP l a.toNat b.toNat c.toNat r ks d) a.toNat b.toNat) else (0, 0, 0, [])
theorem conv_len (a b c : Int) (l : List Int) (r : Int) (ks : List Int) (d : Int) : (convI a b c l r ks d).2.2.2.length ≤ 1000000 := by
  unfold convI
  split
  · rename_i h
    obtain ⟨h0, h1, h2, _⟩ := imgB_ok.1 h.1
    have := imgOf_len (convP l a.toNat b.toNat c.toNat r ks d) a.toNat b.toNat 100 (fun i j _ _ => by rw [convP_len]; omega)
    have b1 : a.toNat * 100 ≤ 16 * 100 := Nat.mul_le_mul (by omega) (Nat.le_refl _)
    have b2 : b.toNat * (a.toNat * 100) ≤ 16 * 1600 := Nat.mul_le_mul (by omega) b1
    exact Nat.le_trans this (by omega)
  · simp
theorem w_iKernel (r : Int) (ks : List Int) (d : Int) : Wp (fun _ => impl_isKernel.f r ks d) (fun z => z = kerOk r ks d) := Wp.ret rfl
theorem w_iConv (a b c : Int) (l : List Int) (r : Int) (ks : List Int) (d : Int) : Wp (fun _ => impl_ConvolveImage.f a b c l r ks d) (fun z => z = convI a b c l r ks d) := by
  unfold impl_ConvolveImage.f convI
  refine Wp.call (w_iImage a b c l) ?_
  rintro _ rfl
  refine Wp.ite (fun hi => ?_) (fun hi => Wp.ret (by rw [if_neg fun h => hi h.1]))
  refine Wp.call (w_iKernel r ks d) ?_
  rintro _ rfl
  refine Wp.ite (fun hk => Wp.ret ?_) (fun hk => Wp.ret (by rw [if_neg fun h => hk h.2]))
  rw [if_pos ⟨hi, hk⟩]
  obtain ⟨k0, k1, k2, k3⟩ := kerOk_iff.1 hk
  obtain ⟨_, _, _, k4⟩ := kerOk_true hk
  obtain ⟨a, b, p, rfl, rfl, rfl, ha, hb, hp, hl, hB⟩ := img_nat hi
  simp only [Int.toNat_natCast]
  congr 3
  exact img_congr _ _ a b fun i j hj hi2 => convPix_eq l a b p r ks d j i ha.1 hb.1 hl hB k3 (by omega) (by omega)
theorem w_sKernel (r : Int) (ks : List Int) (d : Int) (hl : ks.length ≤ 1000000000) : Wp (fun k => spec_validKernel.f k r ks d) (fun z => z = kerOk r ks d) := by
  unfold spec_validKernel.f
  have no : ¬ ((0 ≤ r ∧ r ≤ 2) ∧ (ks.length : Int) = (2 * r + 1) * (2 * r + 1) ∧ (1 ≤ d ∧ d ≤ 999) ∧ ∀ v ∈ ks, -99 ≤ v ∧ v ≤ 99) → kerOk r ks d = false := fun h => by
    cases e : kerOk r ks d with
    | false => rfl
    | true => exact absurd (kerOk_iff.1 e) h
  refine Wp.call (w_inRange0 _ _ _) ?_
  rintro _ rfl
  refine Wp.ite (fun h => ?_) (fun h => Wp.ret (no fun h2 => h (decide_eq_true h2.1)).symm)
  rw [decide_eq_true_eq] at h
  have e : wrap64 (wrap64 (wrap64 (2 * r) + 1) * wrap64 (wrap64 (2 * r) + 1)) = (2 * r + 1) * (2 * r + 1) := by
    rw [w64 (x := 2 * r) (by omega) (by omega), w64 (x := 2 * r + 1) (by omega) (by omega)]
    have := mul_small (a := 2 * r + 1) (b := 2 * r + 1) 5 5 (by omega) (by omega) (by omega) (by omega)
    exact w64 (by omega) (by omega)
  rw [e]
  refine Wp.ite (fun h1 => ?_) (fun h1 => Wp.ret (no fun h2 => h1 h2.2.1).symm)
  refine Wp.call (w_allIn ks (-99) 99 hl) ?_
  rintro _ rfl
  refine Wp.ite (fun h2 => ?_) (fun h2 => Wp.ret (no fun h3 => h2 (List.all_eq_true.2 fun v hv => decide_eq_true (h3.2.2.2 v hv))).symm)
  refine Wp.call (w_inRange0 _ _ _) ?_
  rintro _ rfl
  refine Wp.ret ?_
  by_cases h3 : 1 ≤ d ∧ d ≤ 999
  · rw [decide_eq_true h3, kerOk_iff.2 ⟨h, h1, h3, fun v hv => of_decide_eq_true (List.all_eq_true.1 h2 v hv)⟩]
  · rw [decide_eq_false h3, no fun h4 => h3 h4.2.2.1]
theorem w_convolve (l : List Int) (a b p : Nat) (r : Int) (ks : List Int) (d : Int) (x y q : Nat) (ha : 1 ≤ a ∧ a ≤ 16) (hb : 1 ≤ b ∧ b ≤ 16) (hp : 1 ≤ p ∧ p ≤ 4) (hl : l.length = b * a * p) (hB : ∀ v ∈ l, 0 ≤ v ∧ v ≤ 255) (hk : ∀ v ∈ ks, -99 ≤ v ∧ v ≤ 99)
    (hkl : ks.length ≤ 100) (hr : 0 ≤ r ∧ r ≤ 2) (hx : x < a) (hy : y < b) (hq : q < p) : Wp (fun k => spec_convolve.f k a b p l r ks d x y q) (fun z => z = convS l a b p r ks (2 * r + 1) x y q ks.length) := by
  unfold spec_convolve.f
  rw [w64 (x := 2 * r) (by omega) (by omega), w64 (x := 2 * r + 1) (by omega) (by omega)]
  have key : ∀ (e i : Nat) (s : Int), i + e = ks.length → s = convS l a b p r ks (2 * r + 1) x y q i → Wp (fun k => spec_convolve.l0 k x y q s (2 * r + 1) i a b p l r ks d) (fun z => z = convS l a b p r ks (2 * r + 1) x y q ks.length) := by
    intro e
    induction e with
    | zero =>
      intro i s hi hs
      have : i = ks.length := by omega
      subst this
      exact Wp.step (fun k => spec_convolve.l0.eq_2 ..) (Wp.neg (by omega) (Wp.ret hs))
    | succ e ih =>
      intro i s hi hs
      have hi0 : (0 : Int) ≤ i := by omega
      have hsd : ¬ (2 * r + 1 = 0) := by omega
      have m0 := Int.emod_nonneg (i : Int) hsd
      have m1 := Int.emod_lt_of_pos (i : Int) (show 0 < 2 * r + 1 by omega)
      have q0 : 0 ≤ (i : Int) / (2 * r + 1) := Int.ediv_nonneg hi0 (by omega)
      have q1 : (i : Int) / (2 * r + 1) ≤ i := Int.ediv_le_self _ hi0
      have T := term_B l a b p r ks (2 * r + 1) x y q i ha.1 hb.1 hl hB hk hq
      have S := convS_B l a b p r ks (2 * r + 1) x y q i ha.1 hb.1 hl hB hk hq (by omega)
      have eS : convS l a b p r ks (2 * r + 1) x y q (i + 1) = convS l a b p r ks (2 * r + 1) x y q i + ks.getD i 0 * dat l a p q (near1 (x + (i : Int) % (2 * r + 1) - r) a).toNat (near1 (y + (i : Int) / (2 * r + 1) - r) b).toNat := rfl
      obtain ⟨n1, n2⟩ := near1_nat (z := x + (i : Int) % (2 * r + 1) - r) ha.1
      obtain ⟨n3, n4⟩ := near1_nat (z := y + (i : Int) / (2 * r + 1) - r) hb.1
      refine Wp.step (fun k => spec_convolve.l0.eq_2 ..) (Wp.pos (by omega) (Wp.neg hsd (Wp.pos hi0 ?_)))
      rw [Int.tmod_eq_emod_of_nonneg hi0, Int.tdiv_eq_ediv_of_nonneg hi0, w64 (x := (i : Int) / (2 * r + 1)) (by omega) (by omega), w64 (x := (x : Int) + (i : Int) % (2 * r + 1)) (by omega) (by omega), w64 (x := (y : Int) + (i : Int) / (2 * r + 1)) (by omega) (by omega),
        w64 (x := (x : Int) + (i : Int) % (2 * r + 1) - r) (by omega) (by omega), w64 (x := (y : Int) + (i : Int) / (2 * r + 1) - r) (by omega) (by omega), w64 (x := (a : Int) - 1) (by omega) (by omega), w64 (x := (b : Int) - 1) (by omega) (by omega),
        near1_eq (by omega), near1_eq (by omega)]
      generalize hu : (near1 ((x : Int) + (i : Int) % (2 * r + 1) - r) a).toNat = u at *
      generalize hv : (near1 ((y : Int) + (i : Int) / (2 * r + 1) - r) b).toNat = v at *
      rw [← n1, ← n3]
      have c1 : ((v : Int) * a) = ((v * a : Nat) : Int) := by rw [Int.natCast_mul]
      have c2 : (((v * a : Nat) : Int) + u) * p = (((v * a + u) * p : Nat) : Int) := by rw [Int.natCast_mul (v * a + u) p, Int.natCast_add]
      have b1 : v * a + u + 1 ≤ b * a := by
        have : (v + 1) * a ≤ b * a := Nat.mul_le_mul_right a n4
        rw [Nat.succ_mul] at this
        omega
      have b2 : (v * a + u) * p + p ≤ b * a * p := by
        have : (v * a + u + 1) * p ≤ b * a * p := Nat.mul_le_mul_right p b1
        rw [Nat.succ_mul] at this
        omega
      have b3 : b * a ≤ 16 * 16 := Nat.mul_le_mul (by omega) (by omega)
      have b4 : b * a * p ≤ 256 * 4 := Nat.mul_le_mul (by omega) (by omega)
      have dd : rd l (((v * a + u) * p : Nat) + (q : Int)) = dat l a p q u v := by rw [← Int.natCast_add, bl_rd]; rfl
      rw [c1, w64 (x := ((v * a : Nat) : Int)) (by omega) (by omega), w64 (x := ((v * a : Nat) : Int) + u) (by omega) (by omega), c2, w64 (x := (((v * a + u) * p : Nat) : Int)) (by omega) (by omega), w64 (x := (((v * a + u) * p : Nat) : Int) + q) (by omega) (by omega)]
      refine Wp.pos (by omega) (Wp.pos (by rw [hl]; omega) ?_)
      rw [dd, bl_rd, w64 (x := ks.getD i 0 * dat l a p q u v) (by omega) (by omega), w64 (x := s + ks.getD i 0 * dat l a p q u v) (by omega) (by omega), w64 (x := (i : Int) + 1) (by omega) (by omega)]
      exact ih (i + 1) _ (by omega) (by rw [hs]; exact eS.symm)
  exact key ks.length 0 0 (by omega) rfl
theorem w_sConv (a b c : Int) (l : List Int) (r : Int) (ks : List Int) (d : Int) (hl : l.length ≤ 1000000000) (hkl : ks.length ≤ 1000000000) : Wp (fun k => spec_ConvolveImage.f k a b c l r ks d) (fun z => z = convI a b c l r ks d) := by
  unfold spec_ConvolveImage.f convI
  refine Wp.call (w_sImage a b c l hl) ?_
  rintro _ rfl
  refine Wp.ite (fun hi => ?_) (fun hi => ?_)
  · refine Wp.call (w_sKernel r ks d hkl) ?_
    rintro _ rfl
    refine Wp.step (fun k => spec_ConvolveImage.j0.eq_2 ..) ?_
    refine Wp.ite (fun hs => Wp.ret ?_) (fun hs => ?_)
    · rw [if_neg]
      rintro ⟨_, h3⟩
      rw [h3] at hs
      exact absurd hs (by simp)
    · have hk : kerOk r ks d = true := by simpa using hs
      obtain ⟨k0, k1, k2, k3⟩ := kerOk_iff.1 hk
      obtain ⟨_, _, _, k4⟩ := kerOk_true hk
      rw [if_pos ⟨hi, hk⟩]
      refine Wp.call (w_copyImage a b c l hl) ?_
      rintro _ rfl
      dsimp only
      obtain ⟨n, m, p, rfl, rfl, rfl, hn, hm, hp, hll, hB⟩ := img_nat hi
      simp only [Int.toNat_natCast]
      have hf : ∀ i j : Nat, j < n → i < m → (convP l n m p r ks d j i).length = p := fun i j _ _ => convP_len ..
      have pix : ∀ (i j : Nat), i < m → j < n → (∀ x, Painted (convP l n m p r ks d) n m p x i (j + 1) → Wp (fun k => spec_ConvolveImage.l1 k i ((j + 1 : Nat) : Int) n m p l r ks d n m p x) (fun z => z = (↑n, ↑m, ↑p, imgOf (convP l n m p r ks d) n m))) →
          ∀ (e q : Nat) (x0 x : List Int), q + e = p → Painted (convP l n m p r ks d) n m p x0 i j → x.length = x0.length → (∀ q', q' < q → x.getD ((i * n + j) * p + q') 0 = (convP l n m p r ks d j i).getD q' 0) → (∀ t, t < (i * n + j) * p → x.getD t 0 = x0.getD t 0) →
          Wp (fun k => spec_ConvolveImage.l2 k i j q n m p l r ks d n m p x) (fun z => z = (↑n, ↑m, ↑p, imgOf (convP l n m p r ks d) n m)) := by
        intro i j hi2 hj next e
        induction e with
        | zero =>
          intro q x0 x hd h0 hx h1 h2
          refine Wp.step (fun k => spec_ConvolveImage.l2.eq_2 ..) (Wp.neg (by omega) ?_)
          rw [w64 (x := (j : Int) + 1) (by omega) (by omega)]
          exact next x (h0.put hx (fun q hq => h1 q (by omega)) h2)
        | succ e ih =>
          intro q x0 x hd h0 hx h1 h2
          refine Wp.step (fun k => spec_ConvolveImage.l2.eq_2 ..) (Wp.pos (by omega) ?_)
          refine Wp.call (w_convolve l n m p r ks d j i q hn hm hp hll hB k3 (by omega) k0 hj hi2 (by omega)) ?_
          rintro _ rfl
          have hS := convS_B l n m p r ks (2 * r + 1) j i q ks.length hn.1 hm.1 hll hB k3 (by omega) (by omega)
          generalize hs : convS l n m p r ks (2 * r + 1) j i q ks.length = s at *
          rw [w64 (x := 2 * s) (by omega) (by omega), w64 (x := 2 * s + d) (by omega) (by omega), w64 (x := 2 * d) (by omega) (by omega)]
          refine Wp.call (w_sFloorDiv (2 * s + d) (2 * d) (by omega) (by omega) (by omega)) ?_
          rintro _ rfl
          have b1 : i * n + j + 1 ≤ m * n := by
            have : (i + 1) * n ≤ m * n := Nat.mul_le_mul_right n hi2
            rw [Nat.succ_mul] at this
            omega
          have b2 : (i * n + j) * p + p ≤ m * n * p := by
            have : (i * n + j + 1) * p ≤ m * n * p := Nat.mul_le_mul_right p b1
            rw [Nat.succ_mul] at this
            omega
          have b3 : m * n ≤ 16 * 16 := Nat.mul_le_mul (by omega) (by omega)
          have b4 : m * n * p ≤ 256 * 4 := Nat.mul_le_mul (by omega) (by omega)
          have c1 : ((i : Int) * n) = ((i * n : Nat) : Int) := by rw [Int.natCast_mul]
          have c2 : (((i * n : Nat) : Int) + j) * p = (((i * n + j) * p : Nat) : Int) := by rw [Int.natCast_mul (i * n + j) p, Int.natCast_add]
          have hxl := h0.1
          have eV : mn 255 (mx 0 ((2 * s + d) / (2 * d))) = cvV s d := by
            unfold cvV mn mx
            split <;> split <;> split <;> omega
          rw [c1, w64 (x := ((i * n : Nat) : Int)) (by omega) (by omega), w64 (x := ((i * n : Nat) : Int) + j) (by omega) (by omega), c2, w64 (x := (((i * n + j) * p : Nat) : Int)) (by omega) (by omega),
            w64 (x := (((i * n + j) * p : Nat) : Int) + q) (by omega) (by omega)]
          refine Wp.pos (by omega) (Wp.pos (by rw [hx, hxl]; omega) ?_)
          rw [eV, w64 (x := (q : Int) + 1) (by omega) (by omega), show ((((i * n + j) * p : Nat) : Int) + q).toNat = (i * n + j) * p + q by omega]
          refine ih (q + 1) x0 _ (by omega) h0 (by rw [List.length_set]; exact hx) (fun q' hq => ?_) (fun t ht => ?_)
          · rw [bl_set _ _ (by rw [hx, hxl]; omega)]
            split
            · rename_i e
              have : q' = q := by omega
              subst this
              rw [convP_get _ _ _ _ _ _ _ _ _ _ (by omega), hs]
            · exact h1 q' (by omega)
          · rw [bl_set _ _ (by rw [hx, hxl]; omega), if_neg (by omega)]
            exact h2 t ht
      have row : ∀ (i : Nat), i < m → (∀ x, Painted (convP l n m p r ks d) n m p x (i + 1) 0 → Wp (fun k => spec_ConvolveImage.l0 k ((i + 1 : Nat) : Int) n m p l r ks d n m p x) (fun z => z = (↑n, ↑m, ↑p, imgOf (convP l n m p r ks d) n m))) → ∀ (e j : Nat) (x : List Int), j + e = n → Painted (convP l n m p r ks d) n m p x i j →
          Wp (fun k => spec_ConvolveImage.l1 k i j n m p l r ks d n m p x) (fun z => z = (↑n, ↑m, ↑p, imgOf (convP l n m p r ks d) n m)) := by
        intro i hi2 next e
        induction e with
        | zero =>
          intro j x hd hx
          refine Wp.step (fun k => spec_ConvolveImage.l1.eq_2 ..) (Wp.neg (by omega) ?_)
          rw [w64 (x := (i : Int) + 1) (by omega) (by omega)]
          have : j = n := by omega
          subst this
          exact next x hx.row
        | succ e ih =>
          intro j x hd hx
          refine Wp.step (fun k => spec_ConvolveImage.l1.eq_2 ..) (Wp.pos (by omega) ?_)
          exact pix i j hi2 (by omega) (fun y hy => ih (j + 1) y (by omega) hy) p 0 x x (by omega) hx rfl (fun q hq => by omega) (fun t ht => rfl)
      have key : ∀ (e i : Nat) (x : List Int), i + e = m → Painted (convP l n m p r ks d) n m p x i 0 → Wp (fun k => spec_ConvolveImage.l0 k i n m p l r ks d n m p x) (fun z => z = (↑n, ↑m, ↑p, imgOf (convP l n m p r ks d) n m)) := by
        intro e
        induction e with
        | zero =>
          intro i x hd hx
          refine Wp.step (fun k => spec_ConvolveImage.l0.eq_2 ..) (Wp.neg (by omega) (Wp.ret ?_))
          have : i = m := by omega
          subst this
          rw [hx.all hf]
        | succ e ih =>
          intro i x hd hx
          refine Wp.step (fun k => spec_ConvolveImage.l0.eq_2 ..) (Wp.pos (by omega) ?_)
          exact row i (by omega) (fun y hy => ih (i + 1) y (by omega) hy) n 0 x (by omega) hx
      exact key m 0 _ (by omega) (Painted.start _ n m p _ hll)
  · refine Wp.step (fun k => spec_ConvolveImage.j0.eq_2 ..) (Wp.pos rfl (Wp.ret ?_))
    rw [if_neg fun h => hi h.1]
end Go.Proofs.Yteeeedmmcdlhjaa.P
namespace Go.Proofs.Yteeeedmmcdlhjaa.P
open Go.RowKit Go.Proofs.YteeeedmmcdlhjaaW.PrintWords Go.Proofs.YteeeedmmcdlhjaaW.PrintLast Go.Proofs.YteeeedmmcdlhjaaW.PrintMore Go.Proofs.Yteeeedmmcdlhjaa.Wp
set_option linter.unusedVariables false
set_option linter.unusedSimpArgs false
abbrev Img := Int × Int × Int × List Int
theorem w_toImage (a b c : Int) (l : List Int) (hl : l.length ≤ 1000000000) : Wp (fun k => laws_toImage.f k a b c l) (fun r => r = (a, b, c, l)) := by
  unfold laws_toImage.f
  refine Wp.call (w_toIntS l hl) ?_
  rintro _ rfl
  exact Wp.ret rfl
theorem w_eqImage (a b c : Int) (l : List Int) (a' b' c' : Int) (l' : List Int) (hl : l.length ≤ 1000000000) : Wp (fun k => laws_eqImage.f k a b c l a' b' c' l') (fun r => r = decide ((a, b, c, l) = (a', b', c', l'))) := by
  unfold laws_eqImage.f
  refine Wp.ite (fun h => ?_) (fun h => Wp.ret (decide_eq_false fun e => h (congrArg (·.1) e)).symm)
  refine Wp.ite (fun h1 => ?_) (fun h1 => Wp.ret (decide_eq_false fun e => h1 (congrArg (·.2.1) e)).symm)
  refine Wp.ite (fun h2 => ?_) (fun h2 => Wp.ret (decide_eq_false fun e => h2 (congrArg (·.2.2.1) e)).symm)
  refine Wp.call (w_eqIntS l l' hl) ?_
  rintro _ rfl
  refine Wp.ite (fun h3 => Wp.ret ?_) (fun h3 => Wp.ret (decide_eq_false fun e => h3 (decide_eq_true (congrArg (·.2.2.2) e))).symm)
  rw [decide_eq_true_eq] at h3
  rw [h, h1, h2, h3]
  exact (decide_eq_true rfl).symm
theorem w_markImage (a b c : Int) (l : List Int) (x : Int) (hl : l.length ≤ 1000000000) (h0 : 0 ≤ x) (h1 : x ≤ 1000000000) : Wp (fun k => laws_markImage.f k a b c l x) (fun r => r = (x + l.length, marks x l.length)) := by
  unfold laws_markImage.f
  refine Wp.call (w_markIntS l x hl h0 h1) ?_
  rintro _ rfl
  exact Wp.ret rfl
theorem w_heldImage (a b c : Int) (n : Nat) (x : Int) (hl : n ≤ 1000000000) (h0 : 0 ≤ x) (h1 : x ≤ 1000000000) : Wp (fun k => laws_heldImage.f k a b c (marks x n) x) (fun r => r = x + n) := by
  unfold laws_heldImage.f
  refine Wp.call (w_heldIntS n x hl h0 h1) ?_
  rintro _ rfl
  exact Wp.neg (by omega) (Wp.ret rfl)
end Go.Proofs.Yteeeedmmcdlhjaa.P
namespace Go.Proofs.Yteeeedmmcdlhjaa.P
open Go.RowKit Go.Proofs.YteeeedmmcdlhjaaW.PrintWords Go.Proofs.YteeeedmmcdlhjaaW.PrintLast Go.Proofs.YteeeedmmcdlhjaaW.PrintMore Go.Proofs.Yteeeedmmcdlhjaa.Wp
set_option linter.unusedVariables false
set_option linter.unusedSimpArgs false
theorem w_szImage2 (a b c : Int) (l : List Int) (hl : l.length ≤ maxLen) : Wp (fun _ => laws_szImage.f a b c l 1048576) (fun r => r < 0 ∨ (l.length ≤ 1048576 ∧ r ≤ 1048576)) := by
  unfold maxLen at hl
  unfold laws_szImage.f laws_szIntS.f
  rw [w64 (x := 1048576 - (l.length : Int)) (by omega) (by omega)]
  refine Wp.call (Q := fun r => r < 0 ∨ (l.length ≤ 1048576 ∧ r ≤ 1048576)) ?_ ?_
  · exact Wp.ite (fun _ => Wp.ret (by omega)) (fun _ => Wp.ret (by omega))
  · intro r hr
    exact Wp.ite (fun _ => Wp.ret (by omega)) (fun _ => Wp.ret hr)
theorem w_szKernel (a : Int) (l : List Int) (c x : Int) (hl : l.length ≤ maxLen) (h0 : 0 ≤ x) (h1 : x ≤ 1048576) : Wp (fun _ => laws_szKernel.f a l c x) (fun r => r < 0 ∨ l.length ≤ 1048576) := by
  unfold maxLen at hl
  unfold laws_szKernel.f laws_szIntS.f
  rw [w64 (x := x - (l.length : Int)) (by omega) (by omega)]
  refine Wp.call (Q := fun r => r < 0 ∨ l.length ≤ 1048576) ?_ ?_
  · exact Wp.ite (fun _ => Wp.ret (by omega)) (fun _ => Wp.ret (by omega))
  · intro r hr
    exact Wp.ite (fun _ => Wp.ret (by omega)) (fun _ => Wp.ret hr)
theorem w_toKernel (a : Int) (l : List Int) (c : Int) (hl : l.length ≤ 1000000000) : Wp (fun k => laws_toKernel.f k a l c) (fun r => r = (a, l, c)) := by
  unfold laws_toKernel.f
  refine Wp.call (w_toIntS l hl) ?_
  rintro _ rfl
  exact Wp.ret rfl
theorem w_eqKernel (a : Int) (l : List Int) (c : Int) (hl : l.length ≤ 1000000000) : Wp (fun k => laws_eqKernel.f k a l c a l c) (fun r => r = true) := by
  unfold laws_eqKernel.f
  refine Wp.pos rfl ?_
  refine Wp.call (w_eqIntS l l hl) ?_
  rintro _ rfl
  exact Wp.pos (by simp) (Wp.pos rfl (Wp.ret rfl))
theorem w_markKernel (a : Int) (l : List Int) (c x : Int) (hl : l.length ≤ 1000000000) (h0 : 0 ≤ x) (h1 : x ≤ 1000000000) : Wp (fun k => laws_markKernel.f k a l c x) (fun r => r = (x + l.length, marks x l.length)) := by
  unfold laws_markKernel.f
  refine Wp.call (w_markIntS l x hl h0 h1) ?_
  rintro _ rfl
  exact Wp.ret rfl
end Go.Proofs.Yteeeedmmcdlhjaa.P
namespace Go.Proofs.Yteeeedmmcdlhjaa.Pure
open Go.RowKit Go.Proofs.Yteeeedmmcdlhjaa.P Go.Proofs.YteeeedmmcdlhjaaW.PrintWords Go.Proofs.YteeeedmmcdlhjaaW.PrintMore Go.Proofs.Yteeeedmmcdlhjaa.Wp
set_option linter.unusedVariables false
theorem FnExactConvolveImage : laws_FnExactConvolveImage.Pure := by
  intro a b c l kr ks kd _ _ _ hm _ _ hmk _ _
  refine Wp.rounds ?_
  unfold laws_FnExactConvolveImage.f
  refine Wp.call (w_szImage2 a b c l hm) ?_
  intro sz hsz
  refine Wp.ite (fun _ => Wp.ret rfl) (fun h0 => ?_)
  refine Wp.call (w_szKernel kr ks kd sz hmk (by omega) (by omega)) ?_
  intro sz2 hsz2
  refine Wp.ite (fun _ => Wp.ret rfl) (fun h02 => ?_)
  have hl : l.length ≤ 1000000000 := by omega
  have hkl : ks.length ≤ 1000000000 := by omega
  have hl1 : (l.length : Int) ≤ 1048576 := by omega
  have hu := conv_len a b c l kr ks kd
  generalize hg : convI a b c l kr ks kd = g at hu
  obtain ⟨g0, g1, g2, g3⟩ := g
  simp only at hu
  have hu : g3.length ≤ 1000000000 := by omega
  have hs : ∀ P : Img → Prop, P (g0, g1, g2, g3) → Wp (fun k => spec_ConvolveImage.f k a b c l kr ks kd) P := fun P hP => (w_sConv a b c l kr ks kd hl hkl).mono fun r e => by rw [e, hg]; exact hP
  have hi : ∀ P : Img → Prop, P (g0, g1, g2, g3) → Wp (fun _ => impl_ConvolveImage.f a b c l kr ks kd) P := fun P hP => (w_iConv a b c l kr ks kd).mono fun r e => by rw [e, hg]; exact hP
  repeat' first
    | with_reducible exact Wp.ret rfl
    | with_reducible refine Wp.step (fun k => laws_FnExactConvolveImage.j0.eq_2 ..) ?_
    | ((with_reducible refine Wp.call (w_toImage _ _ _ _ hl) ?_); rintro _ rfl; dsimp only)
    | ((with_reducible refine Wp.call (w_toKernel _ _ _ hkl) ?_); rintro _ rfl; dsimp only)
    | ((with_reducible refine Wp.call (hs (fun r => r = (g0, g1, g2, g3)) rfl) ?_); rintro _ rfl; dsimp only)
    | ((with_reducible refine Wp.call (hi (fun r => r = (g0, g1, g2, g3)) rfl) ?_); rintro _ rfl; dsimp only)
    | ((with_reducible refine Wp.call (w_eqImage _ _ _ _ _ _ _ _ hu) ?_); rintro _ rfl)
    | ((with_reducible refine Wp.call (w_eqImage _ _ _ _ _ _ _ _ hl) ?_); rintro _ rfl)
    | ((with_reducible refine Wp.call (w_eqKernel _ _ _ hkl) ?_); rintro _ rfl)
    | ((with_reducible refine Wp.call (w_markImage _ _ _ _ 1 hl (by omega) (by omega)) ?_); rintro _ rfl; dsimp only)
    | ((with_reducible refine Wp.call (w_markImage _ _ _ _ 1 hu (by omega) (by omega)) ?_); rintro _ rfl; dsimp only)
    | ((with_reducible refine Wp.call (w_markKernel _ _ _ _ hkl ?m0 ?m1) ?_); (case m0 => omega); (case m1 => omega); rintro _ rfl; dsimp only)
    | ((with_reducible refine Wp.call (w_heldImage _ _ _ _ 1 hu (by omega) (by omega)) ?_); rintro _ rfl)
    | ((with_reducible refine Wp.pos ?c ?_); (case c => first | rfl | omega | (simp; done)))
    | ((with_reducible refine Wp.neg ?c ?_); (case c => first | omega | (simp; done)))
end Go.Proofs.Yteeeedmmcdlhjaa.Pure
