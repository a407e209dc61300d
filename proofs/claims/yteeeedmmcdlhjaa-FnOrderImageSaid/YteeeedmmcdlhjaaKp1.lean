/- Pure lemmas: what the printed functions answer, for every input; no Go, no memory, no condition but those that each lemma names. -/
import Derived.Test.YteeeedmmcdlhjaaVWords
import Derived.Test.YteeeedmmcdlhjaaK1
import Derived.Test.YteeeedmmcdlhjaaK2
import Derived.Test.YteeeedmmcdlhjaaK3
import Derived.Test.YteeeedmmcdlhjaaK4
import Derived.Test.YteeeedmmcdlhjaaK5
import Derived.Test.YteeeedmmcdlhjaaK6
namespace Go.Proofs.Yteeeedmmcdlhjaa.Wp
open Go.RowKit Go.Proofs.YteeeedmmcdlhjaaW.PrintWords
set_option linter.unusedVariables false
def Wp {α : Type} (g : Nat → Option α) (P : α → Prop) : Prop := ∃ r, P r ∧ ∃ K, ∀ k, K ≤ k → g k = some r
theorem Wp.mono {α : Type} {g : Nat → Option α} {P Q : α → Prop} (h : Wp g P) (hi : ∀ a, P a → Q a) : Wp g Q := by
  obtain ⟨r, hp, K, hk⟩ := h
  exact ⟨r, hi r hp, K, hk⟩
theorem Wp.ret {α : Type} {P : α → Prop} {r : α} (h : P r) : Wp (fun _ => some r) P := ⟨r, h, 0, fun _ _ => rfl⟩
theorem Wp.bind {α β : Type} {g : Nat → Option α} {f : Nat → α → Option β} {P : β → Prop} (h : Wp g (fun a => Wp (fun k => f k a) P)) : Wp (fun k => (g k).bind (f k)) P := by
  obtain ⟨a, ⟨r, hp, K, hk⟩, K', hk'⟩ := h
  refine ⟨r, hp, max K K', fun k hkk => ?_⟩
  show (g k).bind (f k) = some r
  rw [hk' k (by omega)]
  exact hk k (by omega)
theorem Wp.call {α β : Type} {g : Nat → Option α} {f : Nat → α → Option β} {Q : α → Prop} {P : β → Prop} (h : Wp g Q) (hf : ∀ a, Q a → Wp (fun k => f k a) P) : Wp (fun k => (g k).bind (f k)) P :=
  Wp.bind (h.mono hf)
theorem Wp.ite {α : Type} {c : Prop} [Decidable c] {g h : Nat → Option α} {P : α → Prop} (h1 : c → Wp g P) (h2 : ¬ c → Wp h P) : Wp (fun k => if c then g k else h k) P := by
  by_cases hc : c
  · simpa only [if_pos hc] using h1 hc
  · simpa only [if_neg hc] using h2 hc
theorem Wp.pos {α : Type} {c : Prop} [Decidable c] {g h : Nat → Option α} {P : α → Prop} (hc : c) (h1 : Wp g P) : Wp (fun k => if c then g k else h k) P := Wp.ite (fun _ => h1) (fun h => absurd hc h)
theorem Wp.neg {α : Type} {c : Prop} [Decidable c] {g h : Nat → Option α} {P : α → Prop} (hc : ¬ c) (h1 : Wp h P) : Wp (fun k => if c then g k else h k) P := Wp.ite (fun h => absurd h hc) (fun _ => h1)
theorem Wp.step {α : Type} {g f : Nat → Option α} {P : α → Prop} (h : ∀ k, g (k + 1) = f k) (hf : Wp f P) : Wp g P := by
  obtain ⟨r, hp, K, hk⟩ := hf
  refine ⟨r, hp, K + 1, fun k hkk => ?_⟩
  obtain ⟨k, rfl⟩ : ∃ m, k = m + 1 := ⟨k - 1, by omega⟩
  rw [h k]
  exact hk k (by omega)
theorem Wp.of {α : Type} {g : Nat → Option α} {P : α → Prop} {r : α} (h : ∀ k, g k = some r) (hp : P r) : Wp g P := ⟨r, hp, 0, fun k _ => h k⟩
theorem Wp.rounds {α : Type} {g : Nat → Option α} {r : α} (h : Wp g (fun a => a = r)) : ∃ k, g k = some r := by
  obtain ⟨r', rfl, K, hk⟩ := h
  exact ⟨K, hk K (Nat.le_refl K)⟩
theorem w64 {x : Int} (h0 : -9223372036854775808 ≤ x) (h1 : x ≤ 9223372036854775807) : wrap64 x = x := by
  unfold wrap64
  omega
end Go.Proofs.Yteeeedmmcdlhjaa.Wp
namespace Go.Proofs.Yteeeedmmcdlhjaa.P
open Go.RowKit Go.Proofs.YteeeedmmcdlhjaaW.PrintWords Go.Proofs.YteeeedmmcdlhjaaW.PrintLast Go.Proofs.YteeeedmmcdlhjaaW.PrintMore Go.Proofs.Yteeeedmmcdlhjaa.Wp
set_option linter.unusedVariables false
set_option linter.unusedSimpArgs false
theorem bl_rd (l : List Int) (i : Nat) : rd l (i : Int) = l.getD i 0 := by simp [rd]
theorem bl_ext {x l : List Int} (hx : x.length = l.length) (h : ∀ j, j < l.length → x.getD j 0 = l.getD j 0) : x = l := by
  apply List.ext_getElem hx
  intro j h1 h2
  have := h j h2
  simpa [List.getD_eq_getElem?_getD, List.getElem?_eq_getElem h1, List.getElem?_eq_getElem h2] using this
theorem bl_set {x : List Int} {i : Nat} (v : Int) (j : Nat) (hi : i < x.length) : (x.set i v).getD j 0 = if j = i then v else x.getD j 0 := by
  simp only [List.getD_eq_getElem?_getD, List.getElem?_set]
  by_cases h : i = j
  · subst h; simp [hi]
  · simp [h, Ne.symm h, eq_comm]
theorem bl_all_drop (l : List Int) (p : Int → Bool) (i : Nat) (h : i < l.length) : (l.drop i).all p = (p (l.getD i 0) && (l.drop (i + 1)).all p) := by
  rw [List.drop_eq_getElem_cons h, List.all_cons]
  simp [List.getD_eq_getElem?_getD, List.getElem?_eq_getElem h]
def allB (l : List Int) : Bool := l.all fun n => decide (0 ≤ n ∧ n ≤ 255)
theorem allB_mem {l : List Int} (h : allB l = true) : ∀ x ∈ l, 0 ≤ x ∧ x ≤ 255 := fun x hx => of_decide_eq_true (List.all_eq_true.1 h x hx)
theorem allB_of {l : List Int} (h : ∀ x ∈ l, 0 ≤ x ∧ x ≤ 255) : allB l = true := List.all_eq_true.2 fun x hx => decide_eq_true (h x hx)
theorem w_inRange0 (a b c : Int) : Wp (fun _ => spec_inRange.f a b c) (fun r => r = decide (b ≤ a ∧ a ≤ c)) := by
  unfold spec_inRange.f
  refine Wp.ite (fun h => Wp.ret ?_) (fun h => Wp.ret ?_)
  · simp [h]
  · simp [h]
theorem w_allIn (l : List Int) (a b : Int) (hl : l.length ≤ 1000000000) : Wp (fun k => spec_allIn.f k l a b) (fun r => r = l.all fun n => decide (a ≤ n ∧ n ≤ b)) := by
  unfold spec_allIn.f
  have key : ∀ d (i : Nat), i + d = l.length → Wp (fun k => spec_allIn.l0 k l a b i) (fun r => r = (l.drop i).all fun n => decide (a ≤ n ∧ n ≤ b)) := by
    intro d
    induction d with
    | zero =>
      intro i hd
      refine Wp.step (fun k => spec_allIn.l0.eq_2 ..) (Wp.neg (by omega) (Wp.ret ?_))
      rw [List.drop_of_length_le (by omega)]
      rfl
    | succ d ih =>
      intro i hd
      refine Wp.step (fun k => spec_allIn.l0.eq_2 ..) (Wp.pos (by omega) (Wp.pos (by omega) ?_))
      refine Wp.call (w_inRange0 _ _ _) ?_
      rintro _ rfl
      rw [bl_all_drop l _ i (by omega), bl_rd]
      refine Wp.ite (fun h => ?_) (fun h => Wp.ret ?_)
      · rw [h, Bool.true_and, w64 (x := (i : Int) + 1) (by omega) (by omega)]
        exact ih (i + 1) (by omega)
      · rw [Bool.not_eq_true] at h
        rw [h, Bool.false_and]
  exact key l.length 0 (by omega)
theorem w_allB (l : List Int) (hl : l.length ≤ 1000000000) : Wp (fun k => spec_allIn.f k l 0 255) (fun r => r = allB l) := w_allIn l 0 255 hl
def marks (a : Int) (n : Nat) : List Int := (List.range n).map fun j : Nat => a + (j : Int)
theorem w_equalInts (a b : List Int) (hl : a.length ≤ 1000000000) : Wp (fun k => laws_equalInts.f k a b) (fun r => r = decide (a = b)) := by
  unfold laws_equalInts.f
  refine Wp.ite (fun he => ?_) (fun he => Wp.ret ?_)
  · have key : ∀ d (i : Nat), i + d = a.length → (∀ j, j < i → a.getD j 0 = b.getD j 0) → Wp (fun k => laws_equalInts.l0 k a b i) (fun r => r = decide (a = b)) := by
      intro d
      induction d with
      | zero =>
        intro i hd h
        refine Wp.step (fun k => laws_equalInts.l0.eq_2 ..) (Wp.neg (by omega) (Wp.ret ?_))
        exact (decide_eq_true (bl_ext (by omega) fun j hj => h j (by omega))).symm
      | succ d ih =>
        intro i hd h
        refine Wp.step (fun k => laws_equalInts.l0.eq_2 ..) (Wp.pos (by omega) (Wp.pos (by omega) (Wp.pos (by omega) ?_)))
        rw [bl_rd, bl_rd]
        refine Wp.ite (fun h1 => ?_) (fun h1 => Wp.ret ?_)
        · rw [w64 (x := (i : Int) + 1) (by omega) (by omega)]
          refine ih (i + 1) (by omega) fun j hj => ?_
          by_cases e : j = i
          · rw [e]; exact h1
          · exact h j (by omega)
        · exact (decide_eq_false fun e => h1 (by rw [e])).symm
    exact key a.length 0 (by omega) (fun j hj => by omega)
  · exact (decide_eq_false fun e => he (by rw [e])).symm
end Go.Proofs.Yteeeedmmcdlhjaa.P
namespace Go.Proofs.Yteeeedmmcdlhjaa.P
open Go.RowKit Go.Proofs.YteeeedmmcdlhjaaW.PrintWords Go.Proofs.YteeeedmmcdlhjaaW.PrintLast Go.Proofs.YteeeedmmcdlhjaaW.PrintMore Go.Proofs.Yteeeedmmcdlhjaa.Wp
set_option linter.unusedVariables false
set_option linter.unusedSimpArgs false
theorem rd_cut (l : List Int) (a b i : Int) (ha : 0 ≤ a) (hi : 0 ≤ i) (hb : a + i < b) : rd ((l.take b.toNat).drop a.toNat) i = rd l (a + i) := by
  unfold rd
  rw [List.getD_eq_getElem?_getD, List.getD_eq_getElem?_getD, List.getElem?_drop, List.getElem?_take, if_pos (by omega)]
  congr 2
  omega
def imgB (a b c : Int) (l : List Int) : Bool := decide ((1 ≤ a ∧ a ≤ 16) ∧ (1 ≤ b ∧ b ≤ 16) ∧ (1 ≤ c ∧ c ≤ 4)) && decide ((l.length : Int) = a * b * c) && allB l
theorem imgB_ok {a b c : Int} {l : List Int} : imgB a b c l = true ↔ ImgOk a b c l := by
  unfold imgB ImgOk
  rw [Bool.and_eq_true, Bool.and_eq_true, decide_eq_true_eq, decide_eq_true_eq]
  constructor
  · rintro ⟨⟨h1, h2⟩, h3⟩
    exact ⟨h1.1, h1.2.1, h1.2.2, h2, allB_mem h3⟩
  · rintro ⟨h1, h2, h3, h4, h5⟩
    exact ⟨⟨⟨h1, h2, h3⟩, h4⟩, allB_of h5⟩
theorem w_iImage (a b c : Int) (l : List Int) : Wp (fun _ => impl_isImage.f a b c l) (fun r => r = imgB a b c l) := by
  obtain ⟨r, hr, hi⟩ := isImage_some a b c l
  refine Wp.of (fun _ => hr) ?_
  rw [Bool.eq_iff_iff, hi, imgB_ok]
theorem w_sImage (a b c : Int) (l : List Int) (hl : l.length ≤ 1000000000) : Wp (fun k => spec_validImage.f k a b c l) (fun r => r = imgB a b c l) := by
  unfold spec_validImage.f spec_validShape.f imgB
  refine Wp.call (Q := fun r => r = decide ((1 ≤ a ∧ a ≤ 16) ∧ (1 ≤ b ∧ b ≤ 16) ∧ (1 ≤ c ∧ c ≤ 4))) ?_ ?_
  · refine Wp.call (w_inRange0 _ _ _) ?_
    rintro _ rfl
    refine Wp.ite (fun h => ?_) (fun h => Wp.ret ?_)
    · refine Wp.call (w_inRange0 _ _ _) ?_
      rintro _ rfl
      refine Wp.ite (fun h2 => ?_) (fun h2 => Wp.ret ?_)
      · refine Wp.call (w_inRange0 _ _ _) ?_
        rintro _ rfl
        refine Wp.ret ?_
        rw [decide_eq_true_eq] at h h2
        rw [Bool.eq_iff_iff, decide_eq_true_eq, decide_eq_true_eq]
        exact ⟨fun h3 => ⟨h, h2, h3⟩, fun h3 => h3.2.2⟩
      · rw [decide_eq_true_eq] at h2
        exact (decide_eq_false fun h3 => h2 h3.2.1).symm
    · rw [decide_eq_true_eq] at h
      exact (decide_eq_false fun h3 => h h3.1).symm
  · rintro _ rfl
    refine Wp.ite (fun h => ?_) (fun h => Wp.ret ?_)
    · rw [h, Bool.true_and]
      rw [decide_eq_true_eq] at h
      obtain ⟨h0, h1, h2⟩ := h
      have hB := img_bounds h0 h1 h2
      rw [w64 (x := a * b) (by omega) (by omega), w64 (x := a * b * c) (by omega) (by omega)]
      refine Wp.ite (fun h3 => ?_) (fun h3 => Wp.ret ?_)
      · rw [decide_eq_true h3, Bool.true_and]
        refine Wp.call (w_allB l hl) ?_
        rintro _ rfl
        exact Wp.ret rfl
      · rw [decide_eq_false h3]; rfl
    · rw [Bool.not_eq_true] at h
      rw [h]; rfl
theorem w_newImage (a b c : Int) (h0 : 0 ≤ a ∧ a ≤ 1000) (h1 : 0 ≤ b ∧ b ≤ 1000) (h2 : 0 ≤ c ∧ c ≤ 1000) : Wp (fun _ => spec_newImage.f a b c) (fun r => r = (a, b, c, List.replicate (a * b * c).toNat 0)) := by
  have m1 : 0 ≤ a * b := Int.mul_nonneg h0.1 h1.1
  have m2 : a * b ≤ 1000 * 1000 := Int.mul_le_mul h0.2 h1.2 h1.1 (by omega)
  have m3 : 0 ≤ a * b * c := Int.mul_nonneg m1 h2.1
  have m4 : a * b * c ≤ 1000000 * 1000 := Int.mul_le_mul m2 h2.2 h2.1 (by omega)
  unfold spec_newImage.f
  rw [w64 (x := a * b) (by omega) (by omega), w64 (x := a * b * c) (by omega) (by omega)]
  exact Wp.pos m3 (Wp.pos (by omega) (Wp.ret rfl))
end Go.Proofs.Yteeeedmmcdlhjaa.P
namespace Go.Proofs.Yteeeedmmcdlhjaa.P
open Go.RowKit Go.Proofs.YteeeedmmcdlhjaaW.PrintWords Go.Proofs.YteeeedmmcdlhjaaW.PrintLast Go.Proofs.YteeeedmmcdlhjaaW.PrintMore Go.Proofs.Yteeeedmmcdlhjaa.Wp
set_option linter.unusedVariables false
set_option linter.unusedSimpArgs false
theorem fm_len (h : Nat → List Int) (n p : Nat) (hf : ∀ i, i < n → (h i).length = p) : ((List.range n).flatMap h).length = n * p := by
  induction n with
  | zero => simp
  | succ n ih =>
    rw [List.range_succ, List.flatMap_append, List.length_append, ih fun i hi => hf i (by omega), Nat.succ_mul]
    simp [hf n (by omega)]
theorem fm_get (h : Nat → List Int) (n p j q : Nat) (hf : ∀ i, i < n → (h i).length = p) (hj : j < n) (hq : q < p) : ((List.range n).flatMap h).getD (j * p + q) 0 = (h j).getD q 0 := by
  induction n with
  | zero => omega
  | succ n ih =>
    have hlen := fm_len h n p fun i hi => hf i (by omega)
    rw [List.range_succ, List.flatMap_append, List.getD_eq_getElem?_getD]
    by_cases hjn : j < n
    · have : j * p + q < n * p := by
        have : (j + 1) * p ≤ n * p := Nat.mul_le_mul_right p (by omega)
        rw [Nat.succ_mul] at this
        omega
      rw [List.getElem?_append_left (by omega), ← List.getD_eq_getElem?_getD]
      exact ih (fun i hi => hf i (by omega)) hjn
    · have : j = n := by omega
      subst this
      rw [List.getElem?_append_right (by omega), hlen, show j * p + q - j * p = q by omega]
      simp [List.getD_eq_getElem?_getD]
theorem img_len (f : Int → Int → List Int) (n m p : Nat) (hf : ∀ i j : Nat, j < n → i < m → (f j i).length = p) : (imgOf f n m).length = m * n * p := by
  induction m with
  | zero => simp [imgOf]
  | succ m ih =>
    rw [imgOf_succ, List.length_append, ih fun i j hj hi => hf i j hj (by omega)]
    unfold imgRow
    rw [fm_len _ n p fun j hj => hf m j hj (by omega), Nat.succ_mul, Nat.add_mul]
theorem img_get (f : Int → Int → List Int) (n m p i j q : Nat) (hf : ∀ i j : Nat, j < n → i < m → (f j i).length = p) (hj : j < n) (hi : i < m) (hq : q < p) :
    (imgOf f n m).getD ((i * n + j) * p + q) 0 = (f j i).getD q 0 := by
  have e : imgOf f n m = (List.range m).flatMap fun i : Nat => imgRow f i n := rfl
  have hr : ∀ i : Nat, i < m → (imgRow f i n).length = n * p := fun i hi => by
    unfold imgRow
    exact fm_len _ n p fun j hj => hf i j hj hi
  have hb : j * p + q < n * p := by
    have : (j + 1) * p ≤ n * p := Nat.mul_le_mul_right p (by omega)
    rw [Nat.succ_mul] at this
    omega
  rw [e, show (i * n + j) * p + q = i * (n * p) + (j * p + q) by rw [Nat.add_mul, Nat.mul_assoc]; omega, fm_get _ m (n * p) i _ hr hi hb]
  unfold imgRow
  exact fm_get _ n p j q (fun j hj => hf i j hj hi) hj hq
theorem img_ext (f : Int → Int → List Int) (n m p : Nat) (x : List Int) (hf : ∀ i j : Nat, j < n → i < m → (f j i).length = p) (hx : x.length = m * n * p)
    (h : ∀ i j q : Nat, i < m → j < n → q < p → x.getD ((i * n + j) * p + q) 0 = (f j i).getD q 0) : x = imgOf f n m := by
  refine bl_ext (by rw [hx, img_len f n m p hf]) fun t ht => ?_
  rw [img_len f n m p hf] at ht
  have hp : 0 < p := by rcases Nat.eq_zero_or_pos p with h | h; (· subst h; omega); exact h
  have ht2 : t / p < m * n := Nat.div_lt_of_lt_mul (by rw [Nat.mul_comm]; exact ht)
  have hn : 0 < n := by rcases Nat.eq_zero_or_pos n with h | h; (· subst h; omega); exact h
  have hi : t / p / n < m := Nat.div_lt_of_lt_mul (by rw [Nat.mul_comm]; exact ht2)
  have hj : t / p % n < n := Nat.mod_lt _ hn
  have hq : t % p < p := Nat.mod_lt _ hp
  have e1 : t / p / n * n + t / p % n = t / p := by rw [Nat.mul_comm]; exact Nat.div_add_mod _ _
  have e2 : t / p * p + t % p = t := by rw [Nat.mul_comm]; exact Nat.div_add_mod _ _
  have h1 := h _ _ _ hi hj hq
  have h2 := img_get f n m p _ _ _ hf hj hi hq
  rw [e1, e2] at h1 h2
  rw [h1, h2]
end Go.Proofs.Yteeeedmmcdlhjaa.P
namespace Go.Proofs.Yteeeedmmcdlhjaa.P
open Go.RowKit Go.Proofs.YteeeedmmcdlhjaaW.PrintWords Go.Proofs.YteeeedmmcdlhjaaW.PrintLast Go.Proofs.YteeeedmmcdlhjaaW.PrintMore Go.Proofs.Yteeeedmmcdlhjaa.Wp
set_option linter.unusedVariables false
set_option linter.unusedSimpArgs false
theorem pix_get {l : List Int} {n p x y : Int} (q : Nat) (h0 : 0 ≤ (y * n + x) * p) (hq : (q : Int) < p) : (pixOf l n p x y).getD q 0 = rd l ((y * n + x) * p + q) := by
  unfold pixOf
  have := rd_cut l ((y * n + x) * p) ((y * n + x) * p + p) q h0 (by omega) (by omega)
  rw [← this, bl_rd]
theorem img_congr (f g : Int → Int → List Int) (n m : Nat) (h : ∀ i j : Nat, j < n → i < m → f j i = g j i) : imgOf f n m = imgOf g n m := by
  induction m with
  | zero => rfl
  | succ m ih =>
    rw [imgOf_succ, imgOf_succ, ih fun i j hj hi => h i j hj (by omega)]
    congr 1
    have hm : ∀ j : Nat, j < n → f j m = g j m := fun j hj => h m j hj (by omega)
    clear ih h
    induction n with
    | zero => rfl
    | succ n ih => rw [imgRow_succ, imgRow_succ, ih fun j hj => hm j (by omega), hm n (by omega)]
end Go.Proofs.Yteeeedmmcdlhjaa.P
namespace Go.Proofs.Yteeeedmmcdlhjaa.P
open Go.RowKit Go.Proofs.YteeeedmmcdlhjaaW.PrintWords Go.Proofs.YteeeedmmcdlhjaaW.PrintLast Go.Proofs.YteeeedmmcdlhjaaW.PrintMore Go.Proofs.Yteeeedmmcdlhjaa.Wp
set_option linter.unusedVariables false
set_option linter.unusedSimpArgs false
def dat (l : List Int) (a p q : Nat) (i j : Nat) : Int := l.getD ((j * a + i) * p + q) 0
theorem dat_pix (l : List Int) (a b p : Nat) (hl : l.length = b * a * p) (i j q : Nat) (hi : i < a) (hj : j < b) (hq : q < p) : (pixOf l a p i j).getD q 0 = dat l a p q i j := by
  have e : ((j : Int) * a + i) * p = (((j * a + i) * p : Nat) : Int) := by rw [Int.natCast_mul (j * a + i) p, Int.natCast_add, Int.natCast_mul]
  rw [pix_get q (by rw [e]; omega) (by omega), e, ← Int.natCast_add, bl_rd]
  rfl
theorem dat_B (l : List Int) (a b p : Nat) (hl : l.length = b * a * p) (hB : ∀ v ∈ l, 0 ≤ v ∧ v ≤ 255) (i j q : Nat) (hi : i < a) (hj : j < b) (hq : q < p) : 0 ≤ dat l a p q i j ∧ dat l a p q i j ≤ 255 := by
  have h1 : j * a + i + 1 ≤ b * a := by
    have : (j + 1) * a ≤ b * a := Nat.mul_le_mul_right a hj
    rw [Nat.succ_mul] at this
    omega
  have h2 : (j * a + i + 1) * p ≤ b * a * p := Nat.mul_le_mul_right p h1
  rw [Nat.succ_mul] at h2
  refine hB _ ?_
  unfold dat
  rw [List.getD_eq_getElem?_getD, List.getElem?_eq_getElem (show (j * a + i) * p + q < l.length by omega)]
  exact List.getElem_mem _
theorem img_nat {a b c : Int} {l : List Int} (hi : imgB a b c l = true) : ∃ a' b' p : Nat, a = a' ∧ b = b' ∧ c = p ∧ (1 ≤ a' ∧ a' ≤ 16) ∧ (1 ≤ b' ∧ b' ≤ 16) ∧ (1 ≤ p ∧ p ≤ 4) ∧ l.length = b' * a' * p ∧ ∀ v ∈ l, 0 ≤ v ∧ v ≤ 255 := by
  obtain ⟨h0, h1, h2, hlen, hB⟩ := imgB_ok.1 hi
  obtain ⟨a, rfl⟩ := Int.eq_ofNat_of_zero_le (show 0 ≤ a by omega)
  obtain ⟨b, rfl⟩ := Int.eq_ofNat_of_zero_le (show 0 ≤ b by omega)
  obtain ⟨p, rfl⟩ := Int.eq_ofNat_of_zero_le (show 0 ≤ c by omega)
  refine ⟨a, b, p, rfl, rfl, rfl, by omega, by omega, by omega, ?_, hB⟩
  rw [← Int.natCast_mul, ← Int.natCast_mul, Nat.mul_comm a b] at hlen
  omega
end Go.Proofs.Yteeeedmmcdlhjaa.P
namespace Go.Proofs.Yteeeedmmcdlhjaa.P
open Go.RowKit Go.Proofs.YteeeedmmcdlhjaaW.PrintWords Go.Proofs.YteeeedmmcdlhjaaW.PrintLast Go.Proofs.YteeeedmmcdlhjaaW.PrintMore Go.Proofs.Yteeeedmmcdlhjaa.Wp
set_option linter.unusedVariables false
set_option linter.unusedSimpArgs false
theorem w_copyInts (l : List Int) (hl : l.length ≤ 1000000000) : Wp (fun _ => spec_copyInts.f l) (fun r => r = l) := by
  unfold spec_copyInts.f
  exact Wp.pos (by simp; omega) (Wp.ret (by simp))
end Go.Proofs.Yteeeedmmcdlhjaa.P
namespace Go.Proofs.Yteeeedmmcdlhjaa.P
open Go.RowKit Go.Proofs.YteeeedmmcdlhjaaW.PrintWords Go.Proofs.YteeeedmmcdlhjaaW.PrintLast Go.Proofs.YteeeedmmcdlhjaaW.PrintMore Go.Proofs.Yteeeedmmcdlhjaa.Wp
set_option linter.unusedVariables false
set_option linter.unusedSimpArgs false
theorem pix_before (n p i j i' j' q : Nat) (hj' : j' < n) (hq : q < p) (h : i' < i ∨ (i' = i ∧ j' < j)) : (i' * n + j') * p + q < (i * n + j) * p := by
  have h1 : i' * n + j' + 1 ≤ i * n + j := by
    rcases h with h | ⟨rfl, h⟩
    · have : (i' + 1) * n ≤ i * n := Nat.mul_le_mul_right n h
      rw [Nat.succ_mul] at this
      omega
    · omega
  have h2 : (i' * n + j' + 1) * p ≤ (i * n + j) * p := Nat.mul_le_mul_right p h1
  rw [Nat.succ_mul] at h2
  omega
def Painted (f : Int → Int → List Int) (n m p : Nat) (x : List Int) (i j : Nat) : Prop :=
  x.length = m * n * p ∧ ∀ i' j' q, (i' < i ∨ (i' = i ∧ j' < j)) → j' < n → i' < m → q < p → x.getD ((i' * n + j') * p + q) 0 = (f j' i').getD q 0
theorem Painted.start (f : Int → Int → List Int) (n m p : Nat) (x : List Int) (h : x.length = m * n * p) : Painted f n m p x 0 0 := ⟨h, fun i' j' q h1 => by omega⟩
theorem Painted.row {f : Int → Int → List Int} {n m p : Nat} {x : List Int} {i : Nat} (h : Painted f n m p x i n) : Painted f n m p x (i + 1) 0 :=
  ⟨h.1, fun i' j' q h1 h2 h3 h4 => h.2 i' j' q (by omega) h2 h3 h4⟩
theorem Painted.put {f : Int → Int → List Int} {n m p : Nat} {x y : List Int} {i j : Nat} (h : Painted f n m p x i j) (h0 : y.length = x.length) (h1 : ∀ q, q < p → y.getD ((i * n + j) * p + q) 0 = (f j i).getD q 0)
    (h2 : ∀ t, t < (i * n + j) * p → y.getD t 0 = x.getD t 0) : Painted f n m p y i (j + 1) := by
  refine ⟨h0.trans h.1, fun i' j' q h3 h4 h5 h6 => ?_⟩
  by_cases e : i' < i ∨ (i' = i ∧ j' < j)
  · rw [h2 _ (pix_before n p i j i' j' q h4 h6 e)]
    exact h.2 i' j' q e h4 h5 h6
  · have : i' = i ∧ j' = j := by omega
    rw [this.1, this.2]
    exact h1 q h6
theorem Painted.all {f : Int → Int → List Int} {n m p : Nat} {x : List Int} (h : Painted f n m p x m 0) (hf : ∀ i j : Nat, j < n → i < m → (f j i).length = p) : x = imgOf f n m :=
  img_ext f n m p x hf h.1 fun i j q h1 h2 h3 => h.2 i j q (by omega) h2 h1 h3
end Go.Proofs.Yteeeedmmcdlhjaa.P
namespace Go.Proofs.Yteeeedmmcdlhjaa.P
open Go.RowKit Go.Proofs.YteeeedmmcdlhjaaW.PrintWords Go.Proofs.YteeeedmmcdlhjaaW.PrintLast Go.Proofs.YteeeedmmcdlhjaaW.PrintMore Go.Proofs.Yteeeedmmcdlhjaa.Wp
set_option linter.unusedVariables false
theorem w_inRange (a b c : Int) : Wp (fun _ => spec_inRange.f a b c) (fun r => r = decide (b ≤ a ∧ a ≤ c)) := by
  unfold spec_inRange.f
  refine Wp.ite (fun h => Wp.ret ?_) (fun h => Wp.ret ?_)
  · simp [h]
  · simp [h]
theorem w_validLevels (a : Int) : Wp (fun _ => spec_validLevels.f a) (fun r => r = decide (2 ≤ a ∧ a ≤ 16)) := by
  unfold spec_validLevels.f
  exact Wp.call (w_inRange _ _ _) fun r hr => Wp.ret hr
theorem w_isLevels (a : Int) : Wp (fun _ => impl_isLevels.f a) (fun r => r = decide (2 ≤ a ∧ a ≤ 16)) := by
  unfold impl_isLevels.f
  refine Wp.ite (fun h => Wp.ret ?_) (fun h => Wp.ret ?_)
  · simp [show 2 ≤ a from h]
  · simp [show ¬ 2 ≤ a from h]
theorem w_size (a : Int) (h0 : -9223372036854775808 < a) (h1 : a ≤ 9223372036854775807) : Wp (fun _ => impl_size.f a) (fun r => r = (a.natAbs : Int)) := by
  unfold impl_size.f
  refine Wp.ret ?_
  rw [w64 (by omega) (by omega)]
  unfold mx
  split <;> omega
def lv (k L : Int) : Int := 255 * k / (L - 1)
theorem lv_0 (k L : Int) (hk : 0 ≤ k) (hL : 2 ≤ L) : 0 ≤ lv k L := Int.ediv_nonneg (by omega) (by omega)
theorem lv_top (k L : Int) (hk : k < L) (hL : 2 ≤ L) : lv k L ≤ 255 := by
  unfold lv
  have h1 : 255 * k ≤ 255 * (L - 1) := by omega
  calc 255 * k / (L - 1) ≤ 255 * (L - 1) / (L - 1) := Int.ediv_le_ediv (by omega) h1
    _ = 255 := Int.mul_ediv_cancel _ (by omega)
theorem w_levelValue (k L : Int) (hk : 0 ≤ k) (hk2 : k ≤ 1000000) (hL : 2 ≤ L) (hM : L ≤ 16) : Wp (fun _ => spec_levelValue.f k L) (fun r => r = lv k L) := by
  unfold spec_levelValue.f
  rw [w64 (x := L - 1) (by omega) (by omega), w64 (x := 255 * k) (by omega) (by omega)]
  refine Wp.neg (by omega) (Wp.ret ?_)
  have h0 := lv_0 k L hk hL
  have h1 : lv k L ≤ 255 * k := Int.ediv_le_self _ (by omega)
  rw [Int.tdiv_eq_ediv_of_nonneg (by omega)]
  exact w64 (by unfold lv at h0; omega) (by unfold lv at h1; omega)
theorem w_valueOf (k L : Int) (hk : 0 ≤ k) (hk2 : k ≤ 1000000) (hL : 2 ≤ L) (hM : L ≤ 16) : Wp (fun _ => impl_valueOf.f k L) (fun r => r = lv k L) := w_levelValue k L hk hk2 hL hM
def ld (n L : Int) (k : Nat) : Nat := (n - lv k L).natAbs
def nst (n L : Int) : Nat → Nat
  | 0 => 0
  | m + 1 => if ld n L m < ld n L (nst n L m) then m else nst n L m
theorem nst_lt (n L : Int) (m : Nat) (hm : 0 < m) : nst n L m < m := by
  induction m with
  | zero => omega
  | succ m ih =>
    unfold nst
    split
    · omega
    · rcases Nat.eq_zero_or_pos m with rfl | h
      · simp [nst]
      · have := ih h; omega
theorem nst_le (n L : Int) (m : Nat) : ∀ j, j < m → ld n L (nst n L m) ≤ ld n L j := by
  induction m with
  | zero => intro j h; omega
  | succ m ih =>
    intro j hj
    unfold nst
    split
    · rcases Nat.lt_or_ge j m with h | h
      · have := ih j h; omega
      · have : j = m := by omega
        subst this; omega
    · rcases Nat.lt_or_ge j m with h | h
      · exact ih j h
      · have : j = m := by omega
        subst this; omega
theorem ld_bound (n L : Int) (k : Nat) (hk : (k : Int) < L) (hL : 2 ≤ L) : (ld n L k : Int) = (n - lv k L).natAbs ∧ 0 ≤ lv k L ∧ lv k L ≤ 255 := ⟨rfl, lv_0 _ _ (by omega) hL, lv_top _ _ hk hL⟩
theorem w_levelOf (n L : Int) (hn : -100000 ≤ n) (hn2 : n ≤ 100000) (hL : 2 ≤ L) (hM : L ≤ 16) : Wp (fun k => impl_levelOf.f k n L) (fun r => r = nst n L L.toNat) := by
  unfold impl_levelOf.f
  have key : ∀ d (i : Nat), i + d = L.toNat → Wp (fun k => impl_levelOf.l0 k n L (nst n L i) L i) (fun r => r = nst n L L.toNat) := by
    intro d
    induction d with
    | zero =>
      intro i hd
      refine Wp.step (fun k => impl_levelOf.l0.eq_2 ..) ?_
      refine Wp.neg (by omega) (Wp.ret ?_)
      rw [show i = L.toNat by omega]
    | succ d ih =>
      intro i hd
      refine Wp.step (fun k => impl_levelOf.l0.eq_2 ..) ?_
      refine Wp.pos (by omega) ?_
      have hb : nst n L i < i + 1 := by
        rcases Nat.eq_zero_or_pos i with rfl | h
        · simp [nst]
        · have := nst_lt n L i h; omega
      obtain ⟨e1, l1, u1⟩ := ld_bound n L i (by omega) hL
      obtain ⟨e2, l2, u2⟩ := ld_bound n L (nst n L i) (by omega) hL
      refine Wp.call (w_valueOf i L (by omega) (by omega) hL hM) ?_
      rintro _ rfl
      rw [w64 (x := n - lv i L) (by omega) (by omega)]
      refine Wp.call (w_size _ (by omega) (by omega)) ?_
      rintro _ rfl
      refine Wp.call (w_valueOf (nst n L i) L (by omega) (by omega) hL hM) ?_
      rintro _ rfl
      rw [w64 (x := n - lv (nst n L i) L) (by omega) (by omega)]
      refine Wp.call (w_size _ (by omega) (by omega)) ?_
      rintro _ rfl
      rw [w64 (x := (i : Int) + 1) (by omega) (by omega)]
      have hs : nst n L (i + 1) = if ld n L i < ld n L (nst n L i) then i else nst n L i := rfl
      have hi := ih (i + 1) (by omega)
      refine Wp.ite (fun h => ?_) (fun h => ?_)
      · rw [if_pos (by omega)] at hs
        rw [hs] at hi
        exact hi
      · rw [if_neg (by omega)] at hs
        rw [hs] at hi
        exact hi
  exact key L.toNat 0 (by omega)
def lvOf (n L : Int) : Int := if (2 ≤ L ∧ L ≤ 16) ∧ -9999 ≤ n ∧ n ≤ 9999 then nst n L L.toNat else -1
theorem w_iLevelOf (n L : Int) : Wp (fun k => impl_LevelOf.f k n L) (fun r => r = lvOf n L) := by
  unfold impl_LevelOf.f lvOf
  refine Wp.ite (fun h => Wp.ret ?_) (fun h => Wp.ite (fun h' => Wp.ret ?_) (fun h' => ?_))
  · rw [if_neg (by omega)]
  · rw [if_neg (by omega)]
  · refine Wp.call (w_isLevels _) ?_
    rintro _ rfl
    refine Wp.ite (fun g => ?_) (fun g => Wp.ret ?_)
    · have g := of_decide_eq_true g
      refine Wp.call (w_levelOf n L (by omega) (by omega) g.1 g.2) ?_
      rintro _ rfl
      exact Wp.ret (by rw [if_pos ⟨g, by omega⟩])
    · rw [if_neg (fun e => g (decide_eq_true e.1))]
end Go.Proofs.Yteeeedmmcdlhjaa.P
namespace Go.Proofs.Yteeeedmmcdlhjaa.P
open Go.RowKit Go.Proofs.YteeeedmmcdlhjaaW.PrintWords Go.Proofs.YteeeedmmcdlhjaaW.PrintLast Go.Proofs.YteeeedmmcdlhjaaW.PrintMore Go.Proofs.Yteeeedmmcdlhjaa.Wp
set_option linter.unusedVariables false
set_option linter.unusedSimpArgs false
theorem w_copyImage (a b c : Int) (l : List Int) (hl : l.length ≤ 1000000000) : Wp (fun _ => spec_copyImage.f a b c l) (fun r => r = (a, b, c, l)) := by
  unfold spec_copyImage.f
  refine Wp.call (w_copyInts l hl) ?_
  rintro _ rfl
  exact Wp.ret rfl
end Go.Proofs.Yteeeedmmcdlhjaa.P
namespace Go.Proofs.Yteeeedmmcdlhjaa.P
open Go.RowKit Go.Proofs.YteeeedmmcdlhjaaW.PrintWords Go.Proofs.YteeeedmmcdlhjaaW.PrintLast Go.Proofs.YteeeedmmcdlhjaaW.PrintMore Go.Proofs.Yteeeedmmcdlhjaa.Wp
set_option linter.unusedVariables false
set_option linter.unusedSimpArgs false
theorem bay_B (x y : Int) : 0 ≤ rd bayM (y % 4 * 4 + x % 4) ∧ rd bayM (y % 4 * 4 + x % 4) ≤ 15 := by
  have h := bayM_at (y % 4 * 4 + x % 4).toNat (by omega)
  rw [show (((y % 4 * 4 + x % 4).toNat : Nat) : Int) = y % 4 * 4 + x % 4 by omega] at h
  exact h
theorem ordL_parts {n L x y : Int} (hn : 0 ≤ n ∧ n ≤ 255) (hL : 2 ≤ L ∧ L ≤ 16) : 0 ≤ n * (L - 1) ∧ n * (L - 1) ≤ 255 * (L - 1) :=
  ⟨Int.mul_nonneg hn.1 (by omega), Int.mul_le_mul_of_nonneg_right hn.2 (by omega)⟩
theorem ordL_B {n L x y : Int} (hn : 0 ≤ n ∧ n ≤ 255) (hL : 2 ≤ L ∧ L ≤ 16) : 0 ≤ ordL n L x y ∧ ordL n L x y < L := by
  obtain ⟨p1, p2⟩ := ordL_parts (x := x) (y := y) hn hL
  have b := bay_B x y
  unfold ordL
  generalize n * (L - 1) = z at *
  omega
theorem ordL_mono {n n' L x y : Int} (h : n ≤ n') (hL : 2 ≤ L ∧ L ≤ 16) : ordL n L x y ≤ ordL n' L x y := by
  have p : n * (L - 1) ≤ n' * (L - 1) := Int.mul_le_mul_of_nonneg_right h (by omega)
  unfold ordL
  exact Int.ediv_le_ediv (by omega) (by omega)
theorem ordL_0 {L x y : Int} : ordL 0 L x y = 0 := by
  have b := bay_B x y
  unfold ordL
  rw [Int.zero_mul]
  omega
theorem ordL_255 {L x y : Int} : ordL 255 L x y = L - 1 := by
  have b := bay_B x y
  unfold ordL
  omega
theorem lv_mono {j k L : Int} (h : j ≤ k) (hL : 2 ≤ L) : lv j L ≤ lv k L := Int.ediv_le_ediv (by omega) (by omega)
def ordP (l : List Int) (a : Nat) (L : Int) (x y : Int) : List Int := [lv (ordL (dat l a 1 0 x.toNat y.toNat) L x y) L]
theorem ordP_len (l : List Int) (a : Nat) (L x y : Int) : (ordP l a L x y).length = 1 := rfl
def ordI (a b c : Int) (l : List Int) (L : Int) : Int × Int × Int × List Int × Bool :=
  if imgB a b c l = true ∧ c = 1 ∧ (2 ≤ L ∧ L ≤ 16) then (a, b, 1, imgOf (ordP l a.toNat L) a.toNat b.toNat, true) else (0, 0, 0, [], false)
theorem ord_len (a b c : Int) (l : List Int) (L : Int) : (ordI a b c l L).2.2.2.1.length ≤ 1000000 := by
  unfold ordI
  split
  · rename_i h
    obtain ⟨h0, h1, h2, _⟩ := imgB_ok.1 h.1
    have := imgOf_len (ordP l a.toNat L) a.toNat b.toNat 100 (fun i j _ _ => by rw [ordP_len]; omega)
    have b1 : a.toNat * 100 ≤ 16 * 100 := Nat.mul_le_mul (by omega) (Nat.le_refl _)
    have b2 : b.toNat * (a.toNat * 100) ≤ 16 * 1600 := Nat.mul_le_mul (by omega) b1
    exact Nat.le_trans this (by omega)
  · simp
theorem w_iOrd (a b c : Int) (l : List Int) (L : Int) : Wp (fun _ => impl_OrderImage.f a b c l L) (fun z => z = ordI a b c l L) := by
  unfold impl_OrderImage.f ordI
  refine Wp.call (w_iImage a b c l) ?_
  rintro _ rfl
  refine Wp.ite (fun hi => ?_) (fun hi => Wp.ret (by rw [if_neg fun h => hi h.1]))
  refine Wp.ite (fun hc => ?_) (fun hc => Wp.ret (by rw [if_neg fun h => hc h.2.1]))
  refine Wp.call (w_isLevels L) ?_
  rintro _ rfl
  refine Wp.ite (fun hL => ?_) (fun hL => Wp.ret (by rw [if_neg fun h => hL (decide_eq_true h.2.2)]))
  rw [decide_eq_true_eq] at hL
  rw [if_pos ⟨hi, hc, hL⟩]
  obtain ⟨a, b, p, rfl, rfl, rfl, ha, hb, hp, hl, hB⟩ := img_nat hi
  have hp1 : p = 1 := by omega
  subst hp1
  simp only [Int.toNat_natCast]
  refine Wp.ret ?_
  congr 4
  refine img_congr _ _ a b fun i j hj hi2 => ?_
  have hd := dat_B l a b 1 hl hB j i 0 hj hi2 (by omega)
  have hx := dat_pix l a b 1 hl j i 0 hj hi2 (by omega)
  have e0 : rd (pixOf l a ((1 : Nat) : Int) j i) 0 = dat l a 1 0 j i := by
    rw [← hx]
    exact bl_rd _ 0
  have hl2 := ordL_B (x := j) (y := i) hd hL
  obtain ⟨r, hr, K, hK⟩ := w_valueOf (ordL (dat l a 1 0 j i) L j i) L hl2.1 (by omega) hL.1 hL.2
  have hv := hK K (Nat.le_refl K)
  simp only at hv
  unfold ordPix ordP
  rw [e0, hv, hr, Int.toNat_natCast, Int.toNat_natCast]
  rfl
theorem w_bayer (x y : Nat) : Wp (fun _ => spec_bayer.f x y) (fun z => z = rd bayM ((y : Int) % 4 * 4 + (x : Int) % 4)) := by
  unfold spec_bayer.f
  refine Wp.call (Q := fun z => z = bayM) (Wp.ret rfl) ?_
  rintro _ rfl
  rw [Int.tmod_eq_emod_of_nonneg (show (0 : Int) ≤ y by omega), Int.tmod_eq_emod_of_nonneg (show (0 : Int) ≤ x by omega), w64 (x := (y : Int) % 4 * 4) (by omega) (by omega), w64 (x := (y : Int) % 4 * 4 + (x : Int) % 4) (by omega) (by omega)]
  exact Wp.pos (by omega) (Wp.pos (by show (y : Int) % 4 * 4 + (x : Int) % 4 < 16; omega) (Wp.ret rfl))
theorem w_sOrd (a b c : Int) (l : List Int) (L : Int) (hl : l.length ≤ 1000000000) : Wp (fun k => spec_OrderImage.f k a b c l L) (fun z => z = ordI a b c l L) := by
  unfold spec_OrderImage.f ordI
  have no : ∀ (h : ¬ (imgB a b c l = true ∧ c = 1 ∧ (2 ≤ L ∧ L ≤ 16))), Wp (fun k => spec_OrderImage.j0 k L true a b c l) (fun z => z = if imgB a b c l = true ∧ c = 1 ∧ (2 ≤ L ∧ L ≤ 16) then (a, b, 1, imgOf (ordP l a.toNat L) a.toNat b.toNat, true) else (0, 0, 0, [], false)) := fun h =>
    Wp.step (fun k => spec_OrderImage.j0.eq_2 ..) (Wp.pos rfl (Wp.ret (by rw [if_neg h])))
  refine Wp.call (w_sImage a b c l hl) ?_
  rintro _ rfl
  refine Wp.ite (fun hi => ?_) (fun hi => no fun h => hi h.1)
  refine Wp.ite (fun hc => ?_) (fun hc => no fun h => hc h.2.1)
  refine Wp.call (w_validLevels L) ?_
  rintro _ rfl
  by_cases hL : 2 ≤ L ∧ L ≤ 16
  case neg => rw [decide_eq_false hL]; exact no fun h => hL h.2.2
  rw [decide_eq_true hL, if_pos ⟨hi, hc, hL⟩]
  refine Wp.step (fun k => spec_OrderImage.j0.eq_2 ..) (Wp.neg (by simp) ?_)
  refine Wp.call (w_copyImage a b c l hl) ?_
  rintro _ rfl
  dsimp only
  obtain ⟨n, m, p, rfl, rfl, rfl, hn, hm, hp, hll, hB⟩ := img_nat hi
  have hp1 : p = 1 := by omega
  subst hp1
  simp only [Int.toNat_natCast]
  have b3 : m * n ≤ 16 * 16 := Nat.mul_le_mul (by omega) (by omega)
  have hf : ∀ i j : Nat, j < n → i < m → (ordP l n L j i).length = 1 := fun i j _ _ => rfl
  have row : ∀ (i : Nat), i < m → (∀ x, Painted (ordP l n L) n m 1 x (i + 1) 0 → Wp (fun k => spec_OrderImage.l0 k L ((i + 1 : Nat) : Int) n m 1 l n m 1 x) (fun z => z = (↑n, ↑m, 1, imgOf (ordP l n L) n m, true))) → ∀ (e j : Nat) (x : List Int), j + e = n → Painted (ordP l n L) n m 1 x i j →
      Wp (fun k => spec_OrderImage.l1 k L i j n m 1 l n m 1 x) (fun z => z = (↑n, ↑m, 1, imgOf (ordP l n L) n m, true)) := by
    intro i hi2 next e
    induction e with
    | zero =>
      intro j x hd hx
      refine Wp.step (fun k => spec_OrderImage.l1.eq_2 ..) (Wp.neg (by omega) ?_)
      rw [w64 (x := (i : Int) + 1) (by omega) (by omega)]
      have : j = n := by omega
      subst this
      exact next x hx.row
    | succ e ih =>
      intro j x hd hx
      have b1 : i * n + j + 1 ≤ m * n := by
        have : (i + 1) * n ≤ m * n := Nat.mul_le_mul_right n hi2
        rw [Nat.succ_mul] at this
        omega
      have c1 : ((i : Int) * n) = ((i * n : Nat) : Int) := by rw [Int.natCast_mul]
      have hxl := hx.1
      have dB := dat_B l n m 1 hll hB j i 0 (by omega) hi2 (by omega)
      have eD : rd l ((i * n : Nat) + (j : Int)) = dat l n 1 0 j i := by
        rw [← Int.natCast_add, bl_rd]
        unfold dat
        rw [Nat.mul_one, Nat.add_zero]
      refine Wp.step (fun k => spec_OrderImage.l1.eq_2 ..) (Wp.pos (by omega) ?_)
      rw [c1, w64 (x := ((i * n : Nat) : Int)) (by omega) (by omega), w64 (x := ((i * n : Nat) : Int) + j) (by omega) (by omega), eD]
      refine Wp.pos (by omega) (Wp.pos (by rw [hll]; omega) ?_)
      refine Wp.call (w_bayer j i) ?_
      rintro _ rfl
      have bb := bay_B j i
      have q := ordL_B (x := j) (y := i) dB hL
      obtain ⟨p1, p2⟩ := ordL_parts (x := j) (y := i) dB hL
      have eO : (16 * dat l n 1 0 j i * (L - 1) + 255 * rd bayM ((i : Int) % 4 * 4 + (j : Int) % 4)) / 4080 = ordL (dat l n 1 0 j i) L j i := by
        unfold ordL
        congr 1
        rw [Int.mul_assoc 16, Int.mul_comm 16]
      have p3 : 16 * dat l n 1 0 j i * (L - 1) = 16 * (dat l n 1 0 j i * (L - 1)) := Int.mul_assoc ..
      rw [w64 (x := 16 * dat l n 1 0 j i) (by omega) (by omega), w64 (x := L - 1) (by omega) (by omega), w64 (x := 16 * dat l n 1 0 j i * (L - 1)) (by omega) (by omega), w64 (x := 255 * rd bayM ((i : Int) % 4 * 4 + (j : Int) % 4)) (by omega) (by omega),
        w64 (x := 16 * dat l n 1 0 j i * (L - 1) + 255 * rd bayM ((i : Int) % 4 * 4 + (j : Int) % 4)) (by omega) (by omega), Int.tdiv_eq_ediv_of_nonneg (by omega), eO, w64 (x := ordL (dat l n 1 0 j i) L j i) (by omega) (by omega)]
      refine Wp.call (w_levelValue (ordL (dat l n 1 0 j i) L j i) L q.1 (by omega) hL.1 hL.2) ?_
      rintro _ rfl
      refine Wp.pos (by rw [hxl]; omega) ?_
      rw [w64 (x := (j : Int) + 1) (by omega) (by omega), show (((i * n : Nat) : Int) + j).toNat = i * n + j by omega]
      refine ih (j + 1) _ (by omega) (hx.put (by rw [List.length_set]) (fun q hq => ?_) (fun t ht => ?_))
      · have : q = 0 := by omega
        subst this
        rw [Nat.mul_one, Nat.add_zero, bl_set _ _ (by rw [hxl]; omega), if_pos rfl]
        unfold ordP
        rw [Int.toNat_natCast, Int.toNat_natCast]
        rfl
      · rw [bl_set _ _ (by rw [hxl]; omega), if_neg (by omega)]
  have key : ∀ (e i : Nat) (x : List Int), i + e = m → Painted (ordP l n L) n m 1 x i 0 → Wp (fun k => spec_OrderImage.l0 k L i n m 1 l n m 1 x) (fun z => z = (↑n, ↑m, 1, imgOf (ordP l n L) n m, true)) := by
    intro e
    induction e with
    | zero =>
      intro i x hd hx
      refine Wp.step (fun k => spec_OrderImage.l0.eq_2 ..) (Wp.neg (by omega) (Wp.ret ?_))
      have : i = m := by omega
      subst this
      rw [hx.all hf]
    | succ e ih =>
      intro i x hd hx
      refine Wp.step (fun k => spec_OrderImage.l0.eq_2 ..) (Wp.pos (by omega) ?_)
      exact row i (by omega) (fun y hy => ih (i + 1) y (by omega) hy) n 0 x (by omega) hx
  exact key m 0 _ (by omega) (Painted.start _ n m 1 _ hll)
end Go.Proofs.Yteeeedmmcdlhjaa.P
namespace Go.Proofs.Yteeeedmmcdlhjaa.P
open Go.RowKit Go.Proofs.YteeeedmmcdlhjaaW.PrintWords Go.Proofs.YteeeedmmcdlhjaaW.PrintLast Go.Proofs.YteeeedmmcdlhjaaW.PrintMore Go.Proofs.Yteeeedmmcdlhjaa.Wp
set_option linter.unusedVariables false
theorem rd_mem (l : List Int) (i : Int) (h0 : 0 ≤ i) (h1 : i < (l.length : Int)) : rd l i ∈ l := by
  unfold rd
  rw [List.getD_eq_getElem?_getD, List.getElem?_eq_getElem (by omega)]
  exact List.getElem_mem _
theorem rd_le {l : List Int} {a b : Int} (h : ∀ x ∈ l, a ≤ x ∧ x ≤ b) (i : Int) (h0 : 0 ≤ i) (h1 : i < (l.length : Int)) : a ≤ rd l i ∧ rd l i ≤ b := h _ (rd_mem l i h0 h1)
def Rdr (b : List Int) (p : Int) : Prop := (∀ x ∈ b, 0 ≤ x ∧ x ≤ 255) ∧ b.length ≤ 2000 ∧ 0 ≤ p ∧ p ≤ 1000000
theorem tmod_range (x n : Int) (hx : 0 ≤ x) (hn : 0 < n) : 0 ≤ Int.tmod x n ∧ Int.tmod x n < n := by
  rw [Int.tmod_eq_emod_of_nonneg hx]
  exact ⟨Int.emod_nonneg _ (by omega), Int.emod_lt_of_pos _ hn⟩
theorem bits_xor_nonneg (x y : Int) (hx : 0 ≤ x) (hx2 : x ≤ 1000000000000) (hy : 0 ≤ y) (hy2 : y ≤ 1000000000000) : 0 ≤ Go.bits .xor .i64 x y := by
  obtain ⟨a, rfl⟩ := Int.eq_ofNat_of_zero_le hx
  obtain ⟨b, rfl⟩ := Int.eq_ofNat_of_zero_le hy
  have ha : a < 2 ^ 62 := by omega
  have hb : b < 2 ^ 62 := by omega
  have ha' : a % 2 ^ 64 = a := Nat.mod_eq_of_lt (by omega)
  have hb' : b % 2 ^ 64 = b := Nat.mod_eq_of_lt (by omega)
  have hc : a ^^^ b < 2 ^ 62 := Nat.xor_lt_two_pow ha hb
  have hw : IntKind.i64.wrap ((a ^^^ b : Nat) : Int) = ((a ^^^ b : Nat) : Int) := by
    have h64 : IntKind.i64.wrap ((a ^^^ b : Nat) : Int) = wrap64 ((a ^^^ b : Nat) : Int) := i64_w _
    rw [h64, w64 (by omega) (by omega)]
  have he : Go.bits .xor .i64 (a : Int) (b : Int) = ((a ^^^ b : Nat) : Int) := by
    have hbits : IntKind.i64.bits = 64 := rfl
    simp only [Go.bits, BitVec.ofInt_natCast, BitVec.toNat_xor, BitVec.toNat_ofNat, hbits, ha', hb', hw]
  rw [he]
  exact Int.natCast_nonneg _
theorem w_newReader (l : List Int) (hb : ∀ x ∈ l, (Lit.int .u8 x).wf = true) : Wp (fun _ => spec_newReader.f l) (fun r => Rdr r.1 r.2 ∧ r.2 = 0) := by
  have hb' : ∀ x ∈ l, 0 ≤ x ∧ x ≤ 255 := fun x hx => by
    have h := hb x hx
    simp only [Lit.wf, Bool.and_eq_true, decide_eq_true_eq] at h
    have h0 : IntKind.u8.min = 0 := rfl
    have h1 : IntKind.u8.max = 255 := rfl
    omega
  unfold spec_newReader.f
  refine Wp.ite (fun h => Wp.pos (by omega) (Wp.ret ?_)) (fun h => Wp.ret ?_)
  · exact ⟨⟨fun x hx => hb' x (List.mem_of_mem_take hx), by show (l.take 2000).length ≤ 2000; rw [List.length_take]; omega, Int.le_refl _, by show (0 : Int) ≤ 1000000; omega⟩, rfl⟩
  · exact ⟨⟨hb', by show l.length ≤ 2000; omega, Int.le_refl _, by show (0 : Int) ≤ 1000000; omega⟩, rfl⟩
theorem w_pick (b : List Int) (p n : Int) (h : Rdr b p) (hp : p < 1000000) (hn : n ≤ 1000000000000) :
    Wp (fun k => spec_reader_pick.f k b p n) (fun r => ∃ x, r = (x, p + 1) ∧ 0 ≤ x ∧ (1 ≤ n → x < n) ∧ (n < 1 → x = 0)) := by
  obtain ⟨hb, hl, h0, h1⟩ := h
  unfold spec_reader_pick.f
  rw [w64 (x := p + 1) (by omega) (by omega)]
  refine Wp.ite (fun hn1 => ?_) (fun hn1 => ?_)
  · refine Wp.step (fun k => spec_reader_pick.j0.eq_2 ..) (Wp.pos rfl (Wp.ret ?_))
    exact ⟨0, rfl, by omega, by omega, fun _ => rfl⟩
  · refine Wp.step (fun k => spec_reader_pick.j0.eq_2 ..) ?_
    rw [show p + 1 - 1 = p by omega, w64 (x := p) (by omega) (by omega)]
    refine Wp.ite (fun hz => Wp.ret ?_) (fun hz => ?_)
    · exact ⟨0, rfl, by omega, by omega, by omega⟩
    · have hpos : 0 < (b.length : Int) := by
        have : ¬ (b.length : Int) = 0 := by simpa using hz
        omega
      refine Wp.ite (fun hlt => ?_) (fun hge => ?_)
      · refine Wp.pos h0 (Wp.neg (by omega) (Wp.ret ?_))
        have hr := rd_le hb p h0 hlt
        rw [w64 (x := rd b p) (by omega) (by omega)]
        have := tmod_range (rd b p) n hr.1 (by omega)
        exact ⟨_, rfl, this.1, fun _ => this.2, by omega⟩
      · refine Wp.neg (by omega) ?_
        have t1 := tmod_range p b.length h0 hpos
        refine Wp.pos t1.1 (Wp.pos t1.2 ?_)
        rw [w64 (x := p * 7) (by omega) (by omega), w64 (x := p * 7 + 3) (by omega) (by omega)]
        have t2 := tmod_range (p * 7 + 3) b.length (by omega) hpos
        refine Wp.pos t2.1 (Wp.pos t2.2 (Wp.neg (by omega) (Wp.ret ?_)))
        have r1 := rd_le hb _ t1.1 t1.2
        have r2 := rd_le hb _ t2.1 t2.2
        generalize rd b (Int.tmod p b.length) = u at r1 ⊢
        generalize rd b (Int.tmod (p * 7 + 3) b.length) = v at r2 ⊢
        have hd : 0 ≤ Int.tdiv p b.length ∧ Int.tdiv p b.length ≤ p := by
          rw [Int.tdiv_eq_ediv_of_nonneg h0]
          exact ⟨Int.ediv_nonneg h0 (by omega), Int.ediv_le_self _ h0⟩
        generalize Int.tdiv p b.length = d at hd ⊢
        rw [w64 (x := u) (by omega) (by omega), w64 (x := u * 131) (by omega) (by omega), w64 (x := v) (by omega) (by omega), w64 (x := v * 1117) (by omega) (by omega),
          w64 (x := u * 131 + v * 1117) (by omega) (by omega), w64 (x := p * 29) (by omega) (by omega), w64 (x := u * 131 + v * 1117 + p * 29) (by omega) (by omega),
          w64 (x := d) (by omega) (by omega), w64 (x := d * 53) (by omega) (by omega), w64 (x := u * 131 + v * 1117 + p * 29 + d * 53) (by omega) (by omega)]
        have hs : 0 ≤ u * 131 + v * 1117 + p * 29 + d * 53 ∧ u * 131 + v * 1117 + p * 29 + d * 53 ≤ 1000000000 := by omega
        generalize u * 131 + v * 1117 + p * 29 + d * 53 = s at hs ⊢
        have hq : 0 ≤ Int.tdiv s 64 ∧ Int.tdiv s 64 ≤ s := by
          rw [Int.tdiv_eq_ediv_of_nonneg hs.1]
          exact ⟨Int.ediv_nonneg hs.1 (by omega), Int.ediv_le_self _ hs.1⟩
        rw [w64 (x := Int.tdiv s 64) (by omega) (by omega)]
        have hx := bits_xor_nonneg s (Int.tdiv s 64) hs.1 (by omega) hq.1 (by omega)
        have := tmod_range _ n hx (by omega)
        exact ⟨_, rfl, this.1, fun _ => this.2, by omega⟩
theorem Rdr.up {b : List Int} {p q : Int} (h : Rdr b p) (h1 : p ≤ q) (h2 : q ≤ 1000000) : Rdr b q := ⟨h.1, h.2.1, by have := h.2.2.1; omega, h2⟩
theorem w_one (b : List Int) (p : Int) (l : List Int) (h : Rdr b p) (hp : p < 1000000) (hl : 0 < l.length) (hl2 : l.length ≤ 1000) :
    Wp (fun k => spec_reader_one.f k b p l) (fun r => ∃ x, r = (x, p + 1) ∧ x ∈ l) := by
  unfold spec_reader_one.f
  refine Wp.call (w_pick b p l.length h hp (by omega)) ?_
  rintro _ ⟨x, rfl, h0, h1, _⟩
  have h1 := h1 (by omega)
  exact Wp.pos h0 (Wp.pos h1 (Wp.ret ⟨_, rfl, rd_mem l x h0 h1⟩))
end Go.Proofs.Yteeeedmmcdlhjaa.P
namespace Go.Proofs.Yteeeedmmcdlhjaa.P
open Go.RowKit Go.Proofs.YteeeedmmcdlhjaaW.PrintWords Go.Proofs.YteeeedmmcdlhjaaW.PrintLast Go.Proofs.YteeeedmmcdlhjaaW.PrintMore Go.Proofs.Yteeeedmmcdlhjaa.Wp
set_option linter.unusedVariables false
set_option linter.unusedSimpArgs false
theorem allB_set {l : List Int} (h : ∀ x ∈ l, 0 ≤ x ∧ x ≤ 255) (i : Nat) (v : Int) (hv : 0 ≤ v ∧ v ≤ 255) : ∀ x ∈ l.set i v, 0 ≤ x ∧ x ≤ 255 := fun x hx => by
  rcases List.mem_or_eq_of_mem_set hx with h1 | h1
  · exact h x h1
  · rw [h1]; exact hv
def Rnd (p : Int) (r : Int × Int × Int × List Int × Int) (q : Int) : Prop :=
  (1 ≤ r.1 ∧ r.1 ≤ 8) ∧ (1 ≤ r.2.1 ∧ r.2.1 ≤ 8) ∧ r.2.2.1 = p ∧ (r.2.2.2.1.length : Int) = r.1 * r.2.1 * p ∧ (∀ x ∈ r.2.2.2.1, 0 ≤ x ∧ x ≤ 255) ∧ q ≤ r.2.2.2.2 ∧ r.2.2.2.2 ≤ q + 300
theorem prod_le {a b c : Int} (h0 : 1 ≤ a ∧ a ≤ 8) (h1 : 1 ≤ b ∧ b ≤ 8) (h2 : 1 ≤ c ∧ c ≤ 4) : 1 ≤ a * b ∧ a * b ≤ 64 ∧ 1 ≤ a * b * c ∧ a * b * c ≤ 256 := by
  have m1 : 1 * 1 ≤ a * b := Int.mul_le_mul h0.1 h1.1 (by omega) (by omega)
  have m2 : a * b ≤ 8 * 8 := Int.mul_le_mul h0.2 h1.2 (by omega) (by omega)
  have m3 : 1 * 1 ≤ a * b * c := Int.mul_le_mul (by omega) h2.1 (by omega) (by omega)
  have m4 : a * b * c ≤ 64 * 4 := Int.mul_le_mul (by omega) h2.2 (by omega) (by omega)
  omega
theorem w_randomImage (b : List Int) (q p : Int) (h : Rdr b q) (hq : q ≤ 900000) (hp : 1 ≤ p ∧ p ≤ 4) : Wp (fun k => spec_randomImage.f k b q p) (fun r => Rnd p r q) := by
  unfold spec_randomImage.f
  refine Wp.call (w_one b q _ h (by omega) (by simp) (by simp)) ?_
  rintro _ ⟨sx, rfl, hsx⟩
  have hsx : 1 ≤ sx ∧ sx ≤ 8 := by simp only [List.mem_cons, List.not_mem_nil, or_false] at hsx; omega
  refine Wp.call (w_one b _ _ (h.up (by first | omega | (simp only; omega)) (by first | omega | (simp only; omega))) (by first | omega | (simp only; omega)) (by simp) (by simp)) ?_
  rintro _ ⟨sy, rfl, hsy⟩
  have hsy : 1 ≤ sy ∧ sy ≤ 8 := by simp only [List.mem_cons, List.not_mem_nil, or_false] at hsy; omega
  refine Wp.call (w_newImage sx sy p (by omega) (by omega) (by omega)) ?_
  rintro _ rfl
  refine Wp.call (w_pick b _ 4 (h.up (by first | omega | (simp only; omega)) (by first | omega | (simp only; omega))) (by first | omega | (simp only; omega)) (by omega)) ?_
  rintro _ ⟨md, rfl, md0, md1, _⟩
  refine Wp.call (w_pick b _ 256 (h.up (by first | omega | (simp only; omega)) (by first | omega | (simp only; omega))) (by first | omega | (simp only; omega)) (by omega)) ?_
  rintro _ ⟨v, rfl, v0, v1, _⟩
  have v1 := v1 (by omega)
  have hP := prod_le hsx hsy hp
  generalize hL : (sx * sy * p).toNat = L
  have hlen : (List.replicate L (0 : Int)).length = L := by simp
  have hbs : ∀ x ∈ List.replicate L (0 : Int), 0 ≤ x ∧ x ≤ 255 := fun x hx => by rw [List.eq_of_mem_replicate hx]; omega
  dsimp only
  generalize List.replicate L (0 : Int) = l at hlen hbs
  have key : ∀ (d i : Nat) (l : List Int) (v r : Int), i + d = L → l.length = L → (∀ x ∈ l, 0 ≤ x ∧ x ≤ 255) → 0 ≤ v → v < 256 → q ≤ r → r ≤ q + 4 + i → Wp (fun k => spec_randomImage.l0 k md v i b r sx sy p l) (fun r => Rnd p r q) := by
    intro d
    induction d with
    | zero =>
      intro i l v r hd hl hb hv hv1 hr hr1
      refine Wp.step (fun k => spec_randomImage.l0.eq_2 ..) (Wp.neg (by omega) (Wp.ret ?_))
      exact ⟨hsx, hsy, rfl, by first | omega | (simp only; omega), hb, hr, by first | omega | (simp only; omega)⟩
    | succ d ih =>
      intro i l v r hd hl hb hv hv1 hr hr1
      have hR : Rdr b r := h.up hr (by omega)
      have next : ∀ (v' r' : Int), 0 ≤ v' → v' < 256 → q ≤ r' → r' ≤ q + 4 + (i + 1 : Nat) → Wp (fun k => spec_randomImage.l0 k md v' (wrap64 ((i : Int) + 1)) b r' sx sy p (l.set (i : Int).toNat v')) (fun r => Rnd p r q) := by
        intro v' r' h1 h2 h3 h4
        rw [w64 (x := (i : Int) + 1) (by omega) (by omega)]
        exact ih (i + 1) _ v' r' (by omega) (by rw [List.length_set]; exact hl) (allB_set hb _ _ (by omega)) h1 h2 h3 h4
      refine Wp.step (fun k => spec_randomImage.l0.eq_2 ..) (Wp.pos (by omega) ?_)
      refine Wp.ite (fun _ => ?_) (fun _ => Wp.ite (fun _ => ?_) (fun _ => Wp.ite (fun _ => ?_) (fun _ => ?_)))
      · refine Wp.call (w_pick b r 256 hR (by omega) (by omega)) ?_
        rintro _ ⟨u, rfl, u0, u1, _⟩
        exact Wp.pos (by omega) (next u _ u0 (u1 (by omega)) (by first | omega | (simp only; omega)) (by first | omega | (simp only; omega)))
      · refine Wp.call (w_pick b r 5 hR (by omega) (by omega)) ?_
        rintro _ ⟨u, rfl, u0, u1, _⟩
        have u1 := u1 (by omega)
        refine Wp.pos (by omega) ?_
        simp only
        rw [w64 (x := v + u) (by omega) (by omega), w64 (x := v + u + 254) (by omega) (by omega)]
        have ht := tmod_range (v + u + 254) 256 (by omega) (by omega)
        exact next _ _ ht.1 ht.2 (by first | omega | (simp only; omega)) (by first | omega | (simp only; omega))
      · refine Wp.call (w_pick b r 4 hR (by omega) (by omega)) ?_
        rintro _ ⟨u, rfl, u0, u1, _⟩
        have u1 := u1 (by omega)
        refine Wp.pos (by omega) ?_
        simp only
        rw [w64 (x := 60 * u) (by omega) (by omega)]
        exact next _ _ (by omega) (by omega) (by omega) (by omega)
      · exact Wp.pos (by omega) (next v r hv hv1 hr (by omega))
  exact key L 0 l v _ (by omega) hlen hbs v0 v1 (by first | omega | (simp only; omega)) (by first | omega | (simp only; omega))
def Spl (q : Int) (r : Int × Int × Int × List Int × Int) : Prop :=
  (0 ≤ r.1 ∧ r.1 ≤ 17) ∧ (0 ≤ r.2.1 ∧ r.2.1 ≤ 17) ∧ (0 ≤ r.2.2.1 ∧ r.2.2.1 ≤ 5) ∧ r.2.2.2.1.length ≤ 1024 ∧ q ≤ r.2.2.2.2 ∧ r.2.2.2.2 ≤ q + 1000
theorem w_spoilImage (bb : List Int) (q a b c : Int) (l : List Int) (h : Rdr bb q) (hq : q ≤ 900000) (ha : 0 ≤ a ∧ a ≤ 16) (hb : 0 ≤ b ∧ b ≤ 16) (hc : 0 ≤ c ∧ c ≤ 4) (hl : 1 ≤ l.length) (hl2 : l.length ≤ 1024) :
    Wp (fun k => spec_spoilImage.f k bb q a b c l) (fun r => (0 ≤ r.1 ∧ r.1 ≤ 17) ∧ (0 ≤ r.2.1 ∧ r.2.1 ≤ 17) ∧ (0 ≤ r.2.2.1 ∧ r.2.2.1 ≤ 5) ∧ r.2.2.2.1.length ≤ 1024 ∧ q ≤ r.2.2.2.2 ∧ r.2.2.2.2 ≤ q + 2) := by
  unfold spec_spoilImage.f
  refine Wp.call (w_pick bb q 40 h (by omega) (by omega)) ?_
  rintro _ ⟨u, rfl, u0, u1, _⟩
  have h1 : Rdr bb (q + 1) := h.up (by omega) (by omega)
  simp only
  refine Wp.ite (fun _ => ?_) (fun _ => Wp.ite (fun _ => ?_) (fun _ => Wp.ite (fun _ => ?_) (fun _ => Wp.ite (fun _ => ?_) (fun _ => ?_))))
  · refine Wp.call (w_one bb _ _ h1 (by omega) (by simp) (by simp)) ?_
    rintro _ ⟨x, rfl, hx⟩
    rw [w64 (x := a + 1) (by omega) (by omega)] at hx
    simp only [List.mem_cons, List.not_mem_nil, or_false] at hx
    exact Wp.ret ⟨by first | omega | (simp only; omega), by first | omega | (simp only; omega), by first | omega | (simp only; omega), hl2, by first | omega | (simp only; omega), by first | omega | (simp only; omega)⟩
  · exact Wp.pos (by omega) (Wp.ret ⟨by first | omega | (simp only; omega), by first | omega | (simp only; omega), by first | omega | (simp only; omega), by simp only [List.length_drop]; omega, by first | omega | (simp only; omega), by first | omega | (simp only; omega)⟩)
  · refine Wp.call (w_one bb _ _ h1 (by omega) (by simp) (by simp)) ?_
    rintro _ ⟨x, rfl, hx⟩
    exact Wp.pos (by omega) (Wp.ret ⟨by first | omega | (simp only; omega), by first | omega | (simp only; omega), by first | omega | (simp only; omega), by simp only [List.length_set]; omega, by first | omega | (simp only; omega), by first | omega | (simp only; omega)⟩)
  · refine Wp.call (w_one bb _ _ h1 (by omega) (by simp) (by simp)) ?_
    rintro _ ⟨x, rfl, hx⟩
    simp only [List.mem_cons, List.not_mem_nil, or_false] at hx
    exact Wp.ret ⟨by first | omega | (simp only; omega), by first | omega | (simp only; omega), by first | omega | (simp only; omega), hl2, by first | omega | (simp only; omega), by first | omega | (simp only; omega)⟩
  · exact Wp.ret ⟨by first | omega | (simp only; omega), by first | omega | (simp only; omega), by first | omega | (simp only; omega), hl2, by first | omega | (simp only; omega), by first | omega | (simp only; omega)⟩
theorem w_anyPlanes (b : List Int) (q : Int) (h : Rdr b q) (hq : q ≤ 900000) : Wp (fun k => spec_anyPlanes.f k b q) (fun r => (1 ≤ r.1 ∧ r.1 ≤ 4) ∧ r.2 = q + 1) := by
  unfold spec_anyPlanes.f
  refine Wp.call (w_one b q _ h (by omega) (by simp) (by simp)) ?_
  rintro _ ⟨x, rfl, hx⟩
  simp only [List.mem_cons, List.not_mem_nil, or_false] at hx
  exact Wp.ret ⟨by first | omega | (simp only; omega), rfl⟩
theorem Rnd.len {p q : Int} {r : Int × Int × Int × List Int × Int} (h : Rnd p r q) (hp : 1 ≤ p ∧ p ≤ 4) : 1 ≤ r.2.2.2.1.length ∧ r.2.2.2.1.length ≤ 256 := by
  obtain ⟨h0, h1, h2, h3, _⟩ := h
  have := prod_le h0 h1 hp
  omega
theorem w_randomSpoil (b : List Int) (q p : Int) (r : Int × Int × Int × List Int × Int) (h : Rdr b q) (hq : q ≤ 800000) (hp : 1 ≤ p ∧ p ≤ 4) (hr : Rnd p r q) :
    Wp (fun k => spec_spoilImage.f k b r.2.2.2.2 r.1 r.2.1 r.2.2.1 r.2.2.2.1) (fun r => Spl q r ∧ r.2.2.2.2 ≤ q + 302) := by
  have hl := hr.len hp
  obtain ⟨h0, h1, h2, h3, h4, h5, h6⟩ := hr
  refine (w_spoilImage b r.2.2.2.2 _ _ _ _ (h.up h5 (by omega)) (by omega) (by omega) (by omega) (by omega) hl.1 (by omega)).mono ?_
  rintro s ⟨a0, a1, a2, a3, a4, a5⟩
  exact ⟨⟨a0, a1, a2, a3, by omega, by omega⟩, by omega⟩
theorem w_anyImage (b : List Int) (q : Int) (h : Rdr b q) (hq : q ≤ 700000) : Wp (fun k => spec_anyImage.f k b q) (fun r => Spl q r) := by
  unfold spec_anyImage.f
  refine Wp.call (w_anyPlanes b q h (by omega)) ?_
  rintro ⟨p, q'⟩ ⟨hp, e⟩
  simp only at hp e
  subst e
  refine Wp.call (w_randomImage b (q + 1) p (h.up (by omega) (by omega)) (by omega) hp) ?_
  intro r hr
  refine Wp.call (w_randomSpoil b (q + 1) p r (h.up (by omega) (by omega)) (by omega) hp hr) ?_
  rintro s ⟨⟨a0, a1, a2, a3, a4, a5⟩, a6⟩
  refine Wp.ret ⟨a0, a1, a2, a3, by first | omega | (simp only; omega), ?_⟩
  simp only
  omega
end Go.Proofs.Yteeeedmmcdlhjaa.P
namespace Go.Proofs.Yteeeedmmcdlhjaa.P
open Go.RowKit Go.Proofs.YteeeedmmcdlhjaaW.PrintWords Go.Proofs.YteeeedmmcdlhjaaW.PrintLast Go.Proofs.YteeeedmmcdlhjaaW.PrintMore Go.Proofs.Yteeeedmmcdlhjaa.Wp
set_option linter.unusedVariables false
set_option linter.unusedSimpArgs false
theorem w_grayImage (b : List Int) (q : Int) (h : Rdr b q) (hq : q ≤ 600000) : Wp (fun k => spec_grayImage.f k b q) (fun r => r.2.2.2.1.length ≤ 1024 ∧ q ≤ r.2.2.2.2 ∧ r.2.2.2.2 ≤ q + 2000) := by
  unfold spec_grayImage.f
  refine Wp.call (w_pick b q 20 h (by omega) (by omega)) ?_
  rintro _ ⟨x, rfl, _⟩
  have h1 : Rdr b (q + 1) := h.up (by omega) (by omega)
  refine Wp.ite (fun _ => ?_) (fun _ => ?_)
  · refine Wp.call (w_anyImage b _ h1 (by first | omega | (simp only; omega))) ?_
    rintro ⟨r0, r1, r2, r3, r4⟩ ⟨_, _, _, hl, ha, hb⟩
    simp only at hl ha hb
    exact Wp.ret ⟨hl, by first | omega | (simp only; omega), by first | omega | (simp only; omega)⟩
  · refine Wp.call (w_randomImage b _ 1 h1 (by first | omega | (simp only; omega)) (by omega)) ?_
    intro r hr
    refine Wp.call (w_randomSpoil b _ 1 r h1 (by first | omega | (simp only; omega)) (by omega) hr) ?_
    rintro ⟨s0, s1, s2, s3, s4⟩ ⟨⟨_, _, _, hl, ha, hb⟩, _⟩
    simp only at hl ha hb
    exact Wp.ret ⟨hl, by first | omega | (simp only; omega), by first | omega | (simp only; omega)⟩
theorem w_DrawDiff (l : List Int) (hb : ∀ x ∈ l, (Lit.int .u8 x).wf = true) : Wp (fun k => spec_DrawDiffuseImage.f k l) (fun r => r.2.2.2.1.length ≤ 1024) := by
  unfold spec_DrawDiffuseImage.f
  refine Wp.call (w_newReader l hb) ?_
  rintro ⟨b, p⟩ ⟨h, e⟩
  simp only at e h
  subst e
  refine Wp.call (w_grayImage b 0 h (by omega)) ?_
  rintro ⟨r0, r1, r2, r3, r4⟩ ⟨hl, ha, hb⟩
  simp only at hl ha hb
  unfold spec_anyLevels.f
  refine Wp.call (Q := fun _ => True) ?_ ?_
  · refine Wp.call (w_one b r4 _ (h.up ha (by omega)) (by omega) (by simp) (by simp)) ?_
    rintro _ ⟨x, rfl, hx⟩
    exact Wp.ret trivial
  · rintro ⟨s, q⟩ _
    exact Wp.ret hl
theorem w_DrawOrd (l : List Int) (hb : ∀ x ∈ l, (Lit.int .u8 x).wf = true) : Wp (fun k => spec_DrawOrderImage.f k l) (fun r => r.2.2.2.1.length ≤ 1024) := by
  unfold spec_DrawOrderImage.f
  refine Wp.call (w_DrawDiff l hb) ?_
  rintro ⟨r0, r1, r2, r3, r4⟩ h
  exact Wp.ret h
end Go.Proofs.Yteeeedmmcdlhjaa.P
namespace Go.Proofs.Yteeeedmmcdlhjaa.P
open Go.RowKit Go.Proofs.YteeeedmmcdlhjaaW.PrintWords Go.Proofs.YteeeedmmcdlhjaaW.PrintLast Go.Proofs.YteeeedmmcdlhjaaW.PrintMore Go.Proofs.Yteeeedmmcdlhjaa.Wp
set_option linter.unusedVariables false
set_option linter.unusedSimpArgs false
theorem w_equalImage (a b c : Int) (l : List Int) (a' b' c' : Int) (l' : List Int) (hl : l.length ≤ 1000000000) : Wp (fun k => laws_equalImage.f k a b c l a' b' c' l') (fun r => r = decide ((a, b, c, l) = (a', b', c', l'))) := by
  unfold laws_equalImage.f
  refine Wp.ite (fun h => ?_) (fun h => Wp.ret (decide_eq_false fun e => h (congrArg (·.1) e)).symm)
  refine Wp.ite (fun h1 => ?_) (fun h1 => Wp.ret (decide_eq_false fun e => h1 (congrArg (·.2.1) e)).symm)
  refine Wp.ite (fun h2 => ?_) (fun h2 => Wp.ret (decide_eq_false fun e => h2 (congrArg (·.2.2.1) e)).symm)
  refine Wp.call (w_equalInts l l' hl) ?_
  rintro _ rfl
  refine Wp.ret ?_
  subst h h1 h2
  rw [Bool.eq_iff_iff, decide_eq_true_eq, decide_eq_true_eq]
  exact ⟨fun e => by rw [e], fun e => congrArg (·.2.2.2) e⟩
end Go.Proofs.Yteeeedmmcdlhjaa.P
namespace Go.Proofs.Yteeeedmmcdlhjaa.Pure
open Go.RowKit Go.Proofs.Yteeeedmmcdlhjaa.P Go.Proofs.YteeeedmmcdlhjaaW.PrintWords Go.Proofs.YteeeedmmcdlhjaaW.PrintMore Go.Proofs.Yteeeedmmcdlhjaa.Wp
set_option linter.unusedVariables false
theorem nst_self (k : Nat) (L : Int) (hk : (k : Int) < L) (hL : 2 ≤ L) : lv (nst (lv k L) L L.toNat) L = lv k L := by
  have h := nst_le (lv k L) L L.toNat k (by omega)
  unfold ld at h
  omega
theorem ord_val (l : List Int) (a b : Nat) (L : Int) (ha : 1 ≤ a) (i : Nat) (hi : i < b * a) (hl : l.length = b * a * 1) (hB : ∀ v ∈ l, 0 ≤ v ∧ v ≤ 255) :
    (imgOf (ordP l a L) a b).getD i 0 = lv (ordL (l.getD i 0) L (i % a : Nat) (i / a : Nat)) L := by
  have hi2 : i / a < b := Nat.div_lt_of_lt_mul (by rw [Nat.mul_comm]; exact hi)
  have hj2 : i % a < a := Nat.mod_lt _ (by omega)
  have e1 : i / a * a + i % a = i := by rw [Nat.mul_comm]; exact Nat.div_add_mod _ _
  have hw := img_get (ordP l a L) a b 1 (i / a) (i % a) 0 (fun _ _ _ _ => rfl) hj2 hi2 (by omega)
  rw [e1, Nat.mul_one, Nat.add_zero] at hw
  rw [hw]
  unfold ordP dat
  simp only [Int.toNat_natCast, e1, Nat.mul_one, Nat.add_zero]
  rfl
theorem FnOrderImage : laws_FnOrderImage.Pure := by
  intro l0 _ _ hb
  refine Wp.rounds ?_
  unfold laws_FnOrderImage.f
  refine Wp.ite (fun _ => Wp.ret rfl) (fun _ => ?_)
  refine Wp.call (w_DrawOrd l0 hb) ?_
  rintro ⟨a, b, c, l, L⟩ hl
  simp only at hl
  refine Wp.call (w_iOrd a b c l L) ?_
  rintro _ rfl
  refine Wp.call (w_sOrd a b c l L (by omega)) ?_
  rintro _ rfl
  have hg : (ordI a b c l L).2.2.2.1.length ≤ 1000000000 := Nat.le_trans (ord_len a b c l L) (by omega)
  refine Wp.call (w_equalImage _ _ _ _ _ _ _ _ hg) ?_
  rintro _ rfl
  refine Wp.pos (by simp) ?_
  refine Wp.neg (by simp) ?_
  refine Wp.step (fun k => laws_FnOrderImage.j0.eq_2 ..) ?_
  refine Wp.ite (fun h0 => ?_) (fun h0 => ?_)
  · refine Wp.call (w_equalImage _ _ _ _ _ _ _ _ hg) ?_
    rintro _ rfl
    exact Wp.pos (by simp) (Wp.ret (by simp))
  · have hh : imgB a b c l = true ∧ c = 1 ∧ (2 ≤ L ∧ L ≤ 16) := Decidable.byContradiction fun h => by
      unfold ordI at h0
      rw [if_neg h] at h0
      exact absurd rfl h0
    refine Wp.call (Q := fun z => z = []) (Wp.ret rfl) ?_
    rintro _ rfl
    refine Wp.pos (by simp only [List.length_nil]; omega) ?_
    rw [List.nil_append]
    clear h0 hg
    generalize hu : ordI a b c l L = u
    obtain ⟨u0, u1, u2, u3, u4⟩ := u
    unfold ordI at hu
    rw [if_pos hh] at hu
    simp only [Prod.mk.injEq] at hu
    obtain ⟨_, _, _, hu, _⟩ := hu
    dsimp only
    obtain ⟨hi, hc, hL⟩ := hh
    obtain ⟨a, b, p, rfl, rfl, rfl, ha, hb2, hp, hll, hB⟩ := img_nat hi
    have hp1 : p = 1 := by omega
    subst hp1
    simp only [Int.toNat_natCast] at hu
    have b3 : b * a ≤ 16 * 16 := Nat.mul_le_mul (by omega) (by omega)
    have hul : u3.length = b * a := by rw [← hu, img_len _ a b 1 (fun _ _ _ _ => rfl), Nat.mul_one]
    have hll1 : l.length = b * a := by omega
    have val : ∀ i, i < b * a → u3.getD i 0 = lv (ordL (l.getD i 0) L (i % a : Nat) (i / a : Nat)) L := fun i hi2 => by
      rw [← hu]
      exact ord_val l a b L ha.1 i hi2 hll hB
    have lB : ∀ i, i < b * a → 0 ≤ l.getD i 0 ∧ l.getD i 0 ≤ 255 := fun i hi2 => by
      refine hB _ ?_
      rw [List.getD_eq_getElem?_getD, List.getElem?_eq_getElem (by omega)]
      exact List.getElem_mem _
    -- the lighter image
    have last : ∀ x : List Int, x.length = b * a → (∀ i, i < b * a → x.getD i 0 = mn 255 (l.getD i 0 + 20)) →
        Wp (fun k => (impl_OrderImage.f a b 1 x L).bind fun t => laws_FnOrderImage.l1 k t.2.2.2.2 0 a b ((1 : Nat) : Int) l u0 u1 u2 u3 t.1 t.2.1 t.2.2.1 t.2.2.2.1) (fun r => r = true) := by
      intro x hx hxv
      have xB : ∀ v ∈ x, 0 ≤ v ∧ v ≤ 255 := fun v hv => by
        obtain ⟨i, hi2, rfl⟩ := List.getElem_of_mem hv
        have e := hxv i (by omega)
        rw [List.getD_eq_getElem?_getD, List.getElem?_eq_getElem hi2] at e
        have := lB i (by omega)
        simp only [Option.getD_some] at e
        rw [e]
        unfold mn
        split <;> omega
      have okx : imgB a b 1 x = true := imgB_ok.2 ⟨by omega, by omega, by omega, by rw [hx, Int.natCast_mul, Int.mul_one, Int.mul_comm], xB⟩
      refine Wp.call (w_iOrd a b 1 x L) ?_
      rintro _ rfl
      unfold ordI
      rw [if_pos ⟨okx, rfl, hL⟩]
      simp only [Int.toNat_natCast]
      have hvl : (imgOf (ordP x a L) a b).length = b * a := by rw [img_len _ a b 1 (fun _ _ _ _ => rfl), Nat.mul_one]
      have val2 : ∀ i, i < b * a → (imgOf (ordP x a L) a b).getD i 0 = lv (ordL (x.getD i 0) L (i % a : Nat) (i / a : Nat)) L := fun i hi2 => ord_val x a b L ha.1 i hi2 (by omega) xB
      generalize imgOf (ordP x a L) a b = v at hvl val2
      have key : ∀ (e i : Nat), i + e = b * a → Wp (fun k => laws_FnOrderImage.l1 k true i a b ((1 : Nat) : Int) l u0 u1 u2 u3 a b 1 v) (fun r => r = true) := by
        intro e
        induction e with
        | zero =>
          intro i hi2
          exact Wp.step (fun k => laws_FnOrderImage.l1.eq_2 ..) (Wp.neg (by rw [hll1]; omega) (Wp.ret rfl))
        | succ e ih =>
          intro i hi2
          have m := lB i (by omega)
          refine Wp.step (fun k => laws_FnOrderImage.l1.eq_2 ..) (Wp.pos (by rw [hll1]; omega) (Wp.pos rfl (Wp.pos (by rw [hvl, hul]) (Wp.pos (by omega) (Wp.pos (by rw [hvl]; omega) (Wp.pos (by rw [hul]; omega) ?_))))))
          rw [bl_rd, bl_rd, val i (by omega), val2 i (by omega), hxv i (by omega), w64 (x := (i : Int) + 1) (by omega) (by omega)]
          have le : l.getD i 0 ≤ mn 255 (l.getD i 0 + 20) := by unfold mn; split <;> omega
          have := lv_mono (ordL_mono (x := (i % a : Nat)) (y := (i / a : Nat)) le hL) hL.1
          exact Wp.neg (by omega) (ih (i + 1) (by omega))
      exact key (b * a) 0 (by omega)
    have key : ∀ (e i : Nat) (x : List Int), i + e = b * a → x.length = b * a → (∀ j, j < i → x.getD j 0 = mn 255 (l.getD j 0 + 20)) → Wp (fun k => laws_FnOrderImage.l0 k L x i a b ((1 : Nat) : Int) l u0 u1 u2 u3) (fun r => r = true) := by
      intro e
      induction e with
      | zero =>
        intro i x hi2 hx hxv
        refine Wp.step (fun k => laws_FnOrderImage.l0.eq_2 ..) (Wp.neg (by rw [hll1]; omega) ?_)
        exact last x hx fun j hj => hxv j (by omega)
      | succ e ih =>
        intro i x hi2 hx hxv
        have m := lB i (by omega)
        have q := ordL_B (x := (i % a : Nat)) (y := (i / a : Nat)) m hL
        obtain ⟨kk, hkk⟩ := Int.eq_ofNat_of_zero_le q.1
        have uv := val i (by omega)
        have ns := nst_self kk L (by omega) hL.1
        rw [← hkk, ← uv] at ns
        have ub : 0 ≤ u3.getD i 0 ∧ u3.getD i 0 ≤ 255 := by
          rw [uv]
          exact ⟨lv_0 _ _ q.1 hL.1, lv_top _ _ q.2 hL.1⟩
        have nlt := nst_lt (u3.getD i 0) L L.toNat (by omega)
        refine Wp.step (fun k => laws_FnOrderImage.l0.eq_2 ..) (Wp.pos (by rw [hll1]; omega) (Wp.pos (by omega) (Wp.pos (by rw [hul]; omega) ?_)))
        rw [bl_rd, bl_rd]
        refine Wp.call (w_iLevelOf (u3.getD i 0) L) ?_
        rintro _ rfl
        have eO : lvOf (u3.getD i 0) L = nst (u3.getD i 0) L L.toNat := by
          unfold lvOf
          rw [if_pos ⟨hL, by omega, by omega⟩]
        rw [eO, w64 (x := L - 1) (by omega) (by omega), w64 (x := 255 * ((nst (u3.getD i 0) L L.toNat : Nat) : Int)) (by omega) (by omega), Int.tdiv_eq_ediv_of_nonneg (by omega)]
        have el : 255 * ((nst (u3.getD i 0) L L.toNat : Nat) : Int) / (L - 1) = u3.getD i 0 := ns
        rw [el, w64 (x := u3.getD i 0) (by omega) (by omega)]
        refine Wp.neg (by omega) (Wp.pos rfl ?_)
        have next : Wp (fun k => if (i : Int) < (x.length : Int) then laws_FnOrderImage.l0 k L (x.set (i : Int).toNat (mn 255 (wrap64 (l.getD i 0 + 20)))) (wrap64 ((i : Int) + 1)) a b ((1 : Nat) : Int) l u0 u1 u2 u3 else none) (fun r => r = true) := by
          refine Wp.pos (by rw [hx]; omega) ?_
          rw [w64 (x := l.getD i 0 + 20) (by omega) (by omega), w64 (x := (i : Int) + 1) (by omega) (by omega), Int.toNat_natCast]
          refine ih (i + 1) _ (by omega) (by rw [List.length_set]; exact hx) fun j hj => ?_
          rw [bl_set _ _ (by rw [hx]; omega)]
          split
          · rename_i e; rw [e]
          · exact hxv j (by omega)
        have e255 : ∀ z : l.getD i 0 = 255, u3.getD i 0 = 255 := fun z => by
          rw [uv, z, ordL_255]
          unfold lv
          exact Int.mul_ediv_cancel _ (by omega)
        have e0 : ∀ z : l.getD i 0 = 0, u3.getD i 0 = 0 := fun z => by
          rw [uv, z, ordL_0]
          unfold lv
          simp
        refine Wp.ite (fun z0 => ?_) (fun z0 => ?_)
        · refine Wp.pos (e0 z0) ?_
          exact Wp.ite (fun z1 => Wp.pos (e255 z1) next) (fun z1 => next)
        · exact Wp.ite (fun z1 => Wp.pos (e255 z1) next) (fun z1 => next)
    exact key (b * a) 0 l (by omega) hll1 (fun j hj => by omega)
end Go.Proofs.Yteeeedmmcdlhjaa.Pure
