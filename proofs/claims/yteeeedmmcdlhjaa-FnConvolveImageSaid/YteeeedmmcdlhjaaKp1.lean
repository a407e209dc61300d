/- Pure lemmas: what the printed functions answer, for every input; no Go, no memory, no condition but those that each lemma names. -/
import Derived.Test.YteeeedmmcdlhjaaVWords
import Derived.Test.YteeeedmmcdlhjaaK1
import Derived.Test.YteeeedmmcdlhjaaK2
import Derived.Test.YteeeedmmcdlhjaaK3
import Derived.Test.YteeeedmmcdlhjaaK4
import Derived.Test.YteeeedmmcdlhjaaK5
import Derived.Test.YteeeedmmcdlhjaaK6
import Derived.Test.YteeeedmmcdlhjaaK7
namespace Go.Proofs.Yteeeedmmcdlhjaa.Wp
open Go.RowKit Go.Proofs.YteeeedmmcdlhjaaW.PrintWords
set_option linter.unusedVariables false
def Wp {α : Type} (g : Nat → Option α) (P : α → Prop) : Prop := ∃ r, P r ∧ ∃ K, ∀ k, K ≤ k → g k = some r
theorem Wp.mono {α : Type} {g : Nat → Option α} {P Q : α → Prop} (h : Wp g P) (hi : ∀ a, P a → Q a) : Wp g Q := by
  obtain ⟨r, hp, K, hk⟩ := h
  exact ⟨r, hi r hp, K, hk⟩
theorem Wp.ret {α : Type} {P : α → Prop} {r : α} (h : P r) : Wp (fun _ => some r) P := ⟨r, h, 0, fun _ _ => rfl⟩
theorem Wp.bind {α β : Type} {g : Nat → Option α} {f : Nat → α → Option β} {P : β → Prop} (h : Wp g (fun a => Wp (fun k => f k a) P)) : Wp (fun k => (g k).bind (f k)) P := by
  obtain ⟨a, ⟨r, hp, K, hk⟩, K', hk'⟩ := h
  refine ⟨r, hp, max K K', fun k hkk => ?_⟩
  show (g k).bind (f k) = some r
  rw [hk' k (by omega)]
  exact hk k (by omega)
theorem Wp.call {α β : Type} {g : Nat → Option α} {f : Nat → α → Option β} {Q : α → Prop} {P : β → Prop} (h : Wp g Q) (hf : ∀ a, Q a → Wp (fun k => f k a) P) : Wp (fun k => (g k).bind (f k)) P :=
  Wp.bind (h.mono hf)
theorem Wp.ite {α : Type} {c : Prop} [Decidable c] {g h : Nat → Option α} {P : α → Prop} (h1 : c → Wp g P) (h2 : ¬ c → Wp h P) : Wp (fun k => if c then g k else h k) P := by
  by_cases hc : c
  · simpa only [if_pos hc] using h1 hc
  · simpa only [if_neg hc] using h2 hc
theorem Wp.pos {α : Type} {c : Prop} [Decidable c] {g h : Nat → Option α} {P : α → Prop} (hc : c) (h1 : Wp g P) : Wp (fun k => if c then g k else h k) P := Wp.ite (fun _ => h1) (fun h => absurd hc h)
theorem Wp.neg {α : Type} {c : Prop} [Decidable c] {g h : Nat → Option α} {P : α → Prop} (hc : ¬ c) (h1 : Wp h P) : Wp (fun k => if c then g k else h k) P := Wp.ite (fun h => absurd h hc) (fun _ => h1)
theorem Wp.step {α : Type} {g f : Nat → Option α} {P : α → Prop} (h : ∀ k, g (k + 1) = f k) (hf : Wp f P) : Wp g P := by
  obtain ⟨r, hp, K, hk⟩ := hf
  refine ⟨r, hp, K + 1, fun k hkk => ?_⟩
  obtain ⟨k, rfl⟩ : ∃ m, k = m + 1 := ⟨k - 1, by omega⟩
  rw [h k]
  exact hk k (by omega)
theorem Wp.of {α : Type} {g : Nat → Option α} {P : α → Prop} {r : α} (h : ∀ k, g k = some r) (hp : P r) : Wp g P := ⟨r, hp, 0, fun k _ => h k⟩
theorem Wp.rounds {α : Type} {g : Nat → Option α} {r : α} (h : Wp g (fun a => a = r)) : ∃ k, g k = some r := by
  obtain ⟨r', rfl, K, hk⟩ := h
  exact ⟨K, hk K (Nat.le_refl K)⟩
theorem w64 {x : Int} (h0 : -9223372036854775808 ≤ x) (h1 : x ≤ 9223372036854775807) : wrap64 x = x := by
  unfold wrap64
  omega
end Go.Proofs.Yteeeedmmcdlhjaa.Wp
namespace Go.Proofs.Yteeeedmmcdlhjaa.P
open Go.RowKit Go.Proofs.YteeeedmmcdlhjaaW.PrintWords Go.Proofs.YteeeedmmcdlhjaaW.PrintLast Go.Proofs.YteeeedmmcdlhjaaW.PrintMore Go.Proofs.Yteeeedmmcdlhjaa.Wp
set_option linter.unusedVariables false
set_option linter.unusedSimpArgs false
def sumN (f : Nat → Int) : Nat → Int
  | 0 => 0
  | n + 1 => sumN f n + f n
theorem sumN_congr {f g : Nat → Int} {n : Nat} (h : ∀ i, i < n → f i = g i) : sumN f n = sumN g n := by
  induction n with
  | zero => rfl
  | succ n ih => rw [sumN, sumN, ih fun i hi => h i (by omega), h n (by omega)]
end Go.Proofs.Yteeeedmmcdlhjaa.P
namespace Go.Proofs.Yteeeedmmcdlhjaa.P
open Go.RowKit Go.Proofs.YteeeedmmcdlhjaaW.PrintWords Go.Proofs.YteeeedmmcdlhjaaW.PrintLast Go.Proofs.YteeeedmmcdlhjaaW.PrintMore Go.Proofs.Yteeeedmmcdlhjaa.Wp
set_option linter.unusedVariables false
set_option linter.unusedSimpArgs false
theorem bl_rd (l : List Int) (i : Nat) : rd l (i : Int) = l.getD i 0 := by simp [rd]
theorem bl_ext {x l : List Int} (hx : x.length = l.length) (h : ∀ j, j < l.length → x.getD j 0 = l.getD j 0) : x = l := by
  apply List.ext_getElem hx
  intro j h1 h2
  have := h j h2
  simpa [List.getD_eq_getElem?_getD, List.getElem?_eq_getElem h1, List.getElem?_eq_getElem h2] using this
theorem bl_set {x : List Int} {i : Nat} (v : Int) (j : Nat) (hi : i < x.length) : (x.set i v).getD j 0 = if j = i then v else x.getD j 0 := by
  simp only [List.getD_eq_getElem?_getD, List.getElem?_set]
  by_cases h : i = j
  · subst h; simp [hi]
  · simp [h, Ne.symm h, eq_comm]
theorem bl_map_range (f : Nat → Int) (n j : Nat) (hj : j < n) : ((List.range n).map f).getD j 0 = f j := by
  simp [List.getD_eq_getElem?_getD, hj]
theorem bl_all_drop (l : List Int) (p : Int → Bool) (i : Nat) (h : i < l.length) : (l.drop i).all p = (p (l.getD i 0) && (l.drop (i + 1)).all p) := by
  rw [List.drop_eq_getElem_cons h, List.all_cons]
  simp [List.getD_eq_getElem?_getD, List.getElem?_eq_getElem h]
def allB (l : List Int) : Bool := l.all fun n => decide (0 ≤ n ∧ n ≤ 255)
theorem allB_mem {l : List Int} (h : allB l = true) : ∀ x ∈ l, 0 ≤ x ∧ x ≤ 255 := fun x hx => of_decide_eq_true (List.all_eq_true.1 h x hx)
theorem allB_of {l : List Int} (h : ∀ x ∈ l, 0 ≤ x ∧ x ≤ 255) : allB l = true := List.all_eq_true.2 fun x hx => decide_eq_true (h x hx)
theorem w_inRange0 (a b c : Int) : Wp (fun _ => spec_inRange.f a b c) (fun r => r = decide (b ≤ a ∧ a ≤ c)) := by
  unfold spec_inRange.f
  refine Wp.ite (fun h => Wp.ret ?_) (fun h => Wp.ret ?_)
  · simp [h]
  · simp [h]
theorem w_allIn (l : List Int) (a b : Int) (hl : l.length ≤ 1000000000) : Wp (fun k => spec_allIn.f k l a b) (fun r => r = l.all fun n => decide (a ≤ n ∧ n ≤ b)) := by
  unfold spec_allIn.f
  have key : ∀ d (i : Nat), i + d = l.length → Wp (fun k => spec_allIn.l0 k l a b i) (fun r => r = (l.drop i).all fun n => decide (a ≤ n ∧ n ≤ b)) := by
    intro d
    induction d with
    | zero =>
      intro i hd
      refine Wp.step (fun k => spec_allIn.l0.eq_2 ..) (Wp.neg (by omega) (Wp.ret ?_))
      rw [List.drop_of_length_le (by omega)]
      rfl
    | succ d ih =>
      intro i hd
      refine Wp.step (fun k => spec_allIn.l0.eq_2 ..) (Wp.pos (by omega) (Wp.pos (by omega) ?_))
      refine Wp.call (w_inRange0 _ _ _) ?_
      rintro _ rfl
      rw [bl_all_drop l _ i (by omega), bl_rd]
      refine Wp.ite (fun h => ?_) (fun h => Wp.ret ?_)
      · rw [h, Bool.true_and, w64 (x := (i : Int) + 1) (by omega) (by omega)]
        exact ih (i + 1) (by omega)
      · rw [Bool.not_eq_true] at h
        rw [h, Bool.false_and]
  exact key l.length 0 (by omega)
theorem w_allB (l : List Int) (hl : l.length ≤ 1000000000) : Wp (fun k => spec_allIn.f k l 0 255) (fun r => r = allB l) := w_allIn l 0 255 hl
theorem w_areBytes (l : List Int) : Wp (fun _ => impl_areBytes.f l) (fun r => r = allB l) := by
  unfold impl_areBytes.f
  refine Wp.ret ?_
  unfold allB
  induction l with
  | nil => rfl
  | cons x l ih =>
    simp only [List.any_cons, List.all_cons, Bool.not_or, ← ih]
    congr 1
    by_cases h0 : x < 0 <;> by_cases h1 : 255 < x <;> simp [h0, h1] <;> omega
def marks (a : Int) (n : Nat) : List Int := (List.range n).map fun j : Nat => a + (j : Int)
theorem w_equalInts (a b : List Int) (hl : a.length ≤ 1000000000) : Wp (fun k => laws_equalInts.f k a b) (fun r => r = decide (a = b)) := by
  unfold laws_equalInts.f
  refine Wp.ite (fun he => ?_) (fun he => Wp.ret ?_)
  · have key : ∀ d (i : Nat), i + d = a.length → (∀ j, j < i → a.getD j 0 = b.getD j 0) → Wp (fun k => laws_equalInts.l0 k a b i) (fun r => r = decide (a = b)) := by
      intro d
      induction d with
      | zero =>
        intro i hd h
        refine Wp.step (fun k => laws_equalInts.l0.eq_2 ..) (Wp.neg (by omega) (Wp.ret ?_))
        exact (decide_eq_true (bl_ext (by omega) fun j hj => h j (by omega))).symm
      | succ d ih =>
        intro i hd h
        refine Wp.step (fun k => laws_equalInts.l0.eq_2 ..) (Wp.pos (by omega) (Wp.pos (by omega) (Wp.pos (by omega) ?_)))
        rw [bl_rd, bl_rd]
        refine Wp.ite (fun h1 => ?_) (fun h1 => Wp.ret ?_)
        · rw [w64 (x := (i : Int) + 1) (by omega) (by omega)]
          refine ih (i + 1) (by omega) fun j hj => ?_
          by_cases e : j = i
          · rw [e]; exact h1
          · exact h j (by omega)
        · exact (decide_eq_false fun e => h1 (by rw [e])).symm
    exact key a.length 0 (by omega) (fun j hj => by omega)
  · exact (decide_eq_false fun e => he (by rw [e])).symm
end Go.Proofs.Yteeeedmmcdlhjaa.P
namespace Go.Proofs.Yteeeedmmcdlhjaa.P
open Go.RowKit Go.Proofs.YteeeedmmcdlhjaaW.PrintWords Go.Proofs.YteeeedmmcdlhjaaW.PrintLast Go.Proofs.YteeeedmmcdlhjaaW.PrintMore Go.Proofs.Yteeeedmmcdlhjaa.Wp
set_option linter.unusedVariables false
set_option linter.unusedSimpArgs false
theorem rd_cut (l : List Int) (a b i : Int) (ha : 0 ≤ a) (hi : 0 ≤ i) (hb : a + i < b) : rd ((l.take b.toNat).drop a.toNat) i = rd l (a + i) := by
  unfold rd
  rw [List.getD_eq_getElem?_getD, List.getD_eq_getElem?_getD, List.getElem?_drop, List.getElem?_take, if_pos (by omega)]
  congr 2
  omega
def imgB (a b c : Int) (l : List Int) : Bool := decide ((1 ≤ a ∧ a ≤ 16) ∧ (1 ≤ b ∧ b ≤ 16) ∧ (1 ≤ c ∧ c ≤ 4)) && decide ((l.length : Int) = a * b * c) && allB l
theorem imgB_ok {a b c : Int} {l : List Int} : imgB a b c l = true ↔ ImgOk a b c l := by
  unfold imgB ImgOk
  rw [Bool.and_eq_true, Bool.and_eq_true, decide_eq_true_eq, decide_eq_true_eq]
  constructor
  · rintro ⟨⟨h1, h2⟩, h3⟩
    exact ⟨h1.1, h1.2.1, h1.2.2, h2, allB_mem h3⟩
  · rintro ⟨h1, h2, h3, h4, h5⟩
    exact ⟨⟨⟨h1, h2, h3⟩, h4⟩, allB_of h5⟩
theorem w_iImage (a b c : Int) (l : List Int) : Wp (fun _ => impl_isImage.f a b c l) (fun r => r = imgB a b c l) := by
  obtain ⟨r, hr, hi⟩ := isImage_some a b c l
  refine Wp.of (fun _ => hr) ?_
  rw [Bool.eq_iff_iff, hi, imgB_ok]
theorem w_sImage (a b c : Int) (l : List Int) (hl : l.length ≤ 1000000000) : Wp (fun k => spec_validImage.f k a b c l) (fun r => r = imgB a b c l) := by
  unfold spec_validImage.f spec_validShape.f imgB
  refine Wp.call (Q := fun r => r = decide ((1 ≤ a ∧ a ≤ 16) ∧ (1 ≤ b ∧ b ≤ 16) ∧ (1 ≤ c ∧ c ≤ 4))) ?_ ?_
  · refine Wp.call (w_inRange0 _ _ _) ?_
    rintro _ rfl
    refine Wp.ite (fun h => ?_) (fun h => Wp.ret ?_)
    · refine Wp.call (w_inRange0 _ _ _) ?_
      rintro _ rfl
      refine Wp.ite (fun h2 => ?_) (fun h2 => Wp.ret ?_)
      · refine Wp.call (w_inRange0 _ _ _) ?_
        rintro _ rfl
        refine Wp.ret ?_
        rw [decide_eq_true_eq] at h h2
        rw [Bool.eq_iff_iff, decide_eq_true_eq, decide_eq_true_eq]
        exact ⟨fun h3 => ⟨h, h2, h3⟩, fun h3 => h3.2.2⟩
      · rw [decide_eq_true_eq] at h2
        exact (decide_eq_false fun h3 => h2 h3.2.1).symm
    · rw [decide_eq_true_eq] at h
      exact (decide_eq_false fun h3 => h h3.1).symm
  · rintro _ rfl
    refine Wp.ite (fun h => ?_) (fun h => Wp.ret ?_)
    · rw [h, Bool.true_and]
      rw [decide_eq_true_eq] at h
      obtain ⟨h0, h1, h2⟩ := h
      have hB := img_bounds h0 h1 h2
      rw [w64 (x := a * b) (by omega) (by omega), w64 (x := a * b * c) (by omega) (by omega)]
      refine Wp.ite (fun h3 => ?_) (fun h3 => Wp.ret ?_)
      · rw [decide_eq_true h3, Bool.true_and]
        refine Wp.call (w_allB l hl) ?_
        rintro _ rfl
        exact Wp.ret rfl
      · rw [decide_eq_false h3]; rfl
    · rw [Bool.not_eq_true] at h
      rw [h]; rfl
theorem w_newImage (a b c : Int) (h0 : 0 ≤ a ∧ a ≤ 1000) (h1 : 0 ≤ b ∧ b ≤ 1000) (h2 : 0 ≤ c ∧ c ≤ 1000) : Wp (fun _ => spec_newImage.f a b c) (fun r => r = (a, b, c, List.replicate (a * b * c).toNat 0)) := by
  have m1 : 0 ≤ a * b := Int.mul_nonneg h0.1 h1.1
  have m2 : a * b ≤ 1000 * 1000 := Int.mul_le_mul h0.2 h1.2 h1.1 (by omega)
  have m3 : 0 ≤ a * b * c := Int.mul_nonneg m1 h2.1
  have m4 : a * b * c ≤ 1000000 * 1000 := Int.mul_le_mul m2 h2.2 h2.1 (by omega)
  unfold spec_newImage.f
  rw [w64 (x := a * b) (by omega) (by omega), w64 (x := a * b * c) (by omega) (by omega)]
  exact Wp.pos m3 (Wp.pos (by omega) (Wp.ret rfl))
end Go.Proofs.Yteeeedmmcdlhjaa.P
namespace Go.Proofs.Yteeeedmmcdlhjaa.P
open Go.RowKit Go.Proofs.YteeeedmmcdlhjaaW.PrintWords Go.Proofs.YteeeedmmcdlhjaaW.PrintLast Go.Proofs.YteeeedmmcdlhjaaW.PrintMore Go.Proofs.Yteeeedmmcdlhjaa.Wp
set_option linter.unusedVariables false
set_option linter.unusedSimpArgs false
theorem fm_len (h : Nat → List Int) (n p : Nat) (hf : ∀ i, i < n → (h i).length = p) : ((List.range n).flatMap h).length = n * p := by
  induction n with
  | zero => simp
  | succ n ih =>
    rw [List.range_succ, List.flatMap_append, List.length_append, ih fun i hi => hf i (by omega), Nat.succ_mul]
    simp [hf n (by omega)]
theorem fm_get (h : Nat → List Int) (n p j q : Nat) (hf : ∀ i, i < n → (h i).length = p) (hj : j < n) (hq : q < p) : ((List.range n).flatMap h).getD (j * p + q) 0 = (h j).getD q 0 := by
  induction n with
  | zero => omega
  | succ n ih =>
    have hlen := fm_len h n p fun i hi => hf i (by omega)
    rw [List.range_succ, List.flatMap_append, List.getD_eq_getElem?_getD]
    by_cases hjn : j < n
    · have : j * p + q < n * p := by
        have : (j + 1) * p ≤ n * p := Nat.mul_le_mul_right p (by omega)
        rw [Nat.succ_mul] at this
        omega
      rw [List.getElem?_append_left (by omega), ← List.getD_eq_getElem?_getD]
      exact ih (fun i hi => hf i (by omega)) hjn
    · have : j = n := by omega
      subst this
      rw [List.getElem?_append_right (by omega), hlen, show j * p + q - j * p = q by omega]
      simp [List.getD_eq_getElem?_getD]
theorem img_fm (f : Int → Int → List Int) (h : Nat → List Int) (n m : Nat) (hh : ∀ i j, j < n → i < m → f (j : Int) (i : Int) = h (i * n + j)) : imgOf f n m = (List.range (m * n)).flatMap h := by
  induction m with
  | zero => simp [imgOf]
  | succ m ih =>
    rw [imgOf_succ, ih fun i j hj hi => hh i j hj (by omega), Nat.succ_mul, List.range_add, List.flatMap_append]
    congr 1
    unfold imgRow
    rw [List.flatMap_map]
    have : ∀ (a : List Nat), (∀ x ∈ a, x < n) → a.flatMap (fun j : Nat => f (j : Int) (m : Int)) = a.flatMap (fun x => h (m * n + x)) := by
      intro a
      induction a with
      | nil => intro _; rfl
      | cons x a iha =>
        intro hx
        rw [List.flatMap_cons, List.flatMap_cons, iha fun y hy => hx y (List.mem_cons_of_mem _ hy), hh m x (hx x (List.mem_cons_self ..)) (by omega)]
    exact this _ fun x hx => List.mem_range.1 hx
theorem img_len (f : Int → Int → List Int) (n m p : Nat) (hf : ∀ i j : Nat, j < n → i < m → (f j i).length = p) : (imgOf f n m).length = m * n * p := by
  induction m with
  | zero => simp [imgOf]
  | succ m ih =>
    rw [imgOf_succ, List.length_append, ih fun i j hj hi => hf i j hj (by omega)]
    unfold imgRow
    rw [fm_len _ n p fun j hj => hf m j hj (by omega), Nat.succ_mul, Nat.add_mul]
theorem img_get (f : Int → Int → List Int) (n m p i j q : Nat) (hf : ∀ i j : Nat, j < n → i < m → (f j i).length = p) (hj : j < n) (hi : i < m) (hq : q < p) :
    (imgOf f n m).getD ((i * n + j) * p + q) 0 = (f j i).getD q 0 := by
  have e : imgOf f n m = (List.range m).flatMap fun i : Nat => imgRow f i n := rfl
  have hr : ∀ i : Nat, i < m → (imgRow f i n).length = n * p := fun i hi => by
    unfold imgRow
    exact fm_len _ n p fun j hj => hf i j hj hi
  have hb : j * p + q < n * p := by
    have : (j + 1) * p ≤ n * p := Nat.mul_le_mul_right p (by omega)
    rw [Nat.succ_mul] at this
    omega
  rw [e, show (i * n + j) * p + q = i * (n * p) + (j * p + q) by rw [Nat.add_mul, Nat.mul_assoc]; omega, fm_get _ m (n * p) i _ hr hi hb]
  unfold imgRow
  exact fm_get _ n p j q (fun j hj => hf i j hj hi) hj hq
theorem img_ext (f : Int → Int → List Int) (n m p : Nat) (x : List Int) (hf : ∀ i j : Nat, j < n → i < m → (f j i).length = p) (hx : x.length = m * n * p)
    (h : ∀ i j q : Nat, i < m → j < n → q < p → x.getD ((i * n + j) * p + q) 0 = (f j i).getD q 0) : x = imgOf f n m := by
  refine bl_ext (by rw [hx, img_len f n m p hf]) fun t ht => ?_
  rw [img_len f n m p hf] at ht
  have hp : 0 < p := by rcases Nat.eq_zero_or_pos p with h | h; (· subst h; omega); exact h
  have ht2 : t / p < m * n := Nat.div_lt_of_lt_mul (by rw [Nat.mul_comm]; exact ht)
  have hn : 0 < n := by rcases Nat.eq_zero_or_pos n with h | h; (· subst h; omega); exact h
  have hi : t / p / n < m := Nat.div_lt_of_lt_mul (by rw [Nat.mul_comm]; exact ht2)
  have hj : t / p % n < n := Nat.mod_lt _ hn
  have hq : t % p < p := Nat.mod_lt _ hp
  have e1 : t / p / n * n + t / p % n = t / p := by rw [Nat.mul_comm]; exact Nat.div_add_mod _ _
  have e2 : t / p * p + t % p = t := by rw [Nat.mul_comm]; exact Nat.div_add_mod _ _
  have h1 := h _ _ _ hi hj hq
  have h2 := img_get f n m p _ _ _ hf hj hi hq
  rw [e1, e2] at h1 h2
  rw [h1, h2]
end Go.Proofs.Yteeeedmmcdlhjaa.P
namespace Go.Proofs.Yteeeedmmcdlhjaa.P
open Go.RowKit Go.Proofs.YteeeedmmcdlhjaaW.PrintWords Go.Proofs.YteeeedmmcdlhjaaW.PrintLast Go.Proofs.YteeeedmmcdlhjaaW.PrintMore Go.Proofs.Yteeeedmmcdlhjaa.Wp
set_option linter.unusedVariables false
set_option linter.unusedSimpArgs false
theorem pix_get {l : List Int} {n p x y : Int} (q : Nat) (h0 : 0 ≤ (y * n + x) * p) (hq : (q : Int) < p) : (pixOf l n p x y).getD q 0 = rd l ((y * n + x) * p + q) := by
  unfold pixOf
  have := rd_cut l ((y * n + x) * p) ((y * n + x) * p + p) q h0 (by omega) (by omega)
  rw [← this, bl_rd]
theorem pix_img (f : Int → Int → List Int) (n m p : Nat) (hf : ∀ i j : Nat, j < n → i < m → (f j i).length = p) (i j : Nat) (hj : j < n) (hi : i < m) : pixOf (imgOf f n m) n p j i = f j i := by
  have hl := img_len f n m p hf
  have e : ((i : Int) * n + j) * p = (((i * n + j) * p : Nat) : Int) := by rw [Int.natCast_mul (i * n + j) p, Int.natCast_add, Int.natCast_mul]
  have hb : (i * n + j) * p + p ≤ m * n * p := by
    have h1 : i * n + j + 1 ≤ m * n := by
      have : (i + 1) * n ≤ m * n := Nat.mul_le_mul_right n hi
      rw [Nat.succ_mul] at this
      omega
    have : (i * n + j + 1) * p ≤ m * n * p := Nat.mul_le_mul_right p h1
    rw [Nat.succ_mul] at this
    omega
  have hlen := pixOf_length (l := imgOf f n m) (n := n) (p := p) (x := j) (y := i) (by rw [e]; omega) (by omega) (by rw [e]; omega)
  have hfl := hf i j hj hi
  refine bl_ext (by omega) fun q hq => ?_
  rw [pix_get q (by rw [e]; omega) (by omega), e, ← Int.natCast_add, bl_rd]
  exact img_get f n m p i j q hf hj hi (by omega)
theorem img_mem (f : Int → Int → List Int) (n m : Nat) (P : Int → Prop) (h : ∀ i j : Nat, j < n → i < m → ∀ v ∈ f j i, P v) : ∀ v ∈ imgOf f n m, P v := by
  intro v hv
  unfold imgOf imgRow at hv
  obtain ⟨i, hi, hv⟩ := List.mem_flatMap.1 hv
  obtain ⟨j, hj, hv⟩ := List.mem_flatMap.1 hv
  exact h i j (List.mem_range.1 hj) (List.mem_range.1 hi) v hv
theorem img_ok (f : Int → Int → List Int) (n m p : Nat) (hn : 1 ≤ n ∧ n ≤ 16) (hm : 1 ≤ m ∧ m ≤ 16) (hp : 1 ≤ p ∧ p ≤ 4) (hf : ∀ i j : Nat, j < n → i < m → (f j i).length = p) (hb : ∀ i j : Nat, j < n → i < m → ∀ v ∈ f j i, 0 ≤ v ∧ v ≤ 255) :
    imgB n m p (imgOf f n m) = true := imgB_ok.2 ⟨by omega, by omega, by omega, by rw [img_len f n m p hf, Int.natCast_mul, Int.natCast_mul, Int.mul_comm (m : Int)], img_mem f n m _ hb⟩
theorem img_congr (f g : Int → Int → List Int) (n m : Nat) (h : ∀ i j : Nat, j < n → i < m → f j i = g j i) : imgOf f n m = imgOf g n m := by
  induction m with
  | zero => rfl
  | succ m ih =>
    rw [imgOf_succ, imgOf_succ, ih fun i j hj hi => h i j hj (by omega)]
    congr 1
    have hm : ∀ j : Nat, j < n → f j m = g j m := fun j hj => h m j hj (by omega)
    clear ih h
    induction n with
    | zero => rfl
    | succ n ih => rw [imgRow_succ, imgRow_succ, ih fun j hj => hm j (by omega), hm n (by omega)]
theorem img_self (l : List Int) (n m p : Nat) (hl : l.length = m * n * p) : imgOf (fun x y => pixOf l n p x y) n m = l := by
  have hlen : ∀ i j : Nat, j < n → i < m → (pixOf l n p j i).length = p ∧ ((i : Int) * n + j) * p = (((i * n + j) * p : Nat) : Int) := fun i j hj hi => by
    have e : ((i : Int) * n + j) * p = (((i * n + j) * p : Nat) : Int) := by rw [Int.natCast_mul (i * n + j) p, Int.natCast_add, Int.natCast_mul]
    have hb : (i * n + j) * p + p ≤ m * n * p := by
      have h1 : i * n + j + 1 ≤ m * n := by
        have : (i + 1) * n ≤ m * n := Nat.mul_le_mul_right n hi
        rw [Nat.succ_mul] at this
        omega
      have : (i * n + j + 1) * p ≤ m * n * p := Nat.mul_le_mul_right p h1
      rw [Nat.succ_mul] at this
      omega
    have := pixOf_length (l := l) (n := n) (p := p) (x := j) (y := i) (by rw [e]; omega) (by omega) (by rw [e]; omega)
    exact ⟨by omega, e⟩
  refine (img_ext _ n m p l (fun i j hj hi => (hlen i j hj hi).1) hl fun i j q hi hj hq => ?_).symm
  have e := (hlen i j hj hi).2
  rw [pix_get q (by rw [e]; omega) (by omega), e, ← Int.natCast_add, bl_rd]
end Go.Proofs.Yteeeedmmcdlhjaa.P
namespace Go.Proofs.Yteeeedmmcdlhjaa.P
open Go.RowKit Go.Proofs.YteeeedmmcdlhjaaW.PrintWords Go.Proofs.YteeeedmmcdlhjaaW.PrintLast Go.Proofs.YteeeedmmcdlhjaaW.PrintMore Go.Proofs.Yteeeedmmcdlhjaa.Wp
set_option linter.unusedVariables false
set_option linter.unusedSimpArgs false
theorem mul_small {a b : Int} (m n : Int) (h0 : 0 ≤ a) (h1 : a ≤ m) (h2 : 0 ≤ b) (h3 : b ≤ n) : 0 ≤ a * b ∧ a * b ≤ m * n := ⟨Int.mul_nonneg h0 h2, Int.mul_le_mul h1 h3 h2 (by omega)⟩
def dat (l : List Int) (a p q : Nat) (i j : Nat) : Int := l.getD ((j * a + i) * p + q) 0
theorem dat_pix (l : List Int) (a b p : Nat) (hl : l.length = b * a * p) (i j q : Nat) (hi : i < a) (hj : j < b) (hq : q < p) : (pixOf l a p i j).getD q 0 = dat l a p q i j := by
  have e : ((j : Int) * a + i) * p = (((j * a + i) * p : Nat) : Int) := by rw [Int.natCast_mul (j * a + i) p, Int.natCast_add, Int.natCast_mul]
  rw [pix_get q (by rw [e]; omega) (by omega), e, ← Int.natCast_add, bl_rd]
  rfl
theorem dat_B (l : List Int) (a b p : Nat) (hl : l.length = b * a * p) (hB : ∀ v ∈ l, 0 ≤ v ∧ v ≤ 255) (i j q : Nat) (hi : i < a) (hj : j < b) (hq : q < p) : 0 ≤ dat l a p q i j ∧ dat l a p q i j ≤ 255 := by
  have h1 : j * a + i + 1 ≤ b * a := by
    have : (j + 1) * a ≤ b * a := Nat.mul_le_mul_right a hj
    rw [Nat.succ_mul] at this
    omega
  have h2 : (j * a + i + 1) * p ≤ b * a * p := Nat.mul_le_mul_right p h1
  rw [Nat.succ_mul] at h2
  refine hB _ ?_
  unfold dat
  rw [List.getD_eq_getElem?_getD, List.getElem?_eq_getElem (show (j * a + i) * p + q < l.length by omega)]
  exact List.getElem_mem _
theorem img_nat {a b c : Int} {l : List Int} (hi : imgB a b c l = true) : ∃ a' b' p : Nat, a = a' ∧ b = b' ∧ c = p ∧ (1 ≤ a' ∧ a' ≤ 16) ∧ (1 ≤ b' ∧ b' ≤ 16) ∧ (1 ≤ p ∧ p ≤ 4) ∧ l.length = b' * a' * p ∧ ∀ v ∈ l, 0 ≤ v ∧ v ≤ 255 := by
  obtain ⟨h0, h1, h2, hlen, hB⟩ := imgB_ok.1 hi
  obtain ⟨a, rfl⟩ := Int.eq_ofNat_of_zero_le (show 0 ≤ a by omega)
  obtain ⟨b, rfl⟩ := Int.eq_ofNat_of_zero_le (show 0 ≤ b by omega)
  obtain ⟨p, rfl⟩ := Int.eq_ofNat_of_zero_le (show 0 ≤ c by omega)
  refine ⟨a, b, p, rfl, rfl, rfl, by omega, by omega, by omega, ?_, hB⟩
  rw [← Int.natCast_mul, ← Int.natCast_mul, Nat.mul_comm a b] at hlen
  omega
theorem dat_img (f : Int → Int → List Int) (n m p q i j : Nat) (hf : ∀ i j : Nat, j < n → i < m → (f j i).length = p) (hi : i < n) (hj : j < m) (hq : q < p) : dat (imgOf f n m) n p q i j = (f i j).getD q 0 := img_get f n m p j i q hf hi hj hq
theorem pix_len (l : List Int) (a b p i j : Nat) (hl : l.length = b * a * p) (hi : i < a) (hj : j < b) : (pixOf l a p i j).length = p := by
  have hf := pix_fits (a0 := a) (a1 := b) (a2 := p) (x := i) (y := j) (by omega) (by omega) (by omega) (by omega) (by omega)
  have hz : 0 ≤ (j : Int) * a := Int.mul_nonneg (by omega) (by omega)
  have := pixOf_length (l := l) (n := a) (p := p) (x := i) (y := j) (Int.mul_nonneg (by omega) (by omega)) (by omega) (by
    rw [hl, Int.natCast_mul, Int.natCast_mul, Int.mul_comm (b : Int)]
    exact hf)
  omega
end Go.Proofs.Yteeeedmmcdlhjaa.P
namespace Go.Proofs.Yteeeedmmcdlhjaa.P
open Go.RowKit Go.Proofs.YteeeedmmcdlhjaaW.PrintWords Go.Proofs.YteeeedmmcdlhjaaW.PrintLast Go.Proofs.YteeeedmmcdlhjaaW.PrintMore Go.Proofs.Yteeeedmmcdlhjaa.Wp
set_option linter.unusedVariables false
set_option linter.unusedSimpArgs false
theorem fd_emod_le (a b : Int) (ha : 0 ≤ a) (hb : 0 < b) : a % b ≤ a := by
  obtain ⟨m, rfl⟩ := Int.eq_ofNat_of_zero_le ha
  obtain ⟨n, rfl⟩ := Int.eq_ofNat_of_zero_le (Int.le_of_lt hb)
  have := Nat.mod_le m n
  omega
theorem fd_parts (a b : Int) (hb : 0 < b) : (0 ≤ Int.tmod a b ∧ a / b = Int.tdiv a b) ∨ (Int.tmod a b < 0 ∧ a / b = Int.tdiv a b - 1) := by
  have h1 : Int.tmod a b + b * Int.tdiv a b = a := Int.tmod_add_mul_tdiv a b
  have h2 : Int.tmod a b < b := Int.tmod_lt_of_pos a hb
  rcases Int.lt_or_le a 0 with ha | ha
  · have h3 : 0 ≤ Int.tmod (-a) b := Int.tmod_nonneg b (by omega)
    have h4 : Int.tmod (-a) b < b := Int.tmod_lt_of_pos (-a) hb
    rw [Int.neg_tmod] at h3 h4
    by_cases hz : Int.tmod a b = 0
    · left
      refine ⟨by omega, ?_⟩
      exact ((Int.ediv_emod_unique (r := Int.tmod a b) (q := Int.tdiv a b) hb).2 ⟨h1, by omega, h2⟩).1
    · right
      refine ⟨by omega, ?_⟩
      refine ((Int.ediv_emod_unique (r := Int.tmod a b + b) (q := Int.tdiv a b - 1) hb).2 ⟨?_, by omega, by omega⟩).1
      rw [Int.mul_sub]
      omega
  · left
    refine ⟨Int.tmod_nonneg b ha, ?_⟩
    exact (Int.tdiv_eq_ediv_of_nonneg ha).symm
theorem fd_bound (a b : Int) (hb : 0 < b) : -(a.natAbs : Int) ≤ Int.tdiv a b ∧ Int.tdiv a b ≤ a.natAbs := by
  have := Int.natAbs_tdiv_le_natAbs a b
  omega
theorem fd_mul (a b : Int) (hb : 0 < b) : Int.tdiv a b * b = a - Int.tmod a b := by
  have h1 : Int.tmod a b + b * Int.tdiv a b = a := Int.tmod_add_mul_tdiv a b
  rw [Int.mul_comm]
  omega
theorem fd_tmod_bound (a b : Int) (hb : 0 < b) : -(a.natAbs : Int) ≤ Int.tmod a b ∧ Int.tmod a b ≤ a.natAbs := by
  rcases Int.lt_or_le a 0 with ha | ha
  · have h3 : 0 ≤ Int.tmod (-a) b := Int.tmod_nonneg b (by omega)
    have h5 : Int.tmod (-a) b ≤ -a := by
      rw [Int.tmod_eq_emod_of_nonneg (by omega)]
      exact fd_emod_le _ b (by omega) hb
    rw [Int.neg_tmod] at h3 h5
    omega
  · have h3 : 0 ≤ Int.tmod a b := Int.tmod_nonneg b ha
    have h5 : Int.tmod a b ≤ a := by
      rw [Int.tmod_eq_emod_of_nonneg ha]
      exact fd_emod_le _ b ha hb
    omega
theorem w_iFloorDiv (a b : Int) (ha : -1000000000000000 ≤ a) (ha2 : a ≤ 1000000000000000) (hb : 0 < b) : Wp (fun _ => impl_floorDiv.f a b) (fun r => r = a / b) := by
  have h := fd_parts a b hb
  have q := fd_bound a b hb
  have m := fd_mul a b hb
  have t := fd_tmod_bound a b hb
  unfold impl_floorDiv.f
  rw [w64 (x := Int.tdiv a b) (by omega) (by omega), m, w64 (x := a - Int.tmod a b) (by omega) (by omega)]
  refine Wp.neg (by omega) (Wp.ite (fun h1 => Wp.ret ?_) (fun h1 => Wp.ret ?_))
  · rw [w64 (by omega) (by omega)]
    omega
  · omega
end Go.Proofs.Yteeeedmmcdlhjaa.P
namespace Go.Proofs.Yteeeedmmcdlhjaa.P
open Go.RowKit Go.Proofs.YteeeedmmcdlhjaaW.PrintWords Go.Proofs.YteeeedmmcdlhjaaW.PrintLast Go.Proofs.YteeeedmmcdlhjaaW.PrintMore Go.Proofs.Yteeeedmmcdlhjaa.Wp
set_option linter.unusedVariables false
set_option linter.unusedSimpArgs false
theorem sumN_abs {f : Nat → Int} {n : Nat} (c : Int) (h : ∀ i, i < n → -c ≤ f i ∧ f i ≤ c) : -((n : Int) * c) ≤ sumN f n ∧ sumN f n ≤ (n : Int) * c := by
  induction n with
  | zero => simp [sumN]
  | succ n ih =>
    have h1 := ih fun i hi => h i (by omega)
    have h2 := h n (by omega)
    rw [sumN, show ((n + 1 : Nat) : Int) * c = (n : Int) * c + c by rw [Int.natCast_add, Int.add_mul]; simp]
    omega
theorem mul_abs {a b : Int} (m n : Int) (h0 : -m ≤ a) (h1 : a ≤ m) (h2 : 0 ≤ b) (h3 : b ≤ n) (hm : 0 ≤ m) : -(m * n) ≤ a * b ∧ a * b ≤ m * n := by
  have u : m * b ≤ m * n := Int.mul_le_mul_of_nonneg_left h3 hm
  have v : a * b ≤ m * b := Int.mul_le_mul_of_nonneg_right h1 h2
  have w : (-m) * b ≤ a * b := Int.mul_le_mul_of_nonneg_right h0 h2
  rw [Int.neg_mul] at w
  omega
theorem near1_alt (z n : Int) : mn (n - 1) (mx 0 z) = near1 z n ∨ n < 1 := by
  unfold near1 mn mx
  split <;> split <;> split <;> omega
theorem near1_eq {z n : Int} (h : 1 ≤ n) : mn (n - 1) (mx 0 z) = near1 z n := by
  rcases near1_alt z n with h1 | h1
  · exact h1
  · omega
theorem kerOk_iff {r : Int} {ks : List Int} {d : Int} : kerOk r ks d = true ↔ (0 ≤ r ∧ r ≤ 2) ∧ (ks.length : Int) = (2 * r + 1) * (2 * r + 1) ∧ (1 ≤ d ∧ d ≤ 999) ∧ ∀ v ∈ ks, -99 ≤ v ∧ v ≤ 99 := by
  constructor
  · intro h
    obtain ⟨h0, h1, h2, _⟩ := kerOk_true h
    rw [kerOk_any h0 h1 h2, Bool.not_eq_true', List.any_eq_false] at h
    refine ⟨h0, h1, h2, fun v hv => ?_⟩
    have := h v hv
    simp only [Bool.or_eq_true, decide_eq_true_eq, not_or] at this
    omega
  · rintro ⟨h0, h1, h2, h3⟩
    rw [kerOk_any h0 h1 h2, Bool.not_eq_true', List.any_eq_false]
    intro v hv
    have := h3 v hv
    simp only [Bool.or_eq_true, decide_eq_true_eq, not_or]
    omega
def convS (l : List Int) (a b p : Nat) (r : Int) (ks : List Int) (sd x y : Int) (q t : Nat) : Int :=
  sumN (fun i => ks.getD i 0 * dat l a p q (near1 (x + (i : Int) % sd - r) a).toNat (near1 (y + (i : Int) / sd - r) b).toNat) t
def cvV (s d : Int) : Int := mn (mx ((2 * s + d) / (2 * d)) 0) 255
theorem cvV_B (s d : Int) : 0 ≤ cvV s d ∧ cvV s d ≤ 255 := by
  unfold cvV mn mx
  split <;> split <;> omega
def convP (l : List Int) (a b p : Nat) (r : Int) (ks : List Int) (d : Int) (x y : Int) : List Int := (List.range p).map fun q => cvV (convS l a b p r ks (2 * r + 1) x y q ks.length) d
theorem convP_len (l : List Int) (a b p : Nat) (r : Int) (ks : List Int) (d x y : Int) : (convP l a b p r ks d x y).length = p := by simp [convP]
theorem convP_get (l : List Int) (a b p : Nat) (r : Int) (ks : List Int) (d x y : Int) (q : Nat) (hq : q < p) : (convP l a b p r ks d x y).getD q 0 = cvV (convS l a b p r ks (2 * r + 1) x y q ks.length) d := bl_map_range _ _ _ hq
theorem rndc_eq {s d : Int} (hs : -100000000000 ≤ s ∧ s ≤ 100000000000) (hd : 0 < d ∧ d ≤ 1000000) : rndc s d = (2 * s + d) / (2 * d) := by
  unfold rndc impl_rounded.f
  rw [w64 (x := 2 * s) (by omega) (by omega), w64 (x := 2 * s + d) (by omega) (by omega), w64 (x := 2 * d) (by omega) (by omega)]
  obtain ⟨r, hr, K, hK⟩ := w_iFloorDiv (2 * s + d) (2 * d) (by omega) (by omega) (by omega)
  have := hK K (Nat.le_refl K)
  simp only at this
  rw [this, hr]
  rfl
theorem ks_B {ks : List Int} (h : ∀ v ∈ ks, -99 ≤ v ∧ v ≤ 99) (i : Nat) : -99 ≤ ks.getD i 0 ∧ ks.getD i 0 ≤ 99 := by
  rw [List.getD_eq_getElem?_getD]
  rcases Nat.lt_or_ge i ks.length with hi | hi
  · rw [List.getElem?_eq_getElem hi]
    exact h _ (List.getElem_mem _)
  · rw [List.getElem?_eq_none hi]
    exact ⟨by decide, by decide⟩
theorem near1_nat {z : Int} {n : Nat} (h : 1 ≤ n) : ((near1 z n).toNat : Int) = near1 z n ∧ (near1 z n).toNat < n := by
  have := near1_on (z := z) (n := n) (by omega)
  omega
theorem term_B (l : List Int) (a b p : Nat) (r : Int) (ks : List Int) (sd x y : Int) (q i : Nat) (ha : 1 ≤ a) (hb : 1 ≤ b) (hl : l.length = b * a * p) (hB : ∀ v ∈ l, 0 ≤ v ∧ v ≤ 255) (hk : ∀ v ∈ ks, -99 ≤ v ∧ v ≤ 99) (hq : q < p) :
    -25245 ≤ ks.getD i 0 * dat l a p q (near1 (x + (i : Int) % sd - r) a).toNat (near1 (y + (i : Int) / sd - r) b).toNat ∧ ks.getD i 0 * dat l a p q (near1 (x + (i : Int) % sd - r) a).toNat (near1 (y + (i : Int) / sd - r) b).toNat ≤ 25245 := by
  have h1 := ks_B hk i
  have h2 := dat_B l a b p hl hB _ _ q (near1_nat (z := x + (i : Int) % sd - r) ha).2 (near1_nat (z := y + (i : Int) / sd - r) hb).2 hq
  exact mul_abs 99 255 h1.1 h1.2 h2.1 h2.2 (by omega)
theorem convS_B (l : List Int) (a b p : Nat) (r : Int) (ks : List Int) (sd x y : Int) (q t : Nat) (ha : 1 ≤ a) (hb : 1 ≤ b) (hl : l.length = b * a * p) (hB : ∀ v ∈ l, 0 ≤ v ∧ v ≤ 255) (hk : ∀ v ∈ ks, -99 ≤ v ∧ v ≤ 99) (hq : q < p) (ht : t ≤ 100) :
    -2524500 ≤ convS l a b p r ks sd x y q t ∧ convS l a b p r ks sd x y q t ≤ 2524500 := by
  have := sumN_abs (n := t) 25245 fun i _ => term_B l a b p r ks sd x y q i ha hb hl hB hk hq
  unfold convS
  omega
theorem addW_get (s px : List Int) (a : Int) (P : Nat) (hs : s.length = P) (ha : -1000 ≤ a ∧ a ≤ 1000) (h0 : ∀ q, q < P → -1000000000000 ≤ s.getD q 0 ∧ s.getD q 0 ≤ 1000000000000) (h1 : ∀ q, q < P → 0 ≤ px.getD q 0 ∧ px.getD q 0 ≤ 255) :
    ∀ k, k ≤ P → ∀ q, q < P → (addW s px a k).getD q 0 = if q < k then s.getD q 0 + a * px.getD q 0 else s.getD q 0 := by
  intro k
  induction k with
  | zero => intro _ q hq; rw [if_neg (by omega)]; rfl
  | succ k ih =>
    intro hk q hq
    have hl := addW_len s px a k
    rw [addW, bl_set _ _ (by omega), bl_rd, bl_rd, ih (by omega) k (by omega), if_neg (show ¬ k < k by omega)]
    by_cases e : q = k
    · subst e
      have b0 := h0 q hq
      have b1 := h1 q hq
      have b2 := mul_abs 1000 255 ha.1 ha.2 b1.1 b1.2 (by omega)
      rw [if_pos rfl, if_pos (by omega), w64 (x := a * px.getD q 0) (by omega) (by omega), w64 (by omega) (by omega)]
    · rw [if_neg e, ih (by omega) q hq]
      by_cases h : q < k
      · rw [if_pos h, if_pos (by omega)]
      · rw [if_neg h, if_neg (by omega)]
theorem convAll_get (l : List Int) (a b p : Nat) (r : Int) (ks : List Int) (sd x y : Int) (ha : 1 ≤ a) (hb : 1 ≤ b) (hl : l.length = b * a * p) (hB : ∀ v ∈ l, 0 ≤ v ∧ v ≤ 255) (hk : ∀ v ∈ ks, -99 ≤ v ∧ v ≤ 99) :
    ∀ t, t ≤ 100 → ∀ q, q < p → (convAll l a b p r ks sd x y t).getD q 0 = convS l a b p r ks sd x y q t := by
  intro t
  induction t with
  | zero =>
    intro _ q hq
    rw [convAll, convS, sumN]
    simp [List.getD_eq_getElem?_getD, hq]
  | succ t ih =>
    intro ht q hq
    have ih := ih (by omega)
    have kb := ks_B hk t
    obtain ⟨e1, e2⟩ := near1_nat (z := x + (t : Int) % sd - r) ha
    obtain ⟨e3, e4⟩ := near1_nat (z := y + (t : Int) / sd - r) hb
    have px : ∀ q, q < p → (pixOf l a p (near1 (x + (t : Int) % sd - r) a) (near1 (y + (t : Int) / sd - r) b)).getD q 0 = dat l a p q (near1 (x + (t : Int) % sd - r) a).toNat (near1 (y + (t : Int) / sd - r) b).toNat := fun q hq => by
      have := dat_pix l a b p hl (near1 (x + (t : Int) % sd - r) a).toNat (near1 (y + (t : Int) / sd - r) b).toNat q e2 e4 hq
      rw [e1, e3] at this
      exact this
    rw [convAll, addW_get _ _ _ p (by rw [convAll_len, Int.toNat_natCast]) (by rw [bl_rd]; omega) (fun q hq => by
      have := convS_B l a b p r ks sd x y q t ha hb hl hB hk hq (by omega)
      rw [ih q hq]
      omega) (fun q hq => by rw [px q hq]; exact dat_B l a b p hl hB _ _ q e2 e4 hq) _ (by omega) q hq, Int.toNat_natCast, if_pos hq, ih q hq, px q hq, bl_rd]
    unfold convS
    rw [sumN]
theorem clampK_get (p : Nat) (s : List Int) (d : Int) (hs : s.length = p) (hd : 0 < d ∧ d ≤ 1000000) (h0 : ∀ q, q < p → -100000000000 ≤ s.getD q 0 ∧ s.getD q 0 ≤ 100000000000) :
    ∀ k, k ≤ p → ∀ q, q < p → (clampK s d k).getD q 0 = if q < k then cvV (s.getD q 0) d else s.getD q 0 := by
  intro k
  induction k with
  | zero => intro _ q hq; rw [if_neg (by omega)]; rfl
  | succ k ih =>
    intro hk q hq
    have hl := clampK_len s d k
    rw [clampK, bl_set _ _ (by omega), bl_rd, ih (by omega) k (by omega), if_neg (show ¬ k < k by omega)]
    by_cases e : q = k
    · subst e
      rw [if_pos rfl, if_pos (by omega), rndc_eq (h0 q hq) hd]
      rfl
    · rw [if_neg e, ih (by omega) q hq]
      by_cases h : q < k
      · rw [if_pos h, if_pos (by omega)]
      · rw [if_neg h, if_neg (by omega)]
theorem convPix_eq (l : List Int) (a b p : Nat) (r : Int) (ks : List Int) (d x y : Int) (ha : 1 ≤ a) (hb : 1 ≤ b) (hl : l.length = b * a * p) (hB : ∀ v ∈ l, 0 ≤ v ∧ v ≤ 255) (hk : ∀ v ∈ ks, -99 ≤ v ∧ v ≤ 99) (hkl : ks.length ≤ 100) (hd : 0 < d ∧ d ≤ 1000000) :
    convPix l a b p r ks d (2 * r + 1) x y = convP l a b p r ks d x y := by
  have hA := convAll_get l a b p r ks (2 * r + 1) x y ha hb hl hB hk ks.length hkl
  unfold convPix
  rw [Int.toNat_natCast]
  refine bl_ext (by rw [clampK_len, convAll_len, convP_len]; simp) fun q hq => ?_
  rw [convP_len] at hq
  rw [clampK_get p _ _ (by rw [convAll_len, Int.toNat_natCast]) hd (fun q hq => by
    have := convS_B l a b p r ks (2 * r + 1) x y q ks.length ha hb hl hB hk hq hkl
    rw [hA q hq]
    omega) p (Nat.le_refl p) q hq, if_pos hq, hA q hq, convP_get _ _ _ _ _ _ _ _ _ _ hq]
end Go.Proofs.Yteeeedmmcdlhjaa.P
namespace Go.Proofs.Yteeeedmmcdlhjaa.P
open Go.RowKit Go.Proofs.YteeeedmmcdlhjaaW.PrintWords Go.Proofs.YteeeedmmcdlhjaaW.PrintLast Go.Proofs.YteeeedmmcdlhjaaW.PrintMore Go.Proofs.Yteeeedmmcdlhjaa.Wp
set_option linter.unusedVariables false
set_option linter.unusedSimpArgs false
theorem w_copyInts (l : List Int) (hl : l.length ≤ 1000000000) : Wp (fun _ => spec_copyInts.f l) (fun r => r = l) := by
  unfold spec_copyInts.f
  exact Wp.pos (by simp; omega) (Wp.ret (by simp))
end Go.Proofs.Yteeeedmmcdlhjaa.P
namespace Go.Proofs.Yteeeedmmcdlhjaa.P
open Go.RowKit Go.Proofs.YteeeedmmcdlhjaaW.PrintWords Go.Proofs.YteeeedmmcdlhjaaW.PrintLast Go.Proofs.YteeeedmmcdlhjaaW.PrintMore Go.Proofs.Yteeeedmmcdlhjaa.Wp
set_option linter.unusedVariables false
set_option linter.unusedSimpArgs false
theorem pix_before (n p i j i' j' q : Nat) (hj' : j' < n) (hq : q < p) (h : i' < i ∨ (i' = i ∧ j' < j)) : (i' * n + j') * p + q < (i * n + j) * p := by
  have h1 : i' * n + j' + 1 ≤ i * n + j := by
    rcases h with h | ⟨rfl, h⟩
    · have : (i' + 1) * n ≤ i * n := Nat.mul_le_mul_right n h
      rw [Nat.succ_mul] at this
      omega
    · omega
  have h2 : (i' * n + j' + 1) * p ≤ (i * n + j) * p := Nat.mul_le_mul_right p h1
  rw [Nat.succ_mul] at h2
  omega
def Painted (f : Int → Int → List Int) (n m p : Nat) (x : List Int) (i j : Nat) : Prop :=
  x.length = m * n * p ∧ ∀ i' j' q, (i' < i ∨ (i' = i ∧ j' < j)) → j' < n → i' < m → q < p → x.getD ((i' * n + j') * p + q) 0 = (f j' i').getD q 0
theorem Painted.start (f : Int → Int → List Int) (n m p : Nat) (x : List Int) (h : x.length = m * n * p) : Painted f n m p x 0 0 := ⟨h, fun i' j' q h1 => by omega⟩
theorem Painted.row {f : Int → Int → List Int} {n m p : Nat} {x : List Int} {i : Nat} (h : Painted f n m p x i n) : Painted f n m p x (i + 1) 0 :=
  ⟨h.1, fun i' j' q h1 h2 h3 h4 => h.2 i' j' q (by omega) h2 h3 h4⟩
theorem Painted.put {f : Int → Int → List Int} {n m p : Nat} {x y : List Int} {i j : Nat} (h : Painted f n m p x i j) (h0 : y.length = x.length) (h1 : ∀ q, q < p → y.getD ((i * n + j) * p + q) 0 = (f j i).getD q 0)
    (h2 : ∀ t, t < (i * n + j) * p → y.getD t 0 = x.getD t 0) : Painted f n m p y i (j + 1) := by
  refine ⟨h0.trans h.1, fun i' j' q h3 h4 h5 h6 => ?_⟩
  by_cases e : i' < i ∨ (i' = i ∧ j' < j)
  · rw [h2 _ (pix_before n p i j i' j' q h4 h6 e)]
    exact h.2 i' j' q e h4 h5 h6
  · have : i' = i ∧ j' = j := by omega
    rw [this.1, this.2]
    exact h1 q h6
theorem Painted.all {f : Int → Int → List Int} {n m p : Nat} {x : List Int} (h : Painted f n m p x m 0) (hf : ∀ i j : Nat, j < n → i < m → (f j i).length = p) : x = imgOf f n m :=
  img_ext f n m p x hf h.1 fun i j q h1 h2 h3 => h.2 i j q (by omega) h2 h1 h3
end Go.Proofs.Yteeeedmmcdlhjaa.P
namespace Go.Proofs.Yteeeedmmcdlhjaa.P
open Go.RowKit Go.Proofs.YteeeedmmcdlhjaaW.PrintWords Go.Proofs.YteeeedmmcdlhjaaW.PrintLast Go.Proofs.YteeeedmmcdlhjaaW.PrintMore Go.Proofs.Yteeeedmmcdlhjaa.Wp
set_option linter.unusedVariables false
set_option linter.unusedSimpArgs false
theorem w_sFloorDiv (a b : Int) (ha : -1000000000000000 ≤ a) (ha2 : a ≤ 1000000000000000) (hb : 0 < b) : Wp (fun _ => spec_floorDiv.f a b) (fun r => r = a / b) := by
  have h := fd_parts a b hb
  have q := fd_bound a b hb
  unfold spec_floorDiv.f
  rw [w64 (x := Int.tdiv a b) (by omega) (by omega)]
  refine Wp.neg (by omega) (Wp.ite (fun h1 => Wp.ret ?_) (fun h1 => Wp.ret ?_))
  · rw [w64 (by omega) (by omega)]
    omega
  · omega
end Go.Proofs.Yteeeedmmcdlhjaa.P
namespace Go.Proofs.Yteeeedmmcdlhjaa.P
open Go.RowKit Go.Proofs.YteeeedmmcdlhjaaW.PrintWords Go.Proofs.YteeeedmmcdlhjaaW.PrintLast Go.Proofs.YteeeedmmcdlhjaaW.PrintMore Go.Proofs.Yteeeedmmcdlhjaa.Wp
set_option linter.unusedVariables false
set_option linter.unusedSimpArgs false
theorem w_copyImage (a b c : Int) (l : List Int) (hl : l.length ≤ 1000000000) : Wp (fun _ => spec_copyImage.f a b c l) (fun r => r = (a, b, c, l)) := by
  unfold spec_copyImage.f
  refine Wp.call (w_copyInts l hl) ?_
  rintro _ rfl
  exact Wp.ret rfl
end Go.Proofs.Yteeeedmmcdlhjaa.P
namespace Go.Proofs.Yteeeedmmcdlhjaa.P
open Go.RowKit Go.Proofs.YteeeedmmcdlhjaaW.PrintWords Go.Proofs.YteeeedmmcdlhjaaW.PrintLast Go.Proofs.YteeeedmmcdlhjaaW.PrintMore Go.Proofs.Yteeeedmmcdlhjaa.Wp
set_option linter.unusedVariables false
set_option linter.unusedSimpArgs false
def convI (a b c : Int) (l : List Int) (r : Int) (ks : List Int) (d : Int) : Int × Int × Int × List Int :=
  if imgB a b c l = true ∧ kerOk r ks d = true then (a, b, c, imgOf (convP l a.toNat b.toNat c.toNat r ks d) a.toNat b.toNat) else (0, 0, 0, [])
theorem conv_len (a b c : Int) (l : List Int) (r : Int) (ks : List Int) (d : Int) : (convI a b c l r ks d).2.2.2.length ≤ 1000000 := by
  unfold convI
  split
  · rename_i h
    obtain ⟨h0, h1, h2, _⟩ := imgB_ok.1 h.1
    have := imgOf_len (convP l a.toNat b.toNat c.toNat r ks d) a.toNat b.toNat 100 (fun i j _ _ => by rw [convP_len]; omega)
    have b1 : a.toNat * 100 ≤ 16 * 100 := Nat.mul_le_mul (by omega) (Nat.le_refl _)
    have b2 : b.toNat * (a.toNat * 100) ≤ 16 * 1600 := Nat.mul_le_mul (by omega) b1
    exact Nat.le_trans this (by omega)
  · simp
theorem w_iKernel (r : Int) (ks : List Int) (d : Int) : Wp (fun _ => impl_isKernel.f r ks d) (fun z => z = kerOk r ks d) := Wp.ret rfl
theorem w_iConv (a b c : Int) (l : List Int) (r : Int) (ks : List Int) (d : Int) : Wp (fun _ => impl_ConvolveImage.f a b c l r ks d) (fun z => z = convI a b c l r ks d) := by
  unfold impl_ConvolveImage.f convI
  refine Wp.call (w_iImage a b c l) ?_
  rintro _ rfl
  refine Wp.ite (fun hi => ?_) (fun hi => Wp.ret (by rw [if_neg fun h => hi h.1]))
  refine Wp.call (w_iKernel r ks d) ?_
  rintro _ rfl
  refine Wp.ite (fun hk => Wp.ret ?_) (fun hk => Wp.ret (by rw [if_neg fun h => hk h.2]))
  rw [if_pos ⟨hi, hk⟩]
  obtain ⟨k0, k1, k2, k3⟩ := kerOk_iff.1 hk
  obtain ⟨_, _, _, k4⟩ := kerOk_true hk
  obtain ⟨a, b, p, rfl, rfl, rfl, ha, hb, hp, hl, hB⟩ := img_nat hi
  simp only [Int.toNat_natCast]
  congr 3
  exact img_congr _ _ a b fun i j hj hi2 => convPix_eq l a b p r ks d j i ha.1 hb.1 hl hB k3 (by omega) (by omega)
theorem w_sKernel (r : Int) (ks : List Int) (d : Int) (hl : ks.length ≤ 1000000000) : Wp (fun k => spec_validKernel.f k r ks d) (fun z => z = kerOk r ks d) := by
  unfold spec_validKernel.f
  have no : ¬ ((0 ≤ r ∧ r ≤ 2) ∧ (ks.length : Int) = (2 * r + 1) * (2 * r + 1) ∧ (1 ≤ d ∧ d ≤ 999) ∧ ∀ v ∈ ks, -99 ≤ v ∧ v ≤ 99) → kerOk r ks d = false := fun h => by
    cases e : kerOk r ks d with
    | false => rfl
    | true => exact absurd (kerOk_iff.1 e) h
  refine Wp.call (w_inRange0 _ _ _) ?_
  rintro _ rfl
  refine Wp.ite (fun h => ?_) (fun h => Wp.ret (no fun h2 => h (decide_eq_true h2.1)).symm)
  rw [decide_eq_true_eq] at h
  have e : wrap64 (wrap64 (wrap64 (2 * r) + 1) * wrap64 (wrap64 (2 * r) + 1)) = (2 * r + 1) * (2 * r + 1) := by
    rw [w64 (x := 2 * r) (by omega) (by omega), w64 (x := 2 * r + 1) (by omega) (by omega)]
    have := mul_small (a := 2 * r + 1) (b := 2 * r + 1) 5 5 (by omega) (by omega) (by omega) (by omega)
    exact w64 (by omega) (by omega)
  rw [e]
  refine Wp.ite (fun h1 => ?_) (fun h1 => Wp.ret (no fun h2 => h1 h2.2.1).symm)
  refine Wp.call (w_allIn ks (-99) 99 hl) ?_
  rintro _ rfl
  refine Wp.ite (fun h2 => ?_) (fun h2 => Wp.ret (no fun h3 => h2 (List.all_eq_true.2 fun v hv => decide_eq_true (h3.2.2.2 v hv))).symm)
  refine Wp.call (w_inRange0 _ _ _) ?_
  rintro _ rfl
  refine Wp.ret ?_
  by_cases h3 : 1 ≤ d ∧ d ≤ 999
  · rw [decide_eq_true h3, kerOk_iff.2 ⟨h, h1, h3, fun v hv => of_decide_eq_true (List.all_eq_true.1 h2 v hv)⟩]
  · rw [decide_eq_false h3, no fun h4 => h3 h4.2.2.1]
theorem w_convolve (l : List Int) (a b p : Nat) (r : Int) (ks : List Int) (d : Int) (x y q : Nat) (ha : 1 ≤ a ∧ a ≤ 16) (hb : 1 ≤ b ∧ b ≤ 16) (hp : 1 ≤ p ∧ p ≤ 4) (hl : l.length = b * a * p) (hB : ∀ v ∈ l, 0 ≤ v ∧ v ≤ 255) (hk : ∀ v ∈ ks, -99 ≤ v ∧ v ≤ 99)
    (hkl : ks.length ≤ 100) (hr : 0 ≤ r ∧ r ≤ 2) (hx : x < a) (hy : y < b) (hq : q < p) : Wp (fun k => spec_convolve.f k a b p l r ks d x y q) (fun z => z = convS l a b p r ks (2 * r + 1) x y q ks.length) := by
  unfold spec_convolve.f
  rw [w64 (x := 2 * r) (by omega) (by omega), w64 (x := 2 * r + 1) (by omega) (by omega)]
  have key : ∀ (e i : Nat) (s : Int), i + e = ks.length → s = convS l a b p r ks (2 * r + 1) x y q i → Wp (fun k => spec_convolve.l0 k x y q s (2 * r + 1) i a b p l r ks d) (fun z => z = convS l a b p r ks (2 * r + 1) x y q ks.length) := by
    intro e
    induction e with
    | zero =>
      intro i s hi hs
      have : i = ks.length := by omega
      subst this
      exact Wp.step (fun k => spec_convolve.l0.eq_2 ..) (Wp.neg (by omega) (Wp.ret hs))
    | succ e ih =>
      intro i s hi hs
      have hi0 : (0 : Int) ≤ i := by omega
      have hsd : ¬ (2 * r + 1 = 0) := by omega
      have m0 := Int.emod_nonneg (i : Int) hsd
      have m1 := Int.emod_lt_of_pos (i : Int) (show 0 < 2 * r + 1 by omega)
      have q0 : 0 ≤ (i : Int) / (2 * r + 1) := Int.ediv_nonneg hi0 (by omega)
      have q1 : (i : Int) / (2 * r + 1) ≤ i := Int.ediv_le_self _ hi0
      have T := term_B l a b p r ks (2 * r + 1) x y q i ha.1 hb.1 hl hB hk hq
      have S := convS_B l a b p r ks (2 * r + 1) x y q i ha.1 hb.1 hl hB hk hq (by omega)
      have eS : convS l a b p r ks (2 * r + 1) x y q (i + 1) = convS l a b p r ks (2 * r + 1) x y q i + ks.getD i 0 * dat l a p q (near1 (x + (i : Int) % (2 * r + 1) - r) a).toNat (near1 (y + (i : Int) / (2 * r + 1) - r) b).toNat := rfl
      obtain ⟨n1, n2⟩ := near1_nat (z := x + (i : Int) % (2 * r + 1) - r) ha.1
      obtain ⟨n3, n4⟩ := near1_nat (z := y + (i : Int) / (2 * r + 1) - r) hb.1
      refine Wp.step (fun k => spec_convolve.l0.eq_2 ..) (Wp.pos (by omega) (Wp.neg hsd (Wp.pos hi0 ?_)))
      rw [Int.tmod_eq_emod_of_nonneg hi0, Int.tdiv_eq_ediv_of_nonneg hi0, w64 (x := (i : Int) / (2 * r + 1)) (by omega) (by omega), w64 (x := (x : Int) + (i : Int) % (2 * r + 1)) (by omega) (by omega), w64 (x := (y : Int) + (i : Int) / (2 * r + 1)) (by omega) (by omega),
        w64 (x := (x : Int) + (i : Int) % (2 * r + 1) - r) (by omega) (by omega), w64 (x := (y : Int) + (i : Int) / (2 * r + 1) - r) (by omega) (by omega), w64 (x := (a : Int) - 1) (by omega) (by omega), w64 (x := (b : Int) - 1) (by omega) (by omega),
        near1_eq (by omega), near1_eq (by omega)]
      generalize hu : (near1 ((x : Int) + (i : Int) % (2 * r + 1) - r) a).toNat = u at *
      generalize hv : (near1 ((y : Int) + (i : Int) / (2 * r + 1) - r) b).toNat = v at *
      rw [← n1, ← n3]
      have c1 : ((v : Int) * a) = ((v * a : Nat) : Int) := by rw [Int.natCast_mul]
      have c2 : (((v * a : Nat) : Int) + u) * p = (((v * a + u) * p : Nat) : Int) := by rw [Int.natCast_mul (v * a + u) p, Int.natCast_add]
      have b1 : v * a + u + 1 ≤ b * a := by
        have : (v + 1) * a ≤ b * a := Nat.mul_le_mul_right a n4
        rw [Nat.succ_mul] at this
        omega
      have b2 : (v * a + u) * p + p ≤ b * a * p := by
        have : (v * a + u + 1) * p ≤ b * a * p := Nat.mul_le_mul_right p b1
        rw [Nat.succ_mul] at this
        omega
      have b3 : b * a ≤ 16 * 16 := Nat.mul_le_mul (by omega) (by omega)
      have b4 : b * a * p ≤ 256 * 4 := Nat.mul_le_mul (by omega) (by omega)
      have dd : rd l (((v * a + u) * p : Nat) + (q : Int)) = dat l a p q u v := by rw [← Int.natCast_add, bl_rd]; rfl
      rw [c1, w64 (x := ((v * a : Nat) : Int)) (by omega) (by omega), w64 (x := ((v * a : Nat) : Int) + u) (by omega) (by omega), c2, w64 (x := (((v * a + u) * p : Nat) : Int)) (by omega) (by omega), w64 (x := (((v * a + u) * p : Nat) : Int) + q) (by omega) (by omega)]
      refine Wp.pos (by omega) (Wp.pos (by rw [hl]; omega) ?_)
      rw [dd, bl_rd, w64 (x := ks.getD i 0 * dat l a p q u v) (by omega) (by omega), w64 (x := s + ks.getD i 0 * dat l a p q u v) (by omega) (by omega), w64 (x := (i : Int) + 1) (by omega) (by omega)]
      exact ih (i + 1) _ (by omega) (by rw [hs]; exact eS.symm)
  exact key ks.length 0 0 (by omega) rfl
theorem w_sConv (a b c : Int) (l : List Int) (r : Int) (ks : List Int) (d : Int) (hl : l.length ≤ 1000000000) (hkl : ks.length ≤ 1000000000) : Wp (fun k => spec_ConvolveImage.f k a b c l r ks d) (fun z => z = convI a b c l r ks d) := by
  unfold spec_ConvolveImage.f convI
  refine Wp.call (w_sImage a b c l hl) ?_
  rintro _ rfl
  refine Wp.ite (fun hi => ?_) (fun hi => ?_)
  · refine Wp.call (w_sKernel r ks d hkl) ?_
    rintro _ rfl
    refine Wp.step (fun k => spec_ConvolveImage.j0.eq_2 ..) ?_
    refine Wp.ite (fun hs => Wp.ret ?_) (fun hs => ?_)
    · rw [if_neg]
      rintro ⟨_, h3⟩
      rw [h3] at hs
      exact absurd hs (by simp)
    · have hk : kerOk r ks d = true := by simpa using hs
      obtain ⟨k0, k1, k2, k3⟩ := kerOk_iff.1 hk
      obtain ⟨_, _, _, k4⟩ := kerOk_true hk
      rw [if_pos ⟨hi, hk⟩]
      refine Wp.call (w_copyImage a b c l hl) ?_
      rintro _ rfl
      dsimp only
      obtain ⟨n, m, p, rfl, rfl, rfl, hn, hm, hp, hll, hB⟩ := img_nat hi
      simp only [Int.toNat_natCast]
      have hf : ∀ i j : Nat, j < n → i < m → (convP l n m p r ks d j i).length = p := fun i j _ _ => convP_len ..
      have pix : ∀ (i j : Nat), i < m → j < n → (∀ x, Painted (convP l n m p r ks d) n m p x i (j + 1) → Wp (fun k => spec_ConvolveImage.l1 k i ((j + 1 : Nat) : Int) n m p l r ks d n m p x) (fun z => z = (↑n, ↑m, ↑p, imgOf (convP l n m p r ks d) n m))) →
          ∀ (e q : Nat) (x0 x : List Int), q + e = p → Painted (convP l n m p r ks d) n m p x0 i j → x.length = x0.length → (∀ q', q' < q → x.getD ((i * n + j) * p + q') 0 = (convP l n m p r ks d j i).getD q' 0) → (∀ t, t < (i * n + j) * p → x.getD t 0 = x0.getD t 0) →
          Wp (fun k => spec_ConvolveImage.l2 k i j q n m p l r ks d n m p x) (fun z => z = (↑n, ↑m, ↑p, imgOf (convP l n m p r ks d) n m)) := by
        intro i j hi2 hj next e
        induction e with
        | zero =>
          intro q x0 x hd h0 hx h1 h2
          refine Wp.step (fun k => spec_ConvolveImage.l2.eq_2 ..) (Wp.neg (by omega) ?_)
          rw [w64 (x := (j : Int) + 1) (by omega) (by omega)]
          exact next x (h0.put hx (fun q hq => h1 q (by omega)) h2)
        | succ e ih =>
          intro q x0 x hd h0 hx h1 h2
          refine Wp.step (fun k => spec_ConvolveImage.l2.eq_2 ..) (Wp.pos (by omega) ?_)
          refine Wp.call (w_convolve l n m p r ks d j i q hn hm hp hll hB k3 (by omega) k0 hj hi2 (by omega)) ?_
          rintro _ rfl
          have hS := convS_B l n m p r ks (2 * r + 1) j i q ks.length hn.1 hm.1 hll hB k3 (by omega) (by omega)
          generalize hs : convS l n m p r ks (2 * r + 1) j i q ks.length = s at *
          rw [w64 (x := 2 * s) (by omega) (by omega), w64 (x := 2 * s + d) (by omega) (by omega), w64 (x := 2 * d) (by omega) (by omega)]
          refine Wp.call (w_sFloorDiv (2 * s + d) (2 * d) (by omega) (by omega) (by omega)) ?_
          rintro _ rfl
          have b1 : i * n + j + 1 ≤ m * n := by
            have : (i + 1) * n ≤ m * n := Nat.mul_le_mul_right n hi2
            rw [Nat.succ_mul] at this
            omega
          have b2 : (i * n + j) * p + p ≤ m * n * p := by
            have : (i * n + j + 1) * p ≤ m * n * p := Nat.mul_le_mul_right p b1
            rw [Nat.succ_mul] at this
            omega
          have b3 : m * n ≤ 16 * 16 := Nat.mul_le_mul (by omega) (by omega)
          have b4 : m * n * p ≤ 256 * 4 := Nat.mul_le_mul (by omega) (by omega)
          have c1 : ((i : Int) * n) = ((i * n : Nat) : Int) := by rw [Int.natCast_mul]
          have c2 : (((i * n : Nat) : Int) + j) * p = (((i * n + j) * p : Nat) : Int) := by rw [Int.natCast_mul (i * n + j) p, Int.natCast_add]
          have hxl := h0.1
          have eV : mn 255 (mx 0 ((2 * s + d) / (2 * d))) = cvV s d := by
            unfold cvV mn mx
            split <;> split <;> split <;> omega
          rw [c1, w64 (x := ((i * n : Nat) : Int)) (by omega) (by omega), w64 (x := ((i * n : Nat) : Int) + j) (by omega) (by omega), c2, w64 (x := (((i * n + j) * p : Nat) : Int)) (by omega) (by omega),
            w64 (x := (((i * n + j) * p : Nat) : Int) + q) (by omega) (by omega)]
          refine Wp.pos (by omega) (Wp.pos (by rw [hx, hxl]; omega) ?_)
          rw [eV, w64 (x := (q : Int) + 1) (by omega) (by omega), show ((((i * n + j) * p : Nat) : Int) + q).toNat = (i * n + j) * p + q by omega]
          refine ih (q + 1) x0 _ (by omega) h0 (by rw [List.length_set]; exact hx) (fun q' hq => ?_) (fun t ht => ?_)
          · rw [bl_set _ _ (by rw [hx, hxl]; omega)]
            split
            · rename_i e
              have : q' = q := by omega
              subst this
              rw [convP_get _ _ _ _ _ _ _ _ _ _ (by omega), hs]
            · exact h1 q' (by omega)
          · rw [bl_set _ _ (by rw [hx, hxl]; omega), if_neg (by omega)]
            exact h2 t ht
      have row : ∀ (i : Nat), i < m → (∀ x, Painted (convP l n m p r ks d) n m p x (i + 1) 0 → Wp (fun k => spec_ConvolveImage.l0 k ((i + 1 : Nat) : Int) n m p l r ks d n m p x) (fun z => z = (↑n, ↑m, ↑p, imgOf (convP l n m p r ks d) n m))) → ∀ (e j : Nat) (x : List Int), j + e = n → Painted (convP l n m p r ks d) n m p x i j →
          Wp (fun k => spec_ConvolveImage.l1 k i j n m p l r ks d n m p x) (fun z => z = (↑n, ↑m, ↑p, imgOf (convP l n m p r ks d) n m)) := by
        intro i hi2 next e
        induction e with
        | zero =>
          intro j x hd hx
          refine Wp.step (fun k => spec_ConvolveImage.l1.eq_2 ..) (Wp.neg (by omega) ?_)
          rw [w64 (x := (i : Int) + 1) (by omega) (by omega)]
          have : j = n := by omega
          subst this
          exact next x hx.row
        | succ e ih =>
          intro j x hd hx
          refine Wp.step (fun k => spec_ConvolveImage.l1.eq_2 ..) (Wp.pos (by omega) ?_)
          exact pix i j hi2 (by omega) (fun y hy => ih (j + 1) y (by omega) hy) p 0 x x (by omega) hx rfl (fun q hq => by omega) (fun t ht => rfl)
      have key : ∀ (e i : Nat) (x : List Int), i + e = m → Painted (convP l n m p r ks d) n m p x i 0 → Wp (fun k => spec_ConvolveImage.l0 k i n m p l r ks d n m p x) (fun z => z = (↑n, ↑m, ↑p, imgOf (convP l n m p r ks d) n m)) := by
        intro e
        induction e with
        | zero =>
          intro i x hd hx
          refine Wp.step (fun k => spec_ConvolveImage.l0.eq_2 ..) (Wp.neg (by omega) (Wp.ret ?_))
          have : i = m := by omega
          subst this
          rw [hx.all hf]
        | succ e ih =>
          intro i x hd hx
          refine Wp.step (fun k => spec_ConvolveImage.l0.eq_2 ..) (Wp.pos (by omega) ?_)
          exact row i (by omega) (fun y hy => ih (i + 1) y (by omega) hy) n 0 x (by omega) hx
      exact key m 0 _ (by omega) (Painted.start _ n m p _ hll)
  · refine Wp.step (fun k => spec_ConvolveImage.j0.eq_2 ..) (Wp.pos rfl (Wp.ret ?_))
    rw [if_neg fun h => hi h.1]
end Go.Proofs.Yteeeedmmcdlhjaa.P
namespace Go.Proofs.Yteeeedmmcdlhjaa.P
open Go.RowKit Go.Proofs.YteeeedmmcdlhjaaW.PrintWords Go.Proofs.YteeeedmmcdlhjaaW.PrintLast Go.Proofs.YteeeedmmcdlhjaaW.PrintMore Go.Proofs.Yteeeedmmcdlhjaa.Wp
set_option linter.unusedVariables false
set_option linter.unusedSimpArgs false
def palI (a b c : Int) (l : List Int) : List (List Int) × Bool :=
  if imgB a b c l = true then (if 16 < (palAll l a c b.toNat).length then ([], false) else (palAll l a c b.toNat, true)) else ([], false)
theorem w_iPal (a b c : Int) (l : List Int) : Wp (fun _ => impl_PaletteOf.f a b c l) (fun r => r = palI a b c l) := by
  unfold impl_PaletteOf.f palI
  refine Wp.call (w_iImage a b c l) ?_
  rintro _ rfl
  refine Wp.ite (fun hi => ?_) (fun hi => Wp.ret (by rw [if_neg hi]))
  rw [if_pos hi]
  exact Wp.ite (fun h => Wp.ret (by rw [if_pos h])) (fun h => Wp.ret (by rw [if_neg h]))
theorem w_iPixelAt (a b c : Int) (l : List Int) (x y : Int) : Wp (fun _ => impl_PixelAt.f a b c l x y) (fun r => r = if imgB a b c l = true ∧ (0 ≤ x ∧ x < a) ∧ (0 ≤ y ∧ y < b) then pixOf l a c x y else []) := by
  unfold impl_PixelAt.f
  refine Wp.call (w_iImage a b c l) ?_
  rintro _ rfl
  refine Wp.ite (fun hi => ?_) (fun hi => Wp.ret (by rw [if_neg fun h => hi h.1]))
  exact Wp.ite (fun h => Wp.ret (by rw [if_pos ⟨hi, h⟩])) (fun h => Wp.ret (by rw [if_neg fun h2 => h h2.2]))
theorem palAdd_self (px : List Int) : palAdd [px] px = [px] := by
  unfold palAdd
  rw [if_pos (by simp)]
theorem palRow_const (l : List Int) (a c : Int) (y : Nat) (px : List Int) (n : Nat) (h : ∀ x : Nat, x < n → pixOf l a c x y = px) : ∀ x, x ≤ n → palRow l a c y [px] x = [px] := by
  intro x
  induction x with
  | zero => intro _; rfl
  | succ x ih => intro hx; rw [palRow, ih (by omega), h x (by omega), palAdd_self]
theorem palRow_first (l : List Int) (a c : Int) (y : Nat) (px : List Int) (n : Nat) (h : ∀ x : Nat, x < n → pixOf l a c x y = px) : ∀ x, 1 ≤ x → x ≤ n → palRow l a c y [] x = [px] := by
  intro x
  induction x with
  | zero => intro h1 _; omega
  | succ x ih =>
    intro _ hx
    rw [palRow, h x (by omega)]
    by_cases h0 : x = 0
    · subst h0
      rfl
    · rw [ih (by omega) (by omega), palAdd_self]
theorem palAll_const (px : List Int) (n m p : Nat) (hn : 1 ≤ n) (hm : 1 ≤ m) (hp : px.length = p) : palAll (imgOf (fun _ _ => px) n m) n p m = [px] := by
  have hpx : ∀ x y : Nat, x < n → y < m → pixOf (imgOf (fun _ _ => px) n m) n p x y = px := fun x y hx hy => pix_img (fun _ _ => px) n m p (fun _ _ _ _ => hp) y x hx hy
  have key : ∀ y, 1 ≤ y → y ≤ m → palAll (imgOf (fun _ _ => px) n m) n p y = [px] := by
    intro y
    induction y with
    | zero => intro h _; omega
    | succ y ih =>
      intro _ hy
      rw [palAll, Int.toNat_natCast]
      by_cases h0 : y = 0
      · subst h0
        exact palRow_first _ _ _ 0 px n (fun x hx => hpx x 0 hx (by omega)) n hn (Nat.le_refl n)
      · rw [ih (by omega) (by omega)]
        exact palRow_const _ _ _ y px n (fun x hx => hpx x y hx (by omega)) n (Nat.le_refl n)
  exact key m hm (Nat.le_refl m)
theorem pal_const (px : List Int) (n m p : Nat) (hn : 1 ≤ n ∧ n ≤ 16) (hm : 1 ≤ m ∧ m ≤ 16) (hp : 1 ≤ p ∧ p ≤ 4) (hpl : px.length = p) (hB : ∀ v ∈ px, 0 ≤ v ∧ v ≤ 255) : palI n m p (imgOf (fun _ _ => px) n m) = ([px], true) := by
  unfold palI
  rw [if_pos (img_ok _ n m p hn hm hp (fun _ _ _ _ => hpl) (fun _ _ _ _ => hB)), Int.toNat_natCast, palAll_const px n m p hn.1 hm.1 hpl, if_neg (by simp)]
end Go.Proofs.Yteeeedmmcdlhjaa.P
namespace Go.Proofs.Yteeeedmmcdlhjaa.P
open Go.RowKit Go.Proofs.YteeeedmmcdlhjaaW.PrintWords Go.Proofs.YteeeedmmcdlhjaaW.PrintLast Go.Proofs.YteeeedmmcdlhjaaW.PrintMore Go.Proofs.Yteeeedmmcdlhjaa.Wp
set_option linter.unusedVariables false
set_option linter.unusedSimpArgs false
def fillI (n m : Int) (px : List Int) : Int × Int × Int × List Int :=
  if (1 ≤ n ∧ n ≤ 16) ∧ (1 ≤ m ∧ m ≤ 16) ∧ (1 ≤ (px.length : Int) ∧ (px.length : Int) ≤ 4) ∧ allB px = true then (n, m, px.length, imgOf (fun _ _ => px) n.toNat m.toNat) else (0, 0, 0, [])
theorem w_iFill (n m : Int) (px : List Int) : Wp (fun k => impl_FillImage.f k n m px) (fun r => r = fillI n m px) := by
  unfold impl_FillImage.f fillI
  have bad : ∀ (a0 a1 a2 : Int), Wp (fun k => impl_FillImage.j0 k n m px true a0 a1 a2) (fun r => r = (0, 0, 0, [])) := fun a0 a1 a2 =>
    Wp.step (fun k => impl_FillImage.j0.eq_2 ..) (Wp.pos rfl (Wp.ret rfl))
  rw [isSide_some, isSide_some]
  simp only [Option.bind_some, decide_eq_true_eq]
  refine Wp.ite (fun hn => ?_) (fun hn => (bad _ _ _).mono fun r h => by rw [h, if_neg fun h => hn h.1])
  refine Wp.ite (fun hm => ?_) (fun hm => (bad _ _ _).mono fun r h => by rw [h, if_neg fun h => hm h.2.1])
  refine Wp.ite (fun h1 => (bad _ _ _).mono fun r h => by rw [h, if_neg fun h => by omega]) (fun h1 => ?_)
  refine Wp.ite (fun h2 => (bad _ _ _).mono fun r h => by rw [h, if_neg fun h => by omega]) (fun h2 => ?_)
  refine Wp.call (w_areBytes px) ?_
  rintro _ rfl
  refine Wp.step (fun k => impl_FillImage.j0.eq_2 ..) ?_
  refine Wp.ite (fun hb => Wp.ret ?_) (fun hb => ?_)
  · rw [if_neg]
    rintro ⟨_, _, _, h⟩
    rw [h] at hb
    exact absurd hb (by simp)
  · have hb : allB px = true := by simpa using hb
    rw [if_pos ⟨hn, hm, ⟨by omega, by omega⟩, hb⟩]
    obtain ⟨n, rfl⟩ := Int.eq_ofNat_of_zero_le (show 0 ≤ n by omega)
    obtain ⟨m, rfl⟩ := Int.eq_ofNat_of_zero_le (show 0 ≤ m by omega)
    have b1 : m * n ≤ 16 * 16 := Nat.mul_le_mul (by omega) (by omega)
    have e : (n : Int) * m = ((m * n : Nat) : Int) := by rw [Int.natCast_mul, Int.mul_comm]
    rw [e, w64 (x := ((m * n : Nat) : Int)) (by omega) (by omega)]
    simp only [Int.toNat_natCast]
    rw [img_fm (fun _ _ => px) (fun _ => px) n m (fun i j hj hi => rfl)]
    generalize m * n = N at b1
    have key : ∀ (d i : Nat), i + d = N → Wp (fun k => impl_FillImage.l0 k px N i n m px.length ((List.range i).flatMap fun _ => px)) (fun r => r = (↑n, ↑m, ↑px.length, (List.range N).flatMap fun _ => px)) := by
      intro d
      induction d with
      | zero =>
        intro i hd
        refine Wp.step (fun k => impl_FillImage.l0.eq_2 ..) (Wp.neg (by omega) (Wp.ret ?_))
        rw [show i = N by omega]
      | succ d ih =>
        intro i hd
        have hl := fm_len (fun _ => px) i px.length (fun _ _ => rfl)
        have b2 : i * px.length ≤ 256 * 4 := Nat.mul_le_mul (by omega) (by omega)
        refine Wp.step (fun k => impl_FillImage.l0.eq_2 ..) (Wp.pos (by omega) (Wp.pos (by omega) ?_))
        rw [w64 (x := (i : Int) + 1) (by omega) (by omega)]
        have := ih (i + 1) (by omega)
        rw [List.range_succ, List.flatMap_append] at this
        simpa using this
    exact key N 0 (by omega)
end Go.Proofs.Yteeeedmmcdlhjaa.P
namespace Go.Proofs.Yteeeedmmcdlhjaa.P
open Go.RowKit Go.Proofs.YteeeedmmcdlhjaaW.PrintWords Go.Proofs.YteeeedmmcdlhjaaW.PrintLast Go.Proofs.YteeeedmmcdlhjaaW.PrintMore Go.Proofs.Yteeeedmmcdlhjaa.Wp
set_option linter.unusedVariables false
theorem rd_mem (l : List Int) (i : Int) (h0 : 0 ≤ i) (h1 : i < (l.length : Int)) : rd l i ∈ l := by
  unfold rd
  rw [List.getD_eq_getElem?_getD, List.getElem?_eq_getElem (by omega)]
  exact List.getElem_mem _
theorem rd_le {l : List Int} {a b : Int} (h : ∀ x ∈ l, a ≤ x ∧ x ≤ b) (i : Int) (h0 : 0 ≤ i) (h1 : i < (l.length : Int)) : a ≤ rd l i ∧ rd l i ≤ b := h _ (rd_mem l i h0 h1)
def Rdr (b : List Int) (p : Int) : Prop := (∀ x ∈ b, 0 ≤ x ∧ x ≤ 255) ∧ b.length ≤ 2000 ∧ 0 ≤ p ∧ p ≤ 1000000
theorem tmod_range (x n : Int) (hx : 0 ≤ x) (hn : 0 < n) : 0 ≤ Int.tmod x n ∧ Int.tmod x n < n := by
  rw [Int.tmod_eq_emod_of_nonneg hx]
  exact ⟨Int.emod_nonneg _ (by omega), Int.emod_lt_of_pos _ hn⟩
theorem bits_xor_nonneg (x y : Int) (hx : 0 ≤ x) (hx2 : x ≤ 1000000000000) (hy : 0 ≤ y) (hy2 : y ≤ 1000000000000) : 0 ≤ Go.bits .xor .i64 x y := by
  obtain ⟨a, rfl⟩ := Int.eq_ofNat_of_zero_le hx
  obtain ⟨b, rfl⟩ := Int.eq_ofNat_of_zero_le hy
  have ha : a < 2 ^ 62 := by omega
  have hb : b < 2 ^ 62 := by omega
  have ha' : a % 2 ^ 64 = a := Nat.mod_eq_of_lt (by omega)
  have hb' : b % 2 ^ 64 = b := Nat.mod_eq_of_lt (by omega)
  have hc : a ^^^ b < 2 ^ 62 := Nat.xor_lt_two_pow ha hb
  have hw : IntKind.i64.wrap ((a ^^^ b : Nat) : Int) = ((a ^^^ b : Nat) : Int) := by
    have h64 : IntKind.i64.wrap ((a ^^^ b : Nat) : Int) = wrap64 ((a ^^^ b : Nat) : Int) := i64_w _
    rw [h64, w64 (by omega) (by omega)]
  have he : Go.bits .xor .i64 (a : Int) (b : Int) = ((a ^^^ b : Nat) : Int) := by
    have hbits : IntKind.i64.bits = 64 := rfl
    simp only [Go.bits, BitVec.ofInt_natCast, BitVec.toNat_xor, BitVec.toNat_ofNat, hbits, ha', hb', hw]
  rw [he]
  exact Int.natCast_nonneg _
theorem w_newReader (l : List Int) (hb : ∀ x ∈ l, (Lit.int .u8 x).wf = true) : Wp (fun _ => spec_newReader.f l) (fun r => Rdr r.1 r.2 ∧ r.2 = 0) := by
  have hb' : ∀ x ∈ l, 0 ≤ x ∧ x ≤ 255 := fun x hx => by
    have h := hb x hx
    simp only [Lit.wf, Bool.and_eq_true, decide_eq_true_eq] at h
    have h0 : IntKind.u8.min = 0 := rfl
    have h1 : IntKind.u8.max = 255 := rfl
    omega
  unfold spec_newReader.f
  refine Wp.ite (fun h => Wp.pos (by omega) (Wp.ret ?_)) (fun h => Wp.ret ?_)
  · exact ⟨⟨fun x hx => hb' x (List.mem_of_mem_take hx), by show (l.take 2000).length ≤ 2000; rw [List.length_take]; omega, Int.le_refl _, by show (0 : Int) ≤ 1000000; omega⟩, rfl⟩
  · exact ⟨⟨hb', by show l.length ≤ 2000; omega, Int.le_refl _, by show (0 : Int) ≤ 1000000; omega⟩, rfl⟩
theorem w_pick (b : List Int) (p n : Int) (h : Rdr b p) (hp : p < 1000000) (hn : n ≤ 1000000000000) :
    Wp (fun k => spec_reader_pick.f k b p n) (fun r => ∃ x, r = (x, p + 1) ∧ 0 ≤ x ∧ (1 ≤ n → x < n) ∧ (n < 1 → x = 0)) := by
  obtain ⟨hb, hl, h0, h1⟩ := h
  unfold spec_reader_pick.f
  rw [w64 (x := p + 1) (by omega) (by omega)]
  refine Wp.ite (fun hn1 => ?_) (fun hn1 => ?_)
  · refine Wp.step (fun k => spec_reader_pick.j0.eq_2 ..) (Wp.pos rfl (Wp.ret ?_))
    exact ⟨0, rfl, by omega, by omega, fun _ => rfl⟩
  · refine Wp.step (fun k => spec_reader_pick.j0.eq_2 ..) ?_
    rw [show p + 1 - 1 = p by omega, w64 (x := p) (by omega) (by omega)]
    refine Wp.ite (fun hz => Wp.ret ?_) (fun hz => ?_)
    · exact ⟨0, rfl, by omega, by omega, by omega⟩
    · have hpos : 0 < (b.length : Int) := by
        have : ¬ (b.length : Int) = 0 := by simpa using hz
        omega
      refine Wp.ite (fun hlt => ?_) (fun hge => ?_)
      · refine Wp.pos h0 (Wp.neg (by omega) (Wp.ret ?_))
        have hr := rd_le hb p h0 hlt
        rw [w64 (x := rd b p) (by omega) (by omega)]
        have := tmod_range (rd b p) n hr.1 (by omega)
        exact ⟨_, rfl, this.1, fun _ => this.2, by omega⟩
      · refine Wp.neg (by omega) ?_
        have t1 := tmod_range p b.length h0 hpos
        refine Wp.pos t1.1 (Wp.pos t1.2 ?_)
        rw [w64 (x := p * 7) (by omega) (by omega), w64 (x := p * 7 + 3) (by omega) (by omega)]
        have t2 := tmod_range (p * 7 + 3) b.length (by omega) hpos
        refine Wp.pos t2.1 (Wp.pos t2.2 (Wp.neg (by omega) (Wp.ret ?_)))
        have r1 := rd_le hb _ t1.1 t1.2
        have r2 := rd_le hb _ t2.1 t2.2
        generalize rd b (Int.tmod p b.length) = u at r1 ⊢
        generalize rd b (Int.tmod (p * 7 + 3) b.length) = v at r2 ⊢
        have hd : 0 ≤ Int.tdiv p b.length ∧ Int.tdiv p b.length ≤ p := by
          rw [Int.tdiv_eq_ediv_of_nonneg h0]
          exact ⟨Int.ediv_nonneg h0 (by omega), Int.ediv_le_self _ h0⟩
        generalize Int.tdiv p b.length = d at hd ⊢
        rw [w64 (x := u) (by omega) (by omega), w64 (x := u * 131) (by omega) (by omega), w64 (x := v) (by omega) (by omega), w64 (x := v * 1117) (by omega) (by omega),
          w64 (x := u * 131 + v * 1117) (by omega) (by omega), w64 (x := p * 29) (by omega) (by omega), w64 (x := u * 131 + v * 1117 + p * 29) (by omega) (by omega),
          w64 (x := d) (by omega) (by omega), w64 (x := d * 53) (by omega) (by omega), w64 (x := u * 131 + v * 1117 + p * 29 + d * 53) (by omega) (by omega)]
        have hs : 0 ≤ u * 131 + v * 1117 + p * 29 + d * 53 ∧ u * 131 + v * 1117 + p * 29 + d * 53 ≤ 1000000000 := by omega
        generalize u * 131 + v * 1117 + p * 29 + d * 53 = s at hs ⊢
        have hq : 0 ≤ Int.tdiv s 64 ∧ Int.tdiv s 64 ≤ s := by
          rw [Int.tdiv_eq_ediv_of_nonneg hs.1]
          exact ⟨Int.ediv_nonneg hs.1 (by omega), Int.ediv_le_self _ hs.1⟩
        rw [w64 (x := Int.tdiv s 64) (by omega) (by omega)]
        have hx := bits_xor_nonneg s (Int.tdiv s 64) hs.1 (by omega) hq.1 (by omega)
        have := tmod_range _ n hx (by omega)
        exact ⟨_, rfl, this.1, fun _ => this.2, by omega⟩
theorem Rdr.up {b : List Int} {p q : Int} (h : Rdr b p) (h1 : p ≤ q) (h2 : q ≤ 1000000) : Rdr b q := ⟨h.1, h.2.1, by have := h.2.2.1; omega, h2⟩
theorem w_one (b : List Int) (p : Int) (l : List Int) (h : Rdr b p) (hp : p < 1000000) (hl : 0 < l.length) (hl2 : l.length ≤ 1000) :
    Wp (fun k => spec_reader_one.f k b p l) (fun r => ∃ x, r = (x, p + 1) ∧ x ∈ l) := by
  unfold spec_reader_one.f
  refine Wp.call (w_pick b p l.length h hp (by omega)) ?_
  rintro _ ⟨x, rfl, h0, h1, _⟩
  have h1 := h1 (by omega)
  exact Wp.pos h0 (Wp.pos h1 (Wp.ret ⟨_, rfl, rd_mem l x h0 h1⟩))
end Go.Proofs.Yteeeedmmcdlhjaa.P
namespace Go.Proofs.Yteeeedmmcdlhjaa.P
open Go.RowKit Go.Proofs.YteeeedmmcdlhjaaW.PrintWords Go.Proofs.YteeeedmmcdlhjaaW.PrintLast Go.Proofs.YteeeedmmcdlhjaaW.PrintMore Go.Proofs.Yteeeedmmcdlhjaa.Wp
set_option linter.unusedVariables false
set_option linter.unusedSimpArgs false
theorem allB_set {l : List Int} (h : ∀ x ∈ l, 0 ≤ x ∧ x ≤ 255) (i : Nat) (v : Int) (hv : 0 ≤ v ∧ v ≤ 255) : ∀ x ∈ l.set i v, 0 ≤ x ∧ x ≤ 255 := fun x hx => by
  rcases List.mem_or_eq_of_mem_set hx with h1 | h1
  · exact h x h1
  · rw [h1]; exact hv
def Rnd (p : Int) (r : Int × Int × Int × List Int × Int) (q : Int) : Prop :=
  (1 ≤ r.1 ∧ r.1 ≤ 8) ∧ (1 ≤ r.2.1 ∧ r.2.1 ≤ 8) ∧ r.2.2.1 = p ∧ (r.2.2.2.1.length : Int) = r.1 * r.2.1 * p ∧ (∀ x ∈ r.2.2.2.1, 0 ≤ x ∧ x ≤ 255) ∧ q ≤ r.2.2.2.2 ∧ r.2.2.2.2 ≤ q + 300
theorem prod_le {a b c : Int} (h0 : 1 ≤ a ∧ a ≤ 8) (h1 : 1 ≤ b ∧ b ≤ 8) (h2 : 1 ≤ c ∧ c ≤ 4) : 1 ≤ a * b ∧ a * b ≤ 64 ∧ 1 ≤ a * b * c ∧ a * b * c ≤ 256 := by
  have m1 : 1 * 1 ≤ a * b := Int.mul_le_mul h0.1 h1.1 (by omega) (by omega)
  have m2 : a * b ≤ 8 * 8 := Int.mul_le_mul h0.2 h1.2 (by omega) (by omega)
  have m3 : 1 * 1 ≤ a * b * c := Int.mul_le_mul (by omega) h2.1 (by omega) (by omega)
  have m4 : a * b * c ≤ 64 * 4 := Int.mul_le_mul (by omega) h2.2 (by omega) (by omega)
  omega
theorem w_randomImage (b : List Int) (q p : Int) (h : Rdr b q) (hq : q ≤ 900000) (hp : 1 ≤ p ∧ p ≤ 4) : Wp (fun k => spec_randomImage.f k b q p) (fun r => Rnd p r q) := by
  unfold spec_randomImage.f
  refine Wp.call (w_one b q _ h (by omega) (by simp) (by simp)) ?_
  rintro _ ⟨sx, rfl, hsx⟩
  have hsx : 1 ≤ sx ∧ sx ≤ 8 := by simp only [List.mem_cons, List.not_mem_nil, or_false] at hsx; omega
  refine Wp.call (w_one b _ _ (h.up (by first | omega | (simp only; omega)) (by first | omega | (simp only; omega))) (by first | omega | (simp only; omega)) (by simp) (by simp)) ?_
  rintro _ ⟨sy, rfl, hsy⟩
  have hsy : 1 ≤ sy ∧ sy ≤ 8 := by simp only [List.mem_cons, List.not_mem_nil, or_false] at hsy; omega
  refine Wp.call (w_newImage sx sy p (by omega) (by omega) (by omega)) ?_
  rintro _ rfl
  refine Wp.call (w_pick b _ 4 (h.up (by first | omega | (simp only; omega)) (by first | omega | (simp only; omega))) (by first | omega | (simp only; omega)) (by omega)) ?_
  rintro _ ⟨md, rfl, md0, md1, _⟩
  refine Wp.call (w_pick b _ 256 (h.up (by first | omega | (simp only; omega)) (by first | omega | (simp only; omega))) (by first | omega | (simp only; omega)) (by omega)) ?_
  rintro _ ⟨v, rfl, v0, v1, _⟩
  have v1 := v1 (by omega)
  have hP := prod_le hsx hsy hp
  generalize hL : (sx * sy * p).toNat = L
  have hlen : (List.replicate L (0 : Int)).length = L := by simp
  have hbs : ∀ x ∈ List.replicate L (0 : Int), 0 ≤ x ∧ x ≤ 255 := fun x hx => by rw [List.eq_of_mem_replicate hx]; omega
  dsimp only
  generalize List.replicate L (0 : Int) = l at hlen hbs
  have key : ∀ (d i : Nat) (l : List Int) (v r : Int), i + d = L → l.length = L → (∀ x ∈ l, 0 ≤ x ∧ x ≤ 255) → 0 ≤ v → v < 256 → q ≤ r → r ≤ q + 4 + i → Wp (fun k => spec_randomImage.l0 k md v i b r sx sy p l) (fun r => Rnd p r q) := by
    intro d
    induction d with
    | zero =>
      intro i l v r hd hl hb hv hv1 hr hr1
      refine Wp.step (fun k => spec_randomImage.l0.eq_2 ..) (Wp.neg (by omega) (Wp.ret ?_))
      exact ⟨hsx, hsy, rfl, by first | omega | (simp only; omega), hb, hr, by first | omega | (simp only; omega)⟩
    | succ d ih =>
      intro i l v r hd hl hb hv hv1 hr hr1
      have hR : Rdr b r := h.up hr (by omega)
      have next : ∀ (v' r' : Int), 0 ≤ v' → v' < 256 → q ≤ r' → r' ≤ q + 4 + (i + 1 : Nat) → Wp (fun k => spec_randomImage.l0 k md v' (wrap64 ((i : Int) + 1)) b r' sx sy p (l.set (i : Int).toNat v')) (fun r => Rnd p r q) := by
        intro v' r' h1 h2 h3 h4
        rw [w64 (x := (i : Int) + 1) (by omega) (by omega)]
        exact ih (i + 1) _ v' r' (by omega) (by rw [List.length_set]; exact hl) (allB_set hb _ _ (by omega)) h1 h2 h3 h4
      refine Wp.step (fun k => spec_randomImage.l0.eq_2 ..) (Wp.pos (by omega) ?_)
      refine Wp.ite (fun _ => ?_) (fun _ => Wp.ite (fun _ => ?_) (fun _ => Wp.ite (fun _ => ?_) (fun _ => ?_)))
      · refine Wp.call (w_pick b r 256 hR (by omega) (by omega)) ?_
        rintro _ ⟨u, rfl, u0, u1, _⟩
        exact Wp.pos (by omega) (next u _ u0 (u1 (by omega)) (by first | omega | (simp only; omega)) (by first | omega | (simp only; omega)))
      · refine Wp.call (w_pick b r 5 hR (by omega) (by omega)) ?_
        rintro _ ⟨u, rfl, u0, u1, _⟩
        have u1 := u1 (by omega)
        refine Wp.pos (by omega) ?_
        simp only
        rw [w64 (x := v + u) (by omega) (by omega), w64 (x := v + u + 254) (by omega) (by omega)]
        have ht := tmod_range (v + u + 254) 256 (by omega) (by omega)
        exact next _ _ ht.1 ht.2 (by first | omega | (simp only; omega)) (by first | omega | (simp only; omega))
      · refine Wp.call (w_pick b r 4 hR (by omega) (by omega)) ?_
        rintro _ ⟨u, rfl, u0, u1, _⟩
        have u1 := u1 (by omega)
        refine Wp.pos (by omega) ?_
        simp only
        rw [w64 (x := 60 * u) (by omega) (by omega)]
        exact next _ _ (by omega) (by omega) (by omega) (by omega)
      · exact Wp.pos (by omega) (next v r hv hv1 hr (by omega))
  exact key L 0 l v _ (by omega) hlen hbs v0 v1 (by first | omega | (simp only; omega)) (by first | omega | (simp only; omega))
def Spl (q : Int) (r : Int × Int × Int × List Int × Int) : Prop :=
  (0 ≤ r.1 ∧ r.1 ≤ 17) ∧ (0 ≤ r.2.1 ∧ r.2.1 ≤ 17) ∧ (0 ≤ r.2.2.1 ∧ r.2.2.1 ≤ 5) ∧ r.2.2.2.1.length ≤ 1024 ∧ q ≤ r.2.2.2.2 ∧ r.2.2.2.2 ≤ q + 1000
theorem w_spoilImage (bb : List Int) (q a b c : Int) (l : List Int) (h : Rdr bb q) (hq : q ≤ 900000) (ha : 0 ≤ a ∧ a ≤ 16) (hb : 0 ≤ b ∧ b ≤ 16) (hc : 0 ≤ c ∧ c ≤ 4) (hl : 1 ≤ l.length) (hl2 : l.length ≤ 1024) :
    Wp (fun k => spec_spoilImage.f k bb q a b c l) (fun r => (0 ≤ r.1 ∧ r.1 ≤ 17) ∧ (0 ≤ r.2.1 ∧ r.2.1 ≤ 17) ∧ (0 ≤ r.2.2.1 ∧ r.2.2.1 ≤ 5) ∧ r.2.2.2.1.length ≤ 1024 ∧ q ≤ r.2.2.2.2 ∧ r.2.2.2.2 ≤ q + 2) := by
  unfold spec_spoilImage.f
  refine Wp.call (w_pick bb q 40 h (by omega) (by omega)) ?_
  rintro _ ⟨u, rfl, u0, u1, _⟩
  have h1 : Rdr bb (q + 1) := h.up (by omega) (by omega)
  simp only
  refine Wp.ite (fun _ => ?_) (fun _ => Wp.ite (fun _ => ?_) (fun _ => Wp.ite (fun _ => ?_) (fun _ => Wp.ite (fun _ => ?_) (fun _ => ?_))))
  · refine Wp.call (w_one bb _ _ h1 (by omega) (by simp) (by simp)) ?_
    rintro _ ⟨x, rfl, hx⟩
    rw [w64 (x := a + 1) (by omega) (by omega)] at hx
    simp only [List.mem_cons, List.not_mem_nil, or_false] at hx
    exact Wp.ret ⟨by first | omega | (simp only; omega), by first | omega | (simp only; omega), by first | omega | (simp only; omega), hl2, by first | omega | (simp only; omega), by first | omega | (simp only; omega)⟩
  · exact Wp.pos (by omega) (Wp.ret ⟨by first | omega | (simp only; omega), by first | omega | (simp only; omega), by first | omega | (simp only; omega), by simp only [List.length_drop]; omega, by first | omega | (simp only; omega), by first | omega | (simp only; omega)⟩)
  · refine Wp.call (w_one bb _ _ h1 (by omega) (by simp) (by simp)) ?_
    rintro _ ⟨x, rfl, hx⟩
    exact Wp.pos (by omega) (Wp.ret ⟨by first | omega | (simp only; omega), by first | omega | (simp only; omega), by first | omega | (simp only; omega), by simp only [List.length_set]; omega, by first | omega | (simp only; omega), by first | omega | (simp only; omega)⟩)
  · refine Wp.call (w_one bb _ _ h1 (by omega) (by simp) (by simp)) ?_
    rintro _ ⟨x, rfl, hx⟩
    simp only [List.mem_cons, List.not_mem_nil, or_false] at hx
    exact Wp.ret ⟨by first | omega | (simp only; omega), by first | omega | (simp only; omega), by first | omega | (simp only; omega), hl2, by first | omega | (simp only; omega), by first | omega | (simp only; omega)⟩
  · exact Wp.ret ⟨by first | omega | (simp only; omega), by first | omega | (simp only; omega), by first | omega | (simp only; omega), hl2, by first | omega | (simp only; omega), by first | omega | (simp only; omega)⟩
theorem w_anyPlanes (b : List Int) (q : Int) (h : Rdr b q) (hq : q ≤ 900000) : Wp (fun k => spec_anyPlanes.f k b q) (fun r => (1 ≤ r.1 ∧ r.1 ≤ 4) ∧ r.2 = q + 1) := by
  unfold spec_anyPlanes.f
  refine Wp.call (w_one b q _ h (by omega) (by simp) (by simp)) ?_
  rintro _ ⟨x, rfl, hx⟩
  simp only [List.mem_cons, List.not_mem_nil, or_false] at hx
  exact Wp.ret ⟨by first | omega | (simp only; omega), rfl⟩
theorem Rnd.len {p q : Int} {r : Int × Int × Int × List Int × Int} (h : Rnd p r q) (hp : 1 ≤ p ∧ p ≤ 4) : 1 ≤ r.2.2.2.1.length ∧ r.2.2.2.1.length ≤ 256 := by
  obtain ⟨h0, h1, h2, h3, _⟩ := h
  have := prod_le h0 h1 hp
  omega
theorem w_randomSpoil (b : List Int) (q p : Int) (r : Int × Int × Int × List Int × Int) (h : Rdr b q) (hq : q ≤ 800000) (hp : 1 ≤ p ∧ p ≤ 4) (hr : Rnd p r q) :
    Wp (fun k => spec_spoilImage.f k b r.2.2.2.2 r.1 r.2.1 r.2.2.1 r.2.2.2.1) (fun r => Spl q r ∧ r.2.2.2.2 ≤ q + 302) := by
  have hl := hr.len hp
  obtain ⟨h0, h1, h2, h3, h4, h5, h6⟩ := hr
  refine (w_spoilImage b r.2.2.2.2 _ _ _ _ (h.up h5 (by omega)) (by omega) (by omega) (by omega) (by omega) hl.1 (by omega)).mono ?_
  rintro s ⟨a0, a1, a2, a3, a4, a5⟩
  exact ⟨⟨a0, a1, a2, a3, by omega, by omega⟩, by omega⟩
theorem w_anyImage (b : List Int) (q : Int) (h : Rdr b q) (hq : q ≤ 700000) : Wp (fun k => spec_anyImage.f k b q) (fun r => Spl q r) := by
  unfold spec_anyImage.f
  refine Wp.call (w_anyPlanes b q h (by omega)) ?_
  rintro ⟨p, q'⟩ ⟨hp, e⟩
  simp only at hp e
  subst e
  refine Wp.call (w_randomImage b (q + 1) p (h.up (by omega) (by omega)) (by omega) hp) ?_
  intro r hr
  refine Wp.call (w_randomSpoil b (q + 1) p r (h.up (by omega) (by omega)) (by omega) hp hr) ?_
  rintro s ⟨⟨a0, a1, a2, a3, a4, a5⟩, a6⟩
  refine Wp.ret ⟨a0, a1, a2, a3, by first | omega | (simp only; omega), ?_⟩
  simp only
  omega
end Go.Proofs.Yteeeedmmcdlhjaa.P
namespace Go.Proofs.Yteeeedmmcdlhjaa.P
open Go.RowKit Go.Proofs.YteeeedmmcdlhjaaW.PrintWords Go.Proofs.YteeeedmmcdlhjaaW.PrintLast Go.Proofs.YteeeedmmcdlhjaaW.PrintMore Go.Proofs.Yteeeedmmcdlhjaa.Wp
set_option linter.unusedVariables false
set_option linter.unusedSimpArgs false
theorem w_anyKernel (b : List Int) (q : Int) (h : Rdr b q) (hq : q ≤ 900000) : Wp (fun k => spec_anyKernel.f k b q) (fun r => r.2.1.length ≤ 25) := by
  unfold spec_anyKernel.f
  refine Wp.call (w_one b q _ h (by omega) (by simp) (by simp)) ?_
  rintro _ ⟨R, rfl, hR⟩
  have hR : 0 ≤ R ∧ R ≤ 2 := by simp only [List.mem_cons, List.not_mem_nil, or_false] at hR; omega
  refine Wp.call (w_one b _ _ (h.up (by first | omega | (simp only; omega)) (by first | omega | (simp only; omega))) (by first | omega | (simp only; omega)) (by simp) (by simp)) ?_
  rintro _ ⟨D, rfl, hD⟩
  simp only
  rw [w64 (x := 2 * R) (by omega) (by omega), w64 (x := 2 * R + 1) (by omega) (by omega)]
  have key : ∀ (n : Nat) (ws : List Int) (p : Int), ws.length + n ≤ 25 → q ≤ p → p + n ≤ q + 100 → 1 ≤ ws.length + n → Wp (fun k => spec_anyKernel.l0 k ws n b p R D) (fun r => r.2.1.length ≤ 25) := by
    intro n
    induction n with
    | zero =>
      intro ws p hw hp hp2 h1
      have hp : Rdr b p := h.up hp (by omega)
      refine Wp.step (fun k => spec_anyKernel.l0.eq_2 ..) (Wp.neg (by omega) ?_)
      refine Wp.call (w_pick b p 20 hp (by omega) (by omega)) ?_
      rintro _ ⟨u, rfl, _⟩
      simp only
      refine Wp.ite (fun _ => ?_) (fun _ => Wp.ite (fun _ => ?_) (fun _ => Wp.ite (fun _ => ?_) (fun _ => ?_)))
      · refine Wp.call (w_one b _ _ (hp.up (by omega) (by omega)) (by omega) (by simp) (by simp)) ?_
        rintro _ ⟨v, rfl, hv⟩
        exact Wp.ret (by simp only; omega)
      · refine Wp.call (w_one b _ _ (hp.up (by omega) (by omega)) (by omega) (by simp) (by simp)) ?_
        rintro _ ⟨v, rfl, hv⟩
        exact Wp.ret (by simp only; omega)
      · refine Wp.call (w_one b _ _ (hp.up (by omega) (by omega)) (by omega) (by simp) (by simp)) ?_
        rintro _ ⟨v, rfl, hv⟩
        exact Wp.pos (by omega) (Wp.ret (by simp only [List.length_set]; omega))
      · exact Wp.ret (by simp only; omega)
    | succ n ih =>
      intro ws p hw hp hp2 h1
      have hR2 : Rdr b p := h.up hp (by omega)
      refine Wp.step (fun k => spec_anyKernel.l0.eq_2 ..) (Wp.pos (by omega) ?_)
      refine Wp.call (w_pick b p 9 hR2 (by omega) (by omega)) ?_
      rintro _ ⟨u, rfl, _⟩
      refine Wp.pos (by omega) ?_
      rw [w64 (x := ((n + 1 : Nat) : Int) - 1) (by omega) (by omega), show ((n + 1 : Nat) : Int) - 1 = n by omega]
      exact ih _ _ (by rw [List.length_append]; simp only [List.length_singleton]; omega) (by omega) (by omega) (by rw [List.length_append]; simp only [List.length_singleton]; omega)
  rcases (show R = 0 ∨ R = 1 ∨ R = 2 by omega) with rfl | rfl | rfl
  · rw [show wrap64 ((2 * 0 + 1) * (2 * 0 + 1)) = ((1 : Nat) : Int) from (w64 (by omega) (by omega)).trans (by omega)]
    exact key 1 [] (q + 1 + 1) (by simp) (by omega) (by omega) (by simp)
  · rw [show wrap64 ((2 * 1 + 1) * (2 * 1 + 1)) = ((9 : Nat) : Int) from (w64 (by omega) (by omega)).trans (by omega)]
    exact key 9 [] (q + 1 + 1) (by simp) (by omega) (by omega) (by simp)
  · rw [show wrap64 ((2 * 2 + 1) * (2 * 2 + 1)) = ((25 : Nat) : Int) from (w64 (by omega) (by omega)).trans (by omega)]
    exact key 25 [] (q + 1 + 1) (by simp) (by omega) (by omega) (by simp)
theorem w_DrawConv (l : List Int) (hb : ∀ x ∈ l, (Lit.int .u8 x).wf = true) : Wp (fun k => spec_DrawConvolveImage.f k l) (fun r => r.2.2.2.1.length ≤ 1024 ∧ r.2.2.2.2.2.1.length ≤ 25) := by
  unfold spec_DrawConvolveImage.f
  refine Wp.call (w_newReader l hb) ?_
  rintro ⟨b, p⟩ ⟨h, e⟩
  simp only at e h
  subst e
  refine Wp.call (w_anyImage b 0 h (by omega)) ?_
  rintro ⟨r0, r1, r2, r3, r4⟩ ⟨_, _, _, hl, ha, hb⟩
  simp only at hl ha hb
  refine Wp.call (w_anyKernel b r4 (h.up ha (by omega)) (by omega)) ?_
  rintro ⟨kr, ks, kd, q⟩ hk
  exact Wp.ret ⟨hl, hk⟩
end Go.Proofs.Yteeeedmmcdlhjaa.P
namespace Go.Proofs.Yteeeedmmcdlhjaa.P
open Go.RowKit Go.Proofs.YteeeedmmcdlhjaaW.PrintWords Go.Proofs.YteeeedmmcdlhjaaW.PrintLast Go.Proofs.YteeeedmmcdlhjaaW.PrintMore Go.Proofs.Yteeeedmmcdlhjaa.Wp
set_option linter.unusedVariables false
set_option linter.unusedSimpArgs false
theorem w_equalImage (a b c : Int) (l : List Int) (a' b' c' : Int) (l' : List Int) (hl : l.length ≤ 1000000000) : Wp (fun k => laws_equalImage.f k a b c l a' b' c' l') (fun r => r = decide ((a, b, c, l) = (a', b', c', l'))) := by
  unfold laws_equalImage.f
  refine Wp.ite (fun h => ?_) (fun h => Wp.ret (decide_eq_false fun e => h (congrArg (·.1) e)).symm)
  refine Wp.ite (fun h1 => ?_) (fun h1 => Wp.ret (decide_eq_false fun e => h1 (congrArg (·.2.1) e)).symm)
  refine Wp.ite (fun h2 => ?_) (fun h2 => Wp.ret (decide_eq_false fun e => h2 (congrArg (·.2.2.1) e)).symm)
  refine Wp.call (w_equalInts l l' hl) ?_
  rintro _ rfl
  refine Wp.ret ?_
  subst h h1 h2
  rw [Bool.eq_iff_iff, decide_eq_true_eq, decide_eq_true_eq]
  exact ⟨fun e => by rw [e], fun e => congrArg (·.2.2.2) e⟩
end Go.Proofs.Yteeeedmmcdlhjaa.P
namespace Go.Proofs.Yteeeedmmcdlhjaa.Pure
open Go.RowKit Go.Proofs.Yteeeedmmcdlhjaa.P Go.Proofs.YteeeedmmcdlhjaaW.PrintWords Go.Proofs.YteeeedmmcdlhjaaW.PrintMore Go.Proofs.Yteeeedmmcdlhjaa.Wp
set_option linter.unusedVariables false
theorem one_ok : kerOk 0 [1] 1 = true := by decide
theorem conv_one (a b c : Int) (l : List Int) (hi : imgB a b c l = true) : convI a b c l 0 [1] 1 = (a, b, c, l) := by
  unfold convI
  rw [if_pos ⟨hi, one_ok⟩]
  obtain ⟨a, b, p, rfl, rfl, rfl, ha, hb, hp, hl, hB⟩ := img_nat hi
  simp only [Int.toNat_natCast]
  congr 3
  refine (img_congr _ (fun x y => pixOf l a p x y) a b fun i j hj hi2 => ?_).trans (img_self l a b p hl)
  refine bl_ext (by rw [convP_len, pix_len l a b p j i hl hj hi2]) fun q hq => ?_
  rw [pix_len l a b p j i hl hj hi2] at hq
  rw [convP_get _ _ _ _ _ _ _ _ _ _ hq, dat_pix l a b p hl j i q hj hi2 hq]
  have e1 : near1 ((j : Int) + ((0 : Nat) : Int) % (2 * 0 + 1) - 0) a = j := by
    unfold near1 mn mx
    (repeat' split) <;> omega
  have e2 : near1 ((i : Int) + ((0 : Nat) : Int) / (2 * 0 + 1) - 0) b = i := by
    unfold near1 mn mx
    (repeat' split) <;> omega
  have e : convS l a b p 0 [1] (2 * 0 + 1) j i q [(1 : Int)].length = dat l a p q j i := by
    unfold convS
    simp only [List.length_singleton, sumN]
    rw [e1, e2, Int.toNat_natCast, Int.toNat_natCast]
    simp
  rw [e]
  have d := dat_B l a b p hl hB j i q hj hi2 hq
  unfold cvV mn mx
  (repeat' split) <;> omega
theorem conv_flat (n m p : Nat) (px : List Int) (hn : 1 ≤ n ∧ n ≤ 16) (hm : 1 ≤ m ∧ m ≤ 16) (hp : 1 ≤ p ∧ p ≤ 4) (hpl : px.length = p) (hB : ∀ v ∈ px, 0 ≤ v ∧ v ≤ 255) (r : Int) (ks : List Int) (d : Int) (hk : kerOk r ks d = true) :
    ∃ c : List Int, c.length = p ∧ (∀ v ∈ c, 0 ≤ v ∧ v ≤ 255) ∧ convI n m p (imgOf (fun _ _ => px) n m) r ks d = (↑n, ↑m, ↑p, imgOf (fun _ _ => c) n m) := by
  refine ⟨(List.range p).map fun q => cvV (sumN (fun i => ks.getD i 0 * px.getD q 0) ks.length) d, by simp, fun v hv => ?_, ?_⟩
  · obtain ⟨q, _, rfl⟩ := List.mem_map.1 hv
    exact cvV_B _ _
  · unfold convI
    rw [if_pos ⟨img_ok _ n m p hn hm hp (fun _ _ _ _ => hpl) (fun _ _ _ _ => hB), hk⟩]
    simp only [Int.toNat_natCast]
    congr 3
    refine img_congr _ _ n m fun i j hj hi2 => ?_
    unfold convP
    refine List.map_congr_left fun q hq => ?_
    rw [List.mem_range] at hq
    congr 1
    unfold convS
    refine sumN_congr fun t _ => ?_
    rw [dat_img (fun _ _ => px) n m p q _ _ (fun _ _ _ _ => hpl) (near1_nat hn.1).2 (near1_nat hm.1).2 hq]
theorem FnConvolveImage : laws_FnConvolveImage.Pure := by
  intro l _ _ hb
  refine Wp.rounds ?_
  unfold laws_FnConvolveImage.f
  refine Wp.ite (fun _ => Wp.ret rfl) (fun _ => ?_)
  refine Wp.call (w_DrawConv l hb) ?_
  rintro ⟨a, b, c, d, kr, ks, kd⟩ ⟨hl, hk⟩
  simp only at hl hk
  refine Wp.call (w_iConv a b c d kr ks kd) ?_
  rintro _ rfl
  refine Wp.call (w_sConv a b c d kr ks kd (by omega) (by omega)) ?_
  rintro _ rfl
  have hg : (convI a b c d kr ks kd).2.2.2.length ≤ 1000000000 := Nat.le_trans (conv_len a b c d kr ks kd) (by omega)
  refine Wp.call (w_equalImage _ _ _ _ _ _ _ _ hg) ?_
  rintro _ rfl
  refine Wp.pos (by simp) ?_
  refine Wp.step (fun k => laws_FnConvolveImage.j0.eq_2 ..) ?_
  refine Wp.ite (fun h0 => ?_) (fun h0 => ?_)
  · refine Wp.call (w_sConv a b c d kr ks kd (by omega) (by omega)) ?_
    rintro _ rfl
    refine Wp.call (w_equalImage _ _ _ _ _ _ _ _ hg) ?_
    rintro _ rfl
    exact Wp.ret (by simp)
  · have hh : imgB a b c d = true ∧ kerOk kr ks kd = true := Decidable.byContradiction fun h => by
      unfold convI at h0
      rw [if_neg h] at h0
      exact absurd rfl h0
    obtain ⟨hi, hker⟩ := hh
    have one := conv_one a b c d hi
    obtain ⟨g0, g1, g2, _⟩ := imgB_ok.1 hi
    refine Wp.call (w_iPixelAt a b c d 0 0) ?_
    rintro _ rfl
    rw [if_pos ⟨hi, by omega, by omega⟩]
    obtain ⟨n, m, p, rfl, rfl, rfl, hn, hm, hp, hll, hB⟩ := img_nat hi
    have hpl := pix_len d n m p 0 0 hll (by omega) (by omega)
    have hpB : ∀ v ∈ pixOf d n p ((0 : Nat) : Int) ((0 : Nat) : Int), 0 ≤ v ∧ v ≤ 255 := fun v hv => hB v (pixOf_mem hv)
    rw [show ((0 : Nat) : Int) = 0 from rfl] at hpl hpB
    generalize pixOf d n p 0 0 = px at hpl hpB
    refine Wp.call (w_iFill n m px) ?_
    rintro _ rfl
    unfold fillI
    rw [if_pos ⟨by omega, by omega, by omega, allB_of hpB⟩]
    simp only [Int.toNat_natCast]
    rw [hpl]
    obtain ⟨cc, hc1, hc2, hc3⟩ := conv_flat n m p px hn hm hp hpl hpB kr ks kd hker
    refine Wp.call (w_iConv _ _ _ _ kr ks kd) ?_
    rintro _ rfl
    rw [hc3]
    refine Wp.call (w_iPal _ _ _ _) ?_
    rintro _ rfl
    dsimp only
    rw [pal_const cc n m p hn hm hp hc1 hc2]
    refine Wp.call (w_iConv _ _ _ _ 0 [1] 1) ?_
    rintro _ rfl
    rw [one]
    refine Wp.call (w_equalImage _ _ _ d _ _ _ _ (by omega)) ?_
    rintro _ rfl
    exact Wp.pos (by simp) (Wp.pos rfl (Wp.ret rfl))
end Go.Proofs.Yteeeedmmcdlhjaa.Pure
