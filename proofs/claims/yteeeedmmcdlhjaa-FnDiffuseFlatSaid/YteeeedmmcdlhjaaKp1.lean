/- Pure lemmas: what the printed functions answer, for every input; no Go, no memory, no condition but those that each lemma names. -/
import Derived.Test.YteeeedmmcdlhjaaVWords
import Derived.Test.YteeeedmmcdlhjaaK1
import Derived.Test.YteeeedmmcdlhjaaK2
import Derived.Test.YteeeedmmcdlhjaaK3
import Derived.Test.YteeeedmmcdlhjaaK4
import Derived.Test.YteeeedmmcdlhjaaK5
import Derived.Test.YteeeedmmcdlhjaaK6
namespace Go.Proofs.Yteeeedmmcdlhjaa.Wp
open Go.RowKit Go.Proofs.YteeeedmmcdlhjaaW.PrintWords
set_option linter.unusedVariables false
def Wp {α : Type} (g : Nat → Option α) (P : α → Prop) : Prop := ∃ r, P r ∧ ∃ K, ∀ k, K ≤ k → g k = some r
theorem Wp.mono {α : Type} {g : Nat → Option α} {P Q : α → Prop} (h : Wp g P) (hi : ∀ a, P a → Q a) : Wp g Q := by
  obtain ⟨r, hp, K, hk⟩ := h
  exact ⟨r, hi r hp, K, hk⟩
theorem Wp.ret {α : Type} {P : α → Prop} {r : α} (h : P r) : Wp (fun _ => some r) P := ⟨r, h, 0, fun _ _ => rfl⟩
theorem Wp.bind {α β : Type} {g : Nat → Option α} {f : Nat → α → Option β} {P : β → Prop} (h : Wp g (fun a => Wp (fun k => f k a) P)) : Wp (fun k => (g k).bind (f k)) P := by
  obtain ⟨a, ⟨r, hp, K, hk⟩, K', hk'⟩ := h
  refine ⟨r, hp, max K K', fun k hkk => ?_⟩
  show (g k).bind (f k) = some r
  rw [hk' k (by omega)]
  exact hk k (by omega)
theorem Wp.call {α β : Type} {g : Nat → Option α} {f : Nat → α → Option β} {Q : α → Prop} {P : β → Prop} (h : Wp g Q) (hf : ∀ a, Q a → Wp (fun k => f k a) P) : Wp (fun k => (g k).bind (f k)) P :=
  Wp.bind (h.mono hf)
theorem Wp.ite {α : Type} {c : Prop} [Decidable c] {g h : Nat → Option α} {P : α → Prop} (h1 : c → Wp g P) (h2 : ¬ c → Wp h P) : Wp (fun k => if c then g k else h k) P := by
  by_cases hc : c
  · simpa only [if_pos hc] using h1 hc
  · simpa only [if_neg hc] using h2 hc
theorem Wp.pos {α : Type} {c : Prop} [Decidable c] {g h : Nat → Option α} {P : α → Prop} (hc : c) (h1 : Wp g P) : Wp (fun k => if c then g k else h k) P := Wp.ite (fun _ => h1) (fun h => absurd hc h)
theorem Wp.neg {α : Type} {c : Prop} [Decidable c] {g h : Nat → Option α} {P : α → Prop} (hc : ¬ c) (h1 : Wp h P) : Wp (fun k => if c then g k else h k) P := Wp.ite (fun h => absurd h hc) (fun _ => h1)
theorem Wp.step {α : Type} {g f : Nat → Option α} {P : α → Prop} (h : ∀ k, g (k + 1) = f k) (hf : Wp f P) : Wp g P := by
  obtain ⟨r, hp, K, hk⟩ := hf
  refine ⟨r, hp, K + 1, fun k hkk => ?_⟩
  obtain ⟨k, rfl⟩ : ∃ m, k = m + 1 := ⟨k - 1, by omega⟩
  rw [h k]
  exact hk k (by omega)
theorem Wp.of {α : Type} {g : Nat → Option α} {P : α → Prop} {r : α} (h : ∀ k, g k = some r) (hp : P r) : Wp g P := ⟨r, hp, 0, fun k _ => h k⟩
theorem Wp.rounds {α : Type} {g : Nat → Option α} {r : α} (h : Wp g (fun a => a = r)) : ∃ k, g k = some r := by
  obtain ⟨r', rfl, K, hk⟩ := h
  exact ⟨K, hk K (Nat.le_refl K)⟩
theorem w64 {x : Int} (h0 : -9223372036854775808 ≤ x) (h1 : x ≤ 9223372036854775807) : wrap64 x = x := by
  unfold wrap64
  omega
end Go.Proofs.Yteeeedmmcdlhjaa.Wp
namespace Go.Proofs.Yteeeedmmcdlhjaa.P
open Go.RowKit Go.Proofs.YteeeedmmcdlhjaaW.PrintWords Go.Proofs.YteeeedmmcdlhjaaW.PrintLast Go.Proofs.YteeeedmmcdlhjaaW.PrintMore Go.Proofs.Yteeeedmmcdlhjaa.Wp
set_option linter.unusedVariables false
set_option linter.unusedSimpArgs false
theorem bl_rd (l : List Int) (i : Nat) : rd l (i : Int) = l.getD i 0 := by simp [rd]
theorem bl_ext {x l : List Int} (hx : x.length = l.length) (h : ∀ j, j < l.length → x.getD j 0 = l.getD j 0) : x = l := by
  apply List.ext_getElem hx
  intro j h1 h2
  have := h j h2
  simpa [List.getD_eq_getElem?_getD, List.getElem?_eq_getElem h1, List.getElem?_eq_getElem h2] using this
theorem bl_all_drop (l : List Int) (p : Int → Bool) (i : Nat) (h : i < l.length) : (l.drop i).all p = (p (l.getD i 0) && (l.drop (i + 1)).all p) := by
  rw [List.drop_eq_getElem_cons h, List.all_cons]
  simp [List.getD_eq_getElem?_getD, List.getElem?_eq_getElem h]
def allB (l : List Int) : Bool := l.all fun n => decide (0 ≤ n ∧ n ≤ 255)
theorem allB_mem {l : List Int} (h : allB l = true) : ∀ x ∈ l, 0 ≤ x ∧ x ≤ 255 := fun x hx => of_decide_eq_true (List.all_eq_true.1 h x hx)
theorem allB_of {l : List Int} (h : ∀ x ∈ l, 0 ≤ x ∧ x ≤ 255) : allB l = true := List.all_eq_true.2 fun x hx => decide_eq_true (h x hx)
theorem w_inRange0 (a b c : Int) : Wp (fun _ => spec_inRange.f a b c) (fun r => r = decide (b ≤ a ∧ a ≤ c)) := by
  unfold spec_inRange.f
  refine Wp.ite (fun h => Wp.ret ?_) (fun h => Wp.ret ?_)
  · simp [h]
  · simp [h]
theorem w_allIn (l : List Int) (a b : Int) (hl : l.length ≤ 1000000000) : Wp (fun k => spec_allIn.f k l a b) (fun r => r = l.all fun n => decide (a ≤ n ∧ n ≤ b)) := by
  unfold spec_allIn.f
  have key : ∀ d (i : Nat), i + d = l.length → Wp (fun k => spec_allIn.l0 k l a b i) (fun r => r = (l.drop i).all fun n => decide (a ≤ n ∧ n ≤ b)) := by
    intro d
    induction d with
    | zero =>
      intro i hd
      refine Wp.step (fun k => spec_allIn.l0.eq_2 ..) (Wp.neg (by omega) (Wp.ret ?_))
      rw [List.drop_of_length_le (by omega)]
      rfl
    | succ d ih =>
      intro i hd
      refine Wp.step (fun k => spec_allIn.l0.eq_2 ..) (Wp.pos (by omega) (Wp.pos (by omega) ?_))
      refine Wp.call (w_inRange0 _ _ _) ?_
      rintro _ rfl
      rw [bl_all_drop l _ i (by omega), bl_rd]
      refine Wp.ite (fun h => ?_) (fun h => Wp.ret ?_)
      · rw [h, Bool.true_and, w64 (x := (i : Int) + 1) (by omega) (by omega)]
        exact ih (i + 1) (by omega)
      · rw [Bool.not_eq_true] at h
        rw [h, Bool.false_and]
  exact key l.length 0 (by omega)
theorem w_allB (l : List Int) (hl : l.length ≤ 1000000000) : Wp (fun k => spec_allIn.f k l 0 255) (fun r => r = allB l) := w_allIn l 0 255 hl
theorem w_areBytes (l : List Int) : Wp (fun _ => impl_areBytes.f l) (fun r => r = allB l) := by
  unfold impl_areBytes.f
  refine Wp.ret ?_
  unfold allB
  induction l with
  | nil => rfl
  | cons x l ih =>
    simp only [List.any_cons, List.all_cons, Bool.not_or, ← ih]
    congr 1
    by_cases h0 : x < 0 <;> by_cases h1 : 255 < x <;> simp [h0, h1] <;> omega
def marks (a : Int) (n : Nat) : List Int := (List.range n).map fun j : Nat => a + (j : Int)
theorem w_equalInts (a b : List Int) (hl : a.length ≤ 1000000000) : Wp (fun k => laws_equalInts.f k a b) (fun r => r = decide (a = b)) := by
  unfold laws_equalInts.f
  refine Wp.ite (fun he => ?_) (fun he => Wp.ret ?_)
  · have key : ∀ d (i : Nat), i + d = a.length → (∀ j, j < i → a.getD j 0 = b.getD j 0) → Wp (fun k => laws_equalInts.l0 k a b i) (fun r => r = decide (a = b)) := by
      intro d
      induction d with
      | zero =>
        intro i hd h
        refine Wp.step (fun k => laws_equalInts.l0.eq_2 ..) (Wp.neg (by omega) (Wp.ret ?_))
        exact (decide_eq_true (bl_ext (by omega) fun j hj => h j (by omega))).symm
      | succ d ih =>
        intro i hd h
        refine Wp.step (fun k => laws_equalInts.l0.eq_2 ..) (Wp.pos (by omega) (Wp.pos (by omega) (Wp.pos (by omega) ?_)))
        rw [bl_rd, bl_rd]
        refine Wp.ite (fun h1 => ?_) (fun h1 => Wp.ret ?_)
        · rw [w64 (x := (i : Int) + 1) (by omega) (by omega)]
          refine ih (i + 1) (by omega) fun j hj => ?_
          by_cases e : j = i
          · rw [e]; exact h1
          · exact h j (by omega)
        · exact (decide_eq_false fun e => h1 (by rw [e])).symm
    exact key a.length 0 (by omega) (fun j hj => by omega)
  · exact (decide_eq_false fun e => he (by rw [e])).symm
end Go.Proofs.Yteeeedmmcdlhjaa.P
namespace Go.Proofs.Yteeeedmmcdlhjaa.P
open Go.RowKit Go.Proofs.YteeeedmmcdlhjaaW.PrintWords Go.Proofs.YteeeedmmcdlhjaaW.PrintLast Go.Proofs.YteeeedmmcdlhjaaW.PrintMore Go.Proofs.Yteeeedmmcdlhjaa.Wp
set_option linter.unusedVariables false
set_option linter.unusedSimpArgs false
theorem rd_cut (l : List Int) (a b i : Int) (ha : 0 ≤ a) (hi : 0 ≤ i) (hb : a + i < b) : rd ((l.take b.toNat).drop a.toNat) i = rd l (a + i) := by
  unfold rd
  rw [List.getD_eq_getElem?_getD, List.getD_eq_getElem?_getD, List.getElem?_drop, List.getElem?_take, if_pos (by omega)]
  congr 2
  omega
def imgB (a b c : Int) (l : List Int) : Bool := decide ((1 ≤ a ∧ a ≤ 16) ∧ (1 ≤ b ∧ b ≤ 16) ∧ (1 ≤ c ∧ c ≤ 4)) && decide ((l.length : Int) = a * b * c) && allB l
theorem imgB_ok {a b c : Int} {l : List Int} : imgB a b c l = true ↔ ImgOk a b c l := by
  unfold imgB ImgOk
  rw [Bool.and_eq_true, Bool.and_eq_true, decide_eq_true_eq, decide_eq_true_eq]
  constructor
  · rintro ⟨⟨h1, h2⟩, h3⟩
    exact ⟨h1.1, h1.2.1, h1.2.2, h2, allB_mem h3⟩
  · rintro ⟨h1, h2, h3, h4, h5⟩
    exact ⟨⟨⟨h1, h2, h3⟩, h4⟩, allB_of h5⟩
theorem w_iImage (a b c : Int) (l : List Int) : Wp (fun _ => impl_isImage.f a b c l) (fun r => r = imgB a b c l) := by
  obtain ⟨r, hr, hi⟩ := isImage_some a b c l
  refine Wp.of (fun _ => hr) ?_
  rw [Bool.eq_iff_iff, hi, imgB_ok]
theorem w_sImage (a b c : Int) (l : List Int) (hl : l.length ≤ 1000000000) : Wp (fun k => spec_validImage.f k a b c l) (fun r => r = imgB a b c l) := by
  unfold spec_validImage.f spec_validShape.f imgB
  refine Wp.call (Q := fun r => r = decide ((1 ≤ a ∧ a ≤ 16) ∧ (1 ≤ b ∧ b ≤ 16) ∧ (1 ≤ c ∧ c ≤ 4))) ?_ ?_
  · refine Wp.call (w_inRange0 _ _ _) ?_
    rintro _ rfl
    refine Wp.ite (fun h => ?_) (fun h => Wp.ret ?_)
    · refine Wp.call (w_inRange0 _ _ _) ?_
      rintro _ rfl
      refine Wp.ite (fun h2 => ?_) (fun h2 => Wp.ret ?_)
      · refine Wp.call (w_inRange0 _ _ _) ?_
        rintro _ rfl
        refine Wp.ret ?_
        rw [decide_eq_true_eq] at h h2
        rw [Bool.eq_iff_iff, decide_eq_true_eq, decide_eq_true_eq]
        exact ⟨fun h3 => ⟨h, h2, h3⟩, fun h3 => h3.2.2⟩
      · rw [decide_eq_true_eq] at h2
        exact (decide_eq_false fun h3 => h2 h3.2.1).symm
    · rw [decide_eq_true_eq] at h
      exact (decide_eq_false fun h3 => h h3.1).symm
  · rintro _ rfl
    refine Wp.ite (fun h => ?_) (fun h => Wp.ret ?_)
    · rw [h, Bool.true_and]
      rw [decide_eq_true_eq] at h
      obtain ⟨h0, h1, h2⟩ := h
      have hB := img_bounds h0 h1 h2
      rw [w64 (x := a * b) (by omega) (by omega), w64 (x := a * b * c) (by omega) (by omega)]
      refine Wp.ite (fun h3 => ?_) (fun h3 => Wp.ret ?_)
      · rw [decide_eq_true h3, Bool.true_and]
        refine Wp.call (w_allB l hl) ?_
        rintro _ rfl
        exact Wp.ret rfl
      · rw [decide_eq_false h3]; rfl
    · rw [Bool.not_eq_true] at h
      rw [h]; rfl
theorem w_newImage (a b c : Int) (h0 : 0 ≤ a ∧ a ≤ 1000) (h1 : 0 ≤ b ∧ b ≤ 1000) (h2 : 0 ≤ c ∧ c ≤ 1000) : Wp (fun _ => spec_newImage.f a b c) (fun r => r = (a, b, c, List.replicate (a * b * c).toNat 0)) := by
  have m1 : 0 ≤ a * b := Int.mul_nonneg h0.1 h1.1
  have m2 : a * b ≤ 1000 * 1000 := Int.mul_le_mul h0.2 h1.2 h1.1 (by omega)
  have m3 : 0 ≤ a * b * c := Int.mul_nonneg m1 h2.1
  have m4 : a * b * c ≤ 1000000 * 1000 := Int.mul_le_mul m2 h2.2 h2.1 (by omega)
  unfold spec_newImage.f
  rw [w64 (x := a * b) (by omega) (by omega), w64 (x := a * b * c) (by omega) (by omega)]
  exact Wp.pos m3 (Wp.pos (by omega) (Wp.ret rfl))
end Go.Proofs.Yteeeedmmcdlhjaa.P
namespace Go.Proofs.Yteeeedmmcdlhjaa.P
open Go.RowKit Go.Proofs.YteeeedmmcdlhjaaW.PrintWords Go.Proofs.YteeeedmmcdlhjaaW.PrintLast Go.Proofs.YteeeedmmcdlhjaaW.PrintMore Go.Proofs.Yteeeedmmcdlhjaa.Wp
set_option linter.unusedVariables false
set_option linter.unusedSimpArgs false
theorem fm_len (h : Nat → List Int) (n p : Nat) (hf : ∀ i, i < n → (h i).length = p) : ((List.range n).flatMap h).length = n * p := by
  induction n with
  | zero => simp
  | succ n ih =>
    rw [List.range_succ, List.flatMap_append, List.length_append, ih fun i hi => hf i (by omega), Nat.succ_mul]
    simp [hf n (by omega)]
theorem fm_get (h : Nat → List Int) (n p j q : Nat) (hf : ∀ i, i < n → (h i).length = p) (hj : j < n) (hq : q < p) : ((List.range n).flatMap h).getD (j * p + q) 0 = (h j).getD q 0 := by
  induction n with
  | zero => omega
  | succ n ih =>
    have hlen := fm_len h n p fun i hi => hf i (by omega)
    rw [List.range_succ, List.flatMap_append, List.getD_eq_getElem?_getD]
    by_cases hjn : j < n
    · have : j * p + q < n * p := by
        have : (j + 1) * p ≤ n * p := Nat.mul_le_mul_right p (by omega)
        rw [Nat.succ_mul] at this
        omega
      rw [List.getElem?_append_left (by omega), ← List.getD_eq_getElem?_getD]
      exact ih (fun i hi => hf i (by omega)) hjn
    · have : j = n := by omega
      subst this
      rw [List.getElem?_append_right (by omega), hlen, show j * p + q - j * p = q by omega]
      simp [List.getD_eq_getElem?_getD]
theorem img_fm (f : Int → Int → List Int) (h : Nat → List Int) (n m : Nat) (hh : ∀ i j, j < n → i < m → f (j : Int) (i : Int) = h (i * n + j)) : imgOf f n m = (List.range (m * n)).flatMap h := by
  induction m with
  | zero => simp [imgOf]
  | succ m ih =>
    rw [imgOf_succ, ih fun i j hj hi => hh i j hj (by omega), Nat.succ_mul, List.range_add, List.flatMap_append]
    congr 1
    unfold imgRow
    rw [List.flatMap_map]
    have : ∀ (a : List Nat), (∀ x ∈ a, x < n) → a.flatMap (fun j : Nat => f (j : Int) (m : Int)) = a.flatMap (fun x => h (m * n + x)) := by
      intro a
      induction a with
      | nil => intro _; rfl
      | cons x a iha =>
        intro hx
        rw [List.flatMap_cons, List.flatMap_cons, iha fun y hy => hx y (List.mem_cons_of_mem _ hy), hh m x (hx x (List.mem_cons_self ..)) (by omega)]
    exact this _ fun x hx => List.mem_range.1 hx
theorem img_len (f : Int → Int → List Int) (n m p : Nat) (hf : ∀ i j : Nat, j < n → i < m → (f j i).length = p) : (imgOf f n m).length = m * n * p := by
  induction m with
  | zero => simp [imgOf]
  | succ m ih =>
    rw [imgOf_succ, List.length_append, ih fun i j hj hi => hf i j hj (by omega)]
    unfold imgRow
    rw [fm_len _ n p fun j hj => hf m j hj (by omega), Nat.succ_mul, Nat.add_mul]
theorem img_get (f : Int → Int → List Int) (n m p i j q : Nat) (hf : ∀ i j : Nat, j < n → i < m → (f j i).length = p) (hj : j < n) (hi : i < m) (hq : q < p) :
    (imgOf f n m).getD ((i * n + j) * p + q) 0 = (f j i).getD q 0 := by
  have e : imgOf f n m = (List.range m).flatMap fun i : Nat => imgRow f i n := rfl
  have hr : ∀ i : Nat, i < m → (imgRow f i n).length = n * p := fun i hi => by
    unfold imgRow
    exact fm_len _ n p fun j hj => hf i j hj hi
  have hb : j * p + q < n * p := by
    have : (j + 1) * p ≤ n * p := Nat.mul_le_mul_right p (by omega)
    rw [Nat.succ_mul] at this
    omega
  rw [e, show (i * n + j) * p + q = i * (n * p) + (j * p + q) by rw [Nat.add_mul, Nat.mul_assoc]; omega, fm_get _ m (n * p) i _ hr hi hb]
  unfold imgRow
  exact fm_get _ n p j q (fun j hj => hf i j hj hi) hj hq
theorem img_ext (f : Int → Int → List Int) (n m p : Nat) (x : List Int) (hf : ∀ i j : Nat, j < n → i < m → (f j i).length = p) (hx : x.length = m * n * p)
    (h : ∀ i j q : Nat, i < m → j < n → q < p → x.getD ((i * n + j) * p + q) 0 = (f j i).getD q 0) : x = imgOf f n m := by
  refine bl_ext (by rw [hx, img_len f n m p hf]) fun t ht => ?_
  rw [img_len f n m p hf] at ht
  have hp : 0 < p := by rcases Nat.eq_zero_or_pos p with h | h; (· subst h; omega); exact h
  have ht2 : t / p < m * n := Nat.div_lt_of_lt_mul (by rw [Nat.mul_comm]; exact ht)
  have hn : 0 < n := by rcases Nat.eq_zero_or_pos n with h | h; (· subst h; omega); exact h
  have hi : t / p / n < m := Nat.div_lt_of_lt_mul (by rw [Nat.mul_comm]; exact ht2)
  have hj : t / p % n < n := Nat.mod_lt _ hn
  have hq : t % p < p := Nat.mod_lt _ hp
  have e1 : t / p / n * n + t / p % n = t / p := by rw [Nat.mul_comm]; exact Nat.div_add_mod _ _
  have e2 : t / p * p + t % p = t := by rw [Nat.mul_comm]; exact Nat.div_add_mod _ _
  have h1 := h _ _ _ hi hj hq
  have h2 := img_get f n m p _ _ _ hf hj hi hq
  rw [e1, e2] at h1 h2
  rw [h1, h2]
end Go.Proofs.Yteeeedmmcdlhjaa.P
namespace Go.Proofs.Yteeeedmmcdlhjaa.P
open Go.RowKit Go.Proofs.YteeeedmmcdlhjaaW.PrintWords Go.Proofs.YteeeedmmcdlhjaaW.PrintLast Go.Proofs.YteeeedmmcdlhjaaW.PrintMore Go.Proofs.Yteeeedmmcdlhjaa.Wp
set_option linter.unusedVariables false
set_option linter.unusedSimpArgs false
theorem pix_get {l : List Int} {n p x y : Int} (q : Nat) (h0 : 0 ≤ (y * n + x) * p) (hq : (q : Int) < p) : (pixOf l n p x y).getD q 0 = rd l ((y * n + x) * p + q) := by
  unfold pixOf
  have := rd_cut l ((y * n + x) * p) ((y * n + x) * p + p) q h0 (by omega) (by omega)
  rw [← this, bl_rd]
theorem img_congr (f g : Int → Int → List Int) (n m : Nat) (h : ∀ i j : Nat, j < n → i < m → f j i = g j i) : imgOf f n m = imgOf g n m := by
  induction m with
  | zero => rfl
  | succ m ih =>
    rw [imgOf_succ, imgOf_succ, ih fun i j hj hi => h i j hj (by omega)]
    congr 1
    have hm : ∀ j : Nat, j < n → f j m = g j m := fun j hj => h m j hj (by omega)
    clear ih h
    induction n with
    | zero => rfl
    | succ n ih => rw [imgRow_succ, imgRow_succ, ih fun j hj => hm j (by omega), hm n (by omega)]
end Go.Proofs.Yteeeedmmcdlhjaa.P
namespace Go.Proofs.Yteeeedmmcdlhjaa.P
open Go.RowKit Go.Proofs.YteeeedmmcdlhjaaW.PrintWords Go.Proofs.YteeeedmmcdlhjaaW.PrintLast Go.Proofs.YteeeedmmcdlhjaaW.PrintMore Go.Proofs.Yteeeedmmcdlhjaa.Wp
set_option linter.unusedVariables false
set_option linter.unusedSimpArgs false
def dat (l : List Int) (a p q : Nat) (i j : Nat) : Int := l.getD ((j * a + i) * p + q) 0
theorem dat_pix (l : List Int) (a b p : Nat) (hl : l.length = b * a * p) (i j q : Nat) (hi : i < a) (hj : j < b) (hq : q < p) : (pixOf l a p i j).getD q 0 = dat l a p q i j := by
  have e : ((j : Int) * a + i) * p = (((j * a + i) * p : Nat) : Int) := by rw [Int.natCast_mul (j * a + i) p, Int.natCast_add, Int.natCast_mul]
  rw [pix_get q (by rw [e]; omega) (by omega), e, ← Int.natCast_add, bl_rd]
  rfl
theorem dat_B (l : List Int) (a b p : Nat) (hl : l.length = b * a * p) (hB : ∀ v ∈ l, 0 ≤ v ∧ v ≤ 255) (i j q : Nat) (hi : i < a) (hj : j < b) (hq : q < p) : 0 ≤ dat l a p q i j ∧ dat l a p q i j ≤ 255 := by
  have h1 : j * a + i + 1 ≤ b * a := by
    have : (j + 1) * a ≤ b * a := Nat.mul_le_mul_right a hj
    rw [Nat.succ_mul] at this
    omega
  have h2 : (j * a + i + 1) * p ≤ b * a * p := Nat.mul_le_mul_right p h1
  rw [Nat.succ_mul] at h2
  refine hB _ ?_
  unfold dat
  rw [List.getD_eq_getElem?_getD, List.getElem?_eq_getElem (show (j * a + i) * p + q < l.length by omega)]
  exact List.getElem_mem _
theorem img_nat {a b c : Int} {l : List Int} (hi : imgB a b c l = true) : ∃ a' b' p : Nat, a = a' ∧ b = b' ∧ c = p ∧ (1 ≤ a' ∧ a' ≤ 16) ∧ (1 ≤ b' ∧ b' ≤ 16) ∧ (1 ≤ p ∧ p ≤ 4) ∧ l.length = b' * a' * p ∧ ∀ v ∈ l, 0 ≤ v ∧ v ≤ 255 := by
  obtain ⟨h0, h1, h2, hlen, hB⟩ := imgB_ok.1 hi
  obtain ⟨a, rfl⟩ := Int.eq_ofNat_of_zero_le (show 0 ≤ a by omega)
  obtain ⟨b, rfl⟩ := Int.eq_ofNat_of_zero_le (show 0 ≤ b by omega)
  obtain ⟨p, rfl⟩ := Int.eq_ofNat_of_zero_le (show 0 ≤ c by omega)
  refine ⟨a, b, p, rfl, rfl, rfl, by omega, by omega, by omega, ?_, hB⟩
  rw [← Int.natCast_mul, ← Int.natCast_mul, Nat.mul_comm a b] at hlen
  omega
end Go.Proofs.Yteeeedmmcdlhjaa.P
namespace Go.Proofs.Yteeeedmmcdlhjaa.P
open Go.RowKit Go.Proofs.YteeeedmmcdlhjaaW.PrintWords Go.Proofs.YteeeedmmcdlhjaaW.PrintLast Go.Proofs.YteeeedmmcdlhjaaW.PrintMore Go.Proofs.Yteeeedmmcdlhjaa.Wp
set_option linter.unusedVariables false
theorem w_inRange (a b c : Int) : Wp (fun _ => spec_inRange.f a b c) (fun r => r = decide (b ≤ a ∧ a ≤ c)) := by
  unfold spec_inRange.f
  refine Wp.ite (fun h => Wp.ret ?_) (fun h => Wp.ret ?_)
  · simp [h]
  · simp [h]
theorem w_validLevels (a : Int) : Wp (fun _ => spec_validLevels.f a) (fun r => r = decide (2 ≤ a ∧ a ≤ 16)) := by
  unfold spec_validLevels.f
  exact Wp.call (w_inRange _ _ _) fun r hr => Wp.ret hr
theorem w_isLevels (a : Int) : Wp (fun _ => impl_isLevels.f a) (fun r => r = decide (2 ≤ a ∧ a ≤ 16)) := by
  unfold impl_isLevels.f
  refine Wp.ite (fun h => Wp.ret ?_) (fun h => Wp.ret ?_)
  · simp [show 2 ≤ a from h]
  · simp [show ¬ 2 ≤ a from h]
theorem w_distance (a : Int) (h0 : -9223372036854775808 < a) (h1 : a ≤ 9223372036854775807) : Wp (fun _ => spec_distance.f a) (fun r => r = (a.natAbs : Int)) := by
  unfold spec_distance.f
  refine Wp.ite (fun h => Wp.ret ?_) (fun h => Wp.ret ?_)
  · rw [w64 (by omega) (by omega)]; omega
  · omega
theorem w_size (a : Int) (h0 : -9223372036854775808 < a) (h1 : a ≤ 9223372036854775807) : Wp (fun _ => impl_size.f a) (fun r => r = (a.natAbs : Int)) := by
  unfold impl_size.f
  refine Wp.ret ?_
  rw [w64 (by omega) (by omega)]
  unfold mx
  split <;> omega
def lv (k L : Int) : Int := 255 * k / (L - 1)
theorem lv_0 (k L : Int) (hk : 0 ≤ k) (hL : 2 ≤ L) : 0 ≤ lv k L := Int.ediv_nonneg (by omega) (by omega)
theorem lv_top (k L : Int) (hk : k < L) (hL : 2 ≤ L) : lv k L ≤ 255 := by
  unfold lv
  have h1 : 255 * k ≤ 255 * (L - 1) := by omega
  calc 255 * k / (L - 1) ≤ 255 * (L - 1) / (L - 1) := Int.ediv_le_ediv (by omega) h1
    _ = 255 := Int.mul_ediv_cancel _ (by omega)
theorem w_levelValue (k L : Int) (hk : 0 ≤ k) (hk2 : k ≤ 1000000) (hL : 2 ≤ L) (hM : L ≤ 16) : Wp (fun _ => spec_levelValue.f k L) (fun r => r = lv k L) := by
  unfold spec_levelValue.f
  rw [w64 (x := L - 1) (by omega) (by omega), w64 (x := 255 * k) (by omega) (by omega)]
  refine Wp.neg (by omega) (Wp.ret ?_)
  have h0 := lv_0 k L hk hL
  have h1 : lv k L ≤ 255 * k := Int.ediv_le_self _ (by omega)
  rw [Int.tdiv_eq_ediv_of_nonneg (by omega)]
  exact w64 (by unfold lv at h0; omega) (by unfold lv at h1; omega)
theorem w_valueOf (k L : Int) (hk : 0 ≤ k) (hk2 : k ≤ 1000000) (hL : 2 ≤ L) (hM : L ≤ 16) : Wp (fun _ => impl_valueOf.f k L) (fun r => r = lv k L) := w_levelValue k L hk hk2 hL hM
def ld (n L : Int) (k : Nat) : Nat := (n - lv k L).natAbs
def nst (n L : Int) : Nat → Nat
  | 0 => 0
  | m + 1 => if ld n L m < ld n L (nst n L m) then m else nst n L m
theorem nst_lt (n L : Int) (m : Nat) (hm : 0 < m) : nst n L m < m := by
  induction m with
  | zero => omega
  | succ m ih =>
    unfold nst
    split
    · omega
    · rcases Nat.eq_zero_or_pos m with rfl | h
      · simp [nst]
      · have := ih h; omega
theorem nst_le (n L : Int) (m : Nat) : ∀ j, j < m → ld n L (nst n L m) ≤ ld n L j := by
  induction m with
  | zero => intro j h; omega
  | succ m ih =>
    intro j hj
    unfold nst
    split
    · rcases Nat.lt_or_ge j m with h | h
      · have := ih j h; omega
      · have : j = m := by omega
        subst this; omega
    · rcases Nat.lt_or_ge j m with h | h
      · exact ih j h
      · have : j = m := by omega
        subst this; omega
theorem ld_bound (n L : Int) (k : Nat) (hk : (k : Int) < L) (hL : 2 ≤ L) : (ld n L k : Int) = (n - lv k L).natAbs ∧ 0 ≤ lv k L ∧ lv k L ≤ 255 := ⟨rfl, lv_0 _ _ (by omega) hL, lv_top _ _ hk hL⟩
theorem w_nearestLevel (n L : Int) (hn : -100000 ≤ n) (hn2 : n ≤ 100000) (hL : 2 ≤ L) (hM : L ≤ 16) : Wp (fun k => spec_nearestLevel.f k n L) (fun r => r = nst n L L.toNat) := by
  unfold spec_nearestLevel.f
  have key : ∀ d (i : Nat), 1 ≤ i → i + d = L.toNat → Wp (fun k => spec_nearestLevel.l0 k n L (nst n L i) i) (fun r => r = nst n L L.toNat) := by
    intro d
    induction d with
    | zero =>
      intro i hi hd
      refine Wp.step (fun k => spec_nearestLevel.l0.eq_2 ..) ?_
      refine Wp.neg (by omega) (Wp.ret ?_)
      rw [show i = L.toNat by omega]
    | succ d ih =>
      intro i hi hd
      refine Wp.step (fun k => spec_nearestLevel.l0.eq_2 ..) ?_
      refine Wp.pos (by omega) ?_
      have hb := nst_lt n L i (by omega)
      obtain ⟨e1, l1, u1⟩ := ld_bound n L i (by omega) hL
      obtain ⟨e2, l2, u2⟩ := ld_bound n L (nst n L i) (by omega) hL
      refine Wp.call (w_levelValue i L (by omega) (by omega) hL hM) ?_
      rintro _ rfl
      rw [w64 (x := lv i L - n) (by omega) (by omega)]
      refine Wp.call (w_distance _ (by omega) (by omega)) ?_
      rintro _ rfl
      refine Wp.call (w_levelValue (nst n L i) L (by omega) (by omega) hL hM) ?_
      rintro _ rfl
      rw [w64 (x := lv (nst n L i) L - n) (by omega) (by omega)]
      refine Wp.call (w_distance _ (by omega) (by omega)) ?_
      rintro _ rfl
      rw [w64 (x := (i : Int) + 1) (by omega) (by omega)]
      have hs : nst n L (i + 1) = if ld n L i < ld n L (nst n L i) then i else nst n L i := rfl
      have hi := ih (i + 1) (by omega) (by omega)
      refine Wp.ite (fun h => ?_) (fun h => ?_)
      · rw [if_pos (by omega)] at hs
        rw [hs] at hi
        exact hi
      · rw [if_neg (by omega)] at hs
        rw [hs] at hi
        exact hi
  have h1 : nst n L 1 = 0 := by unfold nst; split <;> simp [nst]
  have := key (L.toNat - 1) 1 (by omega) (by omega)
  rw [h1] at this
  exact this
theorem w_levelOf (n L : Int) (hn : -100000 ≤ n) (hn2 : n ≤ 100000) (hL : 2 ≤ L) (hM : L ≤ 16) : Wp (fun k => impl_levelOf.f k n L) (fun r => r = nst n L L.toNat) := by
  unfold impl_levelOf.f
  have key : ∀ d (i : Nat), i + d = L.toNat → Wp (fun k => impl_levelOf.l0 k n L (nst n L i) L i) (fun r => r = nst n L L.toNat) := by
    intro d
    induction d with
    | zero =>
      intro i hd
      refine Wp.step (fun k => impl_levelOf.l0.eq_2 ..) ?_
      refine Wp.neg (by omega) (Wp.ret ?_)
      rw [show i = L.toNat by omega]
    | succ d ih =>
      intro i hd
      refine Wp.step (fun k => impl_levelOf.l0.eq_2 ..) ?_
      refine Wp.pos (by omega) ?_
      have hb : nst n L i < i + 1 := by
        rcases Nat.eq_zero_or_pos i with rfl | h
        · simp [nst]
        · have := nst_lt n L i h; omega
      obtain ⟨e1, l1, u1⟩ := ld_bound n L i (by omega) hL
      obtain ⟨e2, l2, u2⟩ := ld_bound n L (nst n L i) (by omega) hL
      refine Wp.call (w_valueOf i L (by omega) (by omega) hL hM) ?_
      rintro _ rfl
      rw [w64 (x := n - lv i L) (by omega) (by omega)]
      refine Wp.call (w_size _ (by omega) (by omega)) ?_
      rintro _ rfl
      refine Wp.call (w_valueOf (nst n L i) L (by omega) (by omega) hL hM) ?_
      rintro _ rfl
      rw [w64 (x := n - lv (nst n L i) L) (by omega) (by omega)]
      refine Wp.call (w_size _ (by omega) (by omega)) ?_
      rintro _ rfl
      rw [w64 (x := (i : Int) + 1) (by omega) (by omega)]
      have hs : nst n L (i + 1) = if ld n L i < ld n L (nst n L i) then i else nst n L i := rfl
      have hi := ih (i + 1) (by omega)
      refine Wp.ite (fun h => ?_) (fun h => ?_)
      · rw [if_pos (by omega)] at hs
        rw [hs] at hi
        exact hi
      · rw [if_neg (by omega)] at hs
        rw [hs] at hi
        exact hi
  exact key L.toNat 0 (by omega)
end Go.Proofs.Yteeeedmmcdlhjaa.P
namespace Go.Proofs.Yteeeedmmcdlhjaa.P
open Go.RowKit Go.Proofs.YteeeedmmcdlhjaaW.PrintWords Go.Proofs.YteeeedmmcdlhjaaW.PrintLast Go.Proofs.YteeeedmmcdlhjaaW.PrintMore Go.Proofs.Yteeeedmmcdlhjaa.Wp
set_option linter.unusedVariables false
set_option linter.unusedSimpArgs false
def fo (n : Int) : Nat := (n - 255).toNat + (-n).toNat
def fsum : List Int → Nat
  | [] => 0
  | x :: l => fo x + fsum l
theorem fsum_set (l : List Int) : ∀ (i : Nat) (v : Int), i < l.length → fsum (l.set i v) + fo (l.getD i 0) = fsum l + fo v := by
  induction l with
  | nil => intro i v h; simp at h
  | cons x l ih =>
    intro i v h
    cases i with
    | zero => simp [fsum]; omega
    | succ i =>
      have := ih i v (by simpa using h)
      simp [fsum] at this ⊢
      omega
theorem fo_le (l : List Int) : ∀ (i : Nat), fo (l.getD i 0) ≤ fsum l := by
  induction l with
  | nil => intro i; simp [fo, fsum]
  | cons x l ih =>
    intro i
    cases i with
    | zero => simp [fsum]
    | succ i =>
      have := ih i
      simp [fsum] at this ⊢
      omega
theorem fsum_0 (l : List Int) (h : ∀ v ∈ l, 0 ≤ v ∧ v ≤ 255) : fsum l = 0 := by
  induction l with
  | nil => rfl
  | cons x l ih =>
    have h1 := h x (by simp)
    have h2 := ih fun v hv => h v (by simp [hv])
    unfold fsum fo
    omega
def gv (a b : Nat) (x y p : Int) (d : List Int) : List Int := if (0 ≤ x ∧ x < a) ∧ y < b then d.set (y * a + x).toNat (d.getD (y * a + x).toNat 0 + p) else d
theorem gv_len (a b : Nat) (x y p : Int) (d : List Int) : (gv a b x y p d).length = d.length := by
  unfold gv
  split
  · rw [List.length_set]
  · rfl
theorem gv_idx {a b : Nat} {x y : Int} (h : (0 ≤ x ∧ x < a) ∧ y < b) (hy : 0 ≤ y) : ∃ i j : Nat, x = i ∧ y = j ∧ i < a ∧ j < b ∧ j * a + i < b * a ∧ (y * a + x).toNat = j * a + i ∧ y * a + x = ((j * a + i : Nat) : Int) := by
  obtain ⟨i, rfl⟩ := Int.eq_ofNat_of_zero_le h.1.1
  obtain ⟨j, rfl⟩ := Int.eq_ofNat_of_zero_le hy
  have h1 : (j + 1) * a ≤ b * a := Nat.mul_le_mul_right a (by omega)
  rw [Nat.succ_mul] at h1
  have e : (j : Int) * a + i = ((j * a + i : Nat) : Int) := by rw [Int.natCast_add, Int.natCast_mul]
  exact ⟨i, j, rfl, rfl, by omega, by omega, by omega, by rw [e, Int.toNat_natCast], e⟩
theorem gv_sum (a b : Nat) (x y p : Int) (d : List Int) (hy : 0 ≤ y) (hd : d.length = b * a) : fsum (gv a b x y p d) ≤ fsum d + p.natAbs := by
  unfold gv
  split
  · rename_i h
    obtain ⟨i, j, _, _, _, _, hlt, e, _⟩ := gv_idx h hy
    rw [e]
    have := fsum_set d (j * a + i) (d.getD (j * a + i) 0 + p) (by omega)
    unfold fo at this
    omega
  · omega
theorem gv_zero (a b : Nat) (x y : Int) (d : List Int) (hy : 0 ≤ y) (hd : d.length = b * a) : gv a b x y 0 d = d := by
  unfold gv
  split
  · rename_i h
    obtain ⟨i, j, _, _, _, _, hlt, e, _⟩ := gv_idx h hy
    rw [e, Int.add_zero, List.getD_eq_getElem?_getD, List.getElem?_eq_getElem (by omega), Option.getD_some, List.set_getElem_self]
  · rfl
def fv (n L : Int) : Int := lv (nst n L L.toNat) L
theorem fv_B (n L : Int) (hL : 2 ≤ L) : 0 ≤ fv n L ∧ fv n L ≤ 255 := by
  have := nst_lt n L L.toNat (by omega)
  exact ⟨lv_0 _ _ (by omega) hL, lv_top _ _ (by omega) hL⟩
def fdP (a b : Nat) (L : Int) (x y : Nat) (d : List Int) : List Int :=
  gv a b ((x : Int) + 1) ((y : Int) + 1) (d.getD (y * a + x) 0 - fv (d.getD (y * a + x) 0) L - 7 * (d.getD (y * a + x) 0 - fv (d.getD (y * a + x) 0) L) / 16 - 3 * (d.getD (y * a + x) 0 - fv (d.getD (y * a + x) 0) L) / 16 - 5 * (d.getD (y * a + x) 0 - fv (d.getD (y * a + x) 0) L) / 16)
    (gv a b (x : Int) ((y : Int) + 1) (5 * (d.getD (y * a + x) 0 - fv (d.getD (y * a + x) 0) L) / 16)
      (gv a b ((x : Int) - 1) ((y : Int) + 1) (3 * (d.getD (y * a + x) 0 - fv (d.getD (y * a + x) 0) L) / 16)
        (gv a b ((x : Int) + 1) (y : Int) (7 * (d.getD (y * a + x) 0 - fv (d.getD (y * a + x) 0) L) / 16) (d.set (y * a + x) (fv (d.getD (y * a + x) 0) L)))))
theorem fdP_len (a b : Nat) (L : Int) (x y : Nat) (d : List Int) : (fdP a b L x y d).length = d.length := by
  unfold fdP
  rw [gv_len, gv_len, gv_len, gv_len, List.length_set]
theorem pix_lt {a b x y : Nat} (hx : x < a) (hy : y < b) : y * a + x < b * a := by
  have h1 : (y + 1) * a ≤ b * a := Nat.mul_le_mul_right a (by omega)
  rw [Nat.succ_mul] at h1
  omega
theorem fe_B (n L : Int) (hL : 2 ≤ L) : (n - fv n L).natAbs ≤ fo n + 255 := by
  have := fv_B n L hL
  unfold fo
  omega
theorem fdP_sum (a b : Nat) (L : Int) (x y : Nat) (d : List Int) (hL : 2 ≤ L) (hd : d.length = b * a) (hx : x < a) (hy : y < b) : fsum (fdP a b L x y d) ≤ fsum d + 261 := by
  have hlt := pix_lt hx hy
  have h0 := fsum_set d (y * a + x) (fv (d.getD (y * a + x) 0) L) (by omega)
  have hB := fv_B (d.getD (y * a + x) 0) L hL
  have he := fe_B (d.getD (y * a + x) 0) L hL
  have hl0 : (d.set (y * a + x) (fv (d.getD (y * a + x) 0) L)).length = b * a := by rw [List.length_set]; exact hd
  unfold fdP
  generalize d.set (y * a + x) (fv (d.getD (y * a + x) 0) L) = d0 at *
  generalize d.getD (y * a + x) 0 = n at *
  have h00 : fo (fv n L) = 0 := by unfold fo; omega
  generalize fv n L = v at *
  generalize n - v = e at *
  have h1 := gv_sum a b ((x : Int) + 1) (y : Int) (7 * e / 16) d0 (by omega) hl0
  have hl1 : (gv a b ((x : Int) + 1) (y : Int) (7 * e / 16) d0).length = b * a := by rw [gv_len]; exact hl0
  generalize gv a b ((x : Int) + 1) (y : Int) (7 * e / 16) d0 = d1 at *
  have h2 := gv_sum a b ((x : Int) - 1) ((y : Int) + 1) (3 * e / 16) d1 (by omega) hl1
  have hl2 : (gv a b ((x : Int) - 1) ((y : Int) + 1) (3 * e / 16) d1).length = b * a := by rw [gv_len]; exact hl1
  generalize gv a b ((x : Int) - 1) ((y : Int) + 1) (3 * e / 16) d1 = d2 at *
  have h3 := gv_sum a b (x : Int) ((y : Int) + 1) (5 * e / 16) d2 (by omega) hl2
  have hl3 : (gv a b (x : Int) ((y : Int) + 1) (5 * e / 16) d2).length = b * a := by rw [gv_len]; exact hl2
  generalize gv a b (x : Int) ((y : Int) + 1) (5 * e / 16) d2 = d3 at *
  have h4 := gv_sum a b ((x : Int) + 1) ((y : Int) + 1) (e - 7 * e / 16 - 3 * e / 16 - 5 * e / 16) d3 (by omega) hl3
  clear hB
  omega
def fdR (a b : Nat) (L : Int) (y : Nat) (d : List Int) : Nat → List Int
  | 0 => d
  | x + 1 => fdP a b L x y (fdR a b L y d x)
def fdA (a b : Nat) (L : Int) (d : List Int) : Nat → List Int
  | 0 => d
  | y + 1 => fdR a b L y (fdA a b L d y) a
theorem fdR_len (a b : Nat) (L : Int) (y : Nat) (d : List Int) : ∀ x, (fdR a b L y d x).length = d.length
  | 0 => rfl
  | x + 1 => by rw [fdR, fdP_len, fdR_len]
theorem fdA_len (a b : Nat) (L : Int) (d : List Int) : ∀ y, (fdA a b L d y).length = d.length
  | 0 => rfl
  | y + 1 => by rw [fdA, fdR_len, fdA_len]
theorem fdR_sum (a b : Nat) (L : Int) (y : Nat) (d : List Int) (hL : 2 ≤ L) (hd : d.length = b * a) (hy : y < b) : ∀ x, x ≤ a → fsum (fdR a b L y d x) ≤ fsum d + 261 * x
  | 0, _ => Nat.le_add_right _ _
  | x + 1, h => by
    have h1 := fdR_sum a b L y d hL hd hy x (by omega)
    have h2 := fdP_sum a b L x y (fdR a b L y d x) hL (by rw [fdR_len]; exact hd) (by omega) hy
    exact Nat.le_trans h2 (by omega)
theorem fdA_sum (a b : Nat) (L : Int) (d : List Int) (hL : 2 ≤ L) (hd : d.length = b * a) (ha : a ≤ 16) : ∀ y, y ≤ b → fsum (fdA a b L d y) ≤ fsum d + 4176 * y
  | 0, _ => Nat.le_add_right _ _
  | y + 1, h => by
    have h1 := fdA_sum a b L d hL hd ha y (by omega)
    have h2 := fdR_sum a b L y (fdA a b L d y) hL (by rw [fdA_len]; exact hd) (by omega) a (by omega)
    exact Nat.le_trans h2 (by omega)
def IsLv (L v : Int) : Prop := ∃ k : Nat, (k : Int) < L ∧ v = lv k L
theorem fv_self {v L : Int} (hL : 2 ≤ L) (h : IsLv L v) : fv v L = v := by
  obtain ⟨k, hk, rfl⟩ := h
  have h := nst_le (lv k L) L L.toNat k (by omega)
  unfold ld at h
  unfold fv
  omega
theorem isLv_0 {L : Int} (hL : 2 ≤ L) : IsLv L 0 := ⟨0, by omega, by unfold lv; simp⟩
theorem isLv_255 {L : Int} (hL : 2 ≤ L) : IsLv L 255 := ⟨(L - 1).toNat, by omega, by
  unfold lv
  rw [Int.toNat_of_nonneg (by omega)]
  exact (Int.mul_ediv_cancel _ (by omega)).symm⟩
theorem fdP_same (a b : Nat) (L : Int) (x y : Nat) (d : List Int) (hL : 2 ≤ L) (hd : d.length = b * a) (hx : x < a) (hy : y < b) (h : IsLv L (d.getD (y * a + x) 0)) : fdP a b L x y d = d := by
  have hlt := pix_lt hx hy
  have e := fv_self hL h
  unfold fdP
  rw [e, Int.sub_self]
  have e0 : d.set (y * a + x) (d.getD (y * a + x) 0) = d := by
    rw [List.getD_eq_getElem?_getD, List.getElem?_eq_getElem (by omega), Option.getD_some, List.set_getElem_self]
  rw [e0]
  simp only [Int.mul_zero, Int.zero_ediv, Int.sub_zero]
  rw [gv_zero _ _ _ _ _ (by omega) hd, gv_zero _ _ _ _ _ (by omega) hd, gv_zero _ _ _ _ _ (by omega) hd, gv_zero _ _ _ _ _ (by omega) hd]
theorem fdR_same (a b : Nat) (L : Int) (y : Nat) (d : List Int) (hL : 2 ≤ L) (hd : d.length = b * a) (hy : y < b) (h : ∀ i, i < b * a → IsLv L (d.getD i 0)) : ∀ x, x ≤ a → fdR a b L y d x = d
  | 0, _ => rfl
  | x + 1, hx => by
    rw [fdR, fdR_same a b L y d hL hd hy h x (by omega)]
    exact fdP_same a b L x y d hL hd (by omega) hy (h _ (pix_lt (by omega) hy))
theorem fdA_same (a b : Nat) (L : Int) (d : List Int) (hL : 2 ≤ L) (hd : d.length = b * a) (h : ∀ i, i < b * a → IsLv L (d.getD i 0)) : ∀ y, y ≤ b → fdA a b L d y = d
  | 0, _ => rfl
  | y + 1, hy => by
    rw [fdA, fdA_same a b L d hL hd h y (by omega)]
    exact fdR_same a b L y d hL hd (by omega) h a (by omega)
end Go.Proofs.Yteeeedmmcdlhjaa.P
namespace Go.Proofs.Yteeeedmmcdlhjaa.P
open Go.RowKit Go.Proofs.YteeeedmmcdlhjaaW.PrintWords Go.Proofs.YteeeedmmcdlhjaaW.PrintLast Go.Proofs.YteeeedmmcdlhjaaW.PrintMore Go.Proofs.Yteeeedmmcdlhjaa.Wp
set_option linter.unusedVariables false
set_option linter.unusedSimpArgs false
theorem fd_emod_le (a b : Int) (ha : 0 ≤ a) (hb : 0 < b) : a % b ≤ a := by
  obtain ⟨m, rfl⟩ := Int.eq_ofNat_of_zero_le ha
  obtain ⟨n, rfl⟩ := Int.eq_ofNat_of_zero_le (Int.le_of_lt hb)
  have := Nat.mod_le m n
  omega
theorem fd_parts (a b : Int) (hb : 0 < b) : (0 ≤ Int.tmod a b ∧ a / b = Int.tdiv a b) ∨ (Int.tmod a b < 0 ∧ a / b = Int.tdiv a b - 1) := by
  have h1 : Int.tmod a b + b * Int.tdiv a b = a := Int.tmod_add_mul_tdiv a b
  have h2 : Int.tmod a b < b := Int.tmod_lt_of_pos a hb
  rcases Int.lt_or_le a 0 with ha | ha
  · have h3 : 0 ≤ Int.tmod (-a) b := Int.tmod_nonneg b (by omega)
    have h4 : Int.tmod (-a) b < b := Int.tmod_lt_of_pos (-a) hb
    rw [Int.neg_tmod] at h3 h4
    by_cases hz : Int.tmod a b = 0
    · left
      refine ⟨by omega, ?_⟩
      exact ((Int.ediv_emod_unique (r := Int.tmod a b) (q := Int.tdiv a b) hb).2 ⟨h1, by omega, h2⟩).1
    · right
      refine ⟨by omega, ?_⟩
      refine ((Int.ediv_emod_unique (r := Int.tmod a b + b) (q := Int.tdiv a b - 1) hb).2 ⟨?_, by omega, by omega⟩).1
      rw [Int.mul_sub]
      omega
  · left
    refine ⟨Int.tmod_nonneg b ha, ?_⟩
    exact (Int.tdiv_eq_ediv_of_nonneg ha).symm
theorem fd_bound (a b : Int) (hb : 0 < b) : -(a.natAbs : Int) ≤ Int.tdiv a b ∧ Int.tdiv a b ≤ a.natAbs := by
  have := Int.natAbs_tdiv_le_natAbs a b
  omega
theorem fd_mul (a b : Int) (hb : 0 < b) : Int.tdiv a b * b = a - Int.tmod a b := by
  have h1 : Int.tmod a b + b * Int.tdiv a b = a := Int.tmod_add_mul_tdiv a b
  rw [Int.mul_comm]
  omega
theorem fd_tmod_bound (a b : Int) (hb : 0 < b) : -(a.natAbs : Int) ≤ Int.tmod a b ∧ Int.tmod a b ≤ a.natAbs := by
  rcases Int.lt_or_le a 0 with ha | ha
  · have h3 : 0 ≤ Int.tmod (-a) b := Int.tmod_nonneg b (by omega)
    have h5 : Int.tmod (-a) b ≤ -a := by
      rw [Int.tmod_eq_emod_of_nonneg (by omega)]
      exact fd_emod_le _ b (by omega) hb
    rw [Int.neg_tmod] at h3 h5
    omega
  · have h3 : 0 ≤ Int.tmod a b := Int.tmod_nonneg b ha
    have h5 : Int.tmod a b ≤ a := by
      rw [Int.tmod_eq_emod_of_nonneg ha]
      exact fd_emod_le _ b ha hb
    omega
theorem w_iFloorDiv (a b : Int) (ha : -1000000000000000 ≤ a) (ha2 : a ≤ 1000000000000000) (hb : 0 < b) : Wp (fun _ => impl_floorDiv.f a b) (fun r => r = a / b) := by
  have h := fd_parts a b hb
  have q := fd_bound a b hb
  have m := fd_mul a b hb
  have t := fd_tmod_bound a b hb
  unfold impl_floorDiv.f
  rw [w64 (x := Int.tdiv a b) (by omega) (by omega), m, w64 (x := a - Int.tmod a b) (by omega) (by omega)]
  refine Wp.neg (by omega) (Wp.ite (fun h1 => Wp.ret ?_) (fun h1 => Wp.ret ?_))
  · rw [w64 (by omega) (by omega)]
    omega
  · omega
end Go.Proofs.Yteeeedmmcdlhjaa.P
namespace Go.Proofs.Yteeeedmmcdlhjaa.P
open Go.RowKit Go.Proofs.YteeeedmmcdlhjaaW.PrintWords Go.Proofs.YteeeedmmcdlhjaaW.PrintLast Go.Proofs.YteeeedmmcdlhjaaW.PrintMore Go.Proofs.Yteeeedmmcdlhjaa.Wp
set_option linter.unusedVariables false
set_option linter.unusedSimpArgs false
theorem w_sFloorDiv (a b : Int) (ha : -1000000000000000 ≤ a) (ha2 : a ≤ 1000000000000000) (hb : 0 < b) : Wp (fun _ => spec_floorDiv.f a b) (fun r => r = a / b) := by
  have h := fd_parts a b hb
  have q := fd_bound a b hb
  unfold spec_floorDiv.f
  rw [w64 (x := Int.tdiv a b) (by omega) (by omega)]
  refine Wp.neg (by omega) (Wp.ite (fun h1 => Wp.ret ?_) (fun h1 => Wp.ret ?_))
  · rw [w64 (by omega) (by omega)]
    omega
  · omega
end Go.Proofs.Yteeeedmmcdlhjaa.P
namespace Go.Proofs.Yteeeedmmcdlhjaa.P
open Go.RowKit Go.Proofs.YteeeedmmcdlhjaaW.PrintWords Go.Proofs.YteeeedmmcdlhjaaW.PrintLast Go.Proofs.YteeeedmmcdlhjaaW.PrintMore Go.Proofs.Yteeeedmmcdlhjaa.Wp
set_option linter.unusedVariables false
set_option linter.unusedSimpArgs false
theorem w_copyInts (l : List Int) (hl : l.length ≤ 1000000000) : Wp (fun _ => spec_copyInts.f l) (fun r => r = l) := by
  unfold spec_copyInts.f
  exact Wp.pos (by simp; omega) (Wp.ret (by simp))
end Go.Proofs.Yteeeedmmcdlhjaa.P
namespace Go.Proofs.Yteeeedmmcdlhjaa.P
open Go.RowKit Go.Proofs.YteeeedmmcdlhjaaW.PrintWords Go.Proofs.YteeeedmmcdlhjaaW.PrintLast Go.Proofs.YteeeedmmcdlhjaaW.PrintMore Go.Proofs.Yteeeedmmcdlhjaa.Wp
set_option linter.unusedVariables false
set_option linter.unusedSimpArgs false
def Painted (f : Int → Int → List Int) (n m p : Nat) (x : List Int) (i j : Nat) : Prop :=
  x.length = m * n * p ∧ ∀ i' j' q, (i' < i ∨ (i' = i ∧ j' < j)) → j' < n → i' < m → q < p → x.getD ((i' * n + j') * p + q) 0 = (f j' i').getD q 0
theorem Painted.row {f : Int → Int → List Int} {n m p : Nat} {x : List Int} {i : Nat} (h : Painted f n m p x i n) : Painted f n m p x (i + 1) 0 :=
  ⟨h.1, fun i' j' q h1 h2 h3 h4 => h.2 i' j' q (by omega) h2 h3 h4⟩
theorem Painted.all {f : Int → Int → List Int} {n m p : Nat} {x : List Int} (h : Painted f n m p x m 0) (hf : ∀ i j : Nat, j < n → i < m → (f j i).length = p) : x = imgOf f n m :=
  img_ext f n m p x hf h.1 fun i j q h1 h2 h3 => h.2 i j q (by omega) h2 h1 h3
end Go.Proofs.Yteeeedmmcdlhjaa.P
namespace Go.Proofs.Yteeeedmmcdlhjaa.P
open Go.RowKit Go.Proofs.YteeeedmmcdlhjaaW.PrintWords Go.Proofs.YteeeedmmcdlhjaaW.PrintLast Go.Proofs.YteeeedmmcdlhjaaW.PrintMore Go.Proofs.Yteeeedmmcdlhjaa.Wp
set_option linter.unusedVariables false
set_option linter.unusedSimpArgs false
theorem w_copyImage (a b c : Int) (l : List Int) (hl : l.length ≤ 1000000000) : Wp (fun _ => spec_copyImage.f a b c l) (fun r => r = (a, b, c, l)) := by
  unfold spec_copyImage.f
  refine Wp.call (w_copyInts l hl) ?_
  rintro _ rfl
  exact Wp.ret rfl
end Go.Proofs.Yteeeedmmcdlhjaa.P
namespace Go.Proofs.Yteeeedmmcdlhjaa.P
open Go.RowKit Go.Proofs.YteeeedmmcdlhjaaW.PrintWords Go.Proofs.YteeeedmmcdlhjaaW.PrintLast Go.Proofs.YteeeedmmcdlhjaaW.PrintMore Go.Proofs.Yteeeedmmcdlhjaa.Wp
set_option linter.unusedVariables false
set_option linter.unusedSimpArgs false
theorem get_B (d : List Int) (s : Nat) (hs : fsum d ≤ s) (i : Nat) : -(s : Int) ≤ d.getD i 0 ∧ d.getD i 0 ≤ 255 + (s : Int) := by
  have := fo_le d i
  unfold fo at this
  omega
theorem dfGive_gv (a b : Nat) (x y p : Int) (d : List Int) (hs : fsum d ≤ 500000) (hp : p.natAbs ≤ 500000) : dfGive a b x y p d = gv a b x y p d := by
  unfold dfGive gv
  split
  · have h := get_B d _ hs (y * a + x).toNat
    rw [show rd d (y * a + x) = d.getD (y * a + x).toNat 0 from rfl, w64 (by omega) (by omega)]
  · rfl
theorem w_pass (a b : Nat) (c : Int) (d : List Int) (x y p : Int) (ha : 1 ≤ a ∧ a ≤ 16) (hb : 1 ≤ b ∧ b ≤ 16) (hx : -1 ≤ x ∧ x ≤ 16) (hy : 0 ≤ y ∧ y ≤ 16) (hd : d.length = b * a) (hs : fsum d ≤ 500000) (hp : p.natAbs ≤ 500000) :
    Wp (fun _ => spec_pass.f a b c d x y p) (fun r => r = gv a b x y p d) := by
  unfold spec_pass.f
  refine Wp.call (Q := fun r => r = decide ((0 ≤ x ∧ x < a) ∧ y < b)) ?_ ?_
  · unfold spec_onImage.f
    rw [w64 (x := (a : Int) - 1) (by omega) (by omega), w64 (x := (b : Int) - 1) (by omega) (by omega)]
    refine Wp.call (w_inRange _ _ _) ?_
    rintro _ rfl
    refine Wp.ite (fun h => ?_) (fun h => Wp.ret ?_)
    · rw [decide_eq_true_eq] at h
      refine Wp.call (w_inRange _ _ _) ?_
      rintro _ rfl
      refine Wp.ret ?_
      rw [decide_eq_decide]
      omega
    · rw [decide_eq_true_eq] at h
      exact (decide_eq_false (by omega)).symm
  · rintro _ rfl
    unfold gv
    refine Wp.ite (fun h => ?_) (fun h => Wp.ret ?_)
    · rw [decide_eq_true_eq] at h
      rw [if_pos h]
      obtain ⟨i, j, rfl, rfl, hi, hj, hlt, et, ei⟩ := gv_idx h hy.1
      have hn := get_B d _ hs (j * a + i)
      have hij : j * a + i < 16 * 16 := Nat.lt_of_lt_of_le hlt (Nat.mul_le_mul hb.2 ha.2)
      rw [← Int.natCast_mul, w64 (x := ((j * a : Nat) : Int)) (by omega) (by omega), Int.natCast_mul, ei, w64 (x := ((j * a + i : Nat) : Int)) (by omega) (by omega), bl_rd, w64 (x := d.getD (j * a + i) 0 + p) (by omega) (by omega), Int.toNat_natCast]
      exact Wp.pos (by omega) (Wp.pos (by omega) (Wp.ret rfl))
    · rw [decide_eq_true_eq] at h
      rw [if_neg h]
theorem fd_bounds (a b : Nat) (L : Int) (x y : Nat) (d : List Int) (hL : 2 ≤ L ∧ L ≤ 16) (hd : d.length = b * a) (hx : x < a) (hy : y < b) (hs : fsum d ≤ 80000) :
    ∀ n v e, n = d.getD (y * a + x) 0 → v = fv n L → e = n - v →
    (-80000 ≤ n ∧ n ≤ 80255) ∧ (0 ≤ v ∧ v ≤ 255) ∧ (-90000 ≤ e ∧ e ≤ 90000) ∧
    ((d.set (y * a + x) v).length = b * a ∧ fsum (d.set (y * a + x) v) ≤ 80000) ∧
    ((gv a b ((x : Int) + 1) y (7 * e / 16) (d.set (y * a + x) v)).length = b * a ∧ fsum (gv a b ((x : Int) + 1) y (7 * e / 16) (d.set (y * a + x) v)) ≤ 200000) ∧
    ((gv a b ((x : Int) - 1) ((y : Int) + 1) (3 * e / 16) (gv a b ((x : Int) + 1) y (7 * e / 16) (d.set (y * a + x) v))).length = b * a ∧ fsum (gv a b ((x : Int) - 1) ((y : Int) + 1) (3 * e / 16) (gv a b ((x : Int) + 1) y (7 * e / 16) (d.set (y * a + x) v))) ≤ 300000) ∧
    ((gv a b (x : Int) ((y : Int) + 1) (5 * e / 16) (gv a b ((x : Int) - 1) ((y : Int) + 1) (3 * e / 16) (gv a b ((x : Int) + 1) y (7 * e / 16) (d.set (y * a + x) v)))).length = b * a ∧ fsum (gv a b (x : Int) ((y : Int) + 1) (5 * e / 16) (gv a b ((x : Int) - 1) ((y : Int) + 1) (3 * e / 16) (gv a b ((x : Int) + 1) y (7 * e / 16) (d.set (y * a + x) v)))) ≤ 400000) := by
  intro n v e hn hv he
  have hlt := pix_lt hx hy
  have h0 := fsum_set d (y * a + x) v (by omega)
  have hnB := get_B d _ hs (y * a + x)
  rw [← hn] at h0 hnB
  have hB := fv_B n L hL.1
  rw [← hv] at hB
  have hl0 : (d.set (y * a + x) v).length = b * a := by rw [List.length_set]; exact hd
  have h00 : fo v = 0 := by unfold fo; omega
  generalize d.set (y * a + x) v = d0 at *
  have h1 := gv_sum a b ((x : Int) + 1) (y : Int) (7 * e / 16) d0 (by omega) hl0
  have hl1 : (gv a b ((x : Int) + 1) (y : Int) (7 * e / 16) d0).length = b * a := by rw [gv_len]; exact hl0
  generalize gv a b ((x : Int) + 1) (y : Int) (7 * e / 16) d0 = d1 at *
  have h2 := gv_sum a b ((x : Int) - 1) ((y : Int) + 1) (3 * e / 16) d1 (by omega) hl1
  have hl2 : (gv a b ((x : Int) - 1) ((y : Int) + 1) (3 * e / 16) d1).length = b * a := by rw [gv_len]; exact hl1
  generalize gv a b ((x : Int) - 1) ((y : Int) + 1) (3 * e / 16) d1 = d2 at *
  have h3 := gv_sum a b (x : Int) ((y : Int) + 1) (5 * e / 16) d2 (by omega) hl2
  have hl3 : (gv a b (x : Int) ((y : Int) + 1) (5 * e / 16) d2).length = b * a := by rw [gv_len]; exact hl2
  generalize gv a b (x : Int) ((y : Int) + 1) (5 * e / 16) d2 = d3 at *
  exact ⟨by omega, hB, by omega, ⟨hl0, by omega⟩, ⟨hl1, by omega⟩, ⟨hl2, by omega⟩, hl3, by omega⟩
theorem fd_idx (a x y : Nat) : (y : Int) * a + x = ((y * a + x : Nat) : Int) := by rw [Int.natCast_add, Int.natCast_mul]
theorem w_dfPix (a b : Nat) (L : Int) (x y : Nat) (d : List Int) (hL : 2 ≤ L ∧ L ≤ 16) (hd : d.length = b * a) (hx : x < a) (hy : y < b) (hs : fsum d ≤ 80000) :
    Wp (fun k => dfPix k a b L x y d) (fun r => r = fdP a b L x y d) := by
  unfold dfPix
  rw [fd_idx, bl_rd, Int.toNat_natCast]
  unfold fdP
  generalize hn : d.getD (y * a + x) 0 = n
  generalize hv : fv n L = v
  generalize he : n - v = e
  obtain ⟨nB, vB, eB, s0, s1, s2, s3⟩ := fd_bounds a b L x y d hL hd hx hy hs n v e hn.symm hv.symm he.symm
  refine Wp.call (w_levelOf n L (by omega) (by omega) hL.1 hL.2) ?_
  rintro _ rfl
  have hj := nst_lt n L L.toNat (by omega)
  refine Wp.call (w_valueOf _ L (by omega) (by omega) hL.1 hL.2) ?_
  rintro z hz
  have hz2 : z = v := hz.trans hv
  subst hz2
  clear hz
  rw [he, w64 (x := e) (by omega) (by omega), w64 (x := 7 * e) (by omega) (by omega), w64 (x := 3 * e) (by omega) (by omega), w64 (x := 5 * e) (by omega) (by omega)]
  refine Wp.call (w_iFloorDiv _ 16 (by omega) (by omega) (by omega)) ?_
  rintro _ rfl
  refine Wp.call (w_iFloorDiv _ 16 (by omega) (by omega) (by omega)) ?_
  rintro _ rfl
  refine Wp.call (w_iFloorDiv _ 16 (by omega) (by omega) (by omega)) ?_
  rintro _ rfl
  refine Wp.ret ?_
  rw [w64 (x := e - 7 * e / 16) (by omega) (by omega), w64 (x := e - 7 * e / 16 - 3 * e / 16) (by omega) (by omega), w64 (x := e - 7 * e / 16 - 3 * e / 16 - 5 * e / 16) (by omega) (by omega)]
  rw [dfGive_gv a b _ _ (7 * e / 16) _ (by omega) (by omega), dfGive_gv a b _ _ (3 * e / 16) _ (by omega) (by omega), dfGive_gv a b _ _ (5 * e / 16) _ (by omega) (by omega), dfGive_gv a b _ _ _ _ (by omega) (by omega)]
theorem w_dfRow (a b : Nat) (L : Int) (y : Nat) (d : List Int) (hL : 2 ≤ L ∧ L ≤ 16) (hd : d.length = b * a) (ha : a ≤ 16) (hy : y < b) (hs : fsum d ≤ 70000) : ∀ x, x ≤ a → Wp (fun k => dfRow k a b L y d x) (fun r => r = fdR a b L y d x)
  | 0, _ => Wp.ret rfl
  | x + 1, h => by
    have h1 := fdR_sum a b L y d hL.1 hd hy x (by omega)
    refine Wp.call (w_dfRow a b L y d hL hd ha hy hs x (by omega)) ?_
    rintro _ rfl
    exact w_dfPix a b L x y _ hL (by rw [fdR_len]; exact hd) (by omega) hy (by omega)
theorem w_dfAll (a b : Nat) (L : Int) (d : List Int) (hL : 2 ≤ L ∧ L ≤ 16) (hd : d.length = b * a) (ha : a ≤ 16) (hb : b ≤ 16) (hs : fsum d = 0) : ∀ y, y ≤ b → Wp (fun k => dfAll k a b L d y) (fun r => r = fdA a b L d y)
  | 0, _ => Wp.ret rfl
  | y + 1, h => by
    have h1 := fdA_sum a b L d hL.1 hd ha y (by omega)
    refine Wp.call (w_dfAll a b L d hL hd ha hb hs y (by omega)) ?_
    rintro _ rfl
    rw [Int.toNat_natCast]
    exact w_dfRow a b L y _ hL (by rw [fdA_len]; exact hd) ha (by omega) (by omega) a (by omega)
def difI (a b c : Int) (l : List Int) (L : Int) : Int × Int × Int × List Int × Bool :=
  if imgB a b c l = true ∧ c = 1 ∧ (2 ≤ L ∧ L ≤ 16) then (a, b, 1, fdA a.toNat b.toNat L l b.toNat, true) else (0, 0, 0, [], false)
theorem dif_len (a b c : Int) (l : List Int) (L : Int) : (difI a b c l L).2.2.2.1.length ≤ 1000000 := by
  unfold difI
  split
  · rename_i h
    obtain ⟨a, b, p, rfl, rfl, rfl, ha, hb, hp, hl, hB⟩ := img_nat h.1
    have hp1 : p = 1 := by omega
    subst hp1
    have b3 : b * a ≤ 16 * 16 := Nat.mul_le_mul (by omega) (by omega)
    simp only [Int.toNat_natCast, fdA_len]
    omega
  · simp
theorem w_iDiff (a b c : Int) (l : List Int) (L : Int) : Wp (fun k => impl_DiffuseImage.f k a b c l L) (fun z => z = difI a b c l L) := by
  unfold impl_DiffuseImage.f difI
  refine Wp.call (w_iImage a b c l) ?_
  rintro _ rfl
  refine Wp.ite (fun hi => ?_) (fun hi => Wp.ret (by rw [if_neg fun h => hi h.1]))
  refine Wp.ite (fun hc => ?_) (fun hc => Wp.ret (by rw [if_neg fun h => hc h.2.1]))
  refine Wp.call (w_isLevels L) ?_
  rintro _ rfl
  refine Wp.ite (fun hL => ?_) (fun hL => Wp.ret (by rw [if_neg fun h => hL (decide_eq_true h.2.2)]))
  rw [decide_eq_true_eq] at hL
  rw [if_pos ⟨hi, hc, hL⟩]
  obtain ⟨a, b, p, rfl, rfl, rfl, ha, hb, hp, hl, hB⟩ := img_nat hi
  have hp1 : p = 1 := by omega
  subst hp1
  simp only [Int.toNat_natCast]
  refine Wp.call (w_dfAll a b L l hL (by omega) ha.2 hb.2 (fsum_0 l hB) b (Nat.le_refl b)) ?_
  rintro _ rfl
  exact Wp.ret rfl
theorem w_sDiff (a b c : Int) (l : List Int) (L : Int) (hl : l.length ≤ 1000000000) : Wp (fun k => spec_DiffuseImage.f k a b c l L) (fun z => z = difI a b c l L) := by
  unfold spec_DiffuseImage.f difI
  have no : ∀ (h : ¬ (imgB a b c l = true ∧ c = 1 ∧ (2 ≤ L ∧ L ≤ 16))), Wp (fun k => spec_DiffuseImage.j0 k L true a b c l) (fun z => z = if imgB a b c l = true ∧ c = 1 ∧ (2 ≤ L ∧ L ≤ 16) then (a, b, 1, fdA a.toNat b.toNat L l b.toNat, true) else (0, 0, 0, [], false)) := fun h =>
    Wp.step (fun k => spec_DiffuseImage.j0.eq_2 ..) (Wp.pos rfl (Wp.ret (by rw [if_neg h])))
  refine Wp.call (w_sImage a b c l hl) ?_
  rintro _ rfl
  refine Wp.ite (fun hi => ?_) (fun hi => no fun h => hi h.1)
  refine Wp.ite (fun hc => ?_) (fun hc => no fun h => hc h.2.1)
  refine Wp.call (w_validLevels L) ?_
  rintro _ rfl
  by_cases hL : 2 ≤ L ∧ L ≤ 16
  case neg => rw [decide_eq_false hL]; exact no fun h => hL h.2.2
  rw [decide_eq_true hL, if_pos ⟨hi, hc, hL⟩]
  refine Wp.step (fun k => spec_DiffuseImage.j0.eq_2 ..) (Wp.neg (by simp) ?_)
  refine Wp.call (w_copyImage a b c l hl) ?_
  rintro _ rfl
  dsimp only
  obtain ⟨n, m, p, rfl, rfl, rfl, hn, hm, hp, hll, hB⟩ := img_nat hi
  have hp1 : p = 1 := by omega
  subst hp1
  simp only [Int.toNat_natCast]
  have b3 : m * n ≤ 16 * 16 := Nat.mul_le_mul (by omega) (by omega)
  have hl1 : l.length = m * n := by omega
  have h0 := fsum_0 l hB
  have row : ∀ (i : Nat), i < m → (Wp (fun k => spec_DiffuseImage.l0 k L ((i + 1 : Nat) : Int) n m 1 l n m 1 (fdA n m L l (i + 1))) (fun z => z = (↑n, ↑m, 1, fdA n m L l m, true))) → ∀ (e j : Nat), j + e = n →
      Wp (fun k => spec_DiffuseImage.l1 k L i j n m 1 l n m 1 (fdR n m L i (fdA n m L l i) j)) (fun z => z = (↑n, ↑m, 1, fdA n m L l m, true)) := by
    intro i hi2 next e
    induction e with
    | zero =>
      intro j hd
      refine Wp.step (fun k => spec_DiffuseImage.l1.eq_2 ..) (Wp.neg (by omega) ?_)
      rw [w64 (x := (i : Int) + 1) (by omega) (by omega)]
      have : j = n := by omega
      subst this
      exact next
    | succ e ih =>
      intro j hd
      have sA := fdA_sum n m L l hL.1 hl1 hn.2 i (by omega)
      have sR := fdR_sum n m L i (fdA n m L l i) hL.1 (by rw [fdA_len]; exact hl1) hi2 j (by omega)
      have hlen : (fdR n m L i (fdA n m L l i) j).length = m * n := by rw [fdR_len, fdA_len]; exact hl1
      have ih := ih (j + 1) (by omega)
      rw [fdR] at ih
      have hs : fsum (fdR n m L i (fdA n m L l i) j) ≤ 80000 := by omega
      clear sA sR
      generalize fdR n m L i (fdA n m L l i) j = d at *
      have hlt := pix_lt (show j < n by omega) hi2
      refine Wp.step (fun k => spec_DiffuseImage.l1.eq_2 ..) (Wp.pos (by omega) ?_)
      have c1 : ((i : Int) * n) = ((i * n : Nat) : Int) := by rw [Int.natCast_mul]
      rw [c1, w64 (x := ((i * n : Nat) : Int)) (by omega) (by omega), show ((i * n : Nat) : Int) + (j : Int) = ((i * n + j : Nat) : Int) by omega, w64 (x := ((i * n + j : Nat) : Int)) (by omega) (by omega), bl_rd, Int.toNat_natCast]
      refine Wp.pos (by omega) (Wp.pos (by omega) ?_)
      unfold fdP at ih
      generalize hn_ : d.getD (i * n + j) 0 = nn at ih ⊢
      generalize hv : fv nn L = v at ih
      generalize he : nn - v = ee at ih
      obtain ⟨nB, vB, eB, s0, s1, s2, s3⟩ := fd_bounds n m L j i d hL hlen (by omega) hi2 hs nn v ee hn_.symm hv.symm he.symm
      refine Wp.call (w_nearestLevel nn L (by omega) (by omega) hL.1 hL.2) ?_
      rintro _ rfl
      have hj := nst_lt nn L L.toNat (by omega)
      refine Wp.call (w_levelValue _ L (by omega) (by omega) hL.1 hL.2) ?_
      rintro z hz
      have hz2 : z = v := hz.trans hv
      subst hz2
      clear hz
      rw [he, w64 (x := ee) (by omega) (by omega), w64 (x := 7 * ee) (by omega) (by omega), w64 (x := 3 * ee) (by omega) (by omega), w64 (x := 5 * ee) (by omega) (by omega)]
      rw [w64 (x := (j : Int) + 1) (by omega) (by omega), w64 (x := (j : Int) - 1) (by omega) (by omega), w64 (x := (i : Int) + 1) (by omega) (by omega)]
      refine Wp.call (w_sFloorDiv _ 16 (by omega) (by omega) (by omega)) ?_
      rintro _ rfl
      refine Wp.call (w_sFloorDiv _ 16 (by omega) (by omega) (by omega)) ?_
      rintro _ rfl
      refine Wp.call (w_sFloorDiv _ 16 (by omega) (by omega) (by omega)) ?_
      rintro _ rfl
      rw [w64 (x := ee - 7 * ee / 16) (by omega) (by omega), w64 (x := ee - 7 * ee / 16 - 3 * ee / 16) (by omega) (by omega), w64 (x := ee - 7 * ee / 16 - 3 * ee / 16 - 5 * ee / 16) (by omega) (by omega)]
      refine Wp.call (w_pass n m 1 _ _ _ _ hn hm (by omega) (by omega) s0.1 (by omega) (by omega)) ?_
      rintro _ rfl
      refine Wp.call (w_pass n m 1 _ _ _ _ hn hm (by omega) (by omega) s1.1 (by omega) (by omega)) ?_
      rintro _ rfl
      refine Wp.call (w_pass n m 1 _ _ _ _ hn hm (by omega) (by omega) s2.1 (by omega) (by omega)) ?_
      rintro _ rfl
      refine Wp.call (w_pass n m 1 _ _ _ _ hn hm (by omega) (by omega) s3.1 (by omega) (by omega)) ?_
      rintro _ rfl
      exact ih
  have key : ∀ (e i : Nat), i + e = m → Wp (fun k => spec_DiffuseImage.l0 k L i n m 1 l n m 1 (fdA n m L l i)) (fun z => z = (↑n, ↑m, 1, fdA n m L l m, true)) := by
    intro e
    induction e with
    | zero =>
      intro i hd
      refine Wp.step (fun k => spec_DiffuseImage.l0.eq_2 ..) (Wp.neg (by omega) (Wp.ret ?_))
      have : i = m := by omega
      subst this
      rfl
    | succ e ih =>
      intro i hd
      refine Wp.step (fun k => spec_DiffuseImage.l0.eq_2 ..) (Wp.pos (by omega) ?_)
      exact row i (by omega) (ih (i + 1) (by omega)) n 0 (by omega)
  exact key m 0 (by omega)
end Go.Proofs.Yteeeedmmcdlhjaa.P
namespace Go.Proofs.Yteeeedmmcdlhjaa.P
open Go.RowKit Go.Proofs.YteeeedmmcdlhjaaW.PrintWords Go.Proofs.YteeeedmmcdlhjaaW.PrintLast Go.Proofs.YteeeedmmcdlhjaaW.PrintMore Go.Proofs.Yteeeedmmcdlhjaa.Wp
set_option linter.unusedVariables false
set_option linter.unusedSimpArgs false
theorem bay_B (x y : Int) : 0 ≤ rd bayM (y % 4 * 4 + x % 4) ∧ rd bayM (y % 4 * 4 + x % 4) ≤ 15 := by
  have h := bayM_at (y % 4 * 4 + x % 4).toNat (by omega)
  rw [show (((y % 4 * 4 + x % 4).toNat : Nat) : Int) = y % 4 * 4 + x % 4 by omega] at h
  exact h
theorem ordL_parts {n L x y : Int} (hn : 0 ≤ n ∧ n ≤ 255) (hL : 2 ≤ L ∧ L ≤ 16) : 0 ≤ n * (L - 1) ∧ n * (L - 1) ≤ 255 * (L - 1) :=
  ⟨Int.mul_nonneg hn.1 (by omega), Int.mul_le_mul_of_nonneg_right hn.2 (by omega)⟩
theorem ordL_B {n L x y : Int} (hn : 0 ≤ n ∧ n ≤ 255) (hL : 2 ≤ L ∧ L ≤ 16) : 0 ≤ ordL n L x y ∧ ordL n L x y < L := by
  obtain ⟨p1, p2⟩ := ordL_parts (x := x) (y := y) hn hL
  have b := bay_B x y
  unfold ordL
  generalize n * (L - 1) = z at *
  omega
theorem ordL_0 {L x y : Int} : ordL 0 L x y = 0 := by
  have b := bay_B x y
  unfold ordL
  rw [Int.zero_mul]
  omega
theorem ordL_255 {L x y : Int} : ordL 255 L x y = L - 1 := by
  have b := bay_B x y
  unfold ordL
  omega
def ordP (l : List Int) (a : Nat) (L : Int) (x y : Int) : List Int := [lv (ordL (dat l a 1 0 x.toNat y.toNat) L x y) L]
def ordI (a b c : Int) (l : List Int) (L : Int) : Int × Int × Int × List Int × Bool :=
  if imgB a b c l = true ∧ c = 1 ∧ (2 ≤ L ∧ L ≤ 16) then (a, b, 1, imgOf (ordP l a.toNat L) a.toNat b.toNat, true) else (0, 0, 0, [], false)
theorem w_iOrd (a b c : Int) (l : List Int) (L : Int) : Wp (fun _ => impl_OrderImage.f a b c l L) (fun z => z = ordI a b c l L) := by
  unfold impl_OrderImage.f ordI
  refine Wp.call (w_iImage a b c l) ?_
  rintro _ rfl
  refine Wp.ite (fun hi => ?_) (fun hi => Wp.ret (by rw [if_neg fun h => hi h.1]))
  refine Wp.ite (fun hc => ?_) (fun hc => Wp.ret (by rw [if_neg fun h => hc h.2.1]))
  refine Wp.call (w_isLevels L) ?_
  rintro _ rfl
  refine Wp.ite (fun hL => ?_) (fun hL => Wp.ret (by rw [if_neg fun h => hL (decide_eq_true h.2.2)]))
  rw [decide_eq_true_eq] at hL
  rw [if_pos ⟨hi, hc, hL⟩]
  obtain ⟨a, b, p, rfl, rfl, rfl, ha, hb, hp, hl, hB⟩ := img_nat hi
  have hp1 : p = 1 := by omega
  subst hp1
  simp only [Int.toNat_natCast]
  refine Wp.ret ?_
  congr 4
  refine img_congr _ _ a b fun i j hj hi2 => ?_
  have hd := dat_B l a b 1 hl hB j i 0 hj hi2 (by omega)
  have hx := dat_pix l a b 1 hl j i 0 hj hi2 (by omega)
  have e0 : rd (pixOf l a ((1 : Nat) : Int) j i) 0 = dat l a 1 0 j i := by
    rw [← hx]
    exact bl_rd _ 0
  have hl2 := ordL_B (x := j) (y := i) hd hL
  obtain ⟨r, hr, K, hK⟩ := w_valueOf (ordL (dat l a 1 0 j i) L j i) L hl2.1 (by omega) hL.1 hL.2
  have hv := hK K (Nat.le_refl K)
  simp only at hv
  unfold ordPix ordP
  rw [e0, hv, hr, Int.toNat_natCast, Int.toNat_natCast]
  rfl
end Go.Proofs.Yteeeedmmcdlhjaa.P
namespace Go.Proofs.Yteeeedmmcdlhjaa.P
open Go.RowKit Go.Proofs.YteeeedmmcdlhjaaW.PrintWords Go.Proofs.YteeeedmmcdlhjaaW.PrintLast Go.Proofs.YteeeedmmcdlhjaaW.PrintMore Go.Proofs.Yteeeedmmcdlhjaa.Wp
set_option linter.unusedVariables false
set_option linter.unusedSimpArgs false
def fillI (n m : Int) (px : List Int) : Int × Int × Int × List Int :=
  if (1 ≤ n ∧ n ≤ 16) ∧ (1 ≤ m ∧ m ≤ 16) ∧ (1 ≤ (px.length : Int) ∧ (px.length : Int) ≤ 4) ∧ allB px = true then (n, m, px.length, imgOf (fun _ _ => px) n.toNat m.toNat) else (0, 0, 0, [])
theorem w_iFill (n m : Int) (px : List Int) : Wp (fun k => impl_FillImage.f k n m px) (fun r => r = fillI n m px) := by
  unfold impl_FillImage.f fillI
  have bad : ∀ (a0 a1 a2 : Int), Wp (fun k => impl_FillImage.j0 k n m px true a0 a1 a2) (fun r => r = (0, 0, 0, [])) := fun a0 a1 a2 =>
    Wp.step (fun k => impl_FillImage.j0.eq_2 ..) (Wp.pos rfl (Wp.ret rfl))
  rw [isSide_some, isSide_some]
  simp only [Option.bind_some, decide_eq_true_eq]
  refine Wp.ite (fun hn => ?_) (fun hn => (bad _ _ _).mono fun r h => by rw [h, if_neg fun h => hn h.1])
  refine Wp.ite (fun hm => ?_) (fun hm => (bad _ _ _).mono fun r h => by rw [h, if_neg fun h => hm h.2.1])
  refine Wp.ite (fun h1 => (bad _ _ _).mono fun r h => by rw [h, if_neg fun h => by omega]) (fun h1 => ?_)
  refine Wp.ite (fun h2 => (bad _ _ _).mono fun r h => by rw [h, if_neg fun h => by omega]) (fun h2 => ?_)
  refine Wp.call (w_areBytes px) ?_
  rintro _ rfl
  refine Wp.step (fun k => impl_FillImage.j0.eq_2 ..) ?_
  refine Wp.ite (fun hb => Wp.ret ?_) (fun hb => ?_)
  · rw [if_neg]
    rintro ⟨_, _, _, h⟩
    rw [h] at hb
    exact absurd hb (by simp)
  · have hb : allB px = true := by simpa using hb
    rw [if_pos ⟨hn, hm, ⟨by omega, by omega⟩, hb⟩]
    obtain ⟨n, rfl⟩ := Int.eq_ofNat_of_zero_le (show 0 ≤ n by omega)
    obtain ⟨m, rfl⟩ := Int.eq_ofNat_of_zero_le (show 0 ≤ m by omega)
    have b1 : m * n ≤ 16 * 16 := Nat.mul_le_mul (by omega) (by omega)
    have e : (n : Int) * m = ((m * n : Nat) : Int) := by rw [Int.natCast_mul, Int.mul_comm]
    rw [e, w64 (x := ((m * n : Nat) : Int)) (by omega) (by omega)]
    simp only [Int.toNat_natCast]
    rw [img_fm (fun _ _ => px) (fun _ => px) n m (fun i j hj hi => rfl)]
    generalize m * n = N at b1
    have key : ∀ (d i : Nat), i + d = N → Wp (fun k => impl_FillImage.l0 k px N i n m px.length ((List.range i).flatMap fun _ => px)) (fun r => r = (↑n, ↑m, ↑px.length, (List.range N).flatMap fun _ => px)) := by
      intro d
      induction d with
      | zero =>
        intro i hd
        refine Wp.step (fun k => impl_FillImage.l0.eq_2 ..) (Wp.neg (by omega) (Wp.ret ?_))
        rw [show i = N by omega]
      | succ d ih =>
        intro i hd
        have hl := fm_len (fun _ => px) i px.length (fun _ _ => rfl)
        have b2 : i * px.length ≤ 256 * 4 := Nat.mul_le_mul (by omega) (by omega)
        refine Wp.step (fun k => impl_FillImage.l0.eq_2 ..) (Wp.pos (by omega) (Wp.pos (by omega) ?_))
        rw [w64 (x := (i : Int) + 1) (by omega) (by omega)]
        have := ih (i + 1) (by omega)
        rw [List.range_succ, List.flatMap_append] at this
        simpa using this
    exact key N 0 (by omega)
end Go.Proofs.Yteeeedmmcdlhjaa.P
namespace Go.Proofs.Yteeeedmmcdlhjaa.P
open Go.RowKit Go.Proofs.YteeeedmmcdlhjaaW.PrintWords Go.Proofs.YteeeedmmcdlhjaaW.PrintLast Go.Proofs.YteeeedmmcdlhjaaW.PrintMore Go.Proofs.Yteeeedmmcdlhjaa.Wp
set_option linter.unusedVariables false
theorem rd_mem (l : List Int) (i : Int) (h0 : 0 ≤ i) (h1 : i < (l.length : Int)) : rd l i ∈ l := by
  unfold rd
  rw [List.getD_eq_getElem?_getD, List.getElem?_eq_getElem (by omega)]
  exact List.getElem_mem _
theorem rd_le {l : List Int} {a b : Int} (h : ∀ x ∈ l, a ≤ x ∧ x ≤ b) (i : Int) (h0 : 0 ≤ i) (h1 : i < (l.length : Int)) : a ≤ rd l i ∧ rd l i ≤ b := h _ (rd_mem l i h0 h1)
def Rdr (b : List Int) (p : Int) : Prop := (∀ x ∈ b, 0 ≤ x ∧ x ≤ 255) ∧ b.length ≤ 2000 ∧ 0 ≤ p ∧ p ≤ 1000000
theorem tmod_range (x n : Int) (hx : 0 ≤ x) (hn : 0 < n) : 0 ≤ Int.tmod x n ∧ Int.tmod x n < n := by
  rw [Int.tmod_eq_emod_of_nonneg hx]
  exact ⟨Int.emod_nonneg _ (by omega), Int.emod_lt_of_pos _ hn⟩
theorem bits_xor_nonneg (x y : Int) (hx : 0 ≤ x) (hx2 : x ≤ 1000000000000) (hy : 0 ≤ y) (hy2 : y ≤ 1000000000000) : 0 ≤ Go.bits .xor .i64 x y := by
  obtain ⟨a, rfl⟩ := Int.eq_ofNat_of_zero_le hx
  obtain ⟨b, rfl⟩ := Int.eq_ofNat_of_zero_le hy
  have ha : a < 2 ^ 62 := by omega
  have hb : b < 2 ^ 62 := by omega
  have ha' : a % 2 ^ 64 = a := Nat.mod_eq_of_lt (by omega)
  have hb' : b % 2 ^ 64 = b := Nat.mod_eq_of_lt (by omega)
  have hc : a ^^^ b < 2 ^ 62 := Nat.xor_lt_two_pow ha hb
  have hw : IntKind.i64.wrap ((a ^^^ b : Nat) : Int) = ((a ^^^ b : Nat) : Int) := by
    have h64 : IntKind.i64.wrap ((a ^^^ b : Nat) : Int) = wrap64 ((a ^^^ b : Nat) : Int) := i64_w _
    rw [h64, w64 (by omega) (by omega)]
  have he : Go.bits .xor .i64 (a : Int) (b : Int) = ((a ^^^ b : Nat) : Int) := by
    have hbits : IntKind.i64.bits = 64 := rfl
    simp only [Go.bits, BitVec.ofInt_natCast, BitVec.toNat_xor, BitVec.toNat_ofNat, hbits, ha', hb', hw]
  rw [he]
  exact Int.natCast_nonneg _
theorem w_newReader (l : List Int) (hb : ∀ x ∈ l, (Lit.int .u8 x).wf = true) : Wp (fun _ => spec_newReader.f l) (fun r => Rdr r.1 r.2 ∧ r.2 = 0) := by
  have hb' : ∀ x ∈ l, 0 ≤ x ∧ x ≤ 255 := fun x hx => by
    have h := hb x hx
    simp only [Lit.wf, Bool.and_eq_true, decide_eq_true_eq] at h
    have h0 : IntKind.u8.min = 0 := rfl
    have h1 : IntKind.u8.max = 255 := rfl
    omega
  unfold spec_newReader.f
  refine Wp.ite (fun h => Wp.pos (by omega) (Wp.ret ?_)) (fun h => Wp.ret ?_)
  · exact ⟨⟨fun x hx => hb' x (List.mem_of_mem_take hx), by show (l.take 2000).length ≤ 2000; rw [List.length_take]; omega, Int.le_refl _, by show (0 : Int) ≤ 1000000; omega⟩, rfl⟩
  · exact ⟨⟨hb', by show l.length ≤ 2000; omega, Int.le_refl _, by show (0 : Int) ≤ 1000000; omega⟩, rfl⟩
theorem w_pick (b : List Int) (p n : Int) (h : Rdr b p) (hp : p < 1000000) (hn : n ≤ 1000000000000) :
    Wp (fun k => spec_reader_pick.f k b p n) (fun r => ∃ x, r = (x, p + 1) ∧ 0 ≤ x ∧ (1 ≤ n → x < n) ∧ (n < 1 → x = 0)) := by
  obtain ⟨hb, hl, h0, h1⟩ := h
  unfold spec_reader_pick.f
  rw [w64 (x := p + 1) (by omega) (by omega)]
  refine Wp.ite (fun hn1 => ?_) (fun hn1 => ?_)
  · refine Wp.step (fun k => spec_reader_pick.j0.eq_2 ..) (Wp.pos rfl (Wp.ret ?_))
    exact ⟨0, rfl, by omega, by omega, fun _ => rfl⟩
  · refine Wp.step (fun k => spec_reader_pick.j0.eq_2 ..) ?_
    rw [show p + 1 - 1 = p by omega, w64 (x := p) (by omega) (by omega)]
    refine Wp.ite (fun hz => Wp.ret ?_) (fun hz => ?_)
    · exact ⟨0, rfl, by omega, by omega, by omega⟩
    · have hpos : 0 < (b.length : Int) := by
        have : ¬ (b.length : Int) = 0 := by simpa using hz
        omega
      refine Wp.ite (fun hlt => ?_) (fun hge => ?_)
      · refine Wp.pos h0 (Wp.neg (by omega) (Wp.ret ?_))
        have hr := rd_le hb p h0 hlt
        rw [w64 (x := rd b p) (by omega) (by omega)]
        have := tmod_range (rd b p) n hr.1 (by omega)
        exact ⟨_, rfl, this.1, fun _ => this.2, by omega⟩
      · refine Wp.neg (by omega) ?_
        have t1 := tmod_range p b.length h0 hpos
        refine Wp.pos t1.1 (Wp.pos t1.2 ?_)
        rw [w64 (x := p * 7) (by omega) (by omega), w64 (x := p * 7 + 3) (by omega) (by omega)]
        have t2 := tmod_range (p * 7 + 3) b.length (by omega) hpos
        refine Wp.pos t2.1 (Wp.pos t2.2 (Wp.neg (by omega) (Wp.ret ?_)))
        have r1 := rd_le hb _ t1.1 t1.2
        have r2 := rd_le hb _ t2.1 t2.2
        generalize rd b (Int.tmod p b.length) = u at r1 ⊢
        generalize rd b (Int.tmod (p * 7 + 3) b.length) = v at r2 ⊢
        have hd : 0 ≤ Int.tdiv p b.length ∧ Int.tdiv p b.length ≤ p := by
          rw [Int.tdiv_eq_ediv_of_nonneg h0]
          exact ⟨Int.ediv_nonneg h0 (by omega), Int.ediv_le_self _ h0⟩
        generalize Int.tdiv p b.length = d at hd ⊢
        rw [w64 (x := u) (by omega) (by omega), w64 (x := u * 131) (by omega) (by omega), w64 (x := v) (by omega) (by omega), w64 (x := v * 1117) (by omega) (by omega),
          w64 (x := u * 131 + v * 1117) (by omega) (by omega), w64 (x := p * 29) (by omega) (by omega), w64 (x := u * 131 + v * 1117 + p * 29) (by omega) (by omega),
          w64 (x := d) (by omega) (by omega), w64 (x := d * 53) (by omega) (by omega), w64 (x := u * 131 + v * 1117 + p * 29 + d * 53) (by omega) (by omega)]
        have hs : 0 ≤ u * 131 + v * 1117 + p * 29 + d * 53 ∧ u * 131 + v * 1117 + p * 29 + d * 53 ≤ 1000000000 := by omega
        generalize u * 131 + v * 1117 + p * 29 + d * 53 = s at hs ⊢
        have hq : 0 ≤ Int.tdiv s 64 ∧ Int.tdiv s 64 ≤ s := by
          rw [Int.tdiv_eq_ediv_of_nonneg hs.1]
          exact ⟨Int.ediv_nonneg hs.1 (by omega), Int.ediv_le_self _ hs.1⟩
        rw [w64 (x := Int.tdiv s 64) (by omega) (by omega)]
        have hx := bits_xor_nonneg s (Int.tdiv s 64) hs.1 (by omega) hq.1 (by omega)
        have := tmod_range _ n hx (by omega)
        exact ⟨_, rfl, this.1, fun _ => this.2, by omega⟩
theorem Rdr.up {b : List Int} {p q : Int} (h : Rdr b p) (h1 : p ≤ q) (h2 : q ≤ 1000000) : Rdr b q := ⟨h.1, h.2.1, by have := h.2.2.1; omega, h2⟩
theorem w_one (b : List Int) (p : Int) (l : List Int) (h : Rdr b p) (hp : p < 1000000) (hl : 0 < l.length) (hl2 : l.length ≤ 1000) :
    Wp (fun k => spec_reader_one.f k b p l) (fun r => ∃ x, r = (x, p + 1) ∧ x ∈ l) := by
  unfold spec_reader_one.f
  refine Wp.call (w_pick b p l.length h hp (by omega)) ?_
  rintro _ ⟨x, rfl, h0, h1, _⟩
  have h1 := h1 (by omega)
  exact Wp.pos h0 (Wp.pos h1 (Wp.ret ⟨_, rfl, rd_mem l x h0 h1⟩))
end Go.Proofs.Yteeeedmmcdlhjaa.P
namespace Go.Proofs.Yteeeedmmcdlhjaa.P
open Go.RowKit Go.Proofs.YteeeedmmcdlhjaaW.PrintWords Go.Proofs.YteeeedmmcdlhjaaW.PrintLast Go.Proofs.YteeeedmmcdlhjaaW.PrintMore Go.Proofs.Yteeeedmmcdlhjaa.Wp
set_option linter.unusedVariables false
set_option linter.unusedSimpArgs false
theorem allB_set {l : List Int} (h : ∀ x ∈ l, 0 ≤ x ∧ x ≤ 255) (i : Nat) (v : Int) (hv : 0 ≤ v ∧ v ≤ 255) : ∀ x ∈ l.set i v, 0 ≤ x ∧ x ≤ 255 := fun x hx => by
  rcases List.mem_or_eq_of_mem_set hx with h1 | h1
  · exact h x h1
  · rw [h1]; exact hv
def Rnd (p : Int) (r : Int × Int × Int × List Int × Int) (q : Int) : Prop :=
  (1 ≤ r.1 ∧ r.1 ≤ 8) ∧ (1 ≤ r.2.1 ∧ r.2.1 ≤ 8) ∧ r.2.2.1 = p ∧ (r.2.2.2.1.length : Int) = r.1 * r.2.1 * p ∧ (∀ x ∈ r.2.2.2.1, 0 ≤ x ∧ x ≤ 255) ∧ q ≤ r.2.2.2.2 ∧ r.2.2.2.2 ≤ q + 300
theorem prod_le {a b c : Int} (h0 : 1 ≤ a ∧ a ≤ 8) (h1 : 1 ≤ b ∧ b ≤ 8) (h2 : 1 ≤ c ∧ c ≤ 4) : 1 ≤ a * b ∧ a * b ≤ 64 ∧ 1 ≤ a * b * c ∧ a * b * c ≤ 256 := by
  have m1 : 1 * 1 ≤ a * b := Int.mul_le_mul h0.1 h1.1 (by omega) (by omega)
  have m2 : a * b ≤ 8 * 8 := Int.mul_le_mul h0.2 h1.2 (by omega) (by omega)
  have m3 : 1 * 1 ≤ a * b * c := Int.mul_le_mul (by omega) h2.1 (by omega) (by omega)
  have m4 : a * b * c ≤ 64 * 4 := Int.mul_le_mul (by omega) h2.2 (by omega) (by omega)
  omega
theorem w_randomImage (b : List Int) (q p : Int) (h : Rdr b q) (hq : q ≤ 900000) (hp : 1 ≤ p ∧ p ≤ 4) : Wp (fun k => spec_randomImage.f k b q p) (fun r => Rnd p r q) := by
  unfold spec_randomImage.f
  refine Wp.call (w_one b q _ h (by omega) (by simp) (by simp)) ?_
  rintro _ ⟨sx, rfl, hsx⟩
  have hsx : 1 ≤ sx ∧ sx ≤ 8 := by simp only [List.mem_cons, List.not_mem_nil, or_false] at hsx; omega
  refine Wp.call (w_one b _ _ (h.up (by first | omega | (simp only; omega)) (by first | omega | (simp only; omega))) (by first | omega | (simp only; omega)) (by simp) (by simp)) ?_
  rintro _ ⟨sy, rfl, hsy⟩
  have hsy : 1 ≤ sy ∧ sy ≤ 8 := by simp only [List.mem_cons, List.not_mem_nil, or_false] at hsy; omega
  refine Wp.call (w_newImage sx sy p (by omega) (by omega) (by omega)) ?_
  rintro _ rfl
  refine Wp.call (w_pick b _ 4 (h.up (by first | omega | (simp only; omega)) (by first | omega | (simp only; omega))) (by first | omega | (simp only; omega)) (by omega)) ?_
  rintro _ ⟨md, rfl, md0, md1, _⟩
  refine Wp.call (w_pick b _ 256 (h.up (by first | omega | (simp only; omega)) (by first | omega | (simp only; omega))) (by first | omega | (simp only; omega)) (by omega)) ?_
  rintro _ ⟨v, rfl, v0, v1, _⟩
  have v1 := v1 (by omega)
  have hP := prod_le hsx hsy hp
  generalize hL : (sx * sy * p).toNat = L
  have hlen : (List.replicate L (0 : Int)).length = L := by simp
  have hbs : ∀ x ∈ List.replicate L (0 : Int), 0 ≤ x ∧ x ≤ 255 := fun x hx => by rw [List.eq_of_mem_replicate hx]; omega
  dsimp only
  generalize List.replicate L (0 : Int) = l at hlen hbs
  have key : ∀ (d i : Nat) (l : List Int) (v r : Int), i + d = L → l.length = L → (∀ x ∈ l, 0 ≤ x ∧ x ≤ 255) → 0 ≤ v → v < 256 → q ≤ r → r ≤ q + 4 + i → Wp (fun k => spec_randomImage.l0 k md v i b r sx sy p l) (fun r => Rnd p r q) := by
    intro d
    induction d with
    | zero =>
      intro i l v r hd hl hb hv hv1 hr hr1
      refine Wp.step (fun k => spec_randomImage.l0.eq_2 ..) (Wp.neg (by omega) (Wp.ret ?_))
      exact ⟨hsx, hsy, rfl, by first | omega | (simp only; omega), hb, hr, by first | omega | (simp only; omega)⟩
    | succ d ih =>
      intro i l v r hd hl hb hv hv1 hr hr1
      have hR : Rdr b r := h.up hr (by omega)
      have next : ∀ (v' r' : Int), 0 ≤ v' → v' < 256 → q ≤ r' → r' ≤ q + 4 + (i + 1 : Nat) → Wp (fun k => spec_randomImage.l0 k md v' (wrap64 ((i : Int) + 1)) b r' sx sy p (l.set (i : Int).toNat v')) (fun r => Rnd p r q) := by
        intro v' r' h1 h2 h3 h4
        rw [w64 (x := (i : Int) + 1) (by omega) (by omega)]
        exact ih (i + 1) _ v' r' (by omega) (by rw [List.length_set]; exact hl) (allB_set hb _ _ (by omega)) h1 h2 h3 h4
      refine Wp.step (fun k => spec_randomImage.l0.eq_2 ..) (Wp.pos (by omega) ?_)
      refine Wp.ite (fun _ => ?_) (fun _ => Wp.ite (fun _ => ?_) (fun _ => Wp.ite (fun _ => ?_) (fun _ => ?_)))
      · refine Wp.call (w_pick b r 256 hR (by omega) (by omega)) ?_
        rintro _ ⟨u, rfl, u0, u1, _⟩
        exact Wp.pos (by omega) (next u _ u0 (u1 (by omega)) (by first | omega | (simp only; omega)) (by first | omega | (simp only; omega)))
      · refine Wp.call (w_pick b r 5 hR (by omega) (by omega)) ?_
        rintro _ ⟨u, rfl, u0, u1, _⟩
        have u1 := u1 (by omega)
        refine Wp.pos (by omega) ?_
        simp only
        rw [w64 (x := v + u) (by omega) (by omega), w64 (x := v + u + 254) (by omega) (by omega)]
        have ht := tmod_range (v + u + 254) 256 (by omega) (by omega)
        exact next _ _ ht.1 ht.2 (by first | omega | (simp only; omega)) (by first | omega | (simp only; omega))
      · refine Wp.call (w_pick b r 4 hR (by omega) (by omega)) ?_
        rintro _ ⟨u, rfl, u0, u1, _⟩
        have u1 := u1 (by omega)
        refine Wp.pos (by omega) ?_
        simp only
        rw [w64 (x := 60 * u) (by omega) (by omega)]
        exact next _ _ (by omega) (by omega) (by omega) (by omega)
      · exact Wp.pos (by omega) (next v r hv hv1 hr (by omega))
  exact key L 0 l v _ (by omega) hlen hbs v0 v1 (by first | omega | (simp only; omega)) (by first | omega | (simp only; omega))
def Spl (q : Int) (r : Int × Int × Int × List Int × Int) : Prop :=
  (0 ≤ r.1 ∧ r.1 ≤ 17) ∧ (0 ≤ r.2.1 ∧ r.2.1 ≤ 17) ∧ (0 ≤ r.2.2.1 ∧ r.2.2.1 ≤ 5) ∧ r.2.2.2.1.length ≤ 1024 ∧ q ≤ r.2.2.2.2 ∧ r.2.2.2.2 ≤ q + 1000
theorem w_spoilImage (bb : List Int) (q a b c : Int) (l : List Int) (h : Rdr bb q) (hq : q ≤ 900000) (ha : 0 ≤ a ∧ a ≤ 16) (hb : 0 ≤ b ∧ b ≤ 16) (hc : 0 ≤ c ∧ c ≤ 4) (hl : 1 ≤ l.length) (hl2 : l.length ≤ 1024) :
    Wp (fun k => spec_spoilImage.f k bb q a b c l) (fun r => (0 ≤ r.1 ∧ r.1 ≤ 17) ∧ (0 ≤ r.2.1 ∧ r.2.1 ≤ 17) ∧ (0 ≤ r.2.2.1 ∧ r.2.2.1 ≤ 5) ∧ r.2.2.2.1.length ≤ 1024 ∧ q ≤ r.2.2.2.2 ∧ r.2.2.2.2 ≤ q + 2) := by
  unfold spec_spoilImage.f
  refine Wp.call (w_pick bb q 40 h (by omega) (by omega)) ?_
  rintro _ ⟨u, rfl, u0, u1, _⟩
  have h1 : Rdr bb (q + 1) := h.up (by omega) (by omega)
  simp only
  refine Wp.ite (fun _ => ?_) (fun _ => Wp.ite (fun _ => ?_) (fun _ => Wp.ite (fun _ => ?_) (fun _ => Wp.ite (fun _ => ?_) (fun _ => ?_))))
  · refine Wp.call (w_one bb _ _ h1 (by omega) (by simp) (by simp)) ?_
    rintro _ ⟨x, rfl, hx⟩
    rw [w64 (x := a + 1) (by omega) (by omega)] at hx
    simp only [List.mem_cons, List.not_mem_nil, or_false] at hx
    exact Wp.ret ⟨by first | omega | (simp only; omega), by first | omega | (simp only; omega), by first | omega | (simp only; omega), hl2, by first | omega | (simp only; omega), by first | omega | (simp only; omega)⟩
  · exact Wp.pos (by omega) (Wp.ret ⟨by first | omega | (simp only; omega), by first | omega | (simp only; omega), by first | omega | (simp only; omega), by simp only [List.length_drop]; omega, by first | omega | (simp only; omega), by first | omega | (simp only; omega)⟩)
  · refine Wp.call (w_one bb _ _ h1 (by omega) (by simp) (by simp)) ?_
    rintro _ ⟨x, rfl, hx⟩
    exact Wp.pos (by omega) (Wp.ret ⟨by first | omega | (simp only; omega), by first | omega | (simp only; omega), by first | omega | (simp only; omega), by simp only [List.length_set]; omega, by first | omega | (simp only; omega), by first | omega | (simp only; omega)⟩)
  · refine Wp.call (w_one bb _ _ h1 (by omega) (by simp) (by simp)) ?_
    rintro _ ⟨x, rfl, hx⟩
    simp only [List.mem_cons, List.not_mem_nil, or_false] at hx
    exact Wp.ret ⟨by first | omega | (simp only; omega), by first | omega | (simp only; omega), by first | omega | (simp only; omega), hl2, by first | omega | (simp only; omega), by first | omega | (simp only; omega)⟩
  · exact Wp.ret ⟨by first | omega | (simp only; omega), by first | omega | (simp only; omega), by first | omega | (simp only; omega), hl2, by first | omega | (simp only; omega), by first | omega | (simp only; omega)⟩
theorem w_anyPlanes (b : List Int) (q : Int) (h : Rdr b q) (hq : q ≤ 900000) : Wp (fun k => spec_anyPlanes.f k b q) (fun r => (1 ≤ r.1 ∧ r.1 ≤ 4) ∧ r.2 = q + 1) := by
  unfold spec_anyPlanes.f
  refine Wp.call (w_one b q _ h (by omega) (by simp) (by simp)) ?_
  rintro _ ⟨x, rfl, hx⟩
  simp only [List.mem_cons, List.not_mem_nil, or_false] at hx
  exact Wp.ret ⟨by first | omega | (simp only; omega), rfl⟩
theorem Rnd.len {p q : Int} {r : Int × Int × Int × List Int × Int} (h : Rnd p r q) (hp : 1 ≤ p ∧ p ≤ 4) : 1 ≤ r.2.2.2.1.length ∧ r.2.2.2.1.length ≤ 256 := by
  obtain ⟨h0, h1, h2, h3, _⟩ := h
  have := prod_le h0 h1 hp
  omega
theorem w_randomSpoil (b : List Int) (q p : Int) (r : Int × Int × Int × List Int × Int) (h : Rdr b q) (hq : q ≤ 800000) (hp : 1 ≤ p ∧ p ≤ 4) (hr : Rnd p r q) :
    Wp (fun k => spec_spoilImage.f k b r.2.2.2.2 r.1 r.2.1 r.2.2.1 r.2.2.2.1) (fun r => Spl q r ∧ r.2.2.2.2 ≤ q + 302) := by
  have hl := hr.len hp
  obtain ⟨h0, h1, h2, h3, h4, h5, h6⟩ := hr
  refine (w_spoilImage b r.2.2.2.2 _ _ _ _ (h.up h5 (by omega)) (by omega) (by omega) (by omega) (by omega) hl.1 (by omega)).mono ?_
  rintro s ⟨a0, a1, a2, a3, a4, a5⟩
  exact ⟨⟨a0, a1, a2, a3, by omega, by omega⟩, by omega⟩
theorem w_anyImage (b : List Int) (q : Int) (h : Rdr b q) (hq : q ≤ 700000) : Wp (fun k => spec_anyImage.f k b q) (fun r => Spl q r) := by
  unfold spec_anyImage.f
  refine Wp.call (w_anyPlanes b q h (by omega)) ?_
  rintro ⟨p, q'⟩ ⟨hp, e⟩
  simp only at hp e
  subst e
  refine Wp.call (w_randomImage b (q + 1) p (h.up (by omega) (by omega)) (by omega) hp) ?_
  intro r hr
  refine Wp.call (w_randomSpoil b (q + 1) p r (h.up (by omega) (by omega)) (by omega) hp hr) ?_
  rintro s ⟨⟨a0, a1, a2, a3, a4, a5⟩, a6⟩
  refine Wp.ret ⟨a0, a1, a2, a3, by first | omega | (simp only; omega), ?_⟩
  simp only
  omega
end Go.Proofs.Yteeeedmmcdlhjaa.P
namespace Go.Proofs.Yteeeedmmcdlhjaa.P
open Go.RowKit Go.Proofs.YteeeedmmcdlhjaaW.PrintWords Go.Proofs.YteeeedmmcdlhjaaW.PrintLast Go.Proofs.YteeeedmmcdlhjaaW.PrintMore Go.Proofs.Yteeeedmmcdlhjaa.Wp
set_option linter.unusedVariables false
set_option linter.unusedSimpArgs false
theorem w_grayImage (b : List Int) (q : Int) (h : Rdr b q) (hq : q ≤ 600000) : Wp (fun k => spec_grayImage.f k b q) (fun r => r.2.2.2.1.length ≤ 1024 ∧ q ≤ r.2.2.2.2 ∧ r.2.2.2.2 ≤ q + 2000) := by
  unfold spec_grayImage.f
  refine Wp.call (w_pick b q 20 h (by omega) (by omega)) ?_
  rintro _ ⟨x, rfl, _⟩
  have h1 : Rdr b (q + 1) := h.up (by omega) (by omega)
  refine Wp.ite (fun _ => ?_) (fun _ => ?_)
  · refine Wp.call (w_anyImage b _ h1 (by first | omega | (simp only; omega))) ?_
    rintro ⟨r0, r1, r2, r3, r4⟩ ⟨_, _, _, hl, ha, hb⟩
    simp only at hl ha hb
    exact Wp.ret ⟨hl, by first | omega | (simp only; omega), by first | omega | (simp only; omega)⟩
  · refine Wp.call (w_randomImage b _ 1 h1 (by first | omega | (simp only; omega)) (by omega)) ?_
    intro r hr
    refine Wp.call (w_randomSpoil b _ 1 r h1 (by first | omega | (simp only; omega)) (by omega) hr) ?_
    rintro ⟨s0, s1, s2, s3, s4⟩ ⟨⟨_, _, _, hl, ha, hb⟩, _⟩
    simp only at hl ha hb
    exact Wp.ret ⟨hl, by first | omega | (simp only; omega), by first | omega | (simp only; omega)⟩
theorem w_DrawDiff (l : List Int) (hb : ∀ x ∈ l, (Lit.int .u8 x).wf = true) : Wp (fun k => spec_DrawDiffuseImage.f k l) (fun r => r.2.2.2.1.length ≤ 1024) := by
  unfold spec_DrawDiffuseImage.f
  refine Wp.call (w_newReader l hb) ?_
  rintro ⟨b, p⟩ ⟨h, e⟩
  simp only at e h
  subst e
  refine Wp.call (w_grayImage b 0 h (by omega)) ?_
  rintro ⟨r0, r1, r2, r3, r4⟩ ⟨hl, ha, hb⟩
  simp only at hl ha hb
  unfold spec_anyLevels.f
  refine Wp.call (Q := fun _ => True) ?_ ?_
  · refine Wp.call (w_one b r4 _ (h.up ha (by omega)) (by omega) (by simp) (by simp)) ?_
    rintro _ ⟨x, rfl, hx⟩
    exact Wp.ret trivial
  · rintro ⟨s, q⟩ _
    exact Wp.ret hl
end Go.Proofs.Yteeeedmmcdlhjaa.P
namespace Go.Proofs.Yteeeedmmcdlhjaa.P
open Go.RowKit Go.Proofs.YteeeedmmcdlhjaaW.PrintWords Go.Proofs.YteeeedmmcdlhjaaW.PrintLast Go.Proofs.YteeeedmmcdlhjaaW.PrintMore Go.Proofs.Yteeeedmmcdlhjaa.Wp
set_option linter.unusedVariables false
set_option linter.unusedSimpArgs false
theorem w_equalImage (a b c : Int) (l : List Int) (a' b' c' : Int) (l' : List Int) (hl : l.length ≤ 1000000000) : Wp (fun k => laws_equalImage.f k a b c l a' b' c' l') (fun r => r = decide ((a, b, c, l) = (a', b', c', l'))) := by
  unfold laws_equalImage.f
  refine Wp.ite (fun h => ?_) (fun h => Wp.ret (decide_eq_false fun e => h (congrArg (·.1) e)).symm)
  refine Wp.ite (fun h1 => ?_) (fun h1 => Wp.ret (decide_eq_false fun e => h1 (congrArg (·.2.1) e)).symm)
  refine Wp.ite (fun h2 => ?_) (fun h2 => Wp.ret (decide_eq_false fun e => h2 (congrArg (·.2.2.1) e)).symm)
  refine Wp.call (w_equalInts l l' hl) ?_
  rintro _ rfl
  refine Wp.ret ?_
  subst h h1 h2
  rw [Bool.eq_iff_iff, decide_eq_true_eq, decide_eq_true_eq]
  exact ⟨fun e => by rw [e], fun e => congrArg (·.2.2.2) e⟩
end Go.Proofs.Yteeeedmmcdlhjaa.P
namespace Go.Proofs.Yteeeedmmcdlhjaa.Pure
open Go.RowKit Go.Proofs.Yteeeedmmcdlhjaa.P Go.Proofs.YteeeedmmcdlhjaaW.PrintWords Go.Proofs.YteeeedmmcdlhjaaW.PrintMore Go.Proofs.Yteeeedmmcdlhjaa.Wp
set_option linter.unusedVariables false
theorem flat_get (v : Int) (a b i : Nat) (h : i < b * a) : (imgOf (fun _ _ => [v]) a b).getD i 0 = v := by
  have hl : (imgOf (fun _ _ => [v]) a b).length = b * a := by rw [img_len _ a b 1 (fun _ _ _ _ => rfl), Nat.mul_one]
  rw [List.getD_eq_getElem?_getD, List.getElem?_eq_getElem (by omega), Option.getD_some]
  have hm : (imgOf (fun _ _ => [v]) a b)[i] ∈ imgOf (fun _ _ => [v]) a b := List.getElem_mem _
  generalize (imgOf (fun _ _ => [v]) a b)[i] = z at hm
  rw [img_fm (fun _ _ => [v]) (fun _ => [v]) a b (fun i j hj hi => rfl)] at hm
  have h2 : (∃ x, x < b * a) ∧ z = v := by simpa using hm
  exact h2.2
theorem FnDiffuseFlat : laws_FnDiffuseFlat.Pure := by
  intro l0 _ _ hb
  refine Wp.rounds ?_
  unfold laws_FnDiffuseFlat.f
  refine Wp.ite (fun _ => Wp.ret rfl) (fun _ => ?_)
  refine Wp.call (w_DrawDiff l0 hb) ?_
  rintro ⟨a, b, c, l, L⟩ hl
  simp only at hl
  refine Wp.call (w_iDiff a b c l L) ?_
  rintro _ rfl
  refine Wp.call (w_sDiff a b c l L (by omega)) ?_
  rintro _ rfl
  have hg : (difI a b c l L).2.2.2.1.length ≤ 1000000000 := Nat.le_trans (dif_len a b c l L) (by omega)
  refine Wp.call (w_equalImage _ _ _ _ _ _ _ _ hg) ?_
  rintro _ rfl
  refine Wp.pos (by simp) ?_
  refine Wp.neg (by simp) ?_
  refine Wp.step (fun k => laws_FnDiffuseFlat.j0.eq_2 ..) ?_
  refine Wp.ite (fun h0 => ?_) (fun h0 => ?_)
  · refine Wp.call (w_equalImage _ _ _ _ _ _ _ _ hg) ?_
    rintro _ rfl
    exact Wp.pos (by simp) (Wp.ret (by simp))
  · have hh : imgB a b c l = true ∧ c = 1 ∧ (2 ≤ L ∧ L ≤ 16) := Decidable.byContradiction fun h => by
      unfold difI at h0
      rw [if_neg h] at h0
      exact absurd rfl h0
    clear h0 hg
    dsimp only
    obtain ⟨hi, hc, hL⟩ := hh
    obtain ⟨a, b, p, rfl, rfl, rfl, ha, hb2, hp, hll, hB⟩ := img_nat hi
    have hp1 : p = 1 := by omega
    subst hp1
    clear hll hB hi hl
    have b3 : b * a ≤ 16 * 16 := Nat.mul_le_mul (by omega) (by omega)
    have one : ∀ v : Int, (v = 0 ∨ v = 255) → Wp (fun k => laws_FnDiffuseFlat.l0 k L (v + 255) a b ((1 : Nat) : Int) l) (fun r => r = true) → Wp (fun k => laws_FnDiffuseFlat.l0 k L v a b ((1 : Nat) : Int) l) (fun r => r = true) := by
      intro v hv next
      refine Wp.step (fun k => laws_FnDiffuseFlat.l0.eq_2 ..) (Wp.pos (by omega) ?_)
      refine Wp.call (w_iFill a b [v]) ?_
      rintro _ rfl
      have hf : fillI a b [v] = ((a : Int), (b : Int), 1, imgOf (fun _ _ => [v]) a b) := by
        unfold fillI
        rw [if_pos ⟨by omega, by omega, by simp, by unfold allB; rcases hv with rfl | rfl <;> decide⟩]
        rfl
      rw [hf]
      dsimp only
      have hlen : (imgOf (fun _ _ => [v]) a b).length = b * a := by rw [img_len _ a b 1 (fun _ _ _ _ => rfl), Nat.mul_one]
      have hget := flat_get v a b
      have hcon : ∀ f : Int → Int → List Int, (∀ i j : Nat, j < a → i < b → f j i = [v]) → imgOf f a b = imgOf (fun _ _ => [v]) a b := fun f h => img_congr _ _ a b fun i j hj hi => h i j hj hi
      generalize imgOf (fun _ _ => [v]) a b = d at hlen hget hcon
      have vB : 0 ≤ v ∧ v ≤ 255 := by omega
      have okd : imgB a b 1 d = true := imgB_ok.2 ⟨by omega, by omega, by omega, by rw [hlen, Int.natCast_mul, Int.mul_one, Int.mul_comm], fun z hz => by
        obtain ⟨i, hi2, rfl⟩ := List.getElem_of_mem hz
        have e := hget i (by omega)
        rw [List.getD_eq_getElem?_getD, List.getElem?_eq_getElem hi2, Option.getD_some] at e
        rw [e]
        exact vB⟩
      refine Wp.call (w_iDiff a b 1 d L) ?_
      rintro _ rfl
      have hu2 : difI a b 1 d L = ((a : Int), (b : Int), 1, d, true) := by
        unfold difI
        rw [if_pos ⟨okd, rfl, hL⟩, Int.toNat_natCast, Int.toNat_natCast, fdA_same a b L d hL.1 hlen (fun i hi2 => by
          rw [hget i hi2]
          rcases hv with rfl | rfl
          · exact isLv_0 hL.1
          · exact isLv_255 hL.1) b (Nat.le_refl b)]
      rw [hu2]
      dsimp only
      refine Wp.call (w_iOrd a b 1 d L) ?_
      rintro _ rfl
      have hu3 : ordI a b 1 d L = ((a : Int), (b : Int), 1, d, true) := by
        unfold ordI
        rw [if_pos ⟨okd, rfl, hL⟩, Int.toNat_natCast, Int.toNat_natCast]
        rw [show imgOf (ordP d a L) a b = d from (hcon _ fun i j hj hi2 => by
          have hlt : i * a + j < b * a := by
            have h1 : (i + 1) * a ≤ b * a := Nat.mul_le_mul_right a hi2
            rw [Nat.succ_mul] at h1
            omega
          unfold ordP dat
          simp only [Int.toNat_natCast, Nat.mul_one, Nat.add_zero]
          rw [hget _ hlt]
          rcases hv with rfl | rfl
          · rw [ordL_0]
            unfold lv
            simp
          · rw [ordL_255]
            unfold lv
            rw [Int.mul_ediv_cancel _ (by omega)])]
      rw [hu3]
      dsimp only
      refine Wp.pos rfl (Wp.pos rfl ?_)
      refine Wp.call (w_equalImage _ _ _ _ _ _ _ _ (by omega)) ?_
      rintro _ rfl
      refine Wp.pos (by simp) ?_
      refine Wp.call (w_equalImage _ _ _ _ _ _ _ _ (by omega)) ?_
      rintro _ rfl
      refine Wp.pos (by simp) ?_
      rw [w64 (x := v + 255) (by omega) (by omega)]
      exact next
    refine one 0 (.inl rfl) (one 255 (.inr rfl) ?_)
    exact Wp.step (fun k => laws_FnDiffuseFlat.l0.eq_2 ..) (Wp.neg (by omega) (Wp.ret rfl))
end Go.Proofs.Yteeeedmmcdlhjaa.Pure
