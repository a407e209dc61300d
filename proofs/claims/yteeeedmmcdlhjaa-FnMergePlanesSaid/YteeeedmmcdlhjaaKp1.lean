/- Pure lemmas: what the printed functions answer, for every input; no Go, no memory, no condition but those that each lemma names. -/
import Derived.Test.YteeeedmmcdlhjaaVWords
import Derived.Test.YteeeedmmcdlhjaaK1
import Derived.Test.YteeeedmmcdlhjaaK2
import Derived.Test.YteeeedmmcdlhjaaK3
import Derived.Test.YteeeedmmcdlhjaaK4
import Derived.Test.YteeeedmmcdlhjaaK5
import Derived.Test.YteeeedmmcdlhjaaK6
namespace Go.Proofs.Yteeeedmmcdlhjaa.Wp
open Go.RowKit Go.Proofs.YteeeedmmcdlhjaaW.PrintWords
set_option linter.unusedVariables false
def Wp {α : Type} (g : Nat → Option α) (P : α → Prop) : Prop := ∃ r, P r ∧ ∃ K, ∀ k, K ≤ k → g k = some r
theorem Wp.mono {α : Type} {g : Nat → Option α} {P Q : α → Prop} (h : Wp g P) (hi : ∀ a, P a → Q a) : Wp g Q := by
  obtain ⟨r, hp, K, hk⟩ := h
  exact ⟨r, hi r hp, K, hk⟩
theorem Wp.ret {α : Type} {P : α → Prop} {r : α} (h : P r) : Wp (fun _ => some r) P := ⟨r, h, 0, fun _ _ => rfl⟩
theorem Wp.bind {α β : Type} {g : Nat → Option α} {f : Nat → α → Option β} {P : β → Prop} (h : Wp g (fun a => Wp (fun k => f k a) P)) : Wp (fun k => (g k).bind (f k)) P := by
  obtain ⟨a, ⟨r, hp, K, hk⟩, K', hk'⟩ := h
  refine ⟨r, hp, max K K', fun k hkk => ?_⟩
  show (g k).bind (f k) = some r
  rw [hk' k (by omega)]
  exact hk k (by omega)
theorem Wp.call {α β : Type} {g : Nat → Option α} {f : Nat → α → Option β} {Q : α → Prop} {P : β → Prop} (h : Wp g Q) (hf : ∀ a, Q a → Wp (fun k => f k a) P) : Wp (fun k => (g k).bind (f k)) P :=
  Wp.bind (h.mono hf)
theorem Wp.ite {α : Type} {c : Prop} [Decidable c] {g h : Nat → Option α} {P : α → Prop} (h1 : c → Wp g P) (h2 : ¬ c → Wp h P) : Wp (fun k => if c then g k else h k) P := by
  by_cases hc : c
  · simpa only [if_pos hc] using h1 hc
  · simpa only [if_neg hc] using h2 hc
theorem Wp.pos {α : Type} {c : Prop} [Decidable c] {g h : Nat → Option α} {P : α → Prop} (hc : c) (h1 : Wp g P) : Wp (fun k => if c then g k else h k) P := Wp.ite (fun _ => h1) (fun h => absurd hc h)
theorem Wp.neg {α : Type} {c : Prop} [Decidable c] {g h : Nat → Option α} {P : α → Prop} (hc : ¬ c) (h1 : Wp h P) : Wp (fun k => if c then g k else h k) P := Wp.ite (fun h => absurd h hc) (fun _ => h1)
theorem Wp.step {α : Type} {g f : Nat → Option α} {P : α → Prop} (h : ∀ k, g (k + 1) = f k) (hf : Wp f P) : Wp g P := by
  obtain ⟨r, hp, K, hk⟩ := hf
  refine ⟨r, hp, K + 1, fun k hkk => ?_⟩
  obtain ⟨k, rfl⟩ : ∃ m, k = m + 1 := ⟨k - 1, by omega⟩
  rw [h k]
  exact hk k (by omega)
theorem Wp.of {α : Type} {g : Nat → Option α} {P : α → Prop} {r : α} (h : ∀ k, g k = some r) (hp : P r) : Wp g P := ⟨r, hp, 0, fun k _ => h k⟩
theorem Wp.rounds {α : Type} {g : Nat → Option α} {r : α} (h : Wp g (fun a => a = r)) : ∃ k, g k = some r := by
  obtain ⟨r', rfl, K, hk⟩ := h
  exact ⟨K, hk K (Nat.le_refl K)⟩
theorem w64 {x : Int} (h0 : -9223372036854775808 ≤ x) (h1 : x ≤ 9223372036854775807) : wrap64 x = x := by
  unfold wrap64
  omega
end Go.Proofs.Yteeeedmmcdlhjaa.Wp
namespace Go.Proofs.Yteeeedmmcdlhjaa.P
open Go.RowKit Go.Proofs.YteeeedmmcdlhjaaW.PrintWords Go.Proofs.YteeeedmmcdlhjaaW.PrintLast Go.Proofs.YteeeedmmcdlhjaaW.PrintMore Go.Proofs.Yteeeedmmcdlhjaa.Wp
set_option linter.unusedVariables false
set_option linter.unusedSimpArgs false
theorem bl_rd (l : List Int) (i : Nat) : rd l (i : Int) = l.getD i 0 := by simp [rd]
theorem bl_ext {x l : List Int} (hx : x.length = l.length) (h : ∀ j, j < l.length → x.getD j 0 = l.getD j 0) : x = l := by
  apply List.ext_getElem hx
  intro j h1 h2
  have := h j h2
  simpa [List.getD_eq_getElem?_getD, List.getElem?_eq_getElem h1, List.getElem?_eq_getElem h2] using this
theorem bl_set {x : List Int} {i : Nat} (v : Int) (j : Nat) (hi : i < x.length) : (x.set i v).getD j 0 = if j = i then v else x.getD j 0 := by
  simp only [List.getD_eq_getElem?_getD, List.getElem?_set]
  by_cases h : i = j
  · subst h; simp [hi]
  · simp [h, Ne.symm h, eq_comm]
theorem bl_map_range (f : Nat → Int) (n j : Nat) (hj : j < n) : ((List.range n).map f).getD j 0 = f j := by
  simp [List.getD_eq_getElem?_getD, hj]
theorem bl_all_drop (l : List Int) (p : Int → Bool) (i : Nat) (h : i < l.length) : (l.drop i).all p = (p (l.getD i 0) && (l.drop (i + 1)).all p) := by
  rw [List.drop_eq_getElem_cons h, List.all_cons]
  simp [List.getD_eq_getElem?_getD, List.getElem?_eq_getElem h]
def allB (l : List Int) : Bool := l.all fun n => decide (0 ≤ n ∧ n ≤ 255)
theorem allB_mem {l : List Int} (h : allB l = true) : ∀ x ∈ l, 0 ≤ x ∧ x ≤ 255 := fun x hx => of_decide_eq_true (List.all_eq_true.1 h x hx)
theorem allB_of {l : List Int} (h : ∀ x ∈ l, 0 ≤ x ∧ x ≤ 255) : allB l = true := List.all_eq_true.2 fun x hx => decide_eq_true (h x hx)
theorem w_inRange0 (a b c : Int) : Wp (fun _ => spec_inRange.f a b c) (fun r => r = decide (b ≤ a ∧ a ≤ c)) := by
  unfold spec_inRange.f
  refine Wp.ite (fun h => Wp.ret ?_) (fun h => Wp.ret ?_)
  · simp [h]
  · simp [h]
theorem w_allIn (l : List Int) (a b : Int) (hl : l.length ≤ 1000000000) : Wp (fun k => spec_allIn.f k l a b) (fun r => r = l.all fun n => decide (a ≤ n ∧ n ≤ b)) := by
  unfold spec_allIn.f
  have key : ∀ d (i : Nat), i + d = l.length → Wp (fun k => spec_allIn.l0 k l a b i) (fun r => r = (l.drop i).all fun n => decide (a ≤ n ∧ n ≤ b)) := by
    intro d
    induction d with
    | zero =>
      intro i hd
      refine Wp.step (fun k => spec_allIn.l0.eq_2 ..) (Wp.neg (by omega) (Wp.ret ?_))
      rw [List.drop_of_length_le (by omega)]
      rfl
    | succ d ih =>
      intro i hd
      refine Wp.step (fun k => spec_allIn.l0.eq_2 ..) (Wp.pos (by omega) (Wp.pos (by omega) ?_))
      refine Wp.call (w_inRange0 _ _ _) ?_
      rintro _ rfl
      rw [bl_all_drop l _ i (by omega), bl_rd]
      refine Wp.ite (fun h => ?_) (fun h => Wp.ret ?_)
      · rw [h, Bool.true_and, w64 (x := (i : Int) + 1) (by omega) (by omega)]
        exact ih (i + 1) (by omega)
      · rw [Bool.not_eq_true] at h
        rw [h, Bool.false_and]
  exact key l.length 0 (by omega)
theorem w_allB (l : List Int) (hl : l.length ≤ 1000000000) : Wp (fun k => spec_allIn.f k l 0 255) (fun r => r = allB l) := w_allIn l 0 255 hl
def marks (a : Int) (n : Nat) : List Int := (List.range n).map fun j : Nat => a + (j : Int)
theorem w_equalInts (a b : List Int) (hl : a.length ≤ 1000000000) : Wp (fun k => laws_equalInts.f k a b) (fun r => r = decide (a = b)) := by
  unfold laws_equalInts.f
  refine Wp.ite (fun he => ?_) (fun he => Wp.ret ?_)
  · have key : ∀ d (i : Nat), i + d = a.length → (∀ j, j < i → a.getD j 0 = b.getD j 0) → Wp (fun k => laws_equalInts.l0 k a b i) (fun r => r = decide (a = b)) := by
      intro d
      induction d with
      | zero =>
        intro i hd h
        refine Wp.step (fun k => laws_equalInts.l0.eq_2 ..) (Wp.neg (by omega) (Wp.ret ?_))
        exact (decide_eq_true (bl_ext (by omega) fun j hj => h j (by omega))).symm
      | succ d ih =>
        intro i hd h
        refine Wp.step (fun k => laws_equalInts.l0.eq_2 ..) (Wp.pos (by omega) (Wp.pos (by omega) (Wp.pos (by omega) ?_)))
        rw [bl_rd, bl_rd]
        refine Wp.ite (fun h1 => ?_) (fun h1 => Wp.ret ?_)
        · rw [w64 (x := (i : Int) + 1) (by omega) (by omega)]
          refine ih (i + 1) (by omega) fun j hj => ?_
          by_cases e : j = i
          · rw [e]; exact h1
          · exact h j (by omega)
        · exact (decide_eq_false fun e => h1 (by rw [e])).symm
    exact key a.length 0 (by omega) (fun j hj => by omega)
  · exact (decide_eq_false fun e => he (by rw [e])).symm
end Go.Proofs.Yteeeedmmcdlhjaa.P
namespace Go.Proofs.Yteeeedmmcdlhjaa.P
open Go.RowKit Go.Proofs.YteeeedmmcdlhjaaW.PrintWords Go.Proofs.YteeeedmmcdlhjaaW.PrintLast Go.Proofs.YteeeedmmcdlhjaaW.PrintMore Go.Proofs.Yteeeedmmcdlhjaa.Wp
set_option linter.unusedVariables false
set_option linter.unusedSimpArgs false
theorem rd_cut (l : List Int) (a b i : Int) (ha : 0 ≤ a) (hi : 0 ≤ i) (hb : a + i < b) : rd ((l.take b.toNat).drop a.toNat) i = rd l (a + i) := by
  unfold rd
  rw [List.getD_eq_getElem?_getD, List.getD_eq_getElem?_getD, List.getElem?_drop, List.getElem?_take, if_pos (by omega)]
  congr 2
  omega
def imgB (a b c : Int) (l : List Int) : Bool := decide ((1 ≤ a ∧ a ≤ 16) ∧ (1 ≤ b ∧ b ≤ 16) ∧ (1 ≤ c ∧ c ≤ 4)) && decide ((l.length : Int) = a * b * c) && allB l
theorem imgB_ok {a b c : Int} {l : List Int} : imgB a b c l = true ↔ ImgOk a b c l := by
  unfold imgB ImgOk
  rw [Bool.and_eq_true, Bool.and_eq_true, decide_eq_true_eq, decide_eq_true_eq]
  constructor
  · rintro ⟨⟨h1, h2⟩, h3⟩
    exact ⟨h1.1, h1.2.1, h1.2.2, h2, allB_mem h3⟩
  · rintro ⟨h1, h2, h3, h4, h5⟩
    exact ⟨⟨⟨h1, h2, h3⟩, h4⟩, allB_of h5⟩
theorem w_iImage (a b c : Int) (l : List Int) : Wp (fun _ => impl_isImage.f a b c l) (fun r => r = imgB a b c l) := by
  obtain ⟨r, hr, hi⟩ := isImage_some a b c l
  refine Wp.of (fun _ => hr) ?_
  rw [Bool.eq_iff_iff, hi, imgB_ok]
theorem w_sImage (a b c : Int) (l : List Int) (hl : l.length ≤ 1000000000) : Wp (fun k => spec_validImage.f k a b c l) (fun r => r = imgB a b c l) := by
  unfold spec_validImage.f spec_validShape.f imgB
  refine Wp.call (Q := fun r => r = decide ((1 ≤ a ∧ a ≤ 16) ∧ (1 ≤ b ∧ b ≤ 16) ∧ (1 ≤ c ∧ c ≤ 4))) ?_ ?_
  · refine Wp.call (w_inRange0 _ _ _) ?_
    rintro _ rfl
    refine Wp.ite (fun h => ?_) (fun h => Wp.ret ?_)
    · refine Wp.call (w_inRange0 _ _ _) ?_
      rintro _ rfl
      refine Wp.ite (fun h2 => ?_) (fun h2 => Wp.ret ?_)
      · refine Wp.call (w_inRange0 _ _ _) ?_
        rintro _ rfl
        refine Wp.ret ?_
        rw [decide_eq_true_eq] at h h2
        rw [Bool.eq_iff_iff, decide_eq_true_eq, decide_eq_true_eq]
        exact ⟨fun h3 => ⟨h, h2, h3⟩, fun h3 => h3.2.2⟩
      · rw [decide_eq_true_eq] at h2
        exact (decide_eq_false fun h3 => h2 h3.2.1).symm
    · rw [decide_eq_true_eq] at h
      exact (decide_eq_false fun h3 => h h3.1).symm
  · rintro _ rfl
    refine Wp.ite (fun h => ?_) (fun h => Wp.ret ?_)
    · rw [h, Bool.true_and]
      rw [decide_eq_true_eq] at h
      obtain ⟨h0, h1, h2⟩ := h
      have hB := img_bounds h0 h1 h2
      rw [w64 (x := a * b) (by omega) (by omega), w64 (x := a * b * c) (by omega) (by omega)]
      refine Wp.ite (fun h3 => ?_) (fun h3 => Wp.ret ?_)
      · rw [decide_eq_true h3, Bool.true_and]
        refine Wp.call (w_allB l hl) ?_
        rintro _ rfl
        exact Wp.ret rfl
      · rw [decide_eq_false h3]; rfl
    · rw [Bool.not_eq_true] at h
      rw [h]; rfl
theorem w_newImage (a b c : Int) (h0 : 0 ≤ a ∧ a ≤ 1000) (h1 : 0 ≤ b ∧ b ≤ 1000) (h2 : 0 ≤ c ∧ c ≤ 1000) : Wp (fun _ => spec_newImage.f a b c) (fun r => r = (a, b, c, List.replicate (a * b * c).toNat 0)) := by
  have m1 : 0 ≤ a * b := Int.mul_nonneg h0.1 h1.1
  have m2 : a * b ≤ 1000 * 1000 := Int.mul_le_mul h0.2 h1.2 h1.1 (by omega)
  have m3 : 0 ≤ a * b * c := Int.mul_nonneg m1 h2.1
  have m4 : a * b * c ≤ 1000000 * 1000 := Int.mul_le_mul m2 h2.2 h2.1 (by omega)
  unfold spec_newImage.f
  rw [w64 (x := a * b) (by omega) (by omega), w64 (x := a * b * c) (by omega) (by omega)]
  exact Wp.pos m3 (Wp.pos (by omega) (Wp.ret rfl))
end Go.Proofs.Yteeeedmmcdlhjaa.P
namespace Go.Proofs.Yteeeedmmcdlhjaa.P
open Go.RowKit Go.Proofs.YteeeedmmcdlhjaaW.PrintWords Go.Proofs.YteeeedmmcdlhjaaW.PrintLast Go.Proofs.YteeeedmmcdlhjaaW.PrintMore Go.Proofs.Yteeeedmmcdlhjaa.Wp
set_option linter.unusedVariables false
set_option linter.unusedSimpArgs false
theorem fm_len (h : Nat → List Int) (n p : Nat) (hf : ∀ i, i < n → (h i).length = p) : ((List.range n).flatMap h).length = n * p := by
  induction n with
  | zero => simp
  | succ n ih =>
    rw [List.range_succ, List.flatMap_append, List.length_append, ih fun i hi => hf i (by omega), Nat.succ_mul]
    simp [hf n (by omega)]
theorem fm_get (h : Nat → List Int) (n p j q : Nat) (hf : ∀ i, i < n → (h i).length = p) (hj : j < n) (hq : q < p) : ((List.range n).flatMap h).getD (j * p + q) 0 = (h j).getD q 0 := by
  induction n with
  | zero => omega
  | succ n ih =>
    have hlen := fm_len h n p fun i hi => hf i (by omega)
    rw [List.range_succ, List.flatMap_append, List.getD_eq_getElem?_getD]
    by_cases hjn : j < n
    · have : j * p + q < n * p := by
        have : (j + 1) * p ≤ n * p := Nat.mul_le_mul_right p (by omega)
        rw [Nat.succ_mul] at this
        omega
      rw [List.getElem?_append_left (by omega), ← List.getD_eq_getElem?_getD]
      exact ih (fun i hi => hf i (by omega)) hjn
    · have : j = n := by omega
      subst this
      rw [List.getElem?_append_right (by omega), hlen, show j * p + q - j * p = q by omega]
      simp [List.getD_eq_getElem?_getD]
theorem img_fm (f : Int → Int → List Int) (h : Nat → List Int) (n m : Nat) (hh : ∀ i j, j < n → i < m → f (j : Int) (i : Int) = h (i * n + j)) : imgOf f n m = (List.range (m * n)).flatMap h := by
  induction m with
  | zero => simp [imgOf]
  | succ m ih =>
    rw [imgOf_succ, ih fun i j hj hi => hh i j hj (by omega), Nat.succ_mul, List.range_add, List.flatMap_append]
    congr 1
    unfold imgRow
    rw [List.flatMap_map]
    have : ∀ (a : List Nat), (∀ x ∈ a, x < n) → a.flatMap (fun j : Nat => f (j : Int) (m : Int)) = a.flatMap (fun x => h (m * n + x)) := by
      intro a
      induction a with
      | nil => intro _; rfl
      | cons x a iha =>
        intro hx
        rw [List.flatMap_cons, List.flatMap_cons, iha fun y hy => hx y (List.mem_cons_of_mem _ hy), hh m x (hx x (List.mem_cons_self ..)) (by omega)]
    exact this _ fun x hx => List.mem_range.1 hx
theorem img_len (f : Int → Int → List Int) (n m p : Nat) (hf : ∀ i j : Nat, j < n → i < m → (f j i).length = p) : (imgOf f n m).length = m * n * p := by
  induction m with
  | zero => simp [imgOf]
  | succ m ih =>
    rw [imgOf_succ, List.length_append, ih fun i j hj hi => hf i j hj (by omega)]
    unfold imgRow
    rw [fm_len _ n p fun j hj => hf m j hj (by omega), Nat.succ_mul, Nat.add_mul]
theorem img_get (f : Int → Int → List Int) (n m p i j q : Nat) (hf : ∀ i j : Nat, j < n → i < m → (f j i).length = p) (hj : j < n) (hi : i < m) (hq : q < p) :
    (imgOf f n m).getD ((i * n + j) * p + q) 0 = (f j i).getD q 0 := by
  have e : imgOf f n m = (List.range m).flatMap fun i : Nat => imgRow f i n := rfl
  have hr : ∀ i : Nat, i < m → (imgRow f i n).length = n * p := fun i hi => by
    unfold imgRow
    exact fm_len _ n p fun j hj => hf i j hj hi
  have hb : j * p + q < n * p := by
    have : (j + 1) * p ≤ n * p := Nat.mul_le_mul_right p (by omega)
    rw [Nat.succ_mul] at this
    omega
  rw [e, show (i * n + j) * p + q = i * (n * p) + (j * p + q) by rw [Nat.add_mul, Nat.mul_assoc]; omega, fm_get _ m (n * p) i _ hr hi hb]
  unfold imgRow
  exact fm_get _ n p j q (fun j hj => hf i j hj hi) hj hq
theorem img_ext (f : Int → Int → List Int) (n m p : Nat) (x : List Int) (hf : ∀ i j : Nat, j < n → i < m → (f j i).length = p) (hx : x.length = m * n * p)
    (h : ∀ i j q : Nat, i < m → j < n → q < p → x.getD ((i * n + j) * p + q) 0 = (f j i).getD q 0) : x = imgOf f n m := by
  refine bl_ext (by rw [hx, img_len f n m p hf]) fun t ht => ?_
  rw [img_len f n m p hf] at ht
  have hp : 0 < p := by rcases Nat.eq_zero_or_pos p with h | h; (· subst h; omega); exact h
  have ht2 : t / p < m * n := Nat.div_lt_of_lt_mul (by rw [Nat.mul_comm]; exact ht)
  have hn : 0 < n := by rcases Nat.eq_zero_or_pos n with h | h; (· subst h; omega); exact h
  have hi : t / p / n < m := Nat.div_lt_of_lt_mul (by rw [Nat.mul_comm]; exact ht2)
  have hj : t / p % n < n := Nat.mod_lt _ hn
  have hq : t % p < p := Nat.mod_lt _ hp
  have e1 : t / p / n * n + t / p % n = t / p := by rw [Nat.mul_comm]; exact Nat.div_add_mod _ _
  have e2 : t / p * p + t % p = t := by rw [Nat.mul_comm]; exact Nat.div_add_mod _ _
  have h1 := h _ _ _ hi hj hq
  have h2 := img_get f n m p _ _ _ hf hj hi hq
  rw [e1, e2] at h1 h2
  rw [h1, h2]
end Go.Proofs.Yteeeedmmcdlhjaa.P
namespace Go.Proofs.Yteeeedmmcdlhjaa.P
open Go.RowKit Go.Proofs.YteeeedmmcdlhjaaW.PrintWords Go.Proofs.YteeeedmmcdlhjaaW.PrintLast Go.Proofs.YteeeedmmcdlhjaaW.PrintMore Go.Proofs.Yteeeedmmcdlhjaa.Wp
set_option linter.unusedVariables false
set_option linter.unusedSimpArgs false
theorem pix_get {l : List Int} {n p x y : Int} (q : Nat) (h0 : 0 ≤ (y * n + x) * p) (hq : (q : Int) < p) : (pixOf l n p x y).getD q 0 = rd l ((y * n + x) * p + q) := by
  unfold pixOf
  have := rd_cut l ((y * n + x) * p) ((y * n + x) * p + p) q h0 (by omega) (by omega)
  rw [← this, bl_rd]
theorem pix_img (f : Int → Int → List Int) (n m p : Nat) (hf : ∀ i j : Nat, j < n → i < m → (f j i).length = p) (i j : Nat) (hj : j < n) (hi : i < m) : pixOf (imgOf f n m) n p j i = f j i := by
  have hl := img_len f n m p hf
  have e : ((i : Int) * n + j) * p = (((i * n + j) * p : Nat) : Int) := by rw [Int.natCast_mul (i * n + j) p, Int.natCast_add, Int.natCast_mul]
  have hb : (i * n + j) * p + p ≤ m * n * p := by
    have h1 : i * n + j + 1 ≤ m * n := by
      have : (i + 1) * n ≤ m * n := Nat.mul_le_mul_right n hi
      rw [Nat.succ_mul] at this
      omega
    have : (i * n + j + 1) * p ≤ m * n * p := Nat.mul_le_mul_right p h1
    rw [Nat.succ_mul] at this
    omega
  have hlen := pixOf_length (l := imgOf f n m) (n := n) (p := p) (x := j) (y := i) (by rw [e]; omega) (by omega) (by rw [e]; omega)
  have hfl := hf i j hj hi
  refine bl_ext (by omega) fun q hq => ?_
  rw [pix_get q (by rw [e]; omega) (by omega), e, ← Int.natCast_add, bl_rd]
  exact img_get f n m p i j q hf hj hi (by omega)
theorem img_mem (f : Int → Int → List Int) (n m : Nat) (P : Int → Prop) (h : ∀ i j : Nat, j < n → i < m → ∀ v ∈ f j i, P v) : ∀ v ∈ imgOf f n m, P v := by
  intro v hv
  unfold imgOf imgRow at hv
  obtain ⟨i, hi, hv⟩ := List.mem_flatMap.1 hv
  obtain ⟨j, hj, hv⟩ := List.mem_flatMap.1 hv
  exact h i j (List.mem_range.1 hj) (List.mem_range.1 hi) v hv
theorem img_ok (f : Int → Int → List Int) (n m p : Nat) (hn : 1 ≤ n ∧ n ≤ 16) (hm : 1 ≤ m ∧ m ≤ 16) (hp : 1 ≤ p ∧ p ≤ 4) (hf : ∀ i j : Nat, j < n → i < m → (f j i).length = p) (hb : ∀ i j : Nat, j < n → i < m → ∀ v ∈ f j i, 0 ≤ v ∧ v ≤ 255) :
    imgB n m p (imgOf f n m) = true := imgB_ok.2 ⟨by omega, by omega, by omega, by rw [img_len f n m p hf, Int.natCast_mul, Int.natCast_mul, Int.mul_comm (m : Int)], img_mem f n m _ hb⟩
theorem img_congr (f g : Int → Int → List Int) (n m : Nat) (h : ∀ i j : Nat, j < n → i < m → f j i = g j i) : imgOf f n m = imgOf g n m := by
  induction m with
  | zero => rfl
  | succ m ih =>
    rw [imgOf_succ, imgOf_succ, ih fun i j hj hi => h i j hj (by omega)]
    congr 1
    have hm : ∀ j : Nat, j < n → f j m = g j m := fun j hj => h m j hj (by omega)
    clear ih h
    induction n with
    | zero => rfl
    | succ n ih => rw [imgRow_succ, imgRow_succ, ih fun j hj => hm j (by omega), hm n (by omega)]
theorem img_self (l : List Int) (n m p : Nat) (hl : l.length = m * n * p) : imgOf (fun x y => pixOf l n p x y) n m = l := by
  have hlen : ∀ i j : Nat, j < n → i < m → (pixOf l n p j i).length = p ∧ ((i : Int) * n + j) * p = (((i * n + j) * p : Nat) : Int) := fun i j hj hi => by
    have e : ((i : Int) * n + j) * p = (((i * n + j) * p : Nat) : Int) := by rw [Int.natCast_mul (i * n + j) p, Int.natCast_add, Int.natCast_mul]
    have hb : (i * n + j) * p + p ≤ m * n * p := by
      have h1 : i * n + j + 1 ≤ m * n := by
        have : (i + 1) * n ≤ m * n := Nat.mul_le_mul_right n hi
        rw [Nat.succ_mul] at this
        omega
      have : (i * n + j + 1) * p ≤ m * n * p := Nat.mul_le_mul_right p h1
      rw [Nat.succ_mul] at this
      omega
    have := pixOf_length (l := l) (n := n) (p := p) (x := j) (y := i) (by rw [e]; omega) (by omega) (by rw [e]; omega)
    exact ⟨by omega, e⟩
  refine (img_ext _ n m p l (fun i j hj hi => (hlen i j hj hi).1) hl fun i j q hi hj hq => ?_).symm
  have e := (hlen i j hj hi).2
  rw [pix_get q (by rw [e]; omega) (by omega), e, ← Int.natCast_add, bl_rd]
end Go.Proofs.Yteeeedmmcdlhjaa.P
namespace Go.Proofs.Yteeeedmmcdlhjaa.P
open Go.RowKit Go.Proofs.YteeeedmmcdlhjaaW.PrintWords Go.Proofs.YteeeedmmcdlhjaaW.PrintLast Go.Proofs.YteeeedmmcdlhjaaW.PrintMore Go.Proofs.Yteeeedmmcdlhjaa.Wp
set_option linter.unusedVariables false
set_option linter.unusedSimpArgs false
theorem img_nat {a b c : Int} {l : List Int} (hi : imgB a b c l = true) : ∃ a' b' p : Nat, a = a' ∧ b = b' ∧ c = p ∧ (1 ≤ a' ∧ a' ≤ 16) ∧ (1 ≤ b' ∧ b' ≤ 16) ∧ (1 ≤ p ∧ p ≤ 4) ∧ l.length = b' * a' * p ∧ ∀ v ∈ l, 0 ≤ v ∧ v ≤ 255 := by
  obtain ⟨h0, h1, h2, hlen, hB⟩ := imgB_ok.1 hi
  obtain ⟨a, rfl⟩ := Int.eq_ofNat_of_zero_le (show 0 ≤ a by omega)
  obtain ⟨b, rfl⟩ := Int.eq_ofNat_of_zero_le (show 0 ≤ b by omega)
  obtain ⟨p, rfl⟩ := Int.eq_ofNat_of_zero_le (show 0 ≤ c by omega)
  refine ⟨a, b, p, rfl, rfl, rfl, by omega, by omega, by omega, ?_, hB⟩
  rw [← Int.natCast_mul, ← Int.natCast_mul, Nat.mul_comm a b] at hlen
  omega
theorem pix_len (l : List Int) (a b p i j : Nat) (hl : l.length = b * a * p) (hi : i < a) (hj : j < b) : (pixOf l a p i j).length = p := by
  have hf := pix_fits (a0 := a) (a1 := b) (a2 := p) (x := i) (y := j) (by omega) (by omega) (by omega) (by omega) (by omega)
  have hz : 0 ≤ (j : Int) * a := Int.mul_nonneg (by omega) (by omega)
  have := pixOf_length (l := l) (n := a) (p := p) (x := i) (y := j) (Int.mul_nonneg (by omega) (by omega)) (by omega) (by
    rw [hl, Int.natCast_mul, Int.natCast_mul, Int.mul_comm (b : Int)]
    exact hf)
  omega
end Go.Proofs.Yteeeedmmcdlhjaa.P
namespace Go.Proofs.Yteeeedmmcdlhjaa.P
open Go.RowKit Go.Proofs.YteeeedmmcdlhjaaW.PrintWords Go.Proofs.YteeeedmmcdlhjaaW.PrintLast Go.Proofs.YteeeedmmcdlhjaaW.PrintMore Go.Proofs.Yteeeedmmcdlhjaa.Wp
set_option linter.unusedVariables false
set_option linter.unusedSimpArgs false
theorem w_equalImage (a b c : Int) (l : List Int) (a' b' c' : Int) (l' : List Int) (hl : l.length ≤ 1000000000) : Wp (fun k => laws_equalImage.f k a b c l a' b' c' l') (fun r => r = decide ((a, b, c, l) = (a', b', c', l'))) := by
  unfold laws_equalImage.f
  refine Wp.ite (fun h => ?_) (fun h => Wp.ret (decide_eq_false fun e => h (congrArg (·.1) e)).symm)
  refine Wp.ite (fun h1 => ?_) (fun h1 => Wp.ret (decide_eq_false fun e => h1 (congrArg (·.2.1) e)).symm)
  refine Wp.ite (fun h2 => ?_) (fun h2 => Wp.ret (decide_eq_false fun e => h2 (congrArg (·.2.2.1) e)).symm)
  refine Wp.call (w_equalInts l l' hl) ?_
  rintro _ rfl
  refine Wp.ret ?_
  subst h h1 h2
  rw [Bool.eq_iff_iff, decide_eq_true_eq, decide_eq_true_eq]
  exact ⟨fun e => by rw [e], fun e => congrArg (·.2.2.2) e⟩
end Go.Proofs.Yteeeedmmcdlhjaa.P
namespace Go.Proofs.Yteeeedmmcdlhjaa.P
open Go.RowKit Go.Proofs.YteeeedmmcdlhjaaW.PrintWords Go.Proofs.YteeeedmmcdlhjaaW.PrintLast Go.Proofs.YteeeedmmcdlhjaaW.PrintMore Go.Proofs.Yteeeedmmcdlhjaa.Wp
set_option linter.unusedVariables false
set_option linter.unusedSimpArgs false
def splI (a b c : Int) (l : List Int) : List S27 := if imgB a b c l = true then splAll l a b c c.toNat else []
theorem w_iSplit (a b c : Int) (l : List Int) : Wp (fun _ => impl_SplitPlanes.f a b c l) (fun r => r = splI a b c l) := by
  unfold impl_SplitPlanes.f splI
  refine Wp.call (w_iImage a b c l) ?_
  rintro _ rfl
  exact Wp.ite (fun hi => Wp.ret (if_pos hi).symm) (fun hi => Wp.ret (if_neg hi).symm)
theorem one_get (px : List Int) (k : Nat) (h : k < px.length) : (px.take (k + 1)).drop k = [px.getD k 0] := by
  rw [List.take_succ_eq_append_getElem h, List.drop_append_of_le_length (by rw [List.length_take]; omega)]
  rw [List.drop_eq_nil_of_le (by rw [List.length_take]; omega)]
  simp [List.getD_eq_getElem?_getD, h]
theorem spl_get (l : List Int) (a c k x y : Int) (hk : 0 ≤ k) (h : k < (pixOf l a c x y).length) : splPix l a c k x y = [(pixOf l a c x y).getD k.toNat 0] := by
  obtain ⟨k, rfl⟩ := Int.eq_ofNat_of_zero_le hk
  unfold splPix
  rw [show ((k : Int) + 1).toNat = k + 1 by omega, Int.toNat_natCast]
  exact one_get _ k (by omega)
def plI (l : List Int) (p k n : Nat) : List Int := (List.range n).map fun i => l.getD (i * p + k) 0
theorem plI_len (l : List Int) (p k n : Nat) : (plI l p k n).length = n := by simp [plI]
theorem spl_img (l : List Int) (a b p k : Nat) (hl : l.length = b * a * p) (hk : k < p) : imgOf (fun x y => splPix l a p k x y) a b = plI l p k (b * a) := by
  rw [img_fm _ (fun t => [l.getD (t * p + k) 0]) a b ?_]
  · unfold plI
    generalize List.range (b * a) = r
    induction r with
    | nil => rfl
    | cons x r ih => rw [List.flatMap_cons, List.map_cons, ih]; rfl
  · intro i j hj hi
    have hlen := pix_len l a b p j i hl hj hi
    rw [spl_get _ _ _ _ _ _ (by omega) (by omega), Int.toNat_natCast, pix_get k (Int.mul_nonneg (Int.add_nonneg (Int.mul_nonneg (by omega) (by omega)) (by omega)) (by omega)) (by omega)]
    have e : ((i : Int) * a + j) * p + k = (((i * a + j) * p + k : Nat) : Int) := by rw [Int.natCast_add, Int.natCast_mul (i * a + j) p, Int.natCast_add, Int.natCast_mul]
    rw [e, bl_rd]
theorem splAll_pl (l : List Int) (a b p : Nat) (hl : l.length = b * a * p) : ∀ n : Nat, n ≤ p → splAll l a b p n = (List.range n).map fun k => (⟨a, b, 1, plI l p k (b * a)⟩ : S27) := by
  intro n
  induction n with
  | zero => intro _; rfl
  | succ n ih =>
    intro hn
    rw [splAll, ih (by omega), List.range_succ, List.map_append]
    simp only [Int.toNat_natCast]
    rw [spl_img l a b p n hl hn]
    rfl
theorem w_sSplit (a b c : Int) (l : List Int) (hl : l.length ≤ 1000000000) : Wp (fun k => spec_SplitPlanes.f k a b c l) (fun r => r = splI a b c l) := by
  unfold spec_SplitPlanes.f splI
  refine Wp.call (w_sImage a b c l hl) ?_
  rintro _ rfl
  refine Wp.ite (fun hi => ?_) (fun hi => Wp.ret (if_neg hi).symm)
  rw [if_pos hi]
  obtain ⟨a, b, p, rfl, rfl, rfl, ha, hb, hp, hlen, hB⟩ := img_nat hi
  rw [Int.toNat_natCast]
  have m1 : b * a ≤ 16 * 16 := Nat.mul_le_mul (by omega) (by omega)
  have e : ((a : Int) * b * 1).toNat = b * a := by rw [Int.mul_one, ← Int.natCast_mul, Int.toNat_natCast, Nat.mul_comm]
  have key : ∀ d (n : Nat), n + d = p → Wp (fun k => spec_SplitPlanes.l0 k (splAll l a b p n) n a b p l) (fun r => r = splAll l a b p p) := by
    intro d
    induction d with
    | zero =>
      intro n hn
      have : n = p := by omega
      subst this
      exact Wp.step (fun k => spec_SplitPlanes.l0.eq_2 ..) (Wp.neg (by omega) (Wp.ret rfl))
    | succ d ih =>
      intro n hn
      have nx := ih (n + 1) (by omega)
      refine Wp.step (fun k => spec_SplitPlanes.l0.eq_2 ..) (Wp.pos (by omega) ?_)
      refine Wp.call (w_newImage a b 1 (by omega) (by omega) (by omega)) ?_
      rintro _ rfl
      dsimp only
      rw [e]
      have inner : ∀ d (i : Nat) (x : List Int), i + d = b * a → x.length = b * a → (∀ j, j < i → x.getD j 0 = l.getD (j * p + n) 0) → Wp (fun k => spec_SplitPlanes.l1 k (splAll l a b p n) n i a b p l a b 1 x) (fun r => r = splAll l a b p p) := by
        intro d
        induction d with
        | zero =>
          intro i x hd hx h
          have hlA := splAll_len l a b p n
          refine Wp.step (fun k => spec_SplitPlanes.l1.eq_2 ..) (Wp.neg (by omega) (Wp.pos (by omega) ?_))
          rw [w64 (x := (n : Int) + 1) (by omega) (by omega)]
          have ex : x = imgOf (fun x y => splPix l a p n x y) a b := by
            rw [spl_img l a b p n hlen (by omega)]
            refine bl_ext (by rw [hx, plI_len]) fun j hj => ?_
            rw [plI_len] at hj
            unfold plI
            rw [h j (by omega), bl_map_range _ _ _ hj]
          have es : splAll l a b p n ++ [(⟨a, b, 1, x⟩ : S27)] = splAll l a b p (n + 1) := by
            rw [splAll, ex]
            rfl
          rw [es]
          exact nx
        | succ d ih2 =>
          intro i x hd hx h
          have hi2 : i * p + p ≤ b * a * p := by
            have : (i + 1) * p ≤ b * a * p := Nat.mul_le_mul_right p (by omega)
            rw [Nat.succ_mul] at this
            omega
          have m2 : b * a * p ≤ 256 * 4 := Nat.mul_le_mul m1 (by omega)
          refine Wp.step (fun k => spec_SplitPlanes.l1.eq_2 ..) (Wp.pos (by omega) ?_)
          have e2 : (i : Int) * p + n = ((i * p + n : Nat) : Int) := by rw [Int.natCast_add, Int.natCast_mul]
          rw [w64 (x := (i : Int) * p) (by rw [← Int.natCast_mul]; omega) (by rw [← Int.natCast_mul]; omega), e2, w64 (x := ((i * p + n : Nat) : Int)) (by omega) (by omega)]
          refine Wp.pos (by omega) (Wp.pos (by omega) (Wp.pos (by omega) ?_))
          rw [bl_rd, w64 (x := (i : Int) + 1) (by omega) (by omega), Int.toNat_natCast]
          refine ih2 (i + 1) _ (by omega) (by rw [List.length_set]; exact hx) fun j hj => ?_
          rw [bl_set _ _ (by omega)]
          split
          · rename_i ej; rw [ej]
          · exact h j (by omega)
      exact inner (b * a) 0 _ (by omega) (by simp) (fun j hj => absurd hj (Nat.not_lt_zero _))
  exact key p 0 (by omega)
theorem rdT_mem (x : List S27) (i : Nat) (h : i < x.length) : rd_T27 x (i : Int) ∈ x := by
  unfold rd_T27
  rw [Int.toNat_natCast, List.getD_eq_getElem?_getD, List.getElem?_eq_getElem h]
  exact List.getElem_mem _
theorem w_equalImages (x : List S27) (h : x.length ≤ 1000000) (hm : ∀ m ∈ x, m.f3.length ≤ 1000000000) : Wp (fun k => laws_equalImages.f k x x) (fun r => r = true) := by
  unfold laws_equalImages.f
  refine Wp.pos rfl ?_
  have key : ∀ d (i : Nat), i + d = x.length → Wp (fun k => laws_equalImages.l0 k x x i) (fun r => r = true) := by
    intro d
    induction d with
    | zero =>
      intro i hd
      exact Wp.step (fun k => laws_equalImages.l0.eq_2 ..) (Wp.neg (by omega) (Wp.ret rfl))
    | succ d ih =>
      intro i hd
      have n := ih (i + 1) (by omega)
      refine Wp.step (fun k => laws_equalImages.l0.eq_2 ..) (Wp.pos (by omega) (Wp.pos (by omega) (Wp.pos (by omega) ?_)))
      refine Wp.call (w_equalImage _ _ _ _ _ _ _ _ (hm _ (rdT_mem x i (by omega)))) ?_
      rintro _ rfl
      refine Wp.pos (by simp) ?_
      rw [w64 (x := (i : Int) + 1) (by omega) (by omega)]
      exact n
  exact key x.length 0 (by omega)
theorem splI_len (a b c : Int) (l : List Int) : (splI a b c l).length ≤ 4 ∧ ∀ m ∈ splI a b c l, m.f3.length ≤ 1000000000 := by
  unfold splI
  split
  · rename_i hi
    obtain ⟨a, b, p, rfl, rfl, rfl, ha, hb, hp, hlen, hB⟩ := img_nat hi
    have m1 : b * a ≤ 16 * 16 := Nat.mul_le_mul (by omega) (by omega)
    rw [Int.toNat_natCast, splAll_pl l a b p hlen p (Nat.le_refl _)]
    refine ⟨by rw [List.length_map, List.length_range]; omega, fun m hm => ?_⟩
    obtain ⟨k, hk, rfl⟩ := List.mem_map.1 hm
    show (plI l p k (b * a)).length ≤ _
    rw [plI_len]
    omega
  · simp
end Go.Proofs.Yteeeedmmcdlhjaa.P
namespace Go.Proofs.Yteeeedmmcdlhjaa.P
open Go.RowKit Go.Proofs.YteeeedmmcdlhjaaW.PrintWords Go.Proofs.YteeeedmmcdlhjaaW.PrintLast Go.Proofs.YteeeedmmcdlhjaaW.PrintMore Go.Proofs.Yteeeedmmcdlhjaa.Wp
set_option linter.unusedVariables false
set_option linter.unusedSimpArgs false
def chkM (L : List S27) (j : Nat) : Bool := imgB (rd_T27 L (j : Int)).f0 (rd_T27 L (j : Int)).f1 (rd_T27 L (j : Int)).f2 (rd_T27 L (j : Int)).f3 && (decide ((rd_T27 L (j : Int)).f2 = 1) && (decide ((rd_T27 L (j : Int)).f0 = (rd_T27 L 0).f0) && decide ((rd_T27 L (j : Int)).f1 = (rd_T27 L 0).f1)))
def allM (L : List S27) : Nat → Nat → Bool
  | 0, _ => true
  | d + 1, i => chkM L i && allM L d (i + 1)
theorem allM_iff (L : List S27) : ∀ (d i : Nat), allM L d i = true ↔ ∀ j, i ≤ j → j < i + d → chkM L j = true
  | 0, i => ⟨fun _ j h1 h2 => by omega, fun _ => rfl⟩
  | d + 1, i => by
    rw [allM, Bool.and_eq_true, allM_iff L d (i + 1)]
    constructor
    · rintro ⟨h1, h2⟩ j h3 h4
      by_cases e : j = i
      · rw [e]; exact h1
      · exact h2 j (by omega) (by omega)
    · intro h
      exact ⟨h i (by omega) (by omega), fun j h1 h2 => h j (by omega) (by omega)⟩
def okM (L : List S27) : Bool := decide (1 ≤ L.length ∧ L.length ≤ 4) && allM L L.length 0
def mrgI (L : List S27) : Int × Int × Int × List Int × Bool := if okM L = true then ((rd_T27 L 0).f0, (rd_T27 L 0).f1, (L.length : Int), imgOf (fun x y => mrgPix L x y L.length) (rd_T27 L 0).f0.toNat (rd_T27 L 0).f1.toNat, true) else (0, 0, 0, [], false)
theorem isImage_eq (a b c : Int) (l : List Int) : impl_isImage.f a b c l = some (imgB a b c l) := by
  obtain ⟨r, rfl, K, h⟩ := w_iImage a b c l
  exact h K (Nat.le_refl _)
theorem mrgGo_eq (L : List S27) : ∀ (d i : Nat), mrgGo L d i = some (allM L d i)
  | 0, _ => rfl
  | d + 1, i => by
    rw [mrgGo, isImage_eq, Option.bind_some, allM, mrgGo_eq L d (i + 1)]
    unfold chkM
    by_cases h0 : imgB (rd_T27 L (i : Int)).f0 (rd_T27 L (i : Int)).f1 (rd_T27 L (i : Int)).f2 (rd_T27 L (i : Int)).f3 = true
    · rw [if_pos h0, h0]
      by_cases h1 : (rd_T27 L (i : Int)).f2 = 1
      · rw [if_pos h1, decide_eq_true h1]
        by_cases h2 : (rd_T27 L (i : Int)).f0 = (rd_T27 L 0).f0
        · rw [if_pos h2, decide_eq_true h2]
          by_cases h3 : (rd_T27 L (i : Int)).f1 = (rd_T27 L 0).f1
          · rw [if_pos h3, decide_eq_true h3]; rfl
          · rw [if_neg h3, decide_eq_false h3]; rfl
        · rw [if_neg h2, decide_eq_false h2]; rfl
      · rw [if_neg h1, decide_eq_false h1]; rfl
    · rw [if_neg h0, Bool.eq_false_iff.mpr h0]; rfl
theorem w_iMerge (L : List S27) : Wp (fun _ => impl_MergePlanes.f L) (fun r => r = mrgI L) := by
  refine Wp.of (fun _ => ?_) rfl
  unfold impl_MergePlanes.f mrgI okM
  by_cases h : 1 ≤ L.length ∧ L.length ≤ 4
  · rw [if_pos h, mrgGo_eq, Option.bind_some, decide_eq_true h, Bool.true_and]
    by_cases h2 : allM L L.length 0 = true
    · rw [if_pos h2, if_pos h2]
    · rw [if_neg h2, if_neg h2]
  · rw [if_neg h, decide_eq_false h]
    rfl
theorem okM_nat {L : List S27} (h : okM L = true) : ∃ a b : Nat, (rd_T27 L 0).f0 = a ∧ (rd_T27 L 0).f1 = b ∧ (1 ≤ L.length ∧ L.length ≤ 4) ∧ (1 ≤ a ∧ a ≤ 16) ∧ (1 ≤ b ∧ b ≤ 16) ∧
    ∀ j : Nat, j < L.length → (rd_T27 L (j : Int)).f0 = a ∧ (rd_T27 L (j : Int)).f1 = b ∧ (rd_T27 L (j : Int)).f2 = 1 ∧ (rd_T27 L (j : Int)).f3.length = b * a ∧ ∀ v ∈ (rd_T27 L (j : Int)).f3, 0 ≤ v ∧ v ≤ 255 := by
  unfold okM at h
  rw [Bool.and_eq_true, decide_eq_true_eq, allM_iff] at h
  obtain ⟨hn, h⟩ := h
  have g : ∀ j : Nat, j < L.length → imgB (rd_T27 L (j : Int)).f0 (rd_T27 L (j : Int)).f1 (rd_T27 L (j : Int)).f2 (rd_T27 L (j : Int)).f3 = true ∧ (rd_T27 L (j : Int)).f2 = 1 ∧ (rd_T27 L (j : Int)).f0 = (rd_T27 L 0).f0 ∧ (rd_T27 L (j : Int)).f1 = (rd_T27 L 0).f1 := fun j hj => by
    have := h j (by omega) (by omega)
    unfold chkM at this
    simpa only [Bool.and_eq_true, decide_eq_true_eq] using this
  have g0 := g 0 (by omega)
  obtain ⟨a, b, p, ea, eb, ec, ha, hb, hp, hl, hB⟩ := img_nat g0.1
  rw [show (((0 : Nat)) : Int) = 0 from rfl] at ea eb
  refine ⟨a, b, ea, eb, hn, ha, hb, fun j hj => ?_⟩
  obtain ⟨h1, h2, h3, h4⟩ := g j hj
  obtain ⟨a2, b2, p2, ea2, eb2, ec2, ha2, hb2, hp2, hl2, hB2⟩ := img_nat h1
  rw [ea] at h3
  rw [eb] at h4
  refine ⟨h3, h4, h2, ?_, hB2⟩
  have e1 : a2 = a := by omega
  have e2 : b2 = b := by omega
  have e3 : p2 = 1 := by omega
  rw [hl2, e1, e2, e3, Nat.mul_one]
theorem mrgPix_at (L : List S27) (a b : Nat) (i j : Nat) (hj : j < a) (hi : i < b) (h : ∀ j : Nat, j < L.length → (rd_T27 L (j : Int)).f0 = a ∧ (rd_T27 L (j : Int)).f1 = b ∧ (rd_T27 L (j : Int)).f2 = 1 ∧ (rd_T27 L (j : Int)).f3.length = b * a ∧ ∀ v ∈ (rd_T27 L (j : Int)).f3, 0 ≤ v ∧ v ≤ 255) :
    ∀ n : Nat, n ≤ L.length → mrgPix L j i n = (List.range n).map fun k : Nat => (rd_T27 L (k : Int)).f3.getD (i * a + j) 0 := by
  intro n
  induction n with
  | zero => intro _; rfl
  | succ n ih =>
    intro hn
    obtain ⟨h0, h1, h2, h3, h4⟩ := h n hn
    have hlen := pix_len (rd_T27 L (n : Int)).f3 a b 1 j i (by rw [h3, Nat.mul_one]) hj hi
    rw [mrgPix, ih (by omega), List.range_succ, List.map_append, h0, h2]
    congr 1
    have e := pix_get (l := (rd_T27 L (n : Int)).f3) (n := a) (p := 1) (x := j) (y := i) 0 (Int.mul_nonneg (Int.add_nonneg (Int.mul_nonneg (by omega) (by omega)) (by omega)) (by omega)) (by omega)
    have e2 : ((i : Int) * a + j) * 1 + (0 : Nat) = ((i * a + j : Nat) : Int) := by rw [Int.mul_one, Int.natCast_add, Int.natCast_mul]; omega
    rw [e2, bl_rd] at e
    have hlen : (pixOf (rd_T27 L (n : Int)).f3 a 1 j i).length = 1 := hlen
    obtain ⟨z, hz⟩ := List.length_eq_one_iff.1 hlen
    rw [hz] at e ⊢
    simp only [List.getD_cons_zero] at e
    rw [e]
    rfl
theorem w_sMerge (L : List S27) (hm : ∀ m ∈ L, m.f3.length ≤ 1000000000) : Wp (fun k => spec_MergePlanes.f k L) (fun r => r = mrgI L) := by
  unfold spec_MergePlanes.f
  refine Wp.call (w_inRange0 _ _ _) ?_
  rintro _ rfl
  refine Wp.ite (fun h => ?_) (fun h => Wp.ret ?_)
  · have h : 1 ≤ L.length ∧ L.length ≤ 4 := by
      have := of_decide_eq_true h
      omega
    have bad : allM L L.length 0 = false → ((0 : Int), (0 : Int), (0 : Int), ([] : List Int), false) = mrgI L := fun e => by
      unfold mrgI okM
      rw [e, Bool.and_false, if_neg (by decide)]
    have key : ∀ d (i : Nat), i + d = L.length → (∀ j, j < i → chkM L j = true) → Wp (fun k => spec_MergePlanes.l0 k L i) (fun r => r = mrgI L) := by
      intro d
      induction d with
      | zero =>
        intro i hd hall
        have hok : okM L = true := by
          unfold okM
          rw [Bool.and_eq_true, decide_eq_true_eq, allM_iff]
          exact ⟨h, fun j _ hj => hall j (by omega)⟩
        obtain ⟨a, b, ea, eb, _, ha, hb, hj⟩ := okM_nat hok
        refine Wp.step (fun k => spec_MergePlanes.l0.eq_2 ..) (Wp.neg (by omega) (Wp.pos (by omega) ?_))
        rw [ea, eb]
        refine Wp.call (w_newImage a b L.length (by omega) (by omega) (by omega)) ?_
        rintro _ rfl
        dsimp only
        have em : mrgI L = ((a : Int), (b : Int), (L.length : Int), imgOf (fun x y => mrgPix L x y L.length) a b, true) := by
          unfold mrgI
          rw [if_pos hok, ea, eb]
          simp only [Int.toNat_natCast]
        rw [em]
        obtain ⟨p, hp⟩ : ∃ p, L.length = p := ⟨_, rfl⟩
        rw [hp] at h hj ⊢
        have e : ((a : Int) * b * p).toNat = b * a * p := by rw [← Int.natCast_mul, ← Int.natCast_mul, Int.toNat_natCast, Nat.mul_comm a b]
        rw [e]
        have m1 : b * a ≤ 16 * 16 := Nat.mul_le_mul (by omega) (by omega)
        have m2 : b * a * p ≤ 256 * 4 := Nat.mul_le_mul m1 (by omega)
        have hp0 : 0 < p := by omega
        have inner : ∀ d (t : Nat) (x : List Int), t + d = b * a * p → x.length = b * a * p → (∀ j, j < t → x.getD j 0 = (rd_T27 L ((j % p : Nat) : Int)).f3.getD (j / p) 0) →
            Wp (fun k => spec_MergePlanes.l1 k L t a b p x) (fun r => r = ((a : Int), (b : Int), (p : Int), imgOf (fun x y => mrgPix L x y p) a b, true)) := by
          intro d
          induction d with
          | zero =>
            intro t x hd hx hg
            refine Wp.step (fun k => spec_MergePlanes.l1.eq_2 ..) (Wp.neg (by omega) (Wp.ret ?_))
            congr 4
            refine img_ext (fun x y => mrgPix L x y p) a b p x (fun i j hj2 hi2 => ?_) hx (fun i j q hi2 hj2 hq => ?_)
            · show (mrgPix L j i p).length = p
              rw [mrgPix_at L a b i j hj2 hi2 (by rw [hp]; exact hj) p (by omega)]
              simp
            · show _ = (mrgPix L j i p).getD q 0
              rw [mrgPix_at L a b i j hj2 hi2 (by rw [hp]; exact hj) p (by omega), bl_map_range _ _ _ hq]
              have hlt : (i * a + j) * p + q < b * a * p := by
                have h1 : i * a + j + 1 ≤ b * a := by
                  have : (i + 1) * a ≤ b * a := Nat.mul_le_mul_right a hi2
                  rw [Nat.succ_mul] at this
                  omega
                have : (i * a + j + 1) * p ≤ b * a * p := Nat.mul_le_mul_right p h1
                rw [Nat.succ_mul] at this
                omega
              rw [hg _ (by omega)]
              have e1 : ((i * a + j) * p + q) % p = q := by rw [Nat.add_comm, Nat.add_mul_mod_self_right, Nat.mod_eq_of_lt hq]
              have e2 : ((i * a + j) * p + q) / p = i * a + j := by rw [Nat.add_comm, Nat.add_mul_div_right _ _ hp0, Nat.div_eq_of_lt hq, Nat.zero_add]
              rw [e1, e2]
          | succ d ih2 =>
            intro t x hd hx hg
            have hm1 : t % p < p := Nat.mod_lt _ hp0
            have hd1 : t / p < b * a := Nat.div_lt_of_lt_mul (by rw [Nat.mul_comm]; omega)
            have tm : Int.tmod (t : Int) (p : Int) = ((t % p : Nat) : Int) := by rw [Int.tmod_eq_emod_of_nonneg (by omega)]; exact (Int.natCast_emod t p).symm
            have td : Int.tdiv (t : Int) (p : Int) = ((t / p : Nat) : Int) := by rw [Int.tdiv_eq_ediv_of_nonneg (by omega)]; exact (Int.natCast_ediv t p).symm
            have hj1 := hj _ hm1
            refine Wp.step (fun k => spec_MergePlanes.l1.eq_2 ..) (Wp.pos (by omega) (Wp.neg (by omega) ?_))
            rw [hp, tm, td]
            generalize hmd : t % p = md at hm1 hj1
            generalize hdv : t / p = dv at hd1
            rw [w64 (x := (dv : Int)) (by omega) (by omega), w64 (x := (t : Int) + 1) (by omega) (by omega)]
            refine Wp.pos (by omega) (Wp.pos (by omega) (Wp.pos (by omega) (Wp.pos (by have := hj1.2.2.2.1; omega) (Wp.pos (by omega) ?_))))
            rw [bl_rd, Int.toNat_natCast]
            refine ih2 (t + 1) _ (by omega) (by rw [List.length_set]; exact hx) fun j hj2 => ?_
            rw [bl_set _ _ (by omega)]
            split
            · rename_i ej; rw [ej, hmd, hdv]
            · exact hg j (by omega)
        exact inner (b * a * p) 0 _ (by omega) (by simp) (fun j hj => absurd hj (Nat.not_lt_zero _))
      | succ d ih =>
        intro i hd hall
        have hml := hm _ (rdT_mem L i (by omega))
        have no : chkM L i = false → allM L L.length 0 = false := fun e => by
          rw [Bool.eq_false_iff]
          intro e2
          have := (allM_iff L _ _).1 e2 i (by omega) (by omega)
          rw [e] at this
          cases this
        refine Wp.step (fun k => spec_MergePlanes.l0.eq_2 ..) (Wp.pos (by omega) (Wp.pos (by omega) ?_))
        refine Wp.call (w_sImage _ _ _ _ hml) ?_
        rintro _ rfl
        refine Wp.ite (fun h0 => ?_) (fun h0 => Wp.ret (bad (no (by unfold chkM; rw [Bool.eq_false_iff.mpr h0]; rfl))))
        refine Wp.ite (fun h1 => ?_) (fun h1 => Wp.ret (bad (no (by unfold chkM; rw [decide_eq_false h1, Bool.false_and, Bool.and_false]))))
        refine Wp.pos (by omega) ?_
        refine Wp.ite (fun h2 => ?_) (fun h2 => Wp.ret (bad (no (by unfold chkM; rw [decide_eq_false h2, Bool.false_and, Bool.and_false, Bool.and_false]))))
        refine Wp.ite (fun h3 => ?_) (fun h3 => Wp.ret (bad (no (by unfold chkM; rw [decide_eq_false h3, Bool.and_false, Bool.and_false, Bool.and_false]))))
        rw [w64 (x := (i : Int) + 1) (by omega) (by omega)]
        refine ih (i + 1) (by omega) fun j hj => ?_
        by_cases e : j = i
        · rw [e]
          unfold chkM
          rw [h0, decide_eq_true h1, decide_eq_true h2, decide_eq_true h3]
          rfl
        · exact hall j (by omega)
    exact key L.length 0 (by omega) (fun j hj => absurd hj (Nat.not_lt_zero _))
  · have h : ¬ (1 ≤ L.length ∧ L.length ≤ 4) := fun e => h (decide_eq_true (by omega))
    unfold mrgI okM
    rw [decide_eq_false h]
    rfl
theorem mrg_split (L : List S27) (h : okM L = true) : splI (mrgI L).1 (mrgI L).2.1 (mrgI L).2.2.1 (mrgI L).2.2.2.1 = L := by
  obtain ⟨a, b, ea, eb, hn, ha, hb, hj⟩ := okM_nat h
  unfold mrgI
  rw [if_pos h, ea, eb]
  simp only [Int.toNat_natCast]
  obtain ⟨p, hp⟩ : ∃ p, L.length = p := ⟨_, rfl⟩
  rw [hp]
  have hpx : ∀ i j : Nat, j < a → i < b → mrgPix L j i p = (List.range p).map fun k : Nat => (rd_T27 L (k : Int)).f3.getD (i * a + j) 0 := fun i j hj2 hi2 => mrgPix_at L a b i j hj2 hi2 hj p (by omega)
  have hf : ∀ i j : Nat, j < a → i < b → ((fun x y => mrgPix L x y p) (j : Int) (i : Int)).length = p := fun i j hj2 hi2 => by
    show (mrgPix L j i p).length = p
    rw [hpx i j hj2 hi2]; simp
  have hB : imgB a b p (imgOf (fun x y => mrgPix L x y p) a b) = true := by
    refine img_ok _ a b p ha hb (by omega) hf (fun i j hj2 hi2 v hv => ?_)
    have hv : v ∈ mrgPix L j i p := hv
    rw [hpx i j hj2 hi2] at hv
    obtain ⟨k, hk, rfl⟩ := List.mem_map.1 hv
    have hk := hj k (by have := List.mem_range.1 hk; omega)
    have hlt : i * a + j < (rd_T27 L (k : Int)).f3.length := by
      rw [hk.2.2.2.1]
      have : (i + 1) * a ≤ b * a := Nat.mul_le_mul_right a hi2
      rw [Nat.succ_mul] at this
      omega
    refine hk.2.2.2.2 _ ?_
    rw [List.getD_eq_getElem?_getD, List.getElem?_eq_getElem hlt]
    exact List.getElem_mem _
  unfold splI
  rw [if_pos hB, Int.toNat_natCast]
  have key : ∀ n : Nat, n ≤ p → splAll (imgOf (fun x y => mrgPix L x y p) a b) a b p n = L.take n := by
    intro n
    induction n with
    | zero => intro _; simp [splAll]
    | succ n ih =>
      intro hn2
      have hl : n < L.length := by omega
      rw [splAll, ih (by omega), List.take_succ_eq_append_getElem hl]
      congr 2
      obtain ⟨h0, h1, h2, h3, h4⟩ := hj n hl
      have er : rd_T27 L (n : Int) = L[n] := by
        unfold rd_T27
        rw [Int.toNat_natCast, List.getD_eq_getElem?_getD, List.getElem?_eq_getElem hl]
        rfl
      have ei : imgOf (fun x y => splPix (imgOf (fun x y => mrgPix L x y p) a b) a p n x y) a b = (rd_T27 L (n : Int)).f3 := by
        rw [← img_self (rd_T27 L (n : Int)).f3 a b 1 (by rw [h3, Nat.mul_one])]
        refine img_congr _ _ a b fun i j hj2 hi2 => ?_
        have hpix := pix_img (fun x y => mrgPix L x y p) a b p hf i j hj2 hi2
        have hpix : pixOf (imgOf (fun x y => mrgPix L x y p) a b) a p j i = mrgPix L j i p := hpix
        rw [spl_get _ _ _ _ _ _ (by omega) (by rw [hpix, hpx i j hj2 hi2]; simp; omega), Int.toNat_natCast, hpix, hpx i j hj2 hi2, bl_map_range _ _ _ (by omega)]
        have e := pix_get (l := (rd_T27 L (n : Int)).f3) (n := a) (p := 1) (x := j) (y := i) 0 (Int.mul_nonneg (Int.add_nonneg (Int.mul_nonneg (by omega) (by omega)) (by omega)) (by omega)) (by omega)
        have e2 : ((i : Int) * a + j) * 1 + (0 : Nat) = ((i * a + j : Nat) : Int) := by rw [Int.mul_one, Int.natCast_add, Int.natCast_mul]; omega
        rw [e2, bl_rd] at e
        have hlen : (pixOf (rd_T27 L (n : Int)).f3 a 1 j i).length = 1 := pix_len (rd_T27 L (n : Int)).f3 a b 1 j i (by rw [h3, Nat.mul_one]) hj2 hi2
        obtain ⟨z, hz⟩ := List.length_eq_one_iff.1 hlen
        have hz2 : pixOf (rd_T27 L (n : Int)).f3 a (1 : Nat) j i = [z] := hz
        rw [hz] at e
        simp only [List.getD_cons_zero] at e
        rw [hz2, e]
      simp only [Int.toNat_natCast]
      rw [ei, ← er, ← h0, ← h1, ← h2]
  rw [key p (Nat.le_refl _), List.take_of_length_le (by omega)]
end Go.Proofs.Yteeeedmmcdlhjaa.P
namespace Go.Proofs.Yteeeedmmcdlhjaa.P
open Go.RowKit Go.Proofs.YteeeedmmcdlhjaaW.PrintWords Go.Proofs.YteeeedmmcdlhjaaW.PrintLast Go.Proofs.YteeeedmmcdlhjaaW.PrintMore Go.Proofs.Yteeeedmmcdlhjaa.Wp
set_option linter.unusedVariables false
theorem rd_mem (l : List Int) (i : Int) (h0 : 0 ≤ i) (h1 : i < (l.length : Int)) : rd l i ∈ l := by
  unfold rd
  rw [List.getD_eq_getElem?_getD, List.getElem?_eq_getElem (by omega)]
  exact List.getElem_mem _
theorem rd_le {l : List Int} {a b : Int} (h : ∀ x ∈ l, a ≤ x ∧ x ≤ b) (i : Int) (h0 : 0 ≤ i) (h1 : i < (l.length : Int)) : a ≤ rd l i ∧ rd l i ≤ b := h _ (rd_mem l i h0 h1)
def Rdr (b : List Int) (p : Int) : Prop := (∀ x ∈ b, 0 ≤ x ∧ x ≤ 255) ∧ b.length ≤ 2000 ∧ 0 ≤ p ∧ p ≤ 1000000
theorem tmod_range (x n : Int) (hx : 0 ≤ x) (hn : 0 < n) : 0 ≤ Int.tmod x n ∧ Int.tmod x n < n := by
  rw [Int.tmod_eq_emod_of_nonneg hx]
  exact ⟨Int.emod_nonneg _ (by omega), Int.emod_lt_of_pos _ hn⟩
theorem bits_xor_nonneg (x y : Int) (hx : 0 ≤ x) (hx2 : x ≤ 1000000000000) (hy : 0 ≤ y) (hy2 : y ≤ 1000000000000) : 0 ≤ Go.bits .xor .i64 x y := by
  obtain ⟨a, rfl⟩ := Int.eq_ofNat_of_zero_le hx
  obtain ⟨b, rfl⟩ := Int.eq_ofNat_of_zero_le hy
  have ha : a < 2 ^ 62 := by omega
  have hb : b < 2 ^ 62 := by omega
  have ha' : a % 2 ^ 64 = a := Nat.mod_eq_of_lt (by omega)
  have hb' : b % 2 ^ 64 = b := Nat.mod_eq_of_lt (by omega)
  have hc : a ^^^ b < 2 ^ 62 := Nat.xor_lt_two_pow ha hb
  have hw : IntKind.i64.wrap ((a ^^^ b : Nat) : Int) = ((a ^^^ b : Nat) : Int) := by
    have h64 : IntKind.i64.wrap ((a ^^^ b : Nat) : Int) = wrap64 ((a ^^^ b : Nat) : Int) := i64_w _
    rw [h64, w64 (by omega) (by omega)]
  have he : Go.bits .xor .i64 (a : Int) (b : Int) = ((a ^^^ b : Nat) : Int) := by
    have hbits : IntKind.i64.bits = 64 := rfl
    simp only [Go.bits, BitVec.ofInt_natCast, BitVec.toNat_xor, BitVec.toNat_ofNat, hbits, ha', hb', hw]
  rw [he]
  exact Int.natCast_nonneg _
theorem w_newReader (l : List Int) (hb : ∀ x ∈ l, (Lit.int .u8 x).wf = true) : Wp (fun _ => spec_newReader.f l) (fun r => Rdr r.1 r.2 ∧ r.2 = 0) := by
  have hb' : ∀ x ∈ l, 0 ≤ x ∧ x ≤ 255 := fun x hx => by
    have h := hb x hx
    simp only [Lit.wf, Bool.and_eq_true, decide_eq_true_eq] at h
    have h0 : IntKind.u8.min = 0 := rfl
    have h1 : IntKind.u8.max = 255 := rfl
    omega
  unfold spec_newReader.f
  refine Wp.ite (fun h => Wp.pos (by omega) (Wp.ret ?_)) (fun h => Wp.ret ?_)
  · exact ⟨⟨fun x hx => hb' x (List.mem_of_mem_take hx), by show (l.take 2000).length ≤ 2000; rw [List.length_take]; omega, Int.le_refl _, by show (0 : Int) ≤ 1000000; omega⟩, rfl⟩
  · exact ⟨⟨hb', by show l.length ≤ 2000; omega, Int.le_refl _, by show (0 : Int) ≤ 1000000; omega⟩, rfl⟩
theorem w_pick (b : List Int) (p n : Int) (h : Rdr b p) (hp : p < 1000000) (hn : n ≤ 1000000000000) :
    Wp (fun k => spec_reader_pick.f k b p n) (fun r => ∃ x, r = (x, p + 1) ∧ 0 ≤ x ∧ (1 ≤ n → x < n) ∧ (n < 1 → x = 0)) := by
  obtain ⟨hb, hl, h0, h1⟩ := h
  unfold spec_reader_pick.f
  rw [w64 (x := p + 1) (by omega) (by omega)]
  refine Wp.ite (fun hn1 => ?_) (fun hn1 => ?_)
  · refine Wp.step (fun k => spec_reader_pick.j0.eq_2 ..) (Wp.pos rfl (Wp.ret ?_))
    exact ⟨0, rfl, by omega, by omega, fun _ => rfl⟩
  · refine Wp.step (fun k => spec_reader_pick.j0.eq_2 ..) ?_
    rw [show p + 1 - 1 = p by omega, w64 (x := p) (by omega) (by omega)]
    refine Wp.ite (fun hz => Wp.ret ?_) (fun hz => ?_)
    · exact ⟨0, rfl, by omega, by omega, by omega⟩
    · have hpos : 0 < (b.length : Int) := by
        have : ¬ (b.length : Int) = 0 := by simpa using hz
        omega
      refine Wp.ite (fun hlt => ?_) (fun hge => ?_)
      · refine Wp.pos h0 (Wp.neg (by omega) (Wp.ret ?_))
        have hr := rd_le hb p h0 hlt
        rw [w64 (x := rd b p) (by omega) (by omega)]
        have := tmod_range (rd b p) n hr.1 (by omega)
        exact ⟨_, rfl, this.1, fun _ => this.2, by omega⟩
      · refine Wp.neg (by omega) ?_
        have t1 := tmod_range p b.length h0 hpos
        refine Wp.pos t1.1 (Wp.pos t1.2 ?_)
        rw [w64 (x := p * 7) (by omega) (by omega), w64 (x := p * 7 + 3) (by omega) (by omega)]
        have t2 := tmod_range (p * 7 + 3) b.length (by omega) hpos
        refine Wp.pos t2.1 (Wp.pos t2.2 (Wp.neg (by omega) (Wp.ret ?_)))
        have r1 := rd_le hb _ t1.1 t1.2
        have r2 := rd_le hb _ t2.1 t2.2
        generalize rd b (Int.tmod p b.length) = u at r1 ⊢
        generalize rd b (Int.tmod (p * 7 + 3) b.length) = v at r2 ⊢
        have hd : 0 ≤ Int.tdiv p b.length ∧ Int.tdiv p b.length ≤ p := by
          rw [Int.tdiv_eq_ediv_of_nonneg h0]
          exact ⟨Int.ediv_nonneg h0 (by omega), Int.ediv_le_self _ h0⟩
        generalize Int.tdiv p b.length = d at hd ⊢
        rw [w64 (x := u) (by omega) (by omega), w64 (x := u * 131) (by omega) (by omega), w64 (x := v) (by omega) (by omega), w64 (x := v * 1117) (by omega) (by omega),
          w64 (x := u * 131 + v * 1117) (by omega) (by omega), w64 (x := p * 29) (by omega) (by omega), w64 (x := u * 131 + v * 1117 + p * 29) (by omega) (by omega),
          w64 (x := d) (by omega) (by omega), w64 (x := d * 53) (by omega) (by omega), w64 (x := u * 131 + v * 1117 + p * 29 + d * 53) (by omega) (by omega)]
        have hs : 0 ≤ u * 131 + v * 1117 + p * 29 + d * 53 ∧ u * 131 + v * 1117 + p * 29 + d * 53 ≤ 1000000000 := by omega
        generalize u * 131 + v * 1117 + p * 29 + d * 53 = s at hs ⊢
        have hq : 0 ≤ Int.tdiv s 64 ∧ Int.tdiv s 64 ≤ s := by
          rw [Int.tdiv_eq_ediv_of_nonneg hs.1]
          exact ⟨Int.ediv_nonneg hs.1 (by omega), Int.ediv_le_self _ hs.1⟩
        rw [w64 (x := Int.tdiv s 64) (by omega) (by omega)]
        have hx := bits_xor_nonneg s (Int.tdiv s 64) hs.1 (by omega) hq.1 (by omega)
        have := tmod_range _ n hx (by omega)
        exact ⟨_, rfl, this.1, fun _ => this.2, by omega⟩
theorem Rdr.up {b : List Int} {p q : Int} (h : Rdr b p) (h1 : p ≤ q) (h2 : q ≤ 1000000) : Rdr b q := ⟨h.1, h.2.1, by have := h.2.2.1; omega, h2⟩
theorem w_one (b : List Int) (p : Int) (l : List Int) (h : Rdr b p) (hp : p < 1000000) (hl : 0 < l.length) (hl2 : l.length ≤ 1000) :
    Wp (fun k => spec_reader_one.f k b p l) (fun r => ∃ x, r = (x, p + 1) ∧ x ∈ l) := by
  unfold spec_reader_one.f
  refine Wp.call (w_pick b p l.length h hp (by omega)) ?_
  rintro _ ⟨x, rfl, h0, h1, _⟩
  have h1 := h1 (by omega)
  exact Wp.pos h0 (Wp.pos h1 (Wp.ret ⟨_, rfl, rd_mem l x h0 h1⟩))
end Go.Proofs.Yteeeedmmcdlhjaa.P
namespace Go.Proofs.Yteeeedmmcdlhjaa.P
open Go.RowKit Go.Proofs.YteeeedmmcdlhjaaW.PrintWords Go.Proofs.YteeeedmmcdlhjaaW.PrintLast Go.Proofs.YteeeedmmcdlhjaaW.PrintMore Go.Proofs.Yteeeedmmcdlhjaa.Wp
set_option linter.unusedVariables false
set_option linter.unusedSimpArgs false
theorem allB_set {l : List Int} (h : ∀ x ∈ l, 0 ≤ x ∧ x ≤ 255) (i : Nat) (v : Int) (hv : 0 ≤ v ∧ v ≤ 255) : ∀ x ∈ l.set i v, 0 ≤ x ∧ x ≤ 255 := fun x hx => by
  rcases List.mem_or_eq_of_mem_set hx with h1 | h1
  · exact h x h1
  · rw [h1]; exact hv
def Rnd (p : Int) (r : Int × Int × Int × List Int × Int) (q : Int) : Prop :=
  (1 ≤ r.1 ∧ r.1 ≤ 8) ∧ (1 ≤ r.2.1 ∧ r.2.1 ≤ 8) ∧ r.2.2.1 = p ∧ (r.2.2.2.1.length : Int) = r.1 * r.2.1 * p ∧ (∀ x ∈ r.2.2.2.1, 0 ≤ x ∧ x ≤ 255) ∧ q ≤ r.2.2.2.2 ∧ r.2.2.2.2 ≤ q + 300
theorem prod_le {a b c : Int} (h0 : 1 ≤ a ∧ a ≤ 8) (h1 : 1 ≤ b ∧ b ≤ 8) (h2 : 1 ≤ c ∧ c ≤ 4) : 1 ≤ a * b ∧ a * b ≤ 64 ∧ 1 ≤ a * b * c ∧ a * b * c ≤ 256 := by
  have m1 : 1 * 1 ≤ a * b := Int.mul_le_mul h0.1 h1.1 (by omega) (by omega)
  have m2 : a * b ≤ 8 * 8 := Int.mul_le_mul h0.2 h1.2 (by omega) (by omega)
  have m3 : 1 * 1 ≤ a * b * c := Int.mul_le_mul (by omega) h2.1 (by omega) (by omega)
  have m4 : a * b * c ≤ 64 * 4 := Int.mul_le_mul (by omega) h2.2 (by omega) (by omega)
  omega
theorem w_randomImage (b : List Int) (q p : Int) (h : Rdr b q) (hq : q ≤ 900000) (hp : 1 ≤ p ∧ p ≤ 4) : Wp (fun k => spec_randomImage.f k b q p) (fun r => Rnd p r q) := by
  unfold spec_randomImage.f
  refine Wp.call (w_one b q _ h (by omega) (by simp) (by simp)) ?_
  rintro _ ⟨sx, rfl, hsx⟩
  have hsx : 1 ≤ sx ∧ sx ≤ 8 := by simp only [List.mem_cons, List.not_mem_nil, or_false] at hsx; omega
  refine Wp.call (w_one b _ _ (h.up (by first | omega | (simp only; omega)) (by first | omega | (simp only; omega))) (by first | omega | (simp only; omega)) (by simp) (by simp)) ?_
  rintro _ ⟨sy, rfl, hsy⟩
  have hsy : 1 ≤ sy ∧ sy ≤ 8 := by simp only [List.mem_cons, List.not_mem_nil, or_false] at hsy; omega
  refine Wp.call (w_newImage sx sy p (by omega) (by omega) (by omega)) ?_
  rintro _ rfl
  refine Wp.call (w_pick b _ 4 (h.up (by first | omega | (simp only; omega)) (by first | omega | (simp only; omega))) (by first | omega | (simp only; omega)) (by omega)) ?_
  rintro _ ⟨md, rfl, md0, md1, _⟩
  refine Wp.call (w_pick b _ 256 (h.up (by first | omega | (simp only; omega)) (by first | omega | (simp only; omega))) (by first | omega | (simp only; omega)) (by omega)) ?_
  rintro _ ⟨v, rfl, v0, v1, _⟩
  have v1 := v1 (by omega)
  have hP := prod_le hsx hsy hp
  generalize hL : (sx * sy * p).toNat = L
  have hlen : (List.replicate L (0 : Int)).length = L := by simp
  have hbs : ∀ x ∈ List.replicate L (0 : Int), 0 ≤ x ∧ x ≤ 255 := fun x hx => by rw [List.eq_of_mem_replicate hx]; omega
  dsimp only
  generalize List.replicate L (0 : Int) = l at hlen hbs
  have key : ∀ (d i : Nat) (l : List Int) (v r : Int), i + d = L → l.length = L → (∀ x ∈ l, 0 ≤ x ∧ x ≤ 255) → 0 ≤ v → v < 256 → q ≤ r → r ≤ q + 4 + i → Wp (fun k => spec_randomImage.l0 k md v i b r sx sy p l) (fun r => Rnd p r q) := by
    intro d
    induction d with
    | zero =>
      intro i l v r hd hl hb hv hv1 hr hr1
      refine Wp.step (fun k => spec_randomImage.l0.eq_2 ..) (Wp.neg (by omega) (Wp.ret ?_))
      exact ⟨hsx, hsy, rfl, by first | omega | (simp only; omega), hb, hr, by first | omega | (simp only; omega)⟩
    | succ d ih =>
      intro i l v r hd hl hb hv hv1 hr hr1
      have hR : Rdr b r := h.up hr (by omega)
      have next : ∀ (v' r' : Int), 0 ≤ v' → v' < 256 → q ≤ r' → r' ≤ q + 4 + (i + 1 : Nat) → Wp (fun k => spec_randomImage.l0 k md v' (wrap64 ((i : Int) + 1)) b r' sx sy p (l.set (i : Int).toNat v')) (fun r => Rnd p r q) := by
        intro v' r' h1 h2 h3 h4
        rw [w64 (x := (i : Int) + 1) (by omega) (by omega)]
        exact ih (i + 1) _ v' r' (by omega) (by rw [List.length_set]; exact hl) (allB_set hb _ _ (by omega)) h1 h2 h3 h4
      refine Wp.step (fun k => spec_randomImage.l0.eq_2 ..) (Wp.pos (by omega) ?_)
      refine Wp.ite (fun _ => ?_) (fun _ => Wp.ite (fun _ => ?_) (fun _ => Wp.ite (fun _ => ?_) (fun _ => ?_)))
      · refine Wp.call (w_pick b r 256 hR (by omega) (by omega)) ?_
        rintro _ ⟨u, rfl, u0, u1, _⟩
        exact Wp.pos (by omega) (next u _ u0 (u1 (by omega)) (by first | omega | (simp only; omega)) (by first | omega | (simp only; omega)))
      · refine Wp.call (w_pick b r 5 hR (by omega) (by omega)) ?_
        rintro _ ⟨u, rfl, u0, u1, _⟩
        have u1 := u1 (by omega)
        refine Wp.pos (by omega) ?_
        simp only
        rw [w64 (x := v + u) (by omega) (by omega), w64 (x := v + u + 254) (by omega) (by omega)]
        have ht := tmod_range (v + u + 254) 256 (by omega) (by omega)
        exact next _ _ ht.1 ht.2 (by first | omega | (simp only; omega)) (by first | omega | (simp only; omega))
      · refine Wp.call (w_pick b r 4 hR (by omega) (by omega)) ?_
        rintro _ ⟨u, rfl, u0, u1, _⟩
        have u1 := u1 (by omega)
        refine Wp.pos (by omega) ?_
        simp only
        rw [w64 (x := 60 * u) (by omega) (by omega)]
        exact next _ _ (by omega) (by omega) (by omega) (by omega)
      · exact Wp.pos (by omega) (next v r hv hv1 hr (by omega))
  exact key L 0 l v _ (by omega) hlen hbs v0 v1 (by first | omega | (simp only; omega)) (by first | omega | (simp only; omega))
def Spl (q : Int) (r : Int × Int × Int × List Int × Int) : Prop :=
  (0 ≤ r.1 ∧ r.1 ≤ 17) ∧ (0 ≤ r.2.1 ∧ r.2.1 ≤ 17) ∧ (0 ≤ r.2.2.1 ∧ r.2.2.1 ≤ 5) ∧ r.2.2.2.1.length ≤ 1024 ∧ q ≤ r.2.2.2.2 ∧ r.2.2.2.2 ≤ q + 1000
theorem w_spoilImage (bb : List Int) (q a b c : Int) (l : List Int) (h : Rdr bb q) (hq : q ≤ 900000) (ha : 0 ≤ a ∧ a ≤ 16) (hb : 0 ≤ b ∧ b ≤ 16) (hc : 0 ≤ c ∧ c ≤ 4) (hl : 1 ≤ l.length) (hl2 : l.length ≤ 1024) :
    Wp (fun k => spec_spoilImage.f k bb q a b c l) (fun r => (0 ≤ r.1 ∧ r.1 ≤ 17) ∧ (0 ≤ r.2.1 ∧ r.2.1 ≤ 17) ∧ (0 ≤ r.2.2.1 ∧ r.2.2.1 ≤ 5) ∧ r.2.2.2.1.length ≤ 1024 ∧ q ≤ r.2.2.2.2 ∧ r.2.2.2.2 ≤ q + 2) := by
  unfold spec_spoilImage.f
  refine Wp.call (w_pick bb q 40 h (by omega) (by omega)) ?_
  rintro _ ⟨u, rfl, u0, u1, _⟩
  have h1 : Rdr bb (q + 1) := h.up (by omega) (by omega)
  simp only
  refine Wp.ite (fun _ => ?_) (fun _ => Wp.ite (fun _ => ?_) (fun _ => Wp.ite (fun _ => ?_) (fun _ => Wp.ite (fun _ => ?_) (fun _ => ?_))))
  · refine Wp.call (w_one bb _ _ h1 (by omega) (by simp) (by simp)) ?_
    rintro _ ⟨x, rfl, hx⟩
    rw [w64 (x := a + 1) (by omega) (by omega)] at hx
    simp only [List.mem_cons, List.not_mem_nil, or_false] at hx
    exact Wp.ret ⟨by first | omega | (simp only; omega), by first | omega | (simp only; omega), by first | omega | (simp only; omega), hl2, by first | omega | (simp only; omega), by first | omega | (simp only; omega)⟩
  · exact Wp.pos (by omega) (Wp.ret ⟨by first | omega | (simp only; omega), by first | omega | (simp only; omega), by first | omega | (simp only; omega), by simp only [List.length_drop]; omega, by first | omega | (simp only; omega), by first | omega | (simp only; omega)⟩)
  · refine Wp.call (w_one bb _ _ h1 (by omega) (by simp) (by simp)) ?_
    rintro _ ⟨x, rfl, hx⟩
    exact Wp.pos (by omega) (Wp.ret ⟨by first | omega | (simp only; omega), by first | omega | (simp only; omega), by first | omega | (simp only; omega), by simp only [List.length_set]; omega, by first | omega | (simp only; omega), by first | omega | (simp only; omega)⟩)
  · refine Wp.call (w_one bb _ _ h1 (by omega) (by simp) (by simp)) ?_
    rintro _ ⟨x, rfl, hx⟩
    simp only [List.mem_cons, List.not_mem_nil, or_false] at hx
    exact Wp.ret ⟨by first | omega | (simp only; omega), by first | omega | (simp only; omega), by first | omega | (simp only; omega), hl2, by first | omega | (simp only; omega), by first | omega | (simp only; omega)⟩
  · exact Wp.ret ⟨by first | omega | (simp only; omega), by first | omega | (simp only; omega), by first | omega | (simp only; omega), hl2, by first | omega | (simp only; omega), by first | omega | (simp only; omega)⟩
theorem w_anyPlanes (b : List Int) (q : Int) (h : Rdr b q) (hq : q ≤ 900000) : Wp (fun k => spec_anyPlanes.f k b q) (fun r => (1 ≤ r.1 ∧ r.1 ≤ 4) ∧ r.2 = q + 1) := by
  unfold spec_anyPlanes.f
  refine Wp.call (w_one b q _ h (by omega) (by simp) (by simp)) ?_
  rintro _ ⟨x, rfl, hx⟩
  simp only [List.mem_cons, List.not_mem_nil, or_false] at hx
  exact Wp.ret ⟨by first | omega | (simp only; omega), rfl⟩
theorem Rnd.len {p q : Int} {r : Int × Int × Int × List Int × Int} (h : Rnd p r q) (hp : 1 ≤ p ∧ p ≤ 4) : 1 ≤ r.2.2.2.1.length ∧ r.2.2.2.1.length ≤ 256 := by
  obtain ⟨h0, h1, h2, h3, _⟩ := h
  have := prod_le h0 h1 hp
  omega
theorem w_randomSpoil (b : List Int) (q p : Int) (r : Int × Int × Int × List Int × Int) (h : Rdr b q) (hq : q ≤ 800000) (hp : 1 ≤ p ∧ p ≤ 4) (hr : Rnd p r q) :
    Wp (fun k => spec_spoilImage.f k b r.2.2.2.2 r.1 r.2.1 r.2.2.1 r.2.2.2.1) (fun r => Spl q r ∧ r.2.2.2.2 ≤ q + 302) := by
  have hl := hr.len hp
  obtain ⟨h0, h1, h2, h3, h4, h5, h6⟩ := hr
  refine (w_spoilImage b r.2.2.2.2 _ _ _ _ (h.up h5 (by omega)) (by omega) (by omega) (by omega) (by omega) hl.1 (by omega)).mono ?_
  rintro s ⟨a0, a1, a2, a3, a4, a5⟩
  exact ⟨⟨a0, a1, a2, a3, by omega, by omega⟩, by omega⟩
theorem w_anyImage (b : List Int) (q : Int) (h : Rdr b q) (hq : q ≤ 700000) : Wp (fun k => spec_anyImage.f k b q) (fun r => Spl q r) := by
  unfold spec_anyImage.f
  refine Wp.call (w_anyPlanes b q h (by omega)) ?_
  rintro ⟨p, q'⟩ ⟨hp, e⟩
  simp only at hp e
  subst e
  refine Wp.call (w_randomImage b (q + 1) p (h.up (by omega) (by omega)) (by omega) hp) ?_
  intro r hr
  refine Wp.call (w_randomSpoil b (q + 1) p r (h.up (by omega) (by omega)) (by omega) hp hr) ?_
  rintro s ⟨⟨a0, a1, a2, a3, a4, a5⟩, a6⟩
  refine Wp.ret ⟨a0, a1, a2, a3, by first | omega | (simp only; omega), ?_⟩
  simp only
  omega
end Go.Proofs.Yteeeedmmcdlhjaa.P
namespace Go.Proofs.Yteeeedmmcdlhjaa.P
open Go.RowKit Go.Proofs.YteeeedmmcdlhjaaW.PrintWords Go.Proofs.YteeeedmmcdlhjaaW.PrintLast Go.Proofs.YteeeedmmcdlhjaaW.PrintMore Go.Proofs.Yteeeedmmcdlhjaa.Wp
set_option linter.unusedVariables false
set_option linter.unusedSimpArgs false
theorem w_grayImage (b : List Int) (q : Int) (h : Rdr b q) (hq : q ≤ 600000) : Wp (fun k => spec_grayImage.f k b q) (fun r => r.2.2.2.1.length ≤ 1024 ∧ q ≤ r.2.2.2.2 ∧ r.2.2.2.2 ≤ q + 2000) := by
  unfold spec_grayImage.f
  refine Wp.call (w_pick b q 20 h (by omega) (by omega)) ?_
  rintro _ ⟨x, rfl, _⟩
  have h1 : Rdr b (q + 1) := h.up (by omega) (by omega)
  refine Wp.ite (fun _ => ?_) (fun _ => ?_)
  · refine Wp.call (w_anyImage b _ h1 (by first | omega | (simp only; omega))) ?_
    rintro ⟨r0, r1, r2, r3, r4⟩ ⟨_, _, _, hl, ha, hb⟩
    simp only at hl ha hb
    exact Wp.ret ⟨hl, by first | omega | (simp only; omega), by first | omega | (simp only; omega)⟩
  · refine Wp.call (w_randomImage b _ 1 h1 (by first | omega | (simp only; omega)) (by omega)) ?_
    intro r hr
    refine Wp.call (w_randomSpoil b _ 1 r h1 (by first | omega | (simp only; omega)) (by omega) hr) ?_
    rintro ⟨s0, s1, s2, s3, s4⟩ ⟨⟨_, _, _, hl, ha, hb⟩, _⟩
    simp only at hl ha hb
    exact Wp.ret ⟨hl, by first | omega | (simp only; omega), by first | omega | (simp only; omega)⟩
end Go.Proofs.Yteeeedmmcdlhjaa.P
namespace Go.Proofs.Yteeeedmmcdlhjaa.Pure
open Go.RowKit Go.Proofs.Yteeeedmmcdlhjaa.P Go.Proofs.YteeeedmmcdlhjaaW.PrintWords Go.Proofs.YteeeedmmcdlhjaaW.PrintMore Go.Proofs.Yteeeedmmcdlhjaa.Wp
set_option linter.unusedVariables false
theorem w_DrawMerge (l : List Int) (hb : ∀ x ∈ l, (Lit.int .u8 x).wf = true) : Wp (fun k => spec_DrawMergePlanes.f k l) (fun r => r.length ≤ 5 ∧ ∀ m ∈ r, m.f3.length ≤ 1000000000) := by
  unfold spec_DrawMergePlanes.f
  refine Wp.call (w_newReader l hb) ?_
  rintro ⟨bs, q⟩ ⟨h, e⟩
  simp only at e h
  subst e
  refine Wp.call (w_anyImage bs 0 h (by omega)) ?_
  rintro ⟨a, b, c, d, q⟩ ⟨_, _, _, h4, h5, h6⟩
  simp only at h4 h5 h6
  refine Wp.call (w_sSplit a b c d (by omega)) ?_
  rintro _ rfl
  have hs := splI_len a b c d
  refine Wp.call (w_pick bs q 8 (h.up (by omega) (by omega)) (by omega) (by omega)) ?_
  rintro _ ⟨x, rfl, _⟩
  refine Wp.ite (fun _ => ?_) (fun _ => Wp.ret ⟨by omega, hs.2⟩)
  refine Wp.call (w_grayImage bs (q + 1) (h.up (by omega) (by omega)) (by omega)) ?_
  rintro ⟨a2, b2, c2, d2, q2⟩ ⟨h7, _, _⟩
  simp only at h7
  refine Wp.pos (by omega) (Wp.ret ⟨by rw [List.length_append]; simp only [List.length_cons, List.length_nil]; omega, fun m hm => ?_⟩)
  rcases List.mem_append.1 hm with h | h
  · exact hs.2 m h
  · rw [List.mem_singleton] at h
    rw [h]
    show d2.length ≤ _
    omega
theorem mrgI_len (L : List S27) : (mrgI L).2.2.2.1.length ≤ 1000000000 := by
  by_cases h : okM L = true
  · have e := mrg_split L h
    obtain ⟨a, b, ea, eb, hn, ha, hb, hj⟩ := okM_nat h
    unfold mrgI
    rw [if_pos h, ea, eb]
    simp only [Int.toNat_natCast]
    have hf : ∀ i j : Nat, j < a → i < b → ((fun x y => mrgPix L x y L.length) (j : Int) (i : Int)).length = L.length := fun i j hj2 hi2 => by
      show (mrgPix L j i L.length).length = L.length
      rw [mrgPix_at L a b i j hj2 hi2 hj L.length (Nat.le_refl _)]
      simp
    rw [img_len _ a b L.length hf]
    have m1 : b * a ≤ 16 * 16 := Nat.mul_le_mul (by omega) (by omega)
    have m2 : b * a * L.length ≤ 256 * 4 := Nat.mul_le_mul m1 (by omega)
    omega
  · unfold mrgI
    rw [if_neg h]
    simp
theorem FnMergePlanes : laws_FnMergePlanes.Pure := by
  intro l _ _ hb
  refine Wp.rounds ?_
  unfold laws_FnMergePlanes.f
  refine Wp.ite (fun _ => Wp.ret rfl) (fun _ => ?_)
  refine Wp.call (w_DrawMerge l hb) ?_
  rintro L ⟨hL, hm⟩
  have hlen := mrgI_len L
  refine Wp.call (w_iMerge L) ?_
  rintro _ rfl
  refine Wp.call (w_sMerge L hm) ?_
  rintro _ rfl
  refine Wp.call (w_equalImage _ _ _ _ _ _ _ _ hlen) ?_
  rintro _ rfl
  refine Wp.pos (by simp) (Wp.neg (by simp) ?_)
  refine Wp.step (fun k => laws_FnMergePlanes.j0.eq_2 ..) (Wp.ite (fun _ => ?_) (fun h0 => ?_))
  · refine Wp.call (w_equalImage _ _ _ _ _ _ _ _ hlen) ?_
    rintro _ rfl
    exact Wp.pos (by simp) (Wp.ret (by simp))
  · have hok : okM L = true := by
      by_cases h : okM L = true
      · exact h
      · exfalso
        apply h0
        unfold mrgI
        rw [if_neg h]
        rfl
    refine Wp.call (w_iSplit _ _ _ _) ?_
    rintro _ rfl
    rw [mrg_split L hok]
    refine Wp.call (w_equalImages L (by omega) hm) ?_
    rintro _ rfl
    exact Wp.ret rfl
end Go.Proofs.Yteeeedmmcdlhjaa.Pure
