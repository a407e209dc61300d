/- Pure lemmas: what the printed functions answer, for every input; no Go, no memory, no condition but those that each lemma names. -/
import Derived.Test.YtbldmekplkjfiaaVWords
import Derived.Test.YtbldmekplkjfiaaK1
import Derived.Test.YtbldmekplkjfiaaK2
import Derived.Test.YtbldmekplkjfiaaK3
namespace Go.Proofs.Ytbldmekplkjfiaa.Wp
open Go.RowKit Go.Proofs.YtbldmekplkjfiaaW.PrintWords
set_option linter.unusedVariables false
def Wp {α : Type} (g : Nat → Option α) (P : α → Prop) : Prop := ∃ r, P r ∧ ∃ K, ∀ k, K ≤ k → g k = some r
theorem Wp.mono {α : Type} {g : Nat → Option α} {P Q : α → Prop} (h : Wp g P) (hi : ∀ a, P a → Q a) : Wp g Q := by
  obtain ⟨r, hp, K, hk⟩ := h
  exact ⟨r, hi r hp, K, hk⟩
theorem Wp.ret {α : Type} {P : α → Prop} {r : α} (h : P r) : Wp (fun _ => some r) P := ⟨r, h, 0, fun _ _ => rfl⟩
theorem Wp.bind {α β : Type} {g : Nat → Option α} {f : Nat → α → Option β} {P : β → Prop} (h : Wp g (fun a => Wp (fun k => f k a) P)) : Wp (fun k => (g k).bind (f k)) P := by
  obtain ⟨a, ⟨r, hp, K, hk⟩, K', hk'⟩ := h
  refine ⟨r, hp, max K K', fun k hkk => ?_⟩
  show (g k).bind (f k) = some r
  rw [hk' k (by omega)]
  exact hk k (by omega)
theorem Wp.call {α β : Type} {g : Nat → Option α} {f : Nat → α → Option β} {Q : α → Prop} {P : β → Prop} (h : Wp g Q) (hf : ∀ a, Q a → Wp (fun k => f k a) P) : Wp (fun k => (g k).bind (f k)) P :=
  Wp.bind (h.mono hf)
theorem Wp.ite {α : Type} {c : Prop} [Decidable c] {g h : Nat → Option α} {P : α → Prop} (h1 : c → Wp g P) (h2 : ¬ c → Wp h P) : Wp (fun k => if c then g k else h k) P := by
  by_cases hc : c
  · simpa only [if_pos hc] using h1 hc
  · simpa only [if_neg hc] using h2 hc
theorem Wp.pos {α : Type} {c : Prop} [Decidable c] {g h : Nat → Option α} {P : α → Prop} (hc : c) (h1 : Wp g P) : Wp (fun k => if c then g k else h k) P := Wp.ite (fun _ => h1) (fun h => absurd hc h)
theorem Wp.neg {α : Type} {c : Prop} [Decidable c] {g h : Nat → Option α} {P : α → Prop} (hc : ¬ c) (h1 : Wp h P) : Wp (fun k => if c then g k else h k) P := Wp.ite (fun h => absurd h hc) (fun _ => h1)
theorem Wp.step {α : Type} {g f : Nat → Option α} {P : α → Prop} (h : ∀ k, g (k + 1) = f k) (hf : Wp f P) : Wp g P := by
  obtain ⟨r, hp, K, hk⟩ := hf
  refine ⟨r, hp, K + 1, fun k hkk => ?_⟩
  obtain ⟨k, rfl⟩ : ∃ m, k = m + 1 := ⟨k - 1, by omega⟩
  rw [h k]
  exact hk k (by omega)
theorem Wp.of {α : Type} {g : Nat → Option α} {P : α → Prop} {r : α} (h : ∀ k, g k = some r) (hp : P r) : Wp g P := ⟨r, hp, 0, fun k _ => h k⟩
theorem Wp.rounds {α : Type} {g : Nat → Option α} {r : α} (h : Wp g (fun a => a = r)) : ∃ k, g k = some r := by
  obtain ⟨r', rfl, K, hk⟩ := h
  exact ⟨K, hk K (Nat.le_refl K)⟩
theorem w64 {x : Int} (h0 : -9223372036854775808 ≤ x) (h1 : x ≤ 9223372036854775807) : wrap64 x = x := by
  unfold wrap64
  omega
end Go.Proofs.Ytbldmekplkjfiaa.Wp
namespace Go.Proofs.Ytbldmekplkjfiaa.P
open Go.RowKit Go.Proofs.YtbldmekplkjfiaaW.PrintWords Go.Proofs.YtbldmekplkjfiaaW.PrintLast Go.Proofs.YtbldmekplkjfiaaW.PrintMore Go.Proofs.Ytbldmekplkjfiaa.Wp
set_option linter.unusedVariables false
set_option linter.unusedSimpArgs false
theorem bl_rd (l : List Int) (i : Nat) : rd l (i : Int) = l.getD i 0 := by simp [rd]
theorem bl_ext {x l : List Int} (hx : x.length = l.length) (h : ∀ j, j < l.length → x.getD j 0 = l.getD j 0) : x = l := by
  apply List.ext_getElem hx
  intro j h1 h2
  have := h j h2
  simpa [List.getD_eq_getElem?_getD, List.getElem?_eq_getElem h1, List.getElem?_eq_getElem h2] using this
theorem bl_set {x : List Int} {i : Nat} (v : Int) (j : Nat) (hi : i < x.length) : (x.set i v).getD j 0 = if j = i then v else x.getD j 0 := by
  simp only [List.getD_eq_getElem?_getD, List.getElem?_set]
  by_cases h : i = j
  · subst h; simp [hi]
  · simp [h, Ne.symm h, eq_comm]
theorem bl_all_drop (l : List Int) (p : Int → Bool) (i : Nat) (h : i < l.length) : (l.drop i).all p = (p (l.getD i 0) && (l.drop (i + 1)).all p) := by
  rw [List.drop_eq_getElem_cons h, List.all_cons]
  simp [List.getD_eq_getElem?_getD, List.getElem?_eq_getElem h]
def allB (l : List Int) : Bool := l.all fun n => decide (0 ≤ n ∧ n ≤ 255)
theorem allB_mem {l : List Int} (h : allB l = true) : ∀ x ∈ l, 0 ≤ x ∧ x ≤ 255 := fun x hx => of_decide_eq_true (List.all_eq_true.1 h x hx)
theorem allB_of {l : List Int} (h : ∀ x ∈ l, 0 ≤ x ∧ x ≤ 255) : allB l = true := List.all_eq_true.2 fun x hx => decide_eq_true (h x hx)
theorem w_inRange0 (a b c : Int) : Wp (fun _ => spec_inRange.f a b c) (fun r => r = decide (b ≤ a ∧ a ≤ c)) := by
  unfold spec_inRange.f
  refine Wp.ite (fun h => Wp.ret ?_) (fun h => Wp.ret ?_)
  · simp [h]
  · simp [h]
theorem w_allIn (l : List Int) (a b : Int) (hl : l.length ≤ 1000000000) : Wp (fun k => spec_allIn.f k l a b) (fun r => r = l.all fun n => decide (a ≤ n ∧ n ≤ b)) := by
  unfold spec_allIn.f
  have key : ∀ d (i : Nat), i + d = l.length → Wp (fun k => spec_allIn.l0 k l a b i) (fun r => r = (l.drop i).all fun n => decide (a ≤ n ∧ n ≤ b)) := by
    intro d
    induction d with
    | zero =>
      intro i hd
      refine Wp.step (fun k => spec_allIn.l0.eq_2 ..) (Wp.neg (by omega) (Wp.ret ?_))
      rw [List.drop_of_length_le (by omega)]
      rfl
    | succ d ih =>
      intro i hd
      refine Wp.step (fun k => spec_allIn.l0.eq_2 ..) (Wp.pos (by omega) (Wp.pos (by omega) ?_))
      refine Wp.call (w_inRange0 _ _ _) ?_
      rintro _ rfl
      rw [bl_all_drop l _ i (by omega), bl_rd]
      refine Wp.ite (fun h => ?_) (fun h => Wp.ret ?_)
      · rw [h, Bool.true_and, w64 (x := (i : Int) + 1) (by omega) (by omega)]
        exact ih (i + 1) (by omega)
      · rw [Bool.not_eq_true] at h
        rw [h, Bool.false_and]
  exact key l.length 0 (by omega)
theorem w_allB (l : List Int) (hl : l.length ≤ 1000000000) : Wp (fun k => spec_allIn.f k l 0 255) (fun r => r = allB l) := w_allIn l 0 255 hl
theorem w_areBytes (l : List Int) : Wp (fun _ => impl_areBytes.f l) (fun r => r = allB l) := by
  unfold impl_areBytes.f
  refine Wp.ret ?_
  unfold allB
  induction l with
  | nil => rfl
  | cons x l ih =>
    simp only [List.any_cons, List.all_cons, Bool.not_or, ← ih]
    congr 1
    by_cases h0 : x < 0 <;> by_cases h1 : 255 < x <;> simp [h0, h1] <;> omega
def marks (a : Int) (n : Nat) : List Int := (List.range n).map fun j : Nat => a + (j : Int)
theorem w_equalInts (a b : List Int) (hl : a.length ≤ 1000000000) : Wp (fun k => laws_equalInts.f k a b) (fun r => r = decide (a = b)) := by
  unfold laws_equalInts.f
  refine Wp.ite (fun he => ?_) (fun he => Wp.ret ?_)
  · have key : ∀ d (i : Nat), i + d = a.length → (∀ j, j < i → a.getD j 0 = b.getD j 0) → Wp (fun k => laws_equalInts.l0 k a b i) (fun r => r = decide (a = b)) := by
      intro d
      induction d with
      | zero =>
        intro i hd h
        refine Wp.step (fun k => laws_equalInts.l0.eq_2 ..) (Wp.neg (by omega) (Wp.ret ?_))
        exact (decide_eq_true (bl_ext (by omega) fun j hj => h j (by omega))).symm
      | succ d ih =>
        intro i hd h
        refine Wp.step (fun k => laws_equalInts.l0.eq_2 ..) (Wp.pos (by omega) (Wp.pos (by omega) (Wp.pos (by omega) ?_)))
        rw [bl_rd, bl_rd]
        refine Wp.ite (fun h1 => ?_) (fun h1 => Wp.ret ?_)
        · rw [w64 (x := (i : Int) + 1) (by omega) (by omega)]
          refine ih (i + 1) (by omega) fun j hj => ?_
          by_cases e : j = i
          · rw [e]; exact h1
          · exact h j (by omega)
        · exact (decide_eq_false fun e => h1 (by rw [e])).symm
    exact key a.length 0 (by omega) (fun j hj => by omega)
  · exact (decide_eq_false fun e => he (by rw [e])).symm
end Go.Proofs.Ytbldmekplkjfiaa.P
namespace Go.Proofs.Ytbldmekplkjfiaa.P
open Go.RowKit Go.Proofs.YtbldmekplkjfiaaW.PrintWords Go.Proofs.YtbldmekplkjfiaaW.PrintLast Go.Proofs.YtbldmekplkjfiaaW.PrintMore Go.Proofs.Ytbldmekplkjfiaa.Wp
set_option linter.unusedVariables false
set_option linter.unusedSimpArgs false
theorem rd_cut (l : List Int) (a b i : Int) (ha : 0 ≤ a) (hi : 0 ≤ i) (hb : a + i < b) : rd ((l.take b.toNat).drop a.toNat) i = rd l (a + i) := by
  unfold rd
  rw [List.getD_eq_getElem?_getD, List.getD_eq_getElem?_getD, List.getElem?_drop, List.getElem?_take, if_pos (by omega)]
  congr 2
  omega
def imgB (a b c : Int) (l : List Int) : Bool := decide ((1 ≤ a ∧ a ≤ 16) ∧ (1 ≤ b ∧ b ≤ 16) ∧ (1 ≤ c ∧ c ≤ 4)) && decide ((l.length : Int) = a * b * c) && allB l
theorem imgB_ok {a b c : Int} {l : List Int} : imgB a b c l = true ↔ ImgOk a b c l := by
  unfold imgB ImgOk
  rw [Bool.and_eq_true, Bool.and_eq_true, decide_eq_true_eq, decide_eq_true_eq]
  constructor
  · rintro ⟨⟨h1, h2⟩, h3⟩
    exact ⟨h1.1, h1.2.1, h1.2.2, h2, allB_mem h3⟩
  · rintro ⟨h1, h2, h3, h4, h5⟩
    exact ⟨⟨⟨h1, h2, h3⟩, h4⟩, allB_of h5⟩
theorem w_iImage (a b c : Int) (l : List Int) : Wp (fun _ => impl_isImage.f a b c l) (fun r => r = imgB a b c l) := by
  obtain ⟨r, hr, hi⟩ := isImage_some a b c l
  refine Wp.of (fun _ => hr) ?_
  rw [Bool.eq_iff_iff, hi, imgB_ok]
theorem w_newImage (a b c : Int) (h0 : 0 ≤ a ∧ a ≤ 1000) (h1 : 0 ≤ b ∧ b ≤ 1000) (h2 : 0 ≤ c ∧ c ≤ 1000) : Wp (fun _ => spec_newImage.f a b c) (fun r => r = (a, b, c, List.replicate (a * b * c).toNat 0)) := by
  have m1 : 0 ≤ a * b := Int.mul_nonneg h0.1 h1.1
  have m2 : a * b ≤ 1000 * 1000 := Int.mul_le_mul h0.2 h1.2 h1.1 (by omega)
  have m3 : 0 ≤ a * b * c := Int.mul_nonneg m1 h2.1
  have m4 : a * b * c ≤ 1000000 * 1000 := Int.mul_le_mul m2 h2.2 h2.1 (by omega)
  unfold spec_newImage.f
  rw [w64 (x := a * b) (by omega) (by omega), w64 (x := a * b * c) (by omega) (by omega)]
  exact Wp.pos m3 (Wp.pos (by omega) (Wp.ret rfl))
end Go.Proofs.Ytbldmekplkjfiaa.P
namespace Go.Proofs.Ytbldmekplkjfiaa.P
open Go.RowKit Go.Proofs.YtbldmekplkjfiaaW.PrintWords Go.Proofs.YtbldmekplkjfiaaW.PrintLast Go.Proofs.YtbldmekplkjfiaaW.PrintMore Go.Proofs.Ytbldmekplkjfiaa.Wp
set_option linter.unusedVariables false
set_option linter.unusedSimpArgs false
def imgRow (f : Int → Int → List Int) (y : Int) (n : Nat) : List Int := (List.range n).flatMap fun j : Nat => f j y
def imgOf (f : Int → Int → List Int) (n m : Nat) : List Int := (List.range m).flatMap fun i : Nat => imgRow f i n
theorem imgRow_succ (f : Int → Int → List Int) (y : Int) (n : Nat) : imgRow f y (n + 1) = imgRow f y n ++ f n y := by
  unfold imgRow
  rw [List.range_succ, List.flatMap_append]
  simp
theorem imgOf_succ (f : Int → Int → List Int) (n m : Nat) : imgOf f n (m + 1) = imgOf f n m ++ imgRow f m n := by
  unfold imgOf
  rw [List.range_succ, List.flatMap_append]
  simp
theorem imgRow_len (f : Int → Int → List Int) (y : Int) (n L : Nat) (h : ∀ j : Nat, j < n → (f j y).length ≤ L) : (imgRow f y n).length ≤ n * L := by
  induction n with
  | zero => simp [imgRow]
  | succ n ih =>
    rw [imgRow_succ, List.length_append, Nat.succ_mul]
    have := ih fun j hj => h j (by omega)
    have := h n (by omega)
    omega
theorem imgOf_len (f : Int → Int → List Int) (n m L : Nat) (h : ∀ i j : Nat, i < m → j < n → (f j i).length ≤ L) : (imgOf f n m).length ≤ m * (n * L) := by
  induction m with
  | zero => simp [imgOf]
  | succ m ih =>
    rw [imgOf_succ, List.length_append, Nat.succ_mul]
    have := ih fun i j hi hj => h i j (by omega) hj
    have := imgRow_len f m n L fun j hj => h m j (by omega) hj
    omega
end Go.Proofs.Ytbldmekplkjfiaa.P
namespace Go.Proofs.Ytbldmekplkjfiaa.P
open Go.RowKit Go.Proofs.YtbldmekplkjfiaaW.PrintWords Go.Proofs.YtbldmekplkjfiaaW.PrintLast Go.Proofs.YtbldmekplkjfiaaW.PrintMore Go.Proofs.Ytbldmekplkjfiaa.Wp
set_option linter.unusedVariables false
set_option linter.unusedSimpArgs false
theorem fm_len (h : Nat → List Int) (n p : Nat) (hf : ∀ i, i < n → (h i).length = p) : ((List.range n).flatMap h).length = n * p := by
  induction n with
  | zero => simp
  | succ n ih =>
    rw [List.range_succ, List.flatMap_append, List.length_append, ih fun i hi => hf i (by omega), Nat.succ_mul]
    simp [hf n (by omega)]
theorem fm_get (h : Nat → List Int) (n p j q : Nat) (hf : ∀ i, i < n → (h i).length = p) (hj : j < n) (hq : q < p) : ((List.range n).flatMap h).getD (j * p + q) 0 = (h j).getD q 0 := by
  induction n with
  | zero => omega
  | succ n ih =>
    have hlen := fm_len h n p fun i hi => hf i (by omega)
    rw [List.range_succ, List.flatMap_append, List.getD_eq_getElem?_getD]
    by_cases hjn : j < n
    · have : j * p + q < n * p := by
        have : (j + 1) * p ≤ n * p := Nat.mul_le_mul_right p (by omega)
        rw [Nat.succ_mul] at this
        omega
      rw [List.getElem?_append_left (by omega), ← List.getD_eq_getElem?_getD]
      exact ih (fun i hi => hf i (by omega)) hjn
    · have : j = n := by omega
      subst this
      rw [List.getElem?_append_right (by omega), hlen, show j * p + q - j * p = q by omega]
      simp [List.getD_eq_getElem?_getD]
theorem img_fm (f : Int → Int → List Int) (h : Nat → List Int) (n m : Nat) (hh : ∀ i j, j < n → i < m → f (j : Int) (i : Int) = h (i * n + j)) : imgOf f n m = (List.range (m * n)).flatMap h := by
  induction m with
  | zero => simp [imgOf]
  | succ m ih =>
    rw [imgOf_succ, ih fun i j hj hi => hh i j hj (by omega), Nat.succ_mul, List.range_add, List.flatMap_append]
    congr 1
    unfold imgRow
    rw [List.flatMap_map]
    have : ∀ (a : List Nat), (∀ x ∈ a, x < n) → a.flatMap (fun j : Nat => f (j : Int) (m : Int)) = a.flatMap (fun x => h (m * n + x)) := by
      intro a
      induction a with
      | nil => intro _; rfl
      | cons x a iha =>
        intro hx
        rw [List.flatMap_cons, List.flatMap_cons, iha fun y hy => hx y (List.mem_cons_of_mem _ hy), hh m x (hx x (List.mem_cons_self ..)) (by omega)]
    exact this _ fun x hx => List.mem_range.1 hx
theorem img_len (f : Int → Int → List Int) (n m p : Nat) (hf : ∀ i j : Nat, j < n → i < m → (f j i).length = p) : (imgOf f n m).length = m * n * p := by
  induction m with
  | zero => simp [imgOf]
  | succ m ih =>
    rw [imgOf_succ, List.length_append, ih fun i j hj hi => hf i j hj (by omega)]
    unfold imgRow
    rw [fm_len _ n p fun j hj => hf m j hj (by omega), Nat.succ_mul, Nat.add_mul]
theorem img_get (f : Int → Int → List Int) (n m p i j q : Nat) (hf : ∀ i j : Nat, j < n → i < m → (f j i).length = p) (hj : j < n) (hi : i < m) (hq : q < p) :
    (imgOf f n m).getD ((i * n + j) * p + q) 0 = (f j i).getD q 0 := by
  have e : imgOf f n m = (List.range m).flatMap fun i : Nat => imgRow f i n := rfl
  have hr : ∀ i : Nat, i < m → (imgRow f i n).length = n * p := fun i hi => by
    unfold imgRow
    exact fm_len _ n p fun j hj => hf i j hj hi
  have hb : j * p + q < n * p := by
    have : (j + 1) * p ≤ n * p := Nat.mul_le_mul_right p (by omega)
    rw [Nat.succ_mul] at this
    omega
  rw [e, show (i * n + j) * p + q = i * (n * p) + (j * p + q) by rw [Nat.add_mul, Nat.mul_assoc]; omega, fm_get _ m (n * p) i _ hr hi hb]
  unfold imgRow
  exact fm_get _ n p j q (fun j hj => hf i j hj hi) hj hq
theorem img_ext (f : Int → Int → List Int) (n m p : Nat) (x : List Int) (hf : ∀ i j : Nat, j < n → i < m → (f j i).length = p) (hx : x.length = m * n * p)
    (h : ∀ i j q : Nat, i < m → j < n → q < p → x.getD ((i * n + j) * p + q) 0 = (f j i).getD q 0) : x = imgOf f n m := by
  refine bl_ext (by rw [hx, img_len f n m p hf]) fun t ht => ?_
  rw [img_len f n m p hf] at ht
  have hp : 0 < p := by rcases Nat.eq_zero_or_pos p with h | h; (· subst h; omega); exact h
  have ht2 : t / p < m * n := Nat.div_lt_of_lt_mul (by rw [Nat.mul_comm]; exact ht)
  have hn : 0 < n := by rcases Nat.eq_zero_or_pos n with h | h; (· subst h; omega); exact h
  have hi : t / p / n < m := Nat.div_lt_of_lt_mul (by rw [Nat.mul_comm]; exact ht2)
  have hj : t / p % n < n := Nat.mod_lt _ hn
  have hq : t % p < p := Nat.mod_lt _ hp
  have e1 : t / p / n * n + t / p % n = t / p := by rw [Nat.mul_comm]; exact Nat.div_add_mod _ _
  have e2 : t / p * p + t % p = t := by rw [Nat.mul_comm]; exact Nat.div_add_mod _ _
  have h1 := h _ _ _ hi hj hq
  have h2 := img_get f n m p _ _ _ hf hj hi hq
  rw [e1, e2] at h1 h2
  rw [h1, h2]
end Go.Proofs.Ytbldmekplkjfiaa.P
namespace Go.Proofs.Ytbldmekplkjfiaa.P
open Go.RowKit Go.Proofs.YtbldmekplkjfiaaW.PrintWords Go.Proofs.YtbldmekplkjfiaaW.PrintLast Go.Proofs.YtbldmekplkjfiaaW.PrintMore Go.Proofs.Ytbldmekplkjfiaa.Wp
set_option linter.unusedVariables false
set_option linter.unusedSimpArgs false
def fillI (n m : Int) (px : List Int) : Int × Int × Int × List Int :=
  if (1 ≤ n ∧ n ≤ 16) ∧ (1 ≤ m ∧ m ≤ 16) ∧ (1 ≤ (px.length : Int) ∧ (px.length : Int) ≤ 4) ∧ allB px = true then (n, m, px.length, imgOf (fun _ _ => px) n.toNat m.toNat) else (0, 0, 0, [])
theorem w_iFill (n m : Int) (px : List Int) : Wp (fun k => impl_FillImage.f k n m px) (fun r => r = fillI n m px) := by
  unfold impl_FillImage.f fillI
  have bad : ∀ (a0 a1 a2 : Int), Wp (fun k => impl_FillImage.j0 k n m px true a0 a1 a2) (fun r => r = (0, 0, 0, [])) := fun a0 a1 a2 =>
    Wp.step (fun k => impl_FillImage.j0.eq_2 ..) (Wp.pos rfl (Wp.ret rfl))
  rw [isSide_some, isSide_some]
  simp only [Option.bind_some, decide_eq_true_eq]
  refine Wp.ite (fun hn => ?_) (fun hn => (bad _ _ _).mono fun r h => by rw [h, if_neg fun h => hn h.1])
  refine Wp.ite (fun hm => ?_) (fun hm => (bad _ _ _).mono fun r h => by rw [h, if_neg fun h => hm h.2.1])
  refine Wp.ite (fun h1 => (bad _ _ _).mono fun r h => by rw [h, if_neg fun h => by omega]) (fun h1 => ?_)
  refine Wp.ite (fun h2 => (bad _ _ _).mono fun r h => by rw [h, if_neg fun h => by omega]) (fun h2 => ?_)
  refine Wp.call (w_areBytes px) ?_
  rintro _ rfl
  refine Wp.step (fun k => impl_FillImage.j0.eq_2 ..) ?_
  refine Wp.ite (fun hb => Wp.ret ?_) (fun hb => ?_)
  · rw [if_neg]
    rintro ⟨_, _, _, h⟩
    rw [h] at hb
    exact absurd hb (by simp)
  · have hb : allB px = true := by simpa using hb
    rw [if_pos ⟨hn, hm, ⟨by omega, by omega⟩, hb⟩]
    obtain ⟨n, rfl⟩ := Int.eq_ofNat_of_zero_le (show 0 ≤ n by omega)
    obtain ⟨m, rfl⟩ := Int.eq_ofNat_of_zero_le (show 0 ≤ m by omega)
    have b1 : m * n ≤ 16 * 16 := Nat.mul_le_mul (by omega) (by omega)
    have e : (n : Int) * m = ((m * n : Nat) : Int) := by rw [Int.natCast_mul, Int.mul_comm]
    rw [e, w64 (x := ((m * n : Nat) : Int)) (by omega) (by omega)]
    simp only [Int.toNat_natCast]
    rw [img_fm (fun _ _ => px) (fun _ => px) n m (fun i j hj hi => rfl)]
    generalize m * n = N at b1
    have key : ∀ (d i : Nat), i + d = N → Wp (fun k => impl_FillImage.l0 k px N i n m px.length ((List.range i).flatMap fun _ => px)) (fun r => r = (↑n, ↑m, ↑px.length, (List.range N).flatMap fun _ => px)) := by
      intro d
      induction d with
      | zero =>
        intro i hd
        refine Wp.step (fun k => impl_FillImage.l0.eq_2 ..) (Wp.neg (by omega) (Wp.ret ?_))
        rw [show i = N by omega]
      | succ d ih =>
        intro i hd
        have hl := fm_len (fun _ => px) i px.length (fun _ _ => rfl)
        have b2 : i * px.length ≤ 256 * 4 := Nat.mul_le_mul (by omega) (by omega)
        refine Wp.step (fun k => impl_FillImage.l0.eq_2 ..) (Wp.pos (by omega) (Wp.pos (by omega) ?_))
        rw [w64 (x := (i : Int) + 1) (by omega) (by omega)]
        have := ih (i + 1) (by omega)
        rw [List.range_succ, List.flatMap_append] at this
        simpa using this
    exact key N 0 (by omega)
end Go.Proofs.Ytbldmekplkjfiaa.P
namespace Go.Proofs.Ytbldmekplkjfiaa.P
open Go.RowKit Go.Proofs.YtbldmekplkjfiaaW.PrintWords Go.Proofs.YtbldmekplkjfiaaW.PrintLast Go.Proofs.YtbldmekplkjfiaaW.PrintMore Go.Proofs.Ytbldmekplkjfiaa.Wp
set_option linter.unusedVariables false
set_option linter.unusedSimpArgs false
theorem w_validShape (a b c : Int) : Wp (fun _ => spec_validShape.f a b c) (fun r => r = decide ((1 ≤ a ∧ a ≤ 16) ∧ (1 ≤ b ∧ b ≤ 16) ∧ (1 ≤ c ∧ c ≤ 4))) := by
  unfold spec_validShape.f
  refine Wp.call (w_inRange0 _ _ _) ?_
  rintro _ rfl
  refine Wp.ite (fun h => ?_) (fun h => Wp.ret ?_)
  · refine Wp.call (w_inRange0 _ _ _) ?_
    rintro _ rfl
    refine Wp.ite (fun h2 => ?_) (fun h2 => Wp.ret ?_)
    · refine Wp.call (w_inRange0 _ _ _) ?_
      rintro _ rfl
      refine Wp.ret ?_
      rw [decide_eq_true_eq] at h h2
      rw [Bool.eq_iff_iff, decide_eq_true_eq, decide_eq_true_eq]
      exact ⟨fun h3 => ⟨h, h2, h3⟩, fun h3 => h3.2.2⟩
    · rw [decide_eq_true_eq] at h2
      exact (decide_eq_false fun h3 => h2 h3.2.1).symm
  · rw [decide_eq_true_eq] at h
    exact (decide_eq_false fun h3 => h h3.1).symm
end Go.Proofs.Ytbldmekplkjfiaa.P
namespace Go.Proofs.Ytbldmekplkjfiaa.P
open Go.RowKit Go.Proofs.YtbldmekplkjfiaaW.PrintWords Go.Proofs.YtbldmekplkjfiaaW.PrintLast Go.Proofs.YtbldmekplkjfiaaW.PrintMore Go.Proofs.Ytbldmekplkjfiaa.Wp
set_option linter.unusedVariables false
set_option linter.unusedSimpArgs false
theorem w_sFill (a b : Int) (px : List Int) (hl : px.length ≤ 1000000000) : Wp (fun k => spec_FillImage.f k a b px) (fun r => r = fillI a b px) := by
  unfold spec_FillImage.f fillI
  have no : ∀ (h : ¬ ((1 ≤ a ∧ a ≤ 16) ∧ (1 ≤ b ∧ b ≤ 16) ∧ (1 ≤ (px.length : Int) ∧ (px.length : Int) ≤ 4) ∧ allB px = true)), Wp (fun k => spec_FillImage.j0 k a b px true) (fun z => z = if (1 ≤ a ∧ a ≤ 16) ∧ (1 ≤ b ∧ b ≤ 16) ∧ (1 ≤ (px.length : Int) ∧ (px.length : Int) ≤ 4) ∧ allB px = true then (a, b, (px.length : Int), imgOf (fun _ _ => px) a.toNat b.toNat) else (0, 0, 0, [])) := fun h =>
    Wp.step (fun k => spec_FillImage.j0.eq_2 ..) (Wp.pos rfl (Wp.ret (by rw [if_neg h])))
  refine Wp.call (w_validShape a b px.length) ?_
  rintro _ rfl
  by_cases hs : (1 ≤ a ∧ a ≤ 16) ∧ (1 ≤ b ∧ b ≤ 16) ∧ (1 ≤ (px.length : Int) ∧ (px.length : Int) ≤ 4)
  case neg =>
    refine Wp.neg (by rw [decide_eq_false hs]; simp) ?_
    exact no fun h => hs ⟨h.1, h.2.1, h.2.2.1⟩
  refine Wp.pos (by rw [decide_eq_true hs]) ?_
  refine Wp.call (w_allB px hl) ?_
  rintro _ rfl
  cases hb : allB px with
  | false =>
    have := no fun h => by rw [hb] at h; exact absurd h.2.2.2 (by simp)
    rw [hb] at this
    exact this
  | true =>
    refine Wp.step (fun k => spec_FillImage.j0.eq_2 ..) (Wp.neg (by simp) ?_)
    obtain ⟨hn, hm, hp⟩ := hs
    rw [if_pos ⟨hn, hm, hp, rfl⟩]
    refine Wp.call (w_newImage a b px.length (by omega) (by omega) (by omega)) ?_
    rintro _ rfl
    dsimp only
    obtain ⟨n, rfl⟩ := Int.eq_ofNat_of_zero_le (show 0 ≤ a by omega)
    obtain ⟨m, rfl⟩ := Int.eq_ofNat_of_zero_le (show 0 ≤ b by omega)
    simp only [Int.toNat_natCast]
    have b3 : m * n ≤ 16 * 16 := Nat.mul_le_mul (by omega) (by omega)
    have b4 : m * n * px.length ≤ 256 * 4 := Nat.mul_le_mul (by omega) (by omega)
    have e : ((n : Int) * m * (px.length : Int)).toNat = m * n * px.length := by rw [← Int.natCast_mul, ← Int.natCast_mul, Int.toNat_natCast, Nat.mul_comm n m]
    rw [e]
    have key : ∀ (d i : Nat) (x : List Int), i + d = m * n * px.length → x.length = m * n * px.length → (∀ j, j < i → x.getD j 0 = px.getD (j % px.length) 0) → Wp (fun k => spec_FillImage.l0 k px i n m px.length x) (fun r => r = (↑n, ↑m, (px.length : Int), imgOf (fun _ _ => px) n m)) := by
      intro d
      induction d with
      | zero =>
        intro i x hd hx h
        refine Wp.step (fun k => spec_FillImage.l0.eq_2 ..) (Wp.neg (by omega) (Wp.ret ?_))
        have : x = imgOf (fun _ _ => px) n m := by
          refine img_ext (fun _ _ => px) n m px.length x (fun _ _ _ _ => rfl) hx fun i' j' q hi hj hq => ?_
          have b1 : i' * n + j' + 1 ≤ m * n := by
            have : (i' + 1) * n ≤ m * n := Nat.mul_le_mul_right n hi
            rw [Nat.succ_mul] at this
            omega
          have b2 : (i' * n + j' + 1) * px.length ≤ m * n * px.length := Nat.mul_le_mul_right _ b1
          rw [Nat.succ_mul] at b2
          rw [h _ (by omega), Nat.add_comm, Nat.add_mul_mod_self_right, Nat.mod_eq_of_lt hq]
        rw [this]
      | succ d ih =>
        intro i x hd hx h
        have ml : i % px.length < px.length := Nat.mod_lt _ (by omega)
        have me : Int.tmod (i : Int) (px.length : Int) = ((i % px.length : Nat) : Int) := by rw [Int.tmod_eq_emod_of_nonneg (by omega), Int.natCast_emod]
        refine Wp.step (fun k => spec_FillImage.l0.eq_2 ..) (Wp.pos (by omega) (Wp.neg (by omega) ?_))
        rw [me]
        refine Wp.pos (Int.natCast_nonneg _) (Wp.pos (Int.ofNat_lt.2 ml) (Wp.pos (by omega) ?_))
        rw [bl_rd, w64 (x := (i : Int) + 1) (by omega) (by omega), Int.toNat_natCast]
        refine ih (i + 1) _ (by omega) (by rw [List.length_set]; exact hx) fun j hj => ?_
        rw [bl_set _ _ (by omega)]
        split
        · rename_i e; rw [e]
        · exact h j (by omega)
    exact key (m * n * px.length) 0 _ (Nat.zero_add _) (by simp) (fun j hj => by omega)
end Go.Proofs.Ytbldmekplkjfiaa.P
namespace Go.Proofs.Ytbldmekplkjfiaa.P
open Go.RowKit Go.Proofs.YtbldmekplkjfiaaW.PrintWords Go.Proofs.YtbldmekplkjfiaaW.PrintLast Go.Proofs.YtbldmekplkjfiaaW.PrintMore Go.Proofs.Ytbldmekplkjfiaa.Wp
set_option linter.unusedVariables false
set_option linter.unusedSimpArgs false
theorem pix_get {l : List Int} {n p x y : Int} (q : Nat) (h0 : 0 ≤ (y * n + x) * p) (hq : (q : Int) < p) : (pixOf l n p x y).getD q 0 = rd l ((y * n + x) * p + q) := by
  unfold pixOf
  have := rd_cut l ((y * n + x) * p) ((y * n + x) * p + p) q h0 (by omega) (by omega)
  rw [← this, bl_rd]
theorem pix_img (f : Int → Int → List Int) (n m p : Nat) (hf : ∀ i j : Nat, j < n → i < m → (f j i).length = p) (i j : Nat) (hj : j < n) (hi : i < m) : pixOf (imgOf f n m) n p j i = f j i := by
  have hl := img_len f n m p hf
  have e : ((i : Int) * n + j) * p = (((i * n + j) * p : Nat) : Int) := by rw [Int.natCast_mul (i * n + j) p, Int.natCast_add, Int.natCast_mul]
  have hb : (i * n + j) * p + p ≤ m * n * p := by
    have h1 : i * n + j + 1 ≤ m * n := by
      have : (i + 1) * n ≤ m * n := Nat.mul_le_mul_right n hi
      rw [Nat.succ_mul] at this
      omega
    have : (i * n + j + 1) * p ≤ m * n * p := Nat.mul_le_mul_right p h1
    rw [Nat.succ_mul] at this
    omega
  have hlen := pixOf_length (l := imgOf f n m) (n := n) (p := p) (x := j) (y := i) (by rw [e]; omega) (by omega) (by rw [e]; omega)
  have hfl := hf i j hj hi
  refine bl_ext (by omega) fun q hq => ?_
  rw [pix_get q (by rw [e]; omega) (by omega), e, ← Int.natCast_add, bl_rd]
  exact img_get f n m p i j q hf hj hi (by omega)
theorem img_mem (f : Int → Int → List Int) (n m : Nat) (P : Int → Prop) (h : ∀ i j : Nat, j < n → i < m → ∀ v ∈ f j i, P v) : ∀ v ∈ imgOf f n m, P v := by
  intro v hv
  unfold imgOf imgRow at hv
  obtain ⟨i, hi, hv⟩ := List.mem_flatMap.1 hv
  obtain ⟨j, hj, hv⟩ := List.mem_flatMap.1 hv
  exact h i j (List.mem_range.1 hj) (List.mem_range.1 hi) v hv
theorem img_ok (f : Int → Int → List Int) (n m p : Nat) (hn : 1 ≤ n ∧ n ≤ 16) (hm : 1 ≤ m ∧ m ≤ 16) (hp : 1 ≤ p ∧ p ≤ 4) (hf : ∀ i j : Nat, j < n → i < m → (f j i).length = p) (hb : ∀ i j : Nat, j < n → i < m → ∀ v ∈ f j i, 0 ≤ v ∧ v ≤ 255) :
    imgB n m p (imgOf f n m) = true := imgB_ok.2 ⟨by omega, by omega, by omega, by rw [img_len f n m p hf, Int.natCast_mul, Int.natCast_mul, Int.mul_comm (m : Int)], img_mem f n m _ hb⟩
end Go.Proofs.Ytbldmekplkjfiaa.P
namespace Go.Proofs.Ytbldmekplkjfiaa.P
open Go.RowKit Go.Proofs.YtbldmekplkjfiaaW.PrintWords Go.Proofs.YtbldmekplkjfiaaW.PrintLast Go.Proofs.YtbldmekplkjfiaaW.PrintMore Go.Proofs.Ytbldmekplkjfiaa.Wp
set_option linter.unusedVariables false
set_option linter.unusedSimpArgs false
def palI (a b c : Int) (l : List Int) : List (List Int) × Bool :=
  if imgB a b c l = true then (if 16 < (palAll l a c b.toNat).length then ([], false) else (palAll l a c b.toNat, true)) else ([], false)
theorem w_iPal (a b c : Int) (l : List Int) : Wp (fun _ => impl_PaletteOf.f a b c l) (fun r => r = palI a b c l) := by
  unfold impl_PaletteOf.f palI
  refine Wp.call (w_iImage a b c l) ?_
  rintro _ rfl
  refine Wp.ite (fun hi => ?_) (fun hi => Wp.ret (by rw [if_neg hi]))
  rw [if_pos hi]
  exact Wp.ite (fun h => Wp.ret (by rw [if_pos h])) (fun h => Wp.ret (by rw [if_neg h]))
theorem w_iPixelAt (a b c : Int) (l : List Int) (x y : Int) : Wp (fun _ => impl_PixelAt.f a b c l x y) (fun r => r = if imgB a b c l = true ∧ (0 ≤ x ∧ x < a) ∧ (0 ≤ y ∧ y < b) then pixOf l a c x y else []) := by
  unfold impl_PixelAt.f
  refine Wp.call (w_iImage a b c l) ?_
  rintro _ rfl
  refine Wp.ite (fun hi => ?_) (fun hi => Wp.ret (by rw [if_neg fun h => hi h.1]))
  exact Wp.ite (fun h => Wp.ret (by rw [if_pos ⟨hi, h⟩])) (fun h => Wp.ret (by rw [if_neg fun h2 => h h2.2]))
theorem palAdd_self (px : List Int) : palAdd [px] px = [px] := by
  unfold palAdd
  rw [if_pos (by simp)]
theorem palRow_const (l : List Int) (a c : Int) (y : Nat) (px : List Int) (n : Nat) (h : ∀ x : Nat, x < n → pixOf l a c x y = px) : ∀ x, x ≤ n → palRow l a c y [px] x = [px] := by
  intro x
  induction x with
  | zero => intro _; rfl
  | succ x ih => intro hx; rw [palRow, ih (by omega), h x (by omega), palAdd_self]
theorem palRow_first (l : List Int) (a c : Int) (y : Nat) (px : List Int) (n : Nat) (h : ∀ x : Nat, x < n → pixOf l a c x y = px) : ∀ x, 1 ≤ x → x ≤ n → palRow l a c y [] x = [px] := by
  intro x
  induction x with
  | zero => intro h1 _; omega
  | succ x ih =>
    intro _ hx
    rw [palRow, h x (by omega)]
    by_cases h0 : x = 0
    · subst h0
      rfl
    · rw [ih (by omega) (by omega), palAdd_self]
theorem palAll_const (px : List Int) (n m p : Nat) (hn : 1 ≤ n) (hm : 1 ≤ m) (hp : px.length = p) : palAll (imgOf (fun _ _ => px) n m) n p m = [px] := by
  have hpx : ∀ x y : Nat, x < n → y < m → pixOf (imgOf (fun _ _ => px) n m) n p x y = px := fun x y hx hy => pix_img (fun _ _ => px) n m p (fun _ _ _ _ => hp) y x hx hy
  have key : ∀ y, 1 ≤ y → y ≤ m → palAll (imgOf (fun _ _ => px) n m) n p y = [px] := by
    intro y
    induction y with
    | zero => intro h _; omega
    | succ y ih =>
      intro _ hy
      rw [palAll, Int.toNat_natCast]
      by_cases h0 : y = 0
      · subst h0
        exact palRow_first _ _ _ 0 px n (fun x hx => hpx x 0 hx (by omega)) n hn (Nat.le_refl n)
      · rw [ih (by omega) (by omega)]
        exact palRow_const _ _ _ y px n (fun x hx => hpx x y hx (by omega)) n (Nat.le_refl n)
  exact key m hm (Nat.le_refl m)
theorem pal_const (px : List Int) (n m p : Nat) (hn : 1 ≤ n ∧ n ≤ 16) (hm : 1 ≤ m ∧ m ≤ 16) (hp : 1 ≤ p ∧ p ≤ 4) (hpl : px.length = p) (hB : ∀ v ∈ px, 0 ≤ v ∧ v ≤ 255) : palI n m p (imgOf (fun _ _ => px) n m) = ([px], true) := by
  unfold palI
  rw [if_pos (img_ok _ n m p hn hm hp (fun _ _ _ _ => hpl) (fun _ _ _ _ => hB)), Int.toNat_natCast, palAll_const px n m p hn.1 hm.1 hpl, if_neg (by simp)]
end Go.Proofs.Ytbldmekplkjfiaa.P
namespace Go.Proofs.Ytbldmekplkjfiaa.P
open Go.RowKit Go.Proofs.YtbldmekplkjfiaaW.PrintWords Go.Proofs.YtbldmekplkjfiaaW.PrintLast Go.Proofs.YtbldmekplkjfiaaW.PrintMore Go.Proofs.Ytbldmekplkjfiaa.Wp
set_option linter.unusedVariables false
theorem rd_mem (l : List Int) (i : Int) (h0 : 0 ≤ i) (h1 : i < (l.length : Int)) : rd l i ∈ l := by
  unfold rd
  rw [List.getD_eq_getElem?_getD, List.getElem?_eq_getElem (by omega)]
  exact List.getElem_mem _
theorem rd_le {l : List Int} {a b : Int} (h : ∀ x ∈ l, a ≤ x ∧ x ≤ b) (i : Int) (h0 : 0 ≤ i) (h1 : i < (l.length : Int)) : a ≤ rd l i ∧ rd l i ≤ b := h _ (rd_mem l i h0 h1)
def Rdr (b : List Int) (p : Int) : Prop := (∀ x ∈ b, 0 ≤ x ∧ x ≤ 255) ∧ b.length ≤ 2000 ∧ 0 ≤ p ∧ p ≤ 1000000
theorem tmod_range (x n : Int) (hx : 0 ≤ x) (hn : 0 < n) : 0 ≤ Int.tmod x n ∧ Int.tmod x n < n := by
  rw [Int.tmod_eq_emod_of_nonneg hx]
  exact ⟨Int.emod_nonneg _ (by omega), Int.emod_lt_of_pos _ hn⟩
theorem bits_xor_nonneg (x y : Int) (hx : 0 ≤ x) (hx2 : x ≤ 1000000000000) (hy : 0 ≤ y) (hy2 : y ≤ 1000000000000) : 0 ≤ Go.bits .xor .i64 x y := by
  obtain ⟨a, rfl⟩ := Int.eq_ofNat_of_zero_le hx
  obtain ⟨b, rfl⟩ := Int.eq_ofNat_of_zero_le hy
  have ha : a < 2 ^ 62 := by omega
  have hb : b < 2 ^ 62 := by omega
  have ha' : a % 2 ^ 64 = a := Nat.mod_eq_of_lt (by omega)
  have hb' : b % 2 ^ 64 = b := Nat.mod_eq_of_lt (by omega)
  have hc : a ^^^ b < 2 ^ 62 := Nat.xor_lt_two_pow ha hb
  have hw : IntKind.i64.wrap ((a ^^^ b : Nat) : Int) = ((a ^^^ b : Nat) : Int) := by
    have h64 : IntKind.i64.wrap ((a ^^^ b : Nat) : Int) = wrap64 ((a ^^^ b : Nat) : Int) := i64_w _
    rw [h64, w64 (by omega) (by omega)]
  have he : Go.bits .xor .i64 (a : Int) (b : Int) = ((a ^^^ b : Nat) : Int) := by
    have hbits : IntKind.i64.bits = 64 := rfl
    simp only [Go.bits, BitVec.ofInt_natCast, BitVec.toNat_xor, BitVec.toNat_ofNat, hbits, ha', hb', hw]
  rw [he]
  exact Int.natCast_nonneg _
theorem w_newReader (l : List Int) (hb : ∀ x ∈ l, (Lit.int .u8 x).wf = true) : Wp (fun _ => spec_newReader.f l) (fun r => Rdr r.1 r.2 ∧ r.2 = 0) := by
  have hb' : ∀ x ∈ l, 0 ≤ x ∧ x ≤ 255 := fun x hx => by
    have h := hb x hx
    simp only [Lit.wf, Bool.and_eq_true, decide_eq_true_eq] at h
    have h0 : IntKind.u8.min = 0 := rfl
    have h1 : IntKind.u8.max = 255 := rfl
    omega
  unfold spec_newReader.f
  refine Wp.ite (fun h => Wp.pos (by omega) (Wp.ret ?_)) (fun h => Wp.ret ?_)
  · exact ⟨⟨fun x hx => hb' x (List.mem_of_mem_take hx), by show (l.take 2000).length ≤ 2000; rw [List.length_take]; omega, Int.le_refl _, by show (0 : Int) ≤ 1000000; omega⟩, rfl⟩
  · exact ⟨⟨hb', by show l.length ≤ 2000; omega, Int.le_refl _, by show (0 : Int) ≤ 1000000; omega⟩, rfl⟩
theorem w_pick (b : List Int) (p n : Int) (h : Rdr b p) (hp : p < 1000000) (hn : n ≤ 1000000000000) :
    Wp (fun k => spec_reader_pick.f k b p n) (fun r => ∃ x, r = (x, p + 1) ∧ 0 ≤ x ∧ (1 ≤ n → x < n) ∧ (n < 1 → x = 0)) := by
  obtain ⟨hb, hl, h0, h1⟩ := h
  unfold spec_reader_pick.f
  rw [w64 (x := p + 1) (by omega) (by omega)]
  refine Wp.ite (fun hn1 => ?_) (fun hn1 => ?_)
  · refine Wp.step (fun k => spec_reader_pick.j0.eq_2 ..) (Wp.pos rfl (Wp.ret ?_))
    exact ⟨0, rfl, by omega, by omega, fun _ => rfl⟩
  · refine Wp.step (fun k => spec_reader_pick.j0.eq_2 ..) ?_
    rw [show p + 1 - 1 = p by omega, w64 (x := p) (by omega) (by omega)]
    refine Wp.ite (fun hz => Wp.ret ?_) (fun hz => ?_)
    · exact ⟨0, rfl, by omega, by omega, by omega⟩
    · have hpos : 0 < (b.length : Int) := by
        have : ¬ (b.length : Int) = 0 := by simpa using hz
        omega
      refine Wp.ite (fun hlt => ?_) (fun hge => ?_)
      · refine Wp.pos h0 (Wp.neg (by omega) (Wp.ret ?_))
        have hr := rd_le hb p h0 hlt
        rw [w64 (x := rd b p) (by omega) (by omega)]
        have := tmod_range (rd b p) n hr.1 (by omega)
        exact ⟨_, rfl, this.1, fun _ => this.2, by omega⟩
      · refine Wp.neg (by omega) ?_
        have t1 := tmod_range p b.length h0 hpos
        refine Wp.pos t1.1 (Wp.pos t1.2 ?_)
        rw [w64 (x := p * 7) (by omega) (by omega), w64 (x := p * 7 + 3) (by omega) (by omega)]
        have t2 := tmod_range (p * 7 + 3) b.length (by omega) hpos
        refine Wp.pos t2.1 (Wp.pos t2.2 (Wp.neg (by omega) (Wp.ret ?_)))
        have r1 := rd_le hb _ t1.1 t1.2
        have r2 := rd_le hb _ t2.1 t2.2
        generalize rd b (Int.tmod p b.length) = u at r1 ⊢
        generalize rd b (Int.tmod (p * 7 + 3) b.length) = v at r2 ⊢
        have hd : 0 ≤ Int.tdiv p b.length ∧ Int.tdiv p b.length ≤ p := by
          rw [Int.tdiv_eq_ediv_of_nonneg h0]
          exact ⟨Int.ediv_nonneg h0 (by omega), Int.ediv_le_self _ h0⟩
        generalize Int.tdiv p b.length = d at hd ⊢
        rw [w64 (x := u) (by omega) (by omega), w64 (x := u * 131) (by omega) (by omega), w64 (x := v) (by omega) (by omega), w64 (x := v * 1117) (by omega) (by omega),
          w64 (x := u * 131 + v * 1117) (by omega) (by omega), w64 (x := p * 29) (by omega) (by omega), w64 (x := u * 131 + v * 1117 + p * 29) (by omega) (by omega),
          w64 (x := d) (by omega) (by omega), w64 (x := d * 53) (by omega) (by omega), w64 (x := u * 131 + v * 1117 + p * 29 + d * 53) (by omega) (by omega)]
        have hs : 0 ≤ u * 131 + v * 1117 + p * 29 + d * 53 ∧ u * 131 + v * 1117 + p * 29 + d * 53 ≤ 1000000000 := by omega
        generalize u * 131 + v * 1117 + p * 29 + d * 53 = s at hs ⊢
        have hq : 0 ≤ Int.tdiv s 64 ∧ Int.tdiv s 64 ≤ s := by
          rw [Int.tdiv_eq_ediv_of_nonneg hs.1]
          exact ⟨Int.ediv_nonneg hs.1 (by omega), Int.ediv_le_self _ hs.1⟩
        rw [w64 (x := Int.tdiv s 64) (by omega) (by omega)]
        have hx := bits_xor_nonneg s (Int.tdiv s 64) hs.1 (by omega) hq.1 (by omega)
        have := tmod_range _ n hx (by omega)
        exact ⟨_, rfl, this.1, fun _ => this.2, by omega⟩
theorem Rdr.up {b : List Int} {p q : Int} (h : Rdr b p) (h1 : p ≤ q) (h2 : q ≤ 1000000) : Rdr b q := ⟨h.1, h.2.1, by have := h.2.2.1; omega, h2⟩
theorem w_one (b : List Int) (p : Int) (l : List Int) (h : Rdr b p) (hp : p < 1000000) (hl : 0 < l.length) (hl2 : l.length ≤ 1000) :
    Wp (fun k => spec_reader_one.f k b p l) (fun r => ∃ x, r = (x, p + 1) ∧ x ∈ l) := by
  unfold spec_reader_one.f
  refine Wp.call (w_pick b p l.length h hp (by omega)) ?_
  rintro _ ⟨x, rfl, h0, h1, _⟩
  have h1 := h1 (by omega)
  exact Wp.pos h0 (Wp.pos h1 (Wp.ret ⟨_, rfl, rd_mem l x h0 h1⟩))
end Go.Proofs.Ytbldmekplkjfiaa.P
namespace Go.Proofs.Ytbldmekplkjfiaa.P
open Go.RowKit Go.Proofs.YtbldmekplkjfiaaW.PrintWords Go.Proofs.YtbldmekplkjfiaaW.PrintLast Go.Proofs.YtbldmekplkjfiaaW.PrintMore Go.Proofs.Ytbldmekplkjfiaa.Wp
set_option linter.unusedVariables false
set_option linter.unusedSimpArgs false
theorem w_copyInts (l : List Int) (hl : l.length ≤ 1000000000) : Wp (fun _ => spec_copyInts.f l) (fun r => r = l) := by
  unfold spec_copyInts.f
  exact Wp.pos (by simp; omega) (Wp.ret (by simp))
end Go.Proofs.Ytbldmekplkjfiaa.P
namespace Go.Proofs.Ytbldmekplkjfiaa.P
open Go.RowKit Go.Proofs.YtbldmekplkjfiaaW.PrintWords Go.Proofs.YtbldmekplkjfiaaW.PrintLast Go.Proofs.YtbldmekplkjfiaaW.PrintMore Go.Proofs.Ytbldmekplkjfiaa.Wp
set_option linter.unusedVariables false
set_option linter.unusedSimpArgs false
theorem w_spoil (b : List Int) (p : Int) (l : List Int) (n : Int) (h : Rdr b p) (hp : p ≤ 999900) (hl : l.length ≤ 1000000) :
    Wp (fun k => spec_reader_spoil.f k b p l n) (fun r => r.1.length ≤ l.length + 1 ∧ p ≤ r.2 ∧ r.2 ≤ p + 3) := by
  unfold spec_reader_spoil.f
  refine Wp.call (w_copyInts l (by omega)) ?_
  rintro _ rfl
  refine Wp.call (w_pick b p 20 h (by omega) (by omega)) ?_
  rintro _ ⟨x, rfl, x0, x1, _⟩
  have h1 := h.up (q := p + 1) (by omega) (by omega)
  refine Wp.ite (fun _ => Wp.pos (by omega) (Wp.ret ⟨by first | (simp; done) | (simp; omega), by first | (simp; done) | (simp; omega), by first | (simp; done) | (simp; omega)⟩)) (fun _ => ?_)
  refine Wp.ite (fun _ => Wp.ite (fun _ => Wp.pos (by omega) (Wp.ret ⟨by first | (simp; done) | (simp; omega), by first | (simp; done) | (simp; omega), by first | (simp; done) | (simp; omega)⟩)) (fun _ => Wp.ret ⟨by first | (simp; done) | (simp; omega), by first | (simp; done) | (simp; omega), by first | (simp; done) | (simp; omega)⟩)) (fun _ => ?_)
  refine Wp.ite (fun _ => Wp.ite (fun hg => ?_) (fun _ => Wp.ret ⟨by first | (simp; done) | (simp; omega), by first | (simp; done) | (simp; omega), by first | (simp; done) | (simp; omega)⟩)) (fun _ => Wp.ret ⟨by first | (simp; done) | (simp; omega), by first | (simp; done) | (simp; omega), by first | (simp; done) | (simp; omega)⟩)
  refine Wp.call (w_pick b _ _ h1 (by omega) (by omega)) ?_
  rintro _ ⟨y, rfl, y0, y1, _⟩
  have y1 := y1 (by omega)
  have h2 := h.up (q := p + 1 + 1) (by omega) (by omega)
  refine Wp.call (w_one b _ _ h2 (by omega) (by simp) (by simp)) ?_
  rintro _ ⟨z, rfl, hz⟩
  exact Wp.pos y0 (Wp.pos y1 (Wp.ret ⟨by first | (simp; done) | (simp; omega), by first | (simp; done) | (simp; omega), by first | (simp; done) | (simp; omega)⟩))
end Go.Proofs.Ytbldmekplkjfiaa.P
namespace Go.Proofs.Ytbldmekplkjfiaa.P
open Go.RowKit Go.Proofs.YtbldmekplkjfiaaW.PrintWords Go.Proofs.YtbldmekplkjfiaaW.PrintLast Go.Proofs.YtbldmekplkjfiaaW.PrintMore Go.Proofs.Ytbldmekplkjfiaa.Wp
set_option linter.unusedVariables false
set_option linter.unusedSimpArgs false
theorem w_anyPixel (b : List Int) (p n : Int) (h : Rdr b p) (hp : p ≤ 999000) (hn0 : 0 ≤ n) (hn : n ≤ 100) : Wp (fun k => spec_anyPixel.f k b p n) (fun r => r.1.length ≤ n.toNat + 1 ∧ p ≤ r.2 ∧ r.2 ≤ p + n + 3) := by
  unfold spec_anyPixel.f
  have key : ∀ (d i : Nat) (x : List Int) (q : Int), i + d = n.toNat → x.length = i → q = p + i → Wp (fun k => spec_anyPixel.l0 k n x i b q) (fun r => r.1.length ≤ n.toNat + 1 ∧ p ≤ r.2 ∧ r.2 ≤ p + n + 3) := by
    intro d
    induction d with
    | zero =>
      intro i x q hd hx hq
      refine Wp.step (fun k => spec_anyPixel.l0.eq_2 ..) (Wp.neg (by omega) ?_)
      refine Wp.call (w_spoil b q x 256 (h.up (by omega) (by omega)) (by omega) (by omega)) ?_
      rintro ⟨y, q'⟩ ⟨a1, a2, a3⟩
      simp only at a1 a2 a3
      exact Wp.ret ⟨by simp only; omega, by simp only; omega, by simp only; omega⟩
    | succ d ih =>
      intro i x q hd hx hq
      refine Wp.step (fun k => spec_anyPixel.l0.eq_2 ..) (Wp.pos (by omega) ?_)
      refine Wp.call (w_pick b q 256 (h.up (by omega) (by omega)) (by omega) (by omega)) ?_
      rintro _ ⟨u, rfl, u0, u1, _⟩
      refine Wp.pos (by omega) ?_
      rw [w64 (x := (i : Int) + 1) (by omega) (by omega)]
      exact ih (i + 1) _ _ (by omega) (by simp [hx]) (by simp only; omega)
  exact key n.toNat 0 [] p (by omega) rfl (by simp)
end Go.Proofs.Ytbldmekplkjfiaa.P
namespace Go.Proofs.Ytbldmekplkjfiaa.P
open Go.RowKit Go.Proofs.YtbldmekplkjfiaaW.PrintWords Go.Proofs.YtbldmekplkjfiaaW.PrintLast Go.Proofs.YtbldmekplkjfiaaW.PrintMore Go.Proofs.Ytbldmekplkjfiaa.Wp
set_option linter.unusedVariables false
set_option linter.unusedSimpArgs false
theorem w_equalImage (a b c : Int) (l : List Int) (a' b' c' : Int) (l' : List Int) (hl : l.length ≤ 1000000000) : Wp (fun k => laws_equalImage.f k a b c l a' b' c' l') (fun r => r = decide ((a, b, c, l) = (a', b', c', l'))) := by
  unfold laws_equalImage.f
  refine Wp.ite (fun h => ?_) (fun h => Wp.ret (decide_eq_false fun e => h (congrArg (·.1) e)).symm)
  refine Wp.ite (fun h1 => ?_) (fun h1 => Wp.ret (decide_eq_false fun e => h1 (congrArg (·.2.1) e)).symm)
  refine Wp.ite (fun h2 => ?_) (fun h2 => Wp.ret (decide_eq_false fun e => h2 (congrArg (·.2.2.1) e)).symm)
  refine Wp.call (w_equalInts l l' hl) ?_
  rintro _ rfl
  refine Wp.ret ?_
  subst h h1 h2
  rw [Bool.eq_iff_iff, decide_eq_true_eq, decide_eq_true_eq]
  exact ⟨fun e => by rw [e], fun e => congrArg (·.2.2.2) e⟩
end Go.Proofs.Ytbldmekplkjfiaa.P
namespace Go.Proofs.Ytbldmekplkjfiaa.Pure
open Go.RowKit Go.Proofs.Ytbldmekplkjfiaa.P Go.Proofs.YtbldmekplkjfiaaW.PrintWords Go.Proofs.YtbldmekplkjfiaaW.PrintMore Go.Proofs.Ytbldmekplkjfiaa.Wp
set_option linter.unusedVariables false
theorem w_DrawFill (l : List Int) (hb : ∀ x ∈ l, (Lit.int .u8 x).wf = true) : Wp (fun k => spec_DrawFillImage.f k l) (fun r => r.2.2.length ≤ 1024) := by
  unfold spec_DrawFillImage.f
  refine Wp.call (w_newReader l hb) ?_
  rintro ⟨b, p⟩ ⟨h, e⟩
  simp only at e h
  subst e
  refine Wp.call (w_one b 0 _ h (by omega) (by simp) (by simp)) ?_
  rintro _ ⟨x, rfl, _⟩
  refine Wp.call (w_one b _ _ (h.up (by omega) (by omega)) (by omega) (by simp) (by simp)) ?_
  rintro _ ⟨y, rfl, _⟩
  refine Wp.call (w_one b _ _ (h.up (by omega) (by omega)) (by omega) (by simp) (by simp)) ?_
  rintro _ ⟨z, rfl, hz⟩
  simp only [List.mem_cons, List.not_mem_nil, or_false] at hz
  simp only
  refine Wp.call (w_anyPixel b _ z (h.up (by omega) (by omega)) (by omega) (by omega) (by omega)) ?_
  rintro ⟨px, q⟩ ⟨hl, _⟩
  simp only at hl
  exact Wp.ret (by simp only; omega)
theorem fill_len (a b : Int) (px : List Int) : (fillI a b px).2.2.2.length ≤ 1000000 := by
  unfold fillI
  split
  · rename_i h
    have := imgOf_len (fun _ _ => px) a.toNat b.toNat 100 (fun i j _ _ => by omega)
    have b1 : a.toNat * 100 ≤ 16 * 100 := Nat.mul_le_mul (by omega) (Nat.le_refl _)
    have b2 : b.toNat * (a.toNat * 100) ≤ 16 * 1600 := Nat.mul_le_mul (by omega) b1
    exact Nat.le_trans this (by omega)
  · simp
theorem FnFillImage : laws_FnFillImage.Pure := by
  intro l _ _ hb
  refine Wp.rounds ?_
  unfold laws_FnFillImage.f
  refine Wp.ite (fun _ => Wp.ret rfl) (fun _ => ?_)
  refine Wp.call (w_DrawFill l hb) ?_
  rintro ⟨a, b, px⟩ hl
  simp only at hl
  refine Wp.call (w_iFill a b px) ?_
  rintro _ rfl
  refine Wp.call (w_sFill a b px (by omega)) ?_
  rintro _ rfl
  have hg : (fillI a b px).2.2.2.length ≤ 1000000000 := Nat.le_trans (fill_len a b px) (by omega)
  refine Wp.call (w_equalImage _ _ _ _ _ _ _ _ hg) ?_
  rintro _ rfl
  refine Wp.pos (by simp) ?_
  refine Wp.step (fun k => laws_FnFillImage.j0.eq_2 ..) ?_
  refine Wp.ite (fun h0 => ?_) (fun h0 => ?_)
  · refine Wp.call (w_sFill a b px (by omega)) ?_
    rintro _ rfl
    refine Wp.call (w_equalImage _ _ _ _ _ _ _ _ hg) ?_
    rintro _ rfl
    exact Wp.ret (by simp)
  · have hh : (1 ≤ a ∧ a ≤ 16) ∧ (1 ≤ b ∧ b ≤ 16) ∧ (1 ≤ (px.length : Int) ∧ (px.length : Int) ≤ 4) ∧ allB px = true := Decidable.byContradiction fun h => by
      unfold fillI at h0
      rw [if_neg h] at h0
      exact absurd rfl h0
    clear h0 hg
    unfold fillI
    rw [if_pos hh]
    obtain ⟨hn, hm, hp, hB⟩ := hh
    obtain ⟨n, rfl⟩ := Int.eq_ofNat_of_zero_le (show 0 ≤ a by omega)
    obtain ⟨m, rfl⟩ := Int.eq_ofNat_of_zero_le (show 0 ≤ b by omega)
    simp only [Int.toNat_natCast]
    have hpal := pal_const px n m px.length (by omega) (by omega) (by omega) rfl (allB_mem hB)
    have ok := img_ok (fun _ _ => px) n m px.length (by omega) (by omega) (by omega) (fun _ _ _ _ => rfl) (fun _ _ _ _ => allB_mem hB)
    have hpx := pix_img (fun _ _ => px) n m px.length (fun _ _ _ _ => rfl) (m - 1) (n - 1) (by omega) (by omega)
    generalize imgOf (fun _ _ => px) n m = im at hpal ok hpx
    refine Wp.call (w_iPal _ _ _ _) ?_
    rintro _ rfl
    rw [hpal]
    refine Wp.pos rfl (Wp.pos rfl (Wp.pos (show (0 : Int) < 1 by omega) ?_))
    refine Wp.call (w_equalInts (rd_L2 [px] 0) px (by show px.length ≤ _; omega)) ?_
    rintro _ rfl
    refine Wp.pos (decide_eq_true rfl) ?_
    rw [w64 (x := (n : Int) - 1) (by omega) (by omega), w64 (x := (m : Int) - 1) (by omega) (by omega)]
    refine Wp.call (w_iPixelAt _ _ _ _ _ _) ?_
    rintro _ rfl
    rw [if_pos ⟨ok, by omega, by omega⟩, show (n : Int) - 1 = ((n - 1 : Nat) : Int) by omega, show (m : Int) - 1 = ((m - 1 : Nat) : Int) by omega, hpx]
    refine Wp.call (w_equalInts px px (by omega)) ?_
    rintro _ rfl
    refine Wp.pos (by simp) ?_
    unfold impl_ValidImage.f
    refine Wp.call (Q := fun z => z = true) ?_ ?_
    · refine Wp.call (w_iImage _ _ _ _) ?_
      rintro _ rfl
      exact Wp.ret ok
    · rintro _ rfl
      exact Wp.ret rfl
end Go.Proofs.Ytbldmekplkjfiaa.Pure
