/- Pure lemmas: what the printed functions answer, for every input; no Go, no memory, no condition but those that each lemma names. -/
import Derived.Test.YtnamhlcdlbjcfaaVWords
import Derived.Test.YtnamhlcdlbjcfaaK1
import Derived.Test.YtnamhlcdlbjcfaaK2
import Derived.Test.YtnamhlcdlbjcfaaK3
import Derived.Test.YtnamhlcdlbjcfaaK4
import Derived.Test.YtnamhlcdlbjcfaaK5
import Derived.Test.YtnamhlcdlbjcfaaK6
namespace Go.Proofs.Ytnamhlcdlbjcfaa.Wp
open Go.RowKit Go.Proofs.YtnamhlcdlbjcfaaW.PrintWords
set_option linter.unusedVariables false
def Wp {α : Type} (g : Nat → Option α) (P : α → Prop) : Prop := ∃ r, P r ∧ ∃ K, ∀ k, K ≤ k → g k = some r
theorem Wp.mono {α : Type} {g : Nat → Option α} {P Q : α → Prop} (h : Wp g P) (hi : ∀ a, P a → Q a) : Wp g Q := by
  obtain ⟨r, hp, K, hk⟩ := h
  exact ⟨r, hi r hp, K, hk⟩
theorem Wp.ret {α : Type} {P : α → Prop} {r : α} (h : P r) : Wp (fun _ => some r) P := ⟨r, h, 0, fun _ _ => rfl⟩
theorem Wp.bind {α β : Type} {g : Nat → Option α} {f : Nat → α → Option β} {P : β → Prop} (h : Wp g (fun a => Wp (fun k => f k a) P)) : Wp (fun k => (g k).bind (f k)) P := by
  obtain ⟨a, ⟨r, hp, K, hk⟩, K', hk'⟩ := h
  refine ⟨r, hp, max K K', fun k hkk => ?_⟩
  show (g k).bind (f k) = some r
  rw [hk' k (by omega)]
  exact hk k (by omega)
theorem Wp.call {α β : Type} {g : Nat → Option α} {f : Nat → α → Option β} {Q : α → Prop} {P : β → Prop} (h : Wp g Q) (hf : ∀ a, Q a → Wp (fun k => f k a) P) : Wp (fun k => (g k).bind (f k)) P :=
  Wp.bind (h.mono hf)
theorem Wp.ite {α : Type} {c : Prop} [Decidable c] {g h : Nat → Option α} {P : α → Prop} (h1 : c → Wp g P) (h2 : ¬ c → Wp h P) : Wp (fun k => if c then g k else h k) P := by
  by_cases hc : c
  · simpa only [if_pos hc] using h1 hc
  · simpa only [if_neg hc] using h2 hc
theorem Wp.pos {α : Type} {c : Prop} [Decidable c] {g h : Nat → Option α} {P : α → Prop} (hc : c) (h1 : Wp g P) : Wp (fun k => if c then g k else h k) P := Wp.ite (fun _ => h1) (fun h => absurd hc h)
theorem Wp.neg {α : Type} {c : Prop} [Decidable c] {g h : Nat → Option α} {P : α → Prop} (hc : ¬ c) (h1 : Wp h P) : Wp (fun k => if c then g k else h k) P := Wp.ite (fun h => absurd h hc) (fun _ => h1)
theorem Wp.step {α : Type} {g f : Nat → Option α} {P : α → Prop} (h : ∀ k, g (k + 1) = f k) (hf : Wp f P) : Wp g P := by
  obtain ⟨r, hp, K, hk⟩ := hf
  refine ⟨r, hp, K + 1, fun k hkk => ?_⟩
  obtain ⟨k, rfl⟩ : ∃ m, k = m + 1 := ⟨k - 1, by omega⟩
  rw [h k]
  exact hk k (by omega)
theorem Wp.of {α : Type} {g : Nat → Option α} {P : α → Prop} {r : α} (h : ∀ k, g k = some r) (hp : P r) : Wp g P := ⟨r, hp, 0, fun k _ => h k⟩
theorem Wp.rounds {α : Type} {g : Nat → Option α} {r : α} (h : Wp g (fun a => a = r)) : ∃ k, g k = some r := by
  obtain ⟨r', rfl, K, hk⟩ := h
  exact ⟨K, hk K (Nat.le_refl K)⟩
theorem w64 {x : Int} (h0 : -9223372036854775808 ≤ x) (h1 : x ≤ 9223372036854775807) : wrap64 x = x := by
  unfold wrap64
  omega
end Go.Proofs.Ytnamhlcdlbjcfaa.Wp
namespace Go.Proofs.Ytnamhlcdlbjcfaa.P
open Go.RowKit Go.Proofs.YtnamhlcdlbjcfaaW.PrintWords Go.Proofs.YtnamhlcdlbjcfaaW.PrintLast Go.Proofs.YtnamhlcdlbjcfaaW.PrintMore Go.Proofs.Ytnamhlcdlbjcfaa.Wp
set_option linter.unusedVariables false
set_option linter.unusedSimpArgs false
def sumN (f : Nat → Int) : Nat → Int
  | 0 => 0
  | n + 1 => sumN f n + f n
theorem sumN_congr {f g : Nat → Int} {n : Nat} (h : ∀ i, i < n → f i = g i) : sumN f n = sumN g n := by
  induction n with
  | zero => rfl
  | succ n ih => rw [sumN, sumN, ih fun i hi => h i (by omega), h n (by omega)]
theorem sumN_mono {f g : Nat → Int} {n : Nat} (h : ∀ i, i < n → f i ≤ g i) : sumN f n ≤ sumN g n := by
  induction n with
  | zero => exact Int.le_refl _
  | succ n ih =>
    have h1 := ih fun i hi => h i (by omega)
    have h2 := h n (by omega)
    rw [sumN, sumN]
    omega
theorem sumN_mul (c : Int) (f : Nat → Int) (n : Nat) : sumN (fun i => c * f i) n = c * sumN f n := by
  induction n with
  | zero => simp [sumN]
  | succ n ih => rw [sumN, sumN, ih, Int.mul_add]
theorem sumN_mulr (c : Int) (f : Nat → Int) (n : Nat) : sumN (fun i => f i * c) n = sumN f n * c := by
  induction n with
  | zero => simp [sumN]
  | succ n ih => rw [sumN, sumN, ih, Int.add_mul]
theorem sumN_add (f g : Nat → Int) (n : Nat) : sumN (fun i => f i + g i) n = sumN f n + sumN g n := by
  induction n with
  | zero => rfl
  | succ n ih => rw [sumN, sumN, sumN, ih]; omega
theorem sumN_zero (n : Nat) : sumN (fun _ => 0) n = 0 := by
  induction n with
  | zero => rfl
  | succ n ih => rw [sumN, ih]; rfl
theorem sumN_comm (f : Nat → Nat → Int) (n m : Nat) : sumN (fun j => sumN (fun i => f i j) n) m = sumN (fun i => sumN (fun j => f i j) m) n := by
  induction m with
  | zero => exact (sumN_zero n).symm
  | succ m ih =>
    rw [sumN, ih, ← sumN_add]
    rfl
theorem sumN_prod (u v : Nat → Int) (n m : Nat) : sumN (fun j => sumN (fun i => u i * v j) n) m = sumN u n * sumN v m := by
  rw [← sumN_mul]
  exact sumN_congr fun j _ => sumN_mulr (v j) u n
end Go.Proofs.Ytnamhlcdlbjcfaa.P
namespace Go.Proofs.Ytnamhlcdlbjcfaa.P
open Go.RowKit Go.Proofs.YtnamhlcdlbjcfaaW.PrintWords Go.Proofs.YtnamhlcdlbjcfaaW.PrintLast Go.Proofs.YtnamhlcdlbjcfaaW.PrintMore Go.Proofs.Ytnamhlcdlbjcfaa.Wp
set_option linter.unusedVariables false
set_option linter.unusedSimpArgs false
def cv (i n k m : Int) : Int := max (min (i * n + n) (k * m + m) - max (i * n) (k * m)) 0
theorem cv_range {i n k m : Int} (hn : 0 ≤ n) : 0 ≤ cv i n k m ∧ cv i n k m ≤ n := by
  unfold cv
  generalize i * n = a
  generalize k * m = b
  omega
theorem cv_part (n m k : Int) (hn : 0 ≤ n) (hm : 0 ≤ m) (hk : 0 ≤ k) (t : Nat) : sumN (fun i => cv i n k m) t = max (min (t * n) (k * m + m) - k * m) 0 := by
  have hb : 0 ≤ k * m := Int.mul_nonneg hk hm
  induction t with
  | zero =>
    rw [sumN]
    simp only [Int.natCast_zero, Int.zero_mul]
    omega
  | succ t ih =>
    rw [sumN, ih, cv, show ((t + 1 : Nat) : Int) * n = (t : Int) * n + n by rw [Int.natCast_add, Int.add_mul]; simp]
    have ha : 0 ≤ (t : Int) * n := Int.mul_nonneg (by omega) hn
    generalize (t : Int) * n = a at *
    generalize k * m = b at *
    omega
theorem cv_all (n m : Nat) (k : Int) (hk : 0 ≤ k) (hk2 : k < n) : sumN (fun i => cv i n k m) m = m := by
  rw [cv_part n m k (by omega) (by omega) hk]
  have h : (k + 1) * (m : Int) ≤ (n : Int) * m := Int.mul_le_mul_of_nonneg_right (by omega) (by omega)
  rw [Int.add_mul, Int.one_mul] at h
  rw [Int.mul_comm (m : Int) n]
  generalize (n : Int) * m = a at *
  generalize k * (m : Int) = b at *
  omega
def areaS (d : Nat → Nat → Int) (a b : Nat) (w h x y : Int) : Int := sumN (fun j => sumN (fun i => d i j * (cv i w x a * cv j h y b)) a) b
theorem areaS_one (a b w h : Nat) (x y : Int) (hx : 0 ≤ x) (hx2 : x < w) (hy : 0 ≤ y) (hy2 : y < h) : sumN (fun j => sumN (fun i => cv i w x a * cv j h y b) a) b = (a : Int) * b := by
  rw [sumN_prod (fun i => cv i w x a) (fun j => cv j h y b), cv_all w a x hx hx2, cv_all h b y hy hy2]
theorem areaS_le (d : Nat → Nat → Int) (lo hi : Int) (a b w h : Nat) (x y : Int) (hx : 0 ≤ x) (hx2 : x < w) (hy : 0 ≤ y) (hy2 : y < h) (hd : ∀ i j, i < a → j < b → lo ≤ d i j ∧ d i j ≤ hi) :
    lo * (a * b) ≤ areaS d a b w h x y ∧ areaS d a b w h x y ≤ hi * (a * b) := by
  have e : ∀ c : Int, c * ((a : Int) * b) = sumN (fun j => sumN (fun i => c * (cv i w x a * cv j h y b)) a) b := fun c => by
    rw [← areaS_one a b w h x y hx hx2 hy hy2, ← sumN_mul]
    exact sumN_congr fun j _ => (sumN_mul c _ a).symm
  have nn : ∀ i j : Nat, 0 ≤ cv (i : Int) w x a * cv (j : Int) h y b := fun i j => Int.mul_nonneg (cv_range (by omega)).1 (cv_range (by omega)).1
  rw [e, e]
  exact ⟨sumN_mono fun j hj => sumN_mono fun i hi => Int.mul_le_mul_of_nonneg_right (hd i j hi hj).1 (nn i j), sumN_mono fun j hj => sumN_mono fun i hi => Int.mul_le_mul_of_nonneg_right (hd i j hi hj).2 (nn i j)⟩
theorem areaS_comm (d : Nat → Nat → Int) (a b : Nat) (w h x y : Int) : areaS (fun i j => d j i) b a h w y x = areaS d a b w h x y := by
  unfold areaS
  rw [sumN_comm]
  exact sumN_congr fun j _ => sumN_congr fun i _ => by rw [Int.mul_comm (cv (j : Int) h y b)]
def meanR (s A : Int) : Int := (2 * s + A) / (2 * A)
theorem meanR_le {s A lo hi : Int} (hA : 0 < A) (h1 : lo * A ≤ s) (h2 : s ≤ hi * A) : lo ≤ meanR s A ∧ meanR s A ≤ hi := by
  unfold meanR
  constructor
  · refine (Int.le_ediv_iff_mul_le (by omega)).2 ?_
    rw [Int.mul_left_comm]
    omega
  · have : (2 * s + A) / (2 * A) < hi + 1 := by
      refine (Int.ediv_lt_iff_lt_mul (by omega)).2 ?_
      rw [Int.add_mul, Int.mul_left_comm]
      omega
    omega
end Go.Proofs.Ytnamhlcdlbjcfaa.P
namespace Go.Proofs.Ytnamhlcdlbjcfaa.P
open Go.RowKit Go.Proofs.YtnamhlcdlbjcfaaW.PrintWords Go.Proofs.YtnamhlcdlbjcfaaW.PrintLast Go.Proofs.YtnamhlcdlbjcfaaW.PrintMore Go.Proofs.Ytnamhlcdlbjcfaa.Wp
set_option linter.unusedVariables false
set_option linter.unusedSimpArgs false
theorem bl_rd (l : List Int) (i : Nat) : rd l (i : Int) = l.getD i 0 := by simp [rd]
theorem bl_ext {x l : List Int} (hx : x.length = l.length) (h : ∀ j, j < l.length → x.getD j 0 = l.getD j 0) : x = l := by
  apply List.ext_getElem hx
  intro j h1 h2
  have := h j h2
  simpa [List.getD_eq_getElem?_getD, List.getElem?_eq_getElem h1, List.getElem?_eq_getElem h2] using this
theorem bl_set {x : List Int} {i : Nat} (v : Int) (j : Nat) (hi : i < x.length) : (x.set i v).getD j 0 = if j = i then v else x.getD j 0 := by
  simp only [List.getD_eq_getElem?_getD, List.getElem?_set]
  by_cases h : i = j
  · subst h; simp [hi]
  · simp [h, Ne.symm h, eq_comm]
theorem bl_map_range (f : Nat → Int) (n j : Nat) (hj : j < n) : ((List.range n).map f).getD j 0 = f j := by
  simp [List.getD_eq_getElem?_getD, hj]
theorem bl_all_drop (l : List Int) (p : Int → Bool) (i : Nat) (h : i < l.length) : (l.drop i).all p = (p (l.getD i 0) && (l.drop (i + 1)).all p) := by
  rw [List.drop_eq_getElem_cons h, List.all_cons]
  simp [List.getD_eq_getElem?_getD, List.getElem?_eq_getElem h]
def allB (l : List Int) : Bool := l.all fun n => decide (0 ≤ n ∧ n ≤ 255)
theorem allB_mem {l : List Int} (h : allB l = true) : ∀ x ∈ l, 0 ≤ x ∧ x ≤ 255 := fun x hx => of_decide_eq_true (List.all_eq_true.1 h x hx)
theorem allB_of {l : List Int} (h : ∀ x ∈ l, 0 ≤ x ∧ x ≤ 255) : allB l = true := List.all_eq_true.2 fun x hx => decide_eq_true (h x hx)
theorem w_inRange0 (a b c : Int) : Wp (fun _ => spec_inRange.f a b c) (fun r => r = decide (b ≤ a ∧ a ≤ c)) := by
  unfold spec_inRange.f
  refine Wp.ite (fun h => Wp.ret ?_) (fun h => Wp.ret ?_)
  · simp [h]
  · simp [h]
theorem w_allIn (l : List Int) (a b : Int) (hl : l.length ≤ 1000000000) : Wp (fun k => spec_allIn.f k l a b) (fun r => r = l.all fun n => decide (a ≤ n ∧ n ≤ b)) := by
  unfold spec_allIn.f
  have key : ∀ d (i : Nat), i + d = l.length → Wp (fun k => spec_allIn.l0 k l a b i) (fun r => r = (l.drop i).all fun n => decide (a ≤ n ∧ n ≤ b)) := by
    intro d
    induction d with
    | zero =>
      intro i hd
      refine Wp.step (fun k => spec_allIn.l0.eq_2 ..) (Wp.neg (by omega) (Wp.ret ?_))
      rw [List.drop_of_length_le (by omega)]
      rfl
    | succ d ih =>
      intro i hd
      refine Wp.step (fun k => spec_allIn.l0.eq_2 ..) (Wp.pos (by omega) (Wp.pos (by omega) ?_))
      refine Wp.call (w_inRange0 _ _ _) ?_
      rintro _ rfl
      rw [bl_all_drop l _ i (by omega), bl_rd]
      refine Wp.ite (fun h => ?_) (fun h => Wp.ret ?_)
      · rw [h, Bool.true_and, w64 (x := (i : Int) + 1) (by omega) (by omega)]
        exact ih (i + 1) (by omega)
      · rw [Bool.not_eq_true] at h
        rw [h, Bool.false_and]
  exact key l.length 0 (by omega)
theorem w_allB (l : List Int) (hl : l.length ≤ 1000000000) : Wp (fun k => spec_allIn.f k l 0 255) (fun r => r = allB l) := w_allIn l 0 255 hl
def marks (a : Int) (n : Nat) : List Int := (List.range n).map fun j : Nat => a + (j : Int)
theorem w_equalInts (a b : List Int) (hl : a.length ≤ 1000000000) : Wp (fun k => laws_equalInts.f k a b) (fun r => r = decide (a = b)) := by
  unfold laws_equalInts.f
  refine Wp.ite (fun he => ?_) (fun he => Wp.ret ?_)
  · have key : ∀ d (i : Nat), i + d = a.length → (∀ j, j < i → a.getD j 0 = b.getD j 0) → Wp (fun k => laws_equalInts.l0 k a b i) (fun r => r = decide (a = b)) := by
      intro d
      induction d with
      | zero =>
        intro i hd h
        refine Wp.step (fun k => laws_equalInts.l0.eq_2 ..) (Wp.neg (by omega) (Wp.ret ?_))
        exact (decide_eq_true (bl_ext (by omega) fun j hj => h j (by omega))).symm
      | succ d ih =>
        intro i hd h
        refine Wp.step (fun k => laws_equalInts.l0.eq_2 ..) (Wp.pos (by omega) (Wp.pos (by omega) (Wp.pos (by omega) ?_)))
        rw [bl_rd, bl_rd]
        refine Wp.ite (fun h1 => ?_) (fun h1 => Wp.ret ?_)
        · rw [w64 (x := (i : Int) + 1) (by omega) (by omega)]
          refine ih (i + 1) (by omega) fun j hj => ?_
          by_cases e : j = i
          · rw [e]; exact h1
          · exact h j (by omega)
        · exact (decide_eq_false fun e => h1 (by rw [e])).symm
    exact key a.length 0 (by omega) (fun j hj => by omega)
  · exact (decide_eq_false fun e => he (by rw [e])).symm
end Go.Proofs.Ytnamhlcdlbjcfaa.P
namespace Go.Proofs.Ytnamhlcdlbjcfaa.P
open Go.RowKit Go.Proofs.YtnamhlcdlbjcfaaW.PrintWords Go.Proofs.YtnamhlcdlbjcfaaW.PrintLast Go.Proofs.YtnamhlcdlbjcfaaW.PrintMore Go.Proofs.Ytnamhlcdlbjcfaa.Wp
set_option linter.unusedVariables false
set_option linter.unusedSimpArgs false
theorem rd_cut (l : List Int) (a b i : Int) (ha : 0 ≤ a) (hi : 0 ≤ i) (hb : a + i < b) : rd ((l.take b.toNat).drop a.toNat) i = rd l (a + i) := by
  unfold rd
  rw [List.getD_eq_getElem?_getD, List.getD_eq_getElem?_getD, List.getElem?_drop, List.getElem?_take, if_pos (by omega)]
  congr 2
  omega
def imgB (a b c : Int) (l : List Int) : Bool := decide ((1 ≤ a ∧ a ≤ 16) ∧ (1 ≤ b ∧ b ≤ 16) ∧ (1 ≤ c ∧ c ≤ 4)) && decide ((l.length : Int) = a * b * c) && allB l
theorem imgB_ok {a b c : Int} {l : List Int} : imgB a b c l = true ↔ ImgOk a b c l := by
  unfold imgB ImgOk
  rw [Bool.and_eq_true, Bool.and_eq_true, decide_eq_true_eq, decide_eq_true_eq]
  constructor
  · rintro ⟨⟨h1, h2⟩, h3⟩
    exact ⟨h1.1, h1.2.1, h1.2.2, h2, allB_mem h3⟩
  · rintro ⟨h1, h2, h3, h4, h5⟩
    exact ⟨⟨⟨h1, h2, h3⟩, h4⟩, allB_of h5⟩
theorem w_iImage (a b c : Int) (l : List Int) : Wp (fun _ => impl_isImage.f a b c l) (fun r => r = imgB a b c l) := by
  obtain ⟨r, hr, hi⟩ := isImage_some a b c l
  refine Wp.of (fun _ => hr) ?_
  rw [Bool.eq_iff_iff, hi, imgB_ok]
theorem w_sImage (a b c : Int) (l : List Int) (hl : l.length ≤ 1000000000) : Wp (fun k => spec_validImage.f k a b c l) (fun r => r = imgB a b c l) := by
  unfold spec_validImage.f spec_validShape.f imgB
  refine Wp.call (Q := fun r => r = decide ((1 ≤ a ∧ a ≤ 16) ∧ (1 ≤ b ∧ b ≤ 16) ∧ (1 ≤ c ∧ c ≤ 4))) ?_ ?_
  · refine Wp.call (w_inRange0 _ _ _) ?_
    rintro _ rfl
    refine Wp.ite (fun h => ?_) (fun h => Wp.ret ?_)
    · refine Wp.call (w_inRange0 _ _ _) ?_
      rintro _ rfl
      refine Wp.ite (fun h2 => ?_) (fun h2 => Wp.ret ?_)
      · refine Wp.call (w_inRange0 _ _ _) ?_
        rintro _ rfl
        refine Wp.ret ?_
        rw [decide_eq_true_eq] at h h2
        rw [Bool.eq_iff_iff, decide_eq_true_eq, decide_eq_true_eq]
        exact ⟨fun h3 => ⟨h, h2, h3⟩, fun h3 => h3.2.2⟩
      · rw [decide_eq_true_eq] at h2
        exact (decide_eq_false fun h3 => h2 h3.2.1).symm
    · rw [decide_eq_true_eq] at h
      exact (decide_eq_false fun h3 => h h3.1).symm
  · rintro _ rfl
    refine Wp.ite (fun h => ?_) (fun h => Wp.ret ?_)
    · rw [h, Bool.true_and]
      rw [decide_eq_true_eq] at h
      obtain ⟨h0, h1, h2⟩ := h
      have hB := img_bounds h0 h1 h2
      rw [w64 (x := a * b) (by omega) (by omega), w64 (x := a * b * c) (by omega) (by omega)]
      refine Wp.ite (fun h3 => ?_) (fun h3 => Wp.ret ?_)
      · rw [decide_eq_true h3, Bool.true_and]
        refine Wp.call (w_allB l hl) ?_
        rintro _ rfl
        exact Wp.ret rfl
      · rw [decide_eq_false h3]; rfl
    · rw [Bool.not_eq_true] at h
      rw [h]; rfl
theorem w_newImage (a b c : Int) (h0 : 0 ≤ a ∧ a ≤ 1000) (h1 : 0 ≤ b ∧ b ≤ 1000) (h2 : 0 ≤ c ∧ c ≤ 1000) : Wp (fun _ => spec_newImage.f a b c) (fun r => r = (a, b, c, List.replicate (a * b * c).toNat 0)) := by
  have m1 : 0 ≤ a * b := Int.mul_nonneg h0.1 h1.1
  have m2 : a * b ≤ 1000 * 1000 := Int.mul_le_mul h0.2 h1.2 h1.1 (by omega)
  have m3 : 0 ≤ a * b * c := Int.mul_nonneg m1 h2.1
  have m4 : a * b * c ≤ 1000000 * 1000 := Int.mul_le_mul m2 h2.2 h2.1 (by omega)
  unfold spec_newImage.f
  rw [w64 (x := a * b) (by omega) (by omega), w64 (x := a * b * c) (by omega) (by omega)]
  exact Wp.pos m3 (Wp.pos (by omega) (Wp.ret rfl))
end Go.Proofs.Ytnamhlcdlbjcfaa.P
namespace Go.Proofs.Ytnamhlcdlbjcfaa.P
open Go.RowKit Go.Proofs.YtnamhlcdlbjcfaaW.PrintWords Go.Proofs.YtnamhlcdlbjcfaaW.PrintLast Go.Proofs.YtnamhlcdlbjcfaaW.PrintMore Go.Proofs.Ytnamhlcdlbjcfaa.Wp
set_option linter.unusedVariables false
set_option linter.unusedSimpArgs false
theorem fm_len (h : Nat → List Int) (n p : Nat) (hf : ∀ i, i < n → (h i).length = p) : ((List.range n).flatMap h).length = n * p := by
  induction n with
  | zero => simp
  | succ n ih =>
    rw [List.range_succ, List.flatMap_append, List.length_append, ih fun i hi => hf i (by omega), Nat.succ_mul]
    simp [hf n (by omega)]
theorem fm_get (h : Nat → List Int) (n p j q : Nat) (hf : ∀ i, i < n → (h i).length = p) (hj : j < n) (hq : q < p) : ((List.range n).flatMap h).getD (j * p + q) 0 = (h j).getD q 0 := by
  induction n with
  | zero => omega
  | succ n ih =>
    have hlen := fm_len h n p fun i hi => hf i (by omega)
    rw [List.range_succ, List.flatMap_append, List.getD_eq_getElem?_getD]
    by_cases hjn : j < n
    · have : j * p + q < n * p := by
        have : (j + 1) * p ≤ n * p := Nat.mul_le_mul_right p (by omega)
        rw [Nat.succ_mul] at this
        omega
      rw [List.getElem?_append_left (by omega), ← List.getD_eq_getElem?_getD]
      exact ih (fun i hi => hf i (by omega)) hjn
    · have : j = n := by omega
      subst this
      rw [List.getElem?_append_right (by omega), hlen, show j * p + q - j * p = q by omega]
      simp [List.getD_eq_getElem?_getD]
theorem img_len (f : Int → Int → List Int) (n m p : Nat) (hf : ∀ i j : Nat, j < n → i < m → (f j i).length = p) : (imgOf f n m).length = m * n * p := by
  induction m with
  | zero => simp [imgOf]
  | succ m ih =>
    rw [imgOf_succ, List.length_append, ih fun i j hj hi => hf i j hj (by omega)]
    unfold imgRow
    rw [fm_len _ n p fun j hj => hf m j hj (by omega), Nat.succ_mul, Nat.add_mul]
theorem img_get (f : Int → Int → List Int) (n m p i j q : Nat) (hf : ∀ i j : Nat, j < n → i < m → (f j i).length = p) (hj : j < n) (hi : i < m) (hq : q < p) :
    (imgOf f n m).getD ((i * n + j) * p + q) 0 = (f j i).getD q 0 := by
  have e : imgOf f n m = (List.range m).flatMap fun i : Nat => imgRow f i n := rfl
  have hr : ∀ i : Nat, i < m → (imgRow f i n).length = n * p := fun i hi => by
    unfold imgRow
    exact fm_len _ n p fun j hj => hf i j hj hi
  have hb : j * p + q < n * p := by
    have : (j + 1) * p ≤ n * p := Nat.mul_le_mul_right p (by omega)
    rw [Nat.succ_mul] at this
    omega
  rw [e, show (i * n + j) * p + q = i * (n * p) + (j * p + q) by rw [Nat.add_mul, Nat.mul_assoc]; omega, fm_get _ m (n * p) i _ hr hi hb]
  unfold imgRow
  exact fm_get _ n p j q (fun j hj => hf i j hj hi) hj hq
theorem img_ext (f : Int → Int → List Int) (n m p : Nat) (x : List Int) (hf : ∀ i j : Nat, j < n → i < m → (f j i).length = p) (hx : x.length = m * n * p)
    (h : ∀ i j q : Nat, i < m → j < n → q < p → x.getD ((i * n + j) * p + q) 0 = (f j i).getD q 0) : x = imgOf f n m := by
  refine bl_ext (by rw [hx, img_len f n m p hf]) fun t ht => ?_
  rw [img_len f n m p hf] at ht
  have hp : 0 < p := by rcases Nat.eq_zero_or_pos p with h | h; (· subst h; omega); exact h
  have ht2 : t / p < m * n := Nat.div_lt_of_lt_mul (by rw [Nat.mul_comm]; exact ht)
  have hn : 0 < n := by rcases Nat.eq_zero_or_pos n with h | h; (· subst h; omega); exact h
  have hi : t / p / n < m := Nat.div_lt_of_lt_mul (by rw [Nat.mul_comm]; exact ht2)
  have hj : t / p % n < n := Nat.mod_lt _ hn
  have hq : t % p < p := Nat.mod_lt _ hp
  have e1 : t / p / n * n + t / p % n = t / p := by rw [Nat.mul_comm]; exact Nat.div_add_mod _ _
  have e2 : t / p * p + t % p = t := by rw [Nat.mul_comm]; exact Nat.div_add_mod _ _
  have h1 := h _ _ _ hi hj hq
  have h2 := img_get f n m p _ _ _ hf hj hi hq
  rw [e1, e2] at h1 h2
  rw [h1, h2]
end Go.Proofs.Ytnamhlcdlbjcfaa.P
namespace Go.Proofs.Ytnamhlcdlbjcfaa.P
open Go.RowKit Go.Proofs.YtnamhlcdlbjcfaaW.PrintWords Go.Proofs.YtnamhlcdlbjcfaaW.PrintLast Go.Proofs.YtnamhlcdlbjcfaaW.PrintMore Go.Proofs.Ytnamhlcdlbjcfaa.Wp
set_option linter.unusedVariables false
set_option linter.unusedSimpArgs false
theorem pix_get {l : List Int} {n p x y : Int} (q : Nat) (h0 : 0 ≤ (y * n + x) * p) (hq : (q : Int) < p) : (pixOf l n p x y).getD q 0 = rd l ((y * n + x) * p + q) := by
  unfold pixOf
  have := rd_cut l ((y * n + x) * p) ((y * n + x) * p + p) q h0 (by omega) (by omega)
  rw [← this, bl_rd]
theorem pix_img (f : Int → Int → List Int) (n m p : Nat) (hf : ∀ i j : Nat, j < n → i < m → (f j i).length = p) (i j : Nat) (hj : j < n) (hi : i < m) : pixOf (imgOf f n m) n p j i = f j i := by
  have hl := img_len f n m p hf
  have e : ((i : Int) * n + j) * p = (((i * n + j) * p : Nat) : Int) := by rw [Int.natCast_mul (i * n + j) p, Int.natCast_add, Int.natCast_mul]
  have hb : (i * n + j) * p + p ≤ m * n * p := by
    have h1 : i * n + j + 1 ≤ m * n := by
      have : (i + 1) * n ≤ m * n := Nat.mul_le_mul_right n hi
      rw [Nat.succ_mul] at this
      omega
    have : (i * n + j + 1) * p ≤ m * n * p := Nat.mul_le_mul_right p h1
    rw [Nat.succ_mul] at this
    omega
  have hlen := pixOf_length (l := imgOf f n m) (n := n) (p := p) (x := j) (y := i) (by rw [e]; omega) (by omega) (by rw [e]; omega)
  have hfl := hf i j hj hi
  refine bl_ext (by omega) fun q hq => ?_
  rw [pix_get q (by rw [e]; omega) (by omega), e, ← Int.natCast_add, bl_rd]
  exact img_get f n m p i j q hf hj hi (by omega)
theorem img_mem (f : Int → Int → List Int) (n m : Nat) (P : Int → Prop) (h : ∀ i j : Nat, j < n → i < m → ∀ v ∈ f j i, P v) : ∀ v ∈ imgOf f n m, P v := by
  intro v hv
  unfold imgOf imgRow at hv
  obtain ⟨i, hi, hv⟩ := List.mem_flatMap.1 hv
  obtain ⟨j, hj, hv⟩ := List.mem_flatMap.1 hv
  exact h i j (List.mem_range.1 hj) (List.mem_range.1 hi) v hv
theorem img_ok (f : Int → Int → List Int) (n m p : Nat) (hn : 1 ≤ n ∧ n ≤ 16) (hm : 1 ≤ m ∧ m ≤ 16) (hp : 1 ≤ p ∧ p ≤ 4) (hf : ∀ i j : Nat, j < n → i < m → (f j i).length = p) (hb : ∀ i j : Nat, j < n → i < m → ∀ v ∈ f j i, 0 ≤ v ∧ v ≤ 255) :
    imgB n m p (imgOf f n m) = true := imgB_ok.2 ⟨by omega, by omega, by omega, by rw [img_len f n m p hf, Int.natCast_mul, Int.natCast_mul, Int.mul_comm (m : Int)], img_mem f n m _ hb⟩
theorem img_congr (f g : Int → Int → List Int) (n m : Nat) (h : ∀ i j : Nat, j < n → i < m → f j i = g j i) : imgOf f n m = imgOf g n m := by
  induction m with
  | zero => rfl
  | succ m ih =>
    rw [imgOf_succ, imgOf_succ, ih fun i j hj hi => h i j hj (by omega)]
    congr 1
    have hm : ∀ j : Nat, j < n → f j m = g j m := fun j hj => h m j hj (by omega)
    clear ih h
    induction n with
    | zero => rfl
    | succ n ih => rw [imgRow_succ, imgRow_succ, ih fun j hj => hm j (by omega), hm n (by omega)]
theorem img_self (l : List Int) (n m p : Nat) (hl : l.length = m * n * p) : imgOf (fun x y => pixOf l n p x y) n m = l := by
  have hlen : ∀ i j : Nat, j < n → i < m → (pixOf l n p j i).length = p ∧ ((i : Int) * n + j) * p = (((i * n + j) * p : Nat) : Int) := fun i j hj hi => by
    have e : ((i : Int) * n + j) * p = (((i * n + j) * p : Nat) : Int) := by rw [Int.natCast_mul (i * n + j) p, Int.natCast_add, Int.natCast_mul]
    have hb : (i * n + j) * p + p ≤ m * n * p := by
      have h1 : i * n + j + 1 ≤ m * n := by
        have : (i + 1) * n ≤ m * n := Nat.mul_le_mul_right n hi
        rw [Nat.succ_mul] at this
        omega
      have : (i * n + j + 1) * p ≤ m * n * p := Nat.mul_le_mul_right p h1
      rw [Nat.succ_mul] at this
      omega
    have := pixOf_length (l := l) (n := n) (p := p) (x := j) (y := i) (by rw [e]; omega) (by omega) (by rw [e]; omega)
    exact ⟨by omega, e⟩
  refine (img_ext _ n m p l (fun i j hj hi => (hlen i j hj hi).1) hl fun i j q hi hj hq => ?_).symm
  have e := (hlen i j hj hi).2
  rw [pix_get q (by rw [e]; omega) (by omega), e, ← Int.natCast_add, bl_rd]
end Go.Proofs.Ytnamhlcdlbjcfaa.P
namespace Go.Proofs.Ytnamhlcdlbjcfaa.P
open Go.RowKit Go.Proofs.YtnamhlcdlbjcfaaW.PrintWords Go.Proofs.YtnamhlcdlbjcfaaW.PrintLast Go.Proofs.YtnamhlcdlbjcfaaW.PrintMore Go.Proofs.Ytnamhlcdlbjcfaa.Wp
set_option linter.unusedVariables false
set_option linter.unusedSimpArgs false
theorem fd_emod_le (a b : Int) (ha : 0 ≤ a) (hb : 0 < b) : a % b ≤ a := by
  obtain ⟨m, rfl⟩ := Int.eq_ofNat_of_zero_le ha
  obtain ⟨n, rfl⟩ := Int.eq_ofNat_of_zero_le (Int.le_of_lt hb)
  have := Nat.mod_le m n
  omega
theorem fd_parts (a b : Int) (hb : 0 < b) : (0 ≤ Int.tmod a b ∧ a / b = Int.tdiv a b) ∨ (Int.tmod a b < 0 ∧ a / b = Int.tdiv a b - 1) := by
  have h1 : Int.tmod a b + b * Int.tdiv a b = a := Int.tmod_add_mul_tdiv a b
  have h2 : Int.tmod a b < b := Int.tmod_lt_of_pos a hb
  rcases Int.lt_or_le a 0 with ha | ha
  · have h3 : 0 ≤ Int.tmod (-a) b := Int.tmod_nonneg b (by omega)
    have h4 : Int.tmod (-a) b < b := Int.tmod_lt_of_pos (-a) hb
    rw [Int.neg_tmod] at h3 h4
    by_cases hz : Int.tmod a b = 0
    · left
      refine ⟨by omega, ?_⟩
      exact ((Int.ediv_emod_unique (r := Int.tmod a b) (q := Int.tdiv a b) hb).2 ⟨h1, by omega, h2⟩).1
    · right
      refine ⟨by omega, ?_⟩
      refine ((Int.ediv_emod_unique (r := Int.tmod a b + b) (q := Int.tdiv a b - 1) hb).2 ⟨?_, by omega, by omega⟩).1
      rw [Int.mul_sub]
      omega
  · left
    refine ⟨Int.tmod_nonneg b ha, ?_⟩
    exact (Int.tdiv_eq_ediv_of_nonneg ha).symm
theorem fd_bound (a b : Int) (hb : 0 < b) : -(a.natAbs : Int) ≤ Int.tdiv a b ∧ Int.tdiv a b ≤ a.natAbs := by
  have := Int.natAbs_tdiv_le_natAbs a b
  omega
theorem fd_mul (a b : Int) (hb : 0 < b) : Int.tdiv a b * b = a - Int.tmod a b := by
  have h1 : Int.tmod a b + b * Int.tdiv a b = a := Int.tmod_add_mul_tdiv a b
  rw [Int.mul_comm]
  omega
theorem fd_tmod_bound (a b : Int) (hb : 0 < b) : -(a.natAbs : Int) ≤ Int.tmod a b ∧ Int.tmod a b ≤ a.natAbs := by
  rcases Int.lt_or_le a 0 with ha | ha
  · have h3 : 0 ≤ Int.tmod (-a) b := Int.tmod_nonneg b (by omega)
    have h5 : Int.tmod (-a) b ≤ -a := by
      rw [Int.tmod_eq_emod_of_nonneg (by omega)]
      exact fd_emod_le _ b (by omega) hb
    rw [Int.neg_tmod] at h3 h5
    omega
  · have h3 : 0 ≤ Int.tmod a b := Int.tmod_nonneg b ha
    have h5 : Int.tmod a b ≤ a := by
      rw [Int.tmod_eq_emod_of_nonneg ha]
      exact fd_emod_le _ b ha hb
    omega
theorem w_iFloorDiv (a b : Int) (ha : -1000000000000000 ≤ a) (ha2 : a ≤ 1000000000000000) (hb : 0 < b) : Wp (fun _ => impl_floorDiv.f a b) (fun r => r = a / b) := by
  have h := fd_parts a b hb
  have q := fd_bound a b hb
  have m := fd_mul a b hb
  have t := fd_tmod_bound a b hb
  unfold impl_floorDiv.f
  rw [w64 (x := Int.tdiv a b) (by omega) (by omega), m, w64 (x := a - Int.tmod a b) (by omega) (by omega)]
  refine Wp.neg (by omega) (Wp.ite (fun h1 => Wp.ret ?_) (fun h1 => Wp.ret ?_))
  · rw [w64 (by omega) (by omega)]
    omega
  · omega
end Go.Proofs.Ytnamhlcdlbjcfaa.P
namespace Go.Proofs.Ytnamhlcdlbjcfaa.P
open Go.RowKit Go.Proofs.YtnamhlcdlbjcfaaW.PrintWords Go.Proofs.YtnamhlcdlbjcfaaW.PrintLast Go.Proofs.YtnamhlcdlbjcfaaW.PrintMore Go.Proofs.Ytnamhlcdlbjcfaa.Wp
set_option linter.unusedVariables false
set_option linter.unusedSimpArgs false
theorem mul_small {a b : Int} (m n : Int) (h0 : 0 ≤ a) (h1 : a ≤ m) (h2 : 0 ≤ b) (h3 : b ≤ n) : 0 ≤ a * b ∧ a * b ≤ m * n := ⟨Int.mul_nonneg h0 h2, Int.mul_le_mul h1 h3 h2 (by omega)⟩
theorem cov_eq {i n k m : Int} (hi : 0 ≤ i ∧ i ≤ 100) (hn : 0 ≤ n ∧ n ≤ 100) (hk : 0 ≤ k ∧ k ≤ 100) (hm : 0 ≤ m ∧ m ≤ 100) : cov i n k m = cv i n k m := by
  have p1 := mul_small 100 100 hi.1 hi.2 hn.1 hn.2
  have p2 := mul_small 100 100 hk.1 hk.2 hm.1 hm.2
  unfold cov impl_covered.f cv
  rw [w64 (x := i + 1) (by omega) (by omega), w64 (x := k + 1) (by omega) (by omega), Int.add_mul, Int.add_mul, Int.one_mul, Int.one_mul]
  rw [w64 (x := i * n) (by omega) (by omega), w64 (x := k * m) (by omega) (by omega), w64 (x := i * n + n) (by omega) (by omega), w64 (x := k * m + m) (by omega) (by omega)]
  generalize i * n = a at *
  generalize k * m = b at *
  rw [w64 (x := mn (a + n) (b + m) - mx a b) (by unfold mn mx; split <;> split <;> omega) (by unfold mn mx; split <;> split <;> omega)]
  show mx (mn (a + n) (b + m) - mx a b) 0 = _
  unfold mx mn
  split <;> split <;> split <;> omega
theorem rndd_eq {s d : Int} (hs : 0 ≤ s ∧ s ≤ 100000000000) (hd : 0 < d ∧ d ≤ 1000000) : rndd s d = (2 * s + d) / (2 * d) := by
  unfold rndd impl_rounded.f
  rw [w64 (x := 2 * s) (by omega) (by omega), w64 (x := 2 * s + d) (by omega) (by omega), w64 (x := 2 * d) (by omega) (by omega)]
  obtain ⟨r, hr, K, hK⟩ := w_iFloorDiv (2 * s + d) (2 * d) (by omega) (by omega) (by omega)
  have := hK K (Nat.le_refl K)
  simp only at this
  rw [this, hr]
  rfl
theorem addK_get (s px : List Int) (a : Int) (P : Nat) (hs : s.length = P) (ha : 0 ≤ a ∧ a ≤ 1000000) (h0 : ∀ q, q < P → 0 ≤ s.getD q 0 ∧ s.getD q 0 ≤ 1000000000000) (h1 : ∀ q, q < P → 0 ≤ px.getD q 0 ∧ px.getD q 0 ≤ 255) :
    ∀ k, k ≤ P → ∀ q, q < P → (addK s px a k).getD q 0 = if q < k then s.getD q 0 + px.getD q 0 * a else s.getD q 0 := by
  intro k
  induction k with
  | zero => intro _ q hq; rw [if_neg (by omega)]; rfl
  | succ k ih =>
    intro hk q hq
    have hl := addK_len s px a k
    rw [addK, bl_set _ _ (by omega), bl_rd, bl_rd, ih (by omega) k (by omega), if_neg (show ¬ k < k by omega)]
    by_cases e : q = k
    · subst e
      have b0 := h0 q hq
      have b1 := h1 q hq
      have b2 := mul_small 255 1000000 b1.1 b1.2 ha.1 ha.2
      rw [if_pos rfl, if_pos (by omega), w64 (x := px.getD q 0 * a) (by omega) (by omega), w64 (by omega) (by omega)]
    · rw [if_neg e, ih (by omega) q hq]
      by_cases h : q < k
      · rw [if_pos h, if_pos (by omega)]
      · rw [if_neg h, if_neg (by omega)]
def dat (l : List Int) (a p q : Nat) (i j : Nat) : Int := l.getD ((j * a + i) * p + q) 0
theorem dat_pix (l : List Int) (a b p : Nat) (hl : l.length = b * a * p) (i j q : Nat) (hi : i < a) (hj : j < b) (hq : q < p) : (pixOf l a p i j).getD q 0 = dat l a p q i j := by
  have e : ((j : Int) * a + i) * p = (((j * a + i) * p : Nat) : Int) := by rw [Int.natCast_mul (j * a + i) p, Int.natCast_add, Int.natCast_mul]
  rw [pix_get q (by rw [e]; omega) (by omega), e, ← Int.natCast_add, bl_rd]
  rfl
theorem dat_B (l : List Int) (a b p : Nat) (hl : l.length = b * a * p) (hB : ∀ v ∈ l, 0 ≤ v ∧ v ≤ 255) (i j q : Nat) (hi : i < a) (hj : j < b) (hq : q < p) : 0 ≤ dat l a p q i j ∧ dat l a p q i j ≤ 255 := by
  have h1 : j * a + i + 1 ≤ b * a := by
    have : (j + 1) * a ≤ b * a := Nat.mul_le_mul_right a hj
    rw [Nat.succ_mul] at this
    omega
  have h2 : (j * a + i + 1) * p ≤ b * a * p := Nat.mul_le_mul_right p h1
  rw [Nat.succ_mul] at h2
  refine hB _ ?_
  unfold dat
  rw [List.getD_eq_getElem?_getD, List.getElem?_eq_getElem (show (j * a + i) * p + q < l.length by omega)]
  exact List.getElem_mem _
theorem area_w (l : List Int) (a b p w h : Nat) (x y : Int) (ha : 1 ≤ a ∧ a ≤ 16) (hb : 1 ≤ b ∧ b ≤ 16) (hp : 1 ≤ p ∧ p ≤ 4) (hw : 1 ≤ w ∧ w ≤ 16) (hh : 1 ≤ h ∧ h ≤ 16) (hl : l.length = b * a * p) (hB : ∀ v ∈ l, 0 ≤ v ∧ v ≤ 255) (hx : 0 ≤ x ∧ x ≤ 16) (hy : 0 ≤ y ∧ y ≤ 16) (i j : Nat) (hi : i < a) (hj : j < b) : wrap64 (cov i w x a * cov j h y b) = cv i w x a * cv j h y b ∧ 0 ≤ cv (i : Int) w x a * cv j h y b ∧ cv (i : Int) w x a * cv j h y b ≤ 256 := by
  rw [cov_eq (by omega) (by omega) (by omega) (by omega), cov_eq (by omega) (by omega) (by omega) (by omega)]
  have r1 := cv_range (i := i) (n := w) (k := x) (m := a) (by omega)
  have r2 := cv_range (i := j) (n := h) (k := y) (m := b) (by omega)
  have r3 := mul_small 16 16 r1.1 (by omega) r2.1 (by omega)
  exact ⟨w64 (by omega) (by omega), by omega⟩
theorem areaRow_get (l : List Int) (a b p w h : Nat) (x y : Int) (ha : 1 ≤ a ∧ a ≤ 16) (hb : 1 ≤ b ∧ b ≤ 16) (hp : 1 ≤ p ∧ p ≤ 4) (hw : 1 ≤ w ∧ w ≤ 16) (hh : 1 ≤ h ∧ h ≤ 16) (hl : l.length = b * a * p) (hB : ∀ v ∈ l, 0 ≤ v ∧ v ≤ 255) (hx : 0 ≤ x ∧ x ≤ 16) (hy : 0 ≤ y ∧ y ≤ 16) (j : Nat) (hj : j < b) (s : List Int) (hs : s.length = p) (h0 : ∀ q, q < p → 0 ≤ s.getD q 0 ∧ s.getD q 0 ≤ (j : Int) * 16000000) :
    ∀ i, i ≤ a → ∀ q, q < p → (areaRow l a b p w h x y j s i).getD q 0 = s.getD q 0 + sumN (fun i => dat l a p q i j * (cv i w x a * cv j h y b)) i ∧ 0 ≤ sumN (fun i => dat l a p q i j * (cv i w x a * cv j h y b)) i ∧ sumN (fun i => dat l a p q i j * (cv i w x a * cv j h y b)) i ≤ (i : Int) * 65280 := by
  intro i
  induction i with
  | zero => intro _ q hq; simp [areaRow, sumN]
  | succ i ih =>
    intro hi q hq
    obtain ⟨e1, e2, e3⟩ := area_w l a b p w h x y ha hb hp hw hh hl hB hx hy i j (by omega) hj
    have ih := ih (by omega)
    have d := fun q hq => dat_B l a b p hl hB i j q (by omega) hj hq
    rw [areaRow, e1, addK_get _ _ _ p (by rw [areaRow_len]; exact hs) (by omega) (fun q hq => by
      obtain ⟨i1, i2, i3⟩ := ih q hq
      have := h0 q hq
      rw [i1]
      omega) (fun q hq => by rw [dat_pix l a b p hl i j q (by omega) hj hq]; exact d q hq) _ (by omega) q hq]
    obtain ⟨i1, i2, i3⟩ := ih q hq
    have m := mul_small 255 256 (d q hq).1 (d q hq).2 e2 e3
    rw [Int.toNat_natCast, if_pos hq, i1, dat_pix l a b p hl i j q (by omega) hj hq, sumN]
    omega
theorem areaAll_get (l : List Int) (a b p w h : Nat) (x y : Int) (ha : 1 ≤ a ∧ a ≤ 16) (hb : 1 ≤ b ∧ b ≤ 16) (hp : 1 ≤ p ∧ p ≤ 4) (hw : 1 ≤ w ∧ w ≤ 16) (hh : 1 ≤ h ∧ h ≤ 16) (hl : l.length = b * a * p) (hB : ∀ v ∈ l, 0 ≤ v ∧ v ≤ 255) (hx : 0 ≤ x ∧ x ≤ 16) (hy : 0 ≤ y ∧ y ≤ 16) : ∀ j, j ≤ b → ∀ q, q < p → (areaAll l a b p w h x y j).getD q 0 = sumN (fun j => sumN (fun i => dat l a p q i j * (cv i w x a * cv j h y b)) a) j ∧ 0 ≤ sumN (fun j => sumN (fun i => dat l a p q i j * (cv i w x a * cv j h y b)) a) j ∧ sumN (fun j => sumN (fun i => dat l a p q i j * (cv i w x a * cv j h y b)) a) j ≤ (j : Int) * 16000000 := by
  intro j
  induction j with
  | zero =>
    intro _ q hq
    rw [areaAll, sumN]
    simp [List.getD_eq_getElem?_getD, hq]
  | succ j ih =>
    intro hj q hq
    have ih := ih (by omega)
    obtain ⟨r1, r2, r3⟩ := areaRow_get l a b p w h x y ha hb hp hw hh hl hB hx hy j (by omega) (areaAll l a b p w h x y j) (by rw [areaAll_len, Int.toNat_natCast]) (fun q hq => by
      obtain ⟨i1, i2, i3⟩ := ih q hq
      rw [i1]
      omega) a (Nat.le_refl a) q hq
    obtain ⟨i1, i2, i3⟩ := ih q hq
    rw [areaAll, Int.toNat_natCast, r1, i1, sumN]
    omega
theorem roundK_get (l : List Int) (a b p w h : Nat) (x y : Int) (ha : 1 ≤ a ∧ a ≤ 16) (hb : 1 ≤ b ∧ b ≤ 16) (hp : 1 ≤ p ∧ p ≤ 4) (hw : 1 ≤ w ∧ w ≤ 16) (hh : 1 ≤ h ∧ h ≤ 16) (hl : l.length = b * a * p) (hB : ∀ v ∈ l, 0 ≤ v ∧ v ≤ 255) (hx : 0 ≤ x ∧ x ≤ 16) (hy : 0 ≤ y ∧ y ≤ 16) (s : List Int) (d : Int) (hs : s.length = p) (hd : 0 < d ∧ d ≤ 1000000) (h0 : ∀ q, q < p → 0 ≤ s.getD q 0 ∧ s.getD q 0 ≤ 100000000000) :
    ∀ k, k ≤ p → ∀ q, q < p → (roundK s d k).getD q 0 = if q < k then (2 * s.getD q 0 + d) / (2 * d) else s.getD q 0 := by
  intro k
  induction k with
  | zero => intro _ q hq; rw [if_neg (by omega)]; rfl
  | succ k ih =>
    intro hk q hq
    have hl := roundK_len s d k
    rw [roundK, bl_set _ _ (by omega), bl_rd, ih (by omega) k (by omega), if_neg (show ¬ k < k by omega)]
    by_cases e : q = k
    · subst e
      rw [if_pos rfl, if_pos (by omega), rndd_eq (h0 q hq) hd]
    · rw [if_neg e, ih (by omega) q hq]
      by_cases h : q < k
      · rw [if_pos h, if_pos (by omega)]
      · rw [if_neg h, if_neg (by omega)]
theorem areaPix_eq (l : List Int) (a b p w h : Nat) (x y : Int) (ha : 1 ≤ a ∧ a ≤ 16) (hb : 1 ≤ b ∧ b ≤ 16) (hp : 1 ≤ p ∧ p ≤ 4) (hw : 1 ≤ w ∧ w ≤ 16) (hh : 1 ≤ h ∧ h ≤ 16) (hl : l.length = b * a * p) (hB : ∀ v ∈ l, 0 ≤ v ∧ v ≤ 255) (hx : 0 ≤ x ∧ x ≤ 16) (hy : 0 ≤ y ∧ y ≤ 16) : areaPix l a b p w h x y = (List.range p).map fun q => meanR (areaS (dat l a p q) a b w h x y) (a * b) := by
  have hab := mul_small (a := a) (b := b) 16 16 (by omega) (by omega) (by omega) (by omega)
  have hab1 : (1 : Int) * 1 ≤ a * b := Int.mul_le_mul (by omega) (by omega) (by omega) (by omega)
  have hA := areaAll_get l a b p w h x y ha hb hp hw hh hl hB hx hy b (Nat.le_refl b)
  unfold areaPix
  rw [Int.toNat_natCast, Int.toNat_natCast, w64 (by omega) (by omega)]
  refine bl_ext (by rw [roundK_len, areaAll_len]; simp) fun q hq => ?_
  rw [List.length_map, List.length_range] at hq
  rw [roundK_get l a b p w h x y ha hb hp hw hh hl hB hx hy _ _ (by rw [areaAll_len, Int.toNat_natCast]) (by omega) (fun q hq => by
    obtain ⟨i1, i2, i3⟩ := hA q hq
    rw [i1]
    omega) p (Nat.le_refl p) q hq, if_pos hq, (hA q hq).1, bl_map_range _ _ _ hq]
  rfl
end Go.Proofs.Ytnamhlcdlbjcfaa.P
namespace Go.Proofs.Ytnamhlcdlbjcfaa.P
open Go.RowKit Go.Proofs.YtnamhlcdlbjcfaaW.PrintWords Go.Proofs.YtnamhlcdlbjcfaaW.PrintLast Go.Proofs.YtnamhlcdlbjcfaaW.PrintMore Go.Proofs.Ytnamhlcdlbjcfaa.Wp
set_option linter.unusedVariables false
set_option linter.unusedSimpArgs false
theorem w_copyInts (l : List Int) (hl : l.length ≤ 1000000000) : Wp (fun _ => spec_copyInts.f l) (fun r => r = l) := by
  unfold spec_copyInts.f
  exact Wp.pos (by simp; omega) (Wp.ret (by simp))
end Go.Proofs.Ytnamhlcdlbjcfaa.P
namespace Go.Proofs.Ytnamhlcdlbjcfaa.P
open Go.RowKit Go.Proofs.YtnamhlcdlbjcfaaW.PrintWords Go.Proofs.YtnamhlcdlbjcfaaW.PrintLast Go.Proofs.YtnamhlcdlbjcfaaW.PrintMore Go.Proofs.Ytnamhlcdlbjcfaa.Wp
set_option linter.unusedVariables false
set_option linter.unusedSimpArgs false
theorem w_pixelAt (n m p : Int) (l : List Int) (x y : Int) (hn : 0 ≤ n ∧ n ≤ 16) (hp : 0 ≤ p ∧ p ≤ 4) (hx : 0 ≤ x ∧ x ≤ 1000) (hy : 0 ≤ y ∧ y ≤ 1000) (hl : (y * n + x) * p + p ≤ (l.length : Int)) :
    Wp (fun _ => spec_pixelAt.f n m p l x y) (fun r => r = pixOf l n p x y) := by
  have m1 : 0 ≤ y * n := Int.mul_nonneg hy.1 hn.1
  have m2 : y * n ≤ 1000 * 16 := Int.mul_le_mul hy.2 hn.2 hn.1 (by omega)
  have m3 : 0 ≤ (y * n + x) * p := Int.mul_nonneg (by omega) hp.1
  have m4 : (y * n + x) * p ≤ 17000 * 4 := Int.mul_le_mul (by omega) hp.2 hp.1 (by omega)
  unfold spec_pixelAt.f
  rw [w64 (x := y * n) (by omega) (by omega), w64 (x := y * n + x) (by omega) (by omega), w64 (x := (y * n + x) * p) (by omega) (by omega), w64 (x := (y * n + x) * p + p) (by omega) (by omega)]
  refine Wp.pos m3 (Wp.pos (by omega) (Wp.pos hl ?_))
  have h := w_copyInts (pixOf l n p x y) (Nat.le_trans (pixOf_len l n p x y hp.1 hp.2) (by omega))
  unfold pixOf at h ⊢
  refine Wp.call h ?_
  rintro _ rfl
  exact Wp.ret rfl
theorem pix_before (n p i j i' j' q : Nat) (hj' : j' < n) (hq : q < p) (h : i' < i ∨ (i' = i ∧ j' < j)) : (i' * n + j') * p + q < (i * n + j) * p := by
  have h1 : i' * n + j' + 1 ≤ i * n + j := by
    rcases h with h | ⟨rfl, h⟩
    · have : (i' + 1) * n ≤ i * n := Nat.mul_le_mul_right n h
      rw [Nat.succ_mul] at this
      omega
    · omega
  have h2 : (i' * n + j' + 1) * p ≤ (i * n + j) * p := Nat.mul_le_mul_right p h1
  rw [Nat.succ_mul] at h2
  omega
theorem w_setPixel (n m p i j : Nat) (l px : List Int) (hn : n ≤ 1000) (hp : p ≤ 1000) (hj : j < n) (hi : i < m) (hm : m ≤ 1000) (hl : l.length = m * n * p) (hpx : p ≤ px.length) :
    Wp (fun k => spec_setPixel.f k n m p l j i px) (fun r => r.length = l.length ∧ (∀ q, q < p → r.getD ((i * n + j) * p + q) 0 = px.getD q 0) ∧ ∀ t, t < (i * n + j) * p → r.getD t 0 = l.getD t 0) := by
  have b1 : i * n + j + 1 ≤ m * n := by
    have : (i + 1) * n ≤ m * n := Nat.mul_le_mul_right n hi
    rw [Nat.succ_mul] at this
    omega
  have b2 : (i * n + j) * p + p ≤ m * n * p := by
    have : (i * n + j + 1) * p ≤ m * n * p := Nat.mul_le_mul_right p b1
    rw [Nat.succ_mul] at this
    omega
  have b3 : i * n ≤ 1000 * 1000 := Nat.mul_le_mul (by omega) hn
  have b4 : (i * n + j) * p ≤ 1001000 * 1000 := Nat.mul_le_mul (by omega) hp
  have c1 : ((i : Int) * n) = ((i * n : Nat) : Int) := by rw [Int.natCast_mul]
  have c2 : (((i * n : Nat) : Int) + j) * p = (((i * n + j) * p : Nat) : Int) := by rw [Int.natCast_mul (i * n + j) p, Int.natCast_add]
  unfold spec_setPixel.f
  generalize hA : (i * n + j) * p = A at *
  have key : ∀ (d q : Nat) (x : List Int), q + d = p → x.length = l.length → (∀ q', q' < q → x.getD (A + q') 0 = px.getD q' 0) → (∀ t, t < A → x.getD t 0 = l.getD t 0) →
      Wp (fun k => spec_setPixel.l0 k j i px q n m p x) (fun r => r.length = l.length ∧ (∀ q, q < p → r.getD (A + q) 0 = px.getD q 0) ∧ ∀ t, t < A → r.getD t 0 = l.getD t 0) := by
    intro d
    induction d with
    | zero =>
      intro q x hd hx h1 h2
      refine Wp.step (fun k => spec_setPixel.l0.eq_2 ..) (Wp.neg (by omega) (Wp.ret ⟨hx, fun q hq => h1 q (by omega), h2⟩))
    | succ d ih =>
      intro q x hd hx h1 h2
      refine Wp.step (fun k => spec_setPixel.l0.eq_2 ..) (Wp.pos (by omega) (Wp.pos (by omega) (Wp.pos (by omega) ?_)))
      rw [c1, w64 (x := ((i * n : Nat) : Int)) (by omega) (by omega), w64 (x := ((i * n : Nat) : Int) + j) (by omega) (by omega), c2, w64 (x := (A : Int)) (by omega) (by omega),
        w64 (x := (A : Int) + q) (by omega) (by omega), w64 (x := (q : Int) + 1) (by omega) (by omega), bl_rd, show ((A : Int) + q).toNat = A + q by omega]
      refine Wp.pos (by omega) (Wp.pos (by omega) ?_)
      refine ih (q + 1) _ (by omega) (by rw [List.length_set]; exact hx) (fun q' hq => ?_) (fun t ht => ?_)
      · rw [bl_set _ _ (by omega)]
        split
        · rename_i e; rw [show q' = q by omega]
        · exact h1 q' (by omega)
      · rw [bl_set _ _ (by omega), if_neg (by omega)]
        exact h2 t ht
  exact key p 0 l (by omega) rfl (fun q hq => by omega) (fun t ht => rfl)
def Painted (f : Int → Int → List Int) (n m p : Nat) (x : List Int) (i j : Nat) : Prop :=
  x.length = m * n * p ∧ ∀ i' j' q, (i' < i ∨ (i' = i ∧ j' < j)) → j' < n → i' < m → q < p → x.getD ((i' * n + j') * p + q) 0 = (f j' i').getD q 0
theorem Painted.start (f : Int → Int → List Int) (n m p : Nat) (x : List Int) (h : x.length = m * n * p) : Painted f n m p x 0 0 := ⟨h, fun i' j' q h1 => by omega⟩
theorem Painted.row {f : Int → Int → List Int} {n m p : Nat} {x : List Int} {i : Nat} (h : Painted f n m p x i n) : Painted f n m p x (i + 1) 0 :=
  ⟨h.1, fun i' j' q h1 h2 h3 h4 => h.2 i' j' q (by omega) h2 h3 h4⟩
theorem Painted.put {f : Int → Int → List Int} {n m p : Nat} {x y : List Int} {i j : Nat} (h : Painted f n m p x i j) (h0 : y.length = x.length) (h1 : ∀ q, q < p → y.getD ((i * n + j) * p + q) 0 = (f j i).getD q 0)
    (h2 : ∀ t, t < (i * n + j) * p → y.getD t 0 = x.getD t 0) : Painted f n m p y i (j + 1) := by
  refine ⟨h0.trans h.1, fun i' j' q h3 h4 h5 h6 => ?_⟩
  by_cases e : i' < i ∨ (i' = i ∧ j' < j)
  · rw [h2 _ (pix_before n p i j i' j' q h4 h6 e)]
    exact h.2 i' j' q e h4 h5 h6
  · have : i' = i ∧ j' = j := by omega
    rw [this.1, this.2]
    exact h1 q h6
theorem Painted.all {f : Int → Int → List Int} {n m p : Nat} {x : List Int} (h : Painted f n m p x m 0) (hf : ∀ i j : Nat, j < n → i < m → (f j i).length = p) : x = imgOf f n m :=
  img_ext f n m p x hf h.1 fun i j q h1 h2 h3 => h.2 i j q (by omega) h2 h1 h3
theorem w_paint (f : Int → Int → List Int) (n m p i j : Nat) (x : List Int) (hn : n ≤ 1000) (hp : p ≤ 1000) (hj : j < n) (hi : i < m) (hm : m ≤ 1000) (h : Painted f n m p x i j) (hpx : (f j i).length = p) :
    Wp (fun k => spec_setPixel.f k n m p x j i (f j i)) (fun r => Painted f n m p r i (j + 1)) := by
  refine (w_setPixel n m p i j x (f j i) hn hp hj hi hm h.1 (by omega)).mono ?_
  rintro r ⟨h0, h1, h2⟩
  exact h.put h0 h1 h2
end Go.Proofs.Ytnamhlcdlbjcfaa.P
namespace Go.Proofs.Ytnamhlcdlbjcfaa.P
open Go.RowKit Go.Proofs.YtnamhlcdlbjcfaaW.PrintWords Go.Proofs.YtnamhlcdlbjcfaaW.PrintLast Go.Proofs.YtnamhlcdlbjcfaaW.PrintMore Go.Proofs.Ytnamhlcdlbjcfaa.Wp
set_option linter.unusedVariables false
set_option linter.unusedSimpArgs false
theorem w_validShape (a b c : Int) : Wp (fun _ => spec_validShape.f a b c) (fun r => r = decide ((1 ≤ a ∧ a ≤ 16) ∧ (1 ≤ b ∧ b ≤ 16) ∧ (1 ≤ c ∧ c ≤ 4))) := by
  unfold spec_validShape.f
  refine Wp.call (w_inRange0 _ _ _) ?_
  rintro _ rfl
  refine Wp.ite (fun h => ?_) (fun h => Wp.ret ?_)
  · refine Wp.call (w_inRange0 _ _ _) ?_
    rintro _ rfl
    refine Wp.ite (fun h2 => ?_) (fun h2 => Wp.ret ?_)
    · refine Wp.call (w_inRange0 _ _ _) ?_
      rintro _ rfl
      refine Wp.ret ?_
      rw [decide_eq_true_eq] at h h2
      rw [Bool.eq_iff_iff, decide_eq_true_eq, decide_eq_true_eq]
      exact ⟨fun h3 => ⟨h, h2, h3⟩, fun h3 => h3.2.2⟩
    · rw [decide_eq_true_eq] at h2
      exact (decide_eq_false fun h3 => h2 h3.2.1).symm
  · rw [decide_eq_true_eq] at h
    exact (decide_eq_false fun h3 => h h3.1).symm
end Go.Proofs.Ytnamhlcdlbjcfaa.P
namespace Go.Proofs.Ytnamhlcdlbjcfaa.P
open Go.RowKit Go.Proofs.YtnamhlcdlbjcfaaW.PrintWords Go.Proofs.YtnamhlcdlbjcfaaW.PrintLast Go.Proofs.YtnamhlcdlbjcfaaW.PrintMore Go.Proofs.Ytnamhlcdlbjcfaa.Wp
set_option linter.unusedVariables false
set_option linter.unusedSimpArgs false
def areaP (l : List Int) (a b p w h : Nat) (x y : Int) : List Int := (List.range p).map fun q => meanR (areaS (dat l a p q) a b w h x y) (a * b)
theorem areaP_len (l : List Int) (a b p w h : Nat) (x y : Int) : (areaP l a b p w h x y).length = p := by simp [areaP]
theorem areaP_get (l : List Int) (a b p w h : Nat) (x y : Int) (q : Nat) (hq : q < p) : (areaP l a b p w h x y).getD q 0 = meanR (areaS (dat l a p q) a b w h x y) (a * b) := bl_map_range _ _ _ hq
def areaI (a b c : Int) (l : List Int) (n m : Int) : Int × Int × Int × List Int :=
  if imgB a b c l = true ∧ (1 ≤ n ∧ n ≤ 16) ∧ (1 ≤ m ∧ m ≤ 16) then (n, m, c, imgOf (areaP l a.toNat b.toNat c.toNat n.toNat m.toNat) n.toNat m.toNat) else (0, 0, 0, [])
theorem area_len (a b c : Int) (l : List Int) (n m : Int) : (areaI a b c l n m).2.2.2.length ≤ 1000000 := by
  unfold areaI
  split
  · rename_i h
    obtain ⟨hi, hn, hm⟩ := h
    obtain ⟨h0, h1, h2, _⟩ := imgB_ok.1 hi
    have := imgOf_len (areaP l a.toNat b.toNat c.toNat n.toNat m.toNat) n.toNat m.toNat 100 (fun i j _ _ => by rw [areaP_len]; omega)
    have b1 : n.toNat * 100 ≤ 16 * 100 := Nat.mul_le_mul (by omega) (Nat.le_refl _)
    have b2 : m.toNat * (n.toNat * 100) ≤ 16 * 1600 := Nat.mul_le_mul (by omega) b1
    exact Nat.le_trans this (by omega)
  · simp
theorem w_iArea (a b c : Int) (l : List Int) (n m : Int) : Wp (fun _ => impl_ScaleArea.f a b c l n m) (fun r => r = areaI a b c l n m) := by
  unfold impl_ScaleArea.f areaI
  refine Wp.call (w_iImage a b c l) ?_
  rintro _ rfl
  refine Wp.ite (fun hi => ?_) (fun hi => Wp.ret (by rw [if_neg fun h => hi h.1]))
  rw [isSide_some, isSide_some]
  simp only [Option.bind_some, decide_eq_true_eq]
  refine Wp.ite (fun h1 => ?_) (fun h1 => Wp.ret (by rw [if_neg fun h => h1 h.2.1]))
  refine Wp.ite (fun h2 => ?_) (fun h2 => Wp.ret (by rw [if_neg fun h => h2 h.2.2]))
  rw [if_pos ⟨hi, h1, h2⟩]
  refine Wp.ret ?_
  obtain ⟨g0, g1, g2, hlen, hB⟩ := imgB_ok.1 hi
  obtain ⟨a, rfl⟩ := Int.eq_ofNat_of_zero_le (show 0 ≤ a by omega)
  obtain ⟨b, rfl⟩ := Int.eq_ofNat_of_zero_le (show 0 ≤ b by omega)
  obtain ⟨p, rfl⟩ := Int.eq_ofNat_of_zero_le (show 0 ≤ c by omega)
  obtain ⟨n, rfl⟩ := Int.eq_ofNat_of_zero_le (show 0 ≤ n by omega)
  obtain ⟨m, rfl⟩ := Int.eq_ofNat_of_zero_le (show 0 ≤ m by omega)
  simp only [Int.toNat_natCast]
  have hl : l.length = b * a * p := by
    rw [← Int.natCast_mul, ← Int.natCast_mul, Nat.mul_comm a b] at hlen
    omega
  congr 3
  refine img_congr _ _ n m fun i j hj hi2 => ?_
  exact areaPix_eq l a b p n m j i (by omega) (by omega) (by omega) (by omega) (by omega) hl hB (by omega) (by omega)
end Go.Proofs.Ytnamhlcdlbjcfaa.P
namespace Go.Proofs.Ytnamhlcdlbjcfaa.P
open Go.RowKit Go.Proofs.YtnamhlcdlbjcfaaW.PrintWords Go.Proofs.YtnamhlcdlbjcfaaW.PrintLast Go.Proofs.YtnamhlcdlbjcfaaW.PrintMore Go.Proofs.Ytnamhlcdlbjcfaa.Wp
set_option linter.unusedVariables false
set_option linter.unusedSimpArgs false
theorem img_nat {a b c : Int} {l : List Int} (hi : imgB a b c l = true) : ∃ a' b' p : Nat, a = a' ∧ b = b' ∧ c = p ∧ (1 ≤ a' ∧ a' ≤ 16) ∧ (1 ≤ b' ∧ b' ≤ 16) ∧ (1 ≤ p ∧ p ≤ 4) ∧ l.length = b' * a' * p ∧ ∀ v ∈ l, 0 ≤ v ∧ v ≤ 255 := by
  obtain ⟨h0, h1, h2, hlen, hB⟩ := imgB_ok.1 hi
  obtain ⟨a, rfl⟩ := Int.eq_ofNat_of_zero_le (show 0 ≤ a by omega)
  obtain ⟨b, rfl⟩ := Int.eq_ofNat_of_zero_le (show 0 ≤ b by omega)
  obtain ⟨p, rfl⟩ := Int.eq_ofNat_of_zero_le (show 0 ≤ c by omega)
  refine ⟨a, b, p, rfl, rfl, rfl, by omega, by omega, by omega, ?_, hB⟩
  rw [← Int.natCast_mul, ← Int.natCast_mul, Nat.mul_comm a b] at hlen
  omega
theorem dat_img (f : Int → Int → List Int) (n m p q i j : Nat) (hf : ∀ i j : Nat, j < n → i < m → (f j i).length = p) (hi : i < n) (hj : j < m) (hq : q < p) : dat (imgOf f n m) n p q i j = (f i j).getD q 0 := img_get f n m p j i q hf hi hj hq
theorem areaP_B (l : List Int) (a b p w h : Nat) (x y : Int) (hl : l.length = b * a * p) (ha : 1 ≤ a) (hb : 1 ≤ b) (hx : 0 ≤ x ∧ x < w) (hy : 0 ≤ y ∧ y < h) (lo hi : Int) (q : Nat) (hq : q < p) (hd : ∀ i j, i < a → j < b → lo ≤ dat l a p q i j ∧ dat l a p q i j ≤ hi) :
    lo ≤ (areaP l a b p w h x y).getD q 0 ∧ (areaP l a b p w h x y).getD q 0 ≤ hi := by
  rw [areaP_get l a b p w h x y q hq]
  have hab1 : (1 : Int) * 1 ≤ a * b := Int.mul_le_mul (by omega) (by omega) (by omega) (by omega)
  have hS := areaS_le (dat l a p q) lo hi a b w h x y hx.1 hx.2 hy.1 hy.2 hd
  exact meanR_le (by omega) hS.1 hS.2
theorem pix_len (l : List Int) (a b p i j : Nat) (hl : l.length = b * a * p) (hi : i < a) (hj : j < b) : (pixOf l a p i j).length = p := by
  have hf := pix_fits (a0 := a) (a1 := b) (a2 := p) (x := i) (y := j) (by omega) (by omega) (by omega) (by omega) (by omega)
  have hz : 0 ≤ (j : Int) * a := Int.mul_nonneg (by omega) (by omega)
  have := pixOf_length (l := l) (n := a) (p := p) (x := i) (y := j) (Int.mul_nonneg (by omega) (by omega)) (by omega) (by
    rw [hl, Int.natCast_mul, Int.natCast_mul, Int.mul_comm (b : Int)]
    exact hf)
  omega
end Go.Proofs.Ytnamhlcdlbjcfaa.P
namespace Go.Proofs.Ytnamhlcdlbjcfaa.P
open Go.RowKit Go.Proofs.YtnamhlcdlbjcfaaW.PrintWords Go.Proofs.YtnamhlcdlbjcfaaW.PrintLast Go.Proofs.YtnamhlcdlbjcfaaW.PrintMore Go.Proofs.Ytnamhlcdlbjcfaa.Wp
set_option linter.unusedVariables false
set_option linter.unusedSimpArgs false
def nearI (a b c : Int) (l : List Int) (n m : Int) : Int × Int × Int × List Int :=
  if imgB a b c l = true ∧ (1 ≤ n ∧ n ≤ 16) ∧ (1 ≤ m ∧ m ≤ 16) then (n, m, c, imgOf (fun x y => pixOf l a c (x * a / n) (y * b / m)) n.toNat m.toNat) else (0, 0, 0, [])
theorem near_len (a b c : Int) (l : List Int) (n m : Int) : (nearI a b c l n m).2.2.2.length ≤ 1000000 := by
  unfold nearI
  split
  · rename_i h
    obtain ⟨hi, hn, hm⟩ := h
    obtain ⟨h0, h1, h2, _⟩ := imgB_ok.1 hi
    have := imgOf_len (fun x y => pixOf l a c (x * a / n) (y * b / m)) n.toNat m.toNat 100 (fun i j _ _ => pixOf_len l a c _ _ (by omega) (by omega))
    have b1 : n.toNat * 100 ≤ 16 * 100 := Nat.mul_le_mul (by omega) (Nat.le_refl _)
    have b2 : m.toNat * (n.toNat * 100) ≤ 16 * 1600 := Nat.mul_le_mul (by omega) b1
    exact Nat.le_trans this (by omega)
  · simp
theorem w_iNear (a b c : Int) (l : List Int) (n m : Int) : Wp (fun _ => impl_ScaleNearest.f a b c l n m) (fun r => r = nearI a b c l n m) := by
  unfold impl_ScaleNearest.f nearI
  refine Wp.call (w_iImage a b c l) ?_
  rintro _ rfl
  refine Wp.ite (fun hi => ?_) (fun hi => Wp.ret (by rw [if_neg fun h => hi h.1]))
  rw [isSide_some, isSide_some]
  simp only [Option.bind_some, decide_eq_true_eq]
  refine Wp.ite (fun h1 => ?_) (fun h1 => Wp.ret (by rw [if_neg fun h => h1 h.2.1]))
  refine Wp.ite (fun h2 => ?_) (fun h2 => Wp.ret (by rw [if_neg fun h => h2 h.2.2]))
  rw [if_pos ⟨hi, h1, h2⟩]
  exact Wp.ret rfl
theorem w_sNear (a b c : Int) (l : List Int) (n m : Int) (hl : l.length ≤ 1000000000) : Wp (fun k => spec_ScaleNearest.f k a b c l n m) (fun r => r = nearI a b c l n m) := by
  unfold spec_ScaleNearest.f nearI
  refine Wp.call (w_sImage a b c l hl) ?_
  rintro _ rfl
  refine Wp.ite (fun hi => ?_) (fun hi => ?_)
  · refine Wp.call (w_validShape n m c) ?_
    rintro _ rfl
    refine Wp.step (fun k => spec_ScaleNearest.j0.eq_2 ..) ?_
    obtain ⟨h0, h1, h2, hlen, hB⟩ := imgB_ok.1 hi
    refine Wp.ite (fun hs => Wp.ret ?_) (fun hs => ?_)
    · rw [if_neg]
      rintro ⟨_, h3, h4⟩
      rw [decide_eq_true ⟨h3, h4, h2⟩] at hs
      exact absurd hs (by simp)
    · have hs : (1 ≤ n ∧ n ≤ 16) ∧ (1 ≤ m ∧ m ≤ 16) ∧ (1 ≤ c ∧ c ≤ 4) := Decidable.byContradiction fun h => hs (by rw [decide_eq_false h]; rfl)
      obtain ⟨hn, hm, _⟩ := hs
      rw [if_pos ⟨hi, hn, hm⟩]
      refine Wp.call (w_newImage n m c (by omega) (by omega) (by omega)) ?_
      rintro _ rfl
      dsimp only
      obtain ⟨n, rfl⟩ := Int.eq_ofNat_of_zero_le (show 0 ≤ n by omega)
      obtain ⟨m, rfl⟩ := Int.eq_ofNat_of_zero_le (show 0 ≤ m by omega)
      obtain ⟨p, rfl⟩ := Int.eq_ofNat_of_zero_le (show 0 ≤ c by omega)
      simp only [Int.toNat_natCast]
      generalize hf : (fun x y => pixOf l a p (x * a / n) (y * b / m)) = f
      have hfd : ∀ x y : Int, f x y = pixOf l a p (x * a / n) (y * b / m) := fun x y => by rw [← hf]
      have hfit : ∀ i j : Nat, j < n → i < m → ((((i : Int) * b / m) * a + (j : Int) * a / n) * p + p ≤ (l.length : Int)) := fun i j hj hi => by
        have s1 := scaled (x := (j : Int)) (a := a) (n := n) (by omega) (by omega) (by omega) (by omega) (by omega)
        have s2 := scaled (x := (i : Int)) (a := b) (n := m) (by omega) (by omega) (by omega) (by omega) (by omega)
        rw [hlen]
        exact pix_fits (by omega) (by omega) (s1.2.2.2.1 (by omega)) s2.2.2.1 (s2.2.2.2.1 (by omega))
      have hfl : ∀ i j : Nat, j < n → i < m → (f j i).length = p := fun i j hj hi => by
        have s1 := scaled (x := (j : Int)) (a := a) (n := n) (by omega) (by omega) (by omega) (by omega) (by omega)
        have s2 := scaled (x := (i : Int)) (a := b) (n := m) (by omega) (by omega) (by omega) (by omega) (by omega)
        rw [hfd]
        have q0 : 0 ≤ ((i : Int) * b / m) * a := Int.mul_nonneg s2.2.2.1 (by omega)
        have := pixOf_length (l := l) (n := a) (p := p) (x := (j : Int) * a / n) (y := (i : Int) * b / m) (Int.mul_nonneg (by omega) (by omega)) (by omega) (hfit i j hj hi)
        omega
      have row : ∀ (i : Nat), i < m → (∀ x, Painted f n m p x (i + 1) 0 → Wp (fun k => spec_ScaleNearest.l0 k n m ((i + 1 : Nat) : Int) a b p l n m p x) (fun r => r = (↑n, ↑m, ↑p, imgOf f n m))) → ∀ (d j : Nat) (x : List Int), j + d = n → Painted f n m p x i j →
          Wp (fun k => spec_ScaleNearest.l1 k n m i j a b p l n m p x) (fun r => r = (↑n, ↑m, ↑p, imgOf f n m)) := by
        intro i hi next d
        induction d with
        | zero =>
          intro j x hd hx
          refine Wp.step (fun k => spec_ScaleNearest.l1.eq_2 ..) (Wp.neg (by omega) ?_)
          rw [w64 (x := (i : Int) + 1) (by omega) (by omega)]
          have : j = n := by omega
          subst this
          exact next x hx.row
        | succ d ih =>
          intro j x hd hx
          have s1 := scaled (x := (j : Int)) (a := a) (n := n) (by omega) (by omega) (by omega) (by omega) (by omega)
          have s2 := scaled (x := (i : Int)) (a := b) (n := m) (by omega) (by omega) (by omega) (by omega) (by omega)
          refine Wp.step (fun k => spec_ScaleNearest.l1.eq_2 ..) (Wp.pos (by omega) (Wp.neg (by omega) (Wp.neg (by omega) ?_)))
          rw [w64 (x := (j : Int) * a) (by omega) (by omega), w64 (x := (i : Int) * b) (by omega) (by omega), Int.tdiv_eq_ediv_of_nonneg s1.1, Int.tdiv_eq_ediv_of_nonneg s2.1, w64 (x := (j : Int) * a / n) (by omega) (by omega), w64 (x := (i : Int) * b / m) (by omega) (by omega)]
          refine Wp.call (w_pixelAt a b p l _ _ (by omega) (by omega) (by omega) (by omega) (hfit i j (by omega) hi)) ?_
          rintro _ rfl
          rw [← hfd, w64 (x := (j : Int) + 1) (by omega) (by omega)]
          refine Wp.call (w_paint f n m p i j x (by omega) (by omega) (by omega) hi (by omega) hx (hfl i j (by omega) hi)) ?_
          intro y hy
          exact ih (j + 1) y (by omega) hy
      have key : ∀ (d i : Nat) (x : List Int), i + d = m → Painted f n m p x i 0 → Wp (fun k => spec_ScaleNearest.l0 k n m i a b p l n m p x) (fun r => r = (↑n, ↑m, ↑p, imgOf f n m)) := by
        intro d
        induction d with
        | zero =>
          intro i x hd hx
          refine Wp.step (fun k => spec_ScaleNearest.l0.eq_2 ..) (Wp.neg (by omega) (Wp.ret ?_))
          have : i = m := by omega
          subst this
          rw [hx.all hfl]
        | succ d ih =>
          intro i x hd hx
          refine Wp.step (fun k => spec_ScaleNearest.l0.eq_2 ..) (Wp.pos (by omega) ?_)
          exact row i (by omega) (fun y hy => ih (i + 1) y (by omega) hy) n 0 x (by omega) hx
      refine key m 0 _ (by omega) (Painted.start f n m p _ ?_)
      rw [List.length_replicate, ← Int.natCast_mul, ← Int.natCast_mul, Int.toNat_natCast, Nat.mul_comm n m]
  · refine Wp.step (fun k => spec_ScaleNearest.j0.eq_2 ..) (Wp.pos rfl (Wp.ret ?_))
    rw [if_neg fun h => hi h.1]
end Go.Proofs.Ytnamhlcdlbjcfaa.P
namespace Go.Proofs.Ytnamhlcdlbjcfaa.P
open Go.RowKit Go.Proofs.YtnamhlcdlbjcfaaW.PrintWords Go.Proofs.YtnamhlcdlbjcfaaW.PrintLast Go.Proofs.YtnamhlcdlbjcfaaW.PrintMore Go.Proofs.Ytnamhlcdlbjcfaa.Wp
set_option linter.unusedVariables false
set_option linter.unusedSimpArgs false
def trI (a b c : Int) (l : List Int) : Int × Int × Int × List Int := if imgB a b c l = true then (b, a, c, imgOf (fun x y => pixOf l a c y x) b.toNat a.toNat) else (0, 0, 0, [])
theorem w_iTrans (a b c : Int) (l : List Int) : Wp (fun _ => impl_TransposeImage.f a b c l) (fun r => r = trI a b c l) := by
  unfold impl_TransposeImage.f trI
  refine Wp.call (w_iImage a b c l) ?_
  rintro _ rfl
  refine Wp.ite (fun hi => Wp.ret ?_) (fun hi => Wp.ret ?_)
  · rw [if_pos hi]
  · rw [if_neg hi]
theorem tr_img (f : Int → Int → List Int) (n m p : Nat) (hn : 1 ≤ n ∧ n ≤ 16) (hm : 1 ≤ m ∧ m ≤ 16) (hp : 1 ≤ p ∧ p ≤ 4) (hf : ∀ i j : Nat, j < n → i < m → (f j i).length = p) (hb : ∀ i j : Nat, j < n → i < m → ∀ v ∈ f j i, 0 ≤ v ∧ v ≤ 255) :
    trI n m p (imgOf f n m) = (↑m, ↑n, ↑p, imgOf (fun x y => f y x) m n) ∧ imgB m n p (imgOf (fun x y => f y x) m n) = true := by
  refine ⟨?_, img_ok _ m n p hm hn hp (fun i j hj hi => hf j i hi hj) (fun i j hj hi => hb j i hi hj)⟩
  unfold trI
  rw [if_pos (img_ok f n m p hn hm hp hf hb)]
  simp only [Int.toNat_natCast]
  congr 3
  refine img_congr _ _ m n fun i j hj hi => ?_
  exact pix_img f n m p hf j i hi hj
end Go.Proofs.Ytnamhlcdlbjcfaa.P
namespace Go.Proofs.Ytnamhlcdlbjcfaa.P
open Go.RowKit Go.Proofs.YtnamhlcdlbjcfaaW.PrintWords Go.Proofs.YtnamhlcdlbjcfaaW.PrintLast Go.Proofs.YtnamhlcdlbjcfaaW.PrintMore Go.Proofs.Ytnamhlcdlbjcfaa.Wp
set_option linter.unusedVariables false
theorem rd_mem (l : List Int) (i : Int) (h0 : 0 ≤ i) (h1 : i < (l.length : Int)) : rd l i ∈ l := by
  unfold rd
  rw [List.getD_eq_getElem?_getD, List.getElem?_eq_getElem (by omega)]
  exact List.getElem_mem _
theorem rd_le {l : List Int} {a b : Int} (h : ∀ x ∈ l, a ≤ x ∧ x ≤ b) (i : Int) (h0 : 0 ≤ i) (h1 : i < (l.length : Int)) : a ≤ rd l i ∧ rd l i ≤ b := h _ (rd_mem l i h0 h1)
def Rdr (b : List Int) (p : Int) : Prop := (∀ x ∈ b, 0 ≤ x ∧ x ≤ 255) ∧ b.length ≤ 2000 ∧ 0 ≤ p ∧ p ≤ 1000000
theorem tmod_range (x n : Int) (hx : 0 ≤ x) (hn : 0 < n) : 0 ≤ Int.tmod x n ∧ Int.tmod x n < n := by
  rw [Int.tmod_eq_emod_of_nonneg hx]
  exact ⟨Int.emod_nonneg _ (by omega), Int.emod_lt_of_pos _ hn⟩
theorem bits_xor_nonneg (x y : Int) (hx : 0 ≤ x) (hx2 : x ≤ 1000000000000) (hy : 0 ≤ y) (hy2 : y ≤ 1000000000000) : 0 ≤ Go.bits .xor .i64 x y := by
  obtain ⟨a, rfl⟩ := Int.eq_ofNat_of_zero_le hx
  obtain ⟨b, rfl⟩ := Int.eq_ofNat_of_zero_le hy
  have ha : a < 2 ^ 62 := by omega
  have hb : b < 2 ^ 62 := by omega
  have ha' : a % 2 ^ 64 = a := Nat.mod_eq_of_lt (by omega)
  have hb' : b % 2 ^ 64 = b := Nat.mod_eq_of_lt (by omega)
  have hc : a ^^^ b < 2 ^ 62 := Nat.xor_lt_two_pow ha hb
  have hw : IntKind.i64.wrap ((a ^^^ b : Nat) : Int) = ((a ^^^ b : Nat) : Int) := by
    have h64 : IntKind.i64.wrap ((a ^^^ b : Nat) : Int) = wrap64 ((a ^^^ b : Nat) : Int) := i64_w _
    rw [h64, w64 (by omega) (by omega)]
  have he : Go.bits .xor .i64 (a : Int) (b : Int) = ((a ^^^ b : Nat) : Int) := by
    have hbits : IntKind.i64.bits = 64 := rfl
    simp only [Go.bits, BitVec.ofInt_natCast, BitVec.toNat_xor, BitVec.toNat_ofNat, hbits, ha', hb', hw]
  rw [he]
  exact Int.natCast_nonneg _
theorem w_newReader (l : List Int) (hb : ∀ x ∈ l, (Lit.int .u8 x).wf = true) : Wp (fun _ => spec_newReader.f l) (fun r => Rdr r.1 r.2 ∧ r.2 = 0) := by
  have hb' : ∀ x ∈ l, 0 ≤ x ∧ x ≤ 255 := fun x hx => by
    have h := hb x hx
    simp only [Lit.wf, Bool.and_eq_true, decide_eq_true_eq] at h
    have h0 : IntKind.u8.min = 0 := rfl
    have h1 : IntKind.u8.max = 255 := rfl
    omega
  unfold spec_newReader.f
  refine Wp.ite (fun h => Wp.pos (by omega) (Wp.ret ?_)) (fun h => Wp.ret ?_)
  · exact ⟨⟨fun x hx => hb' x (List.mem_of_mem_take hx), by show (l.take 2000).length ≤ 2000; rw [List.length_take]; omega, Int.le_refl _, by show (0 : Int) ≤ 1000000; omega⟩, rfl⟩
  · exact ⟨⟨hb', by show l.length ≤ 2000; omega, Int.le_refl _, by show (0 : Int) ≤ 1000000; omega⟩, rfl⟩
theorem w_pick (b : List Int) (p n : Int) (h : Rdr b p) (hp : p < 1000000) (hn : n ≤ 1000000000000) :
    Wp (fun k => spec_reader_pick.f k b p n) (fun r => ∃ x, r = (x, p + 1) ∧ 0 ≤ x ∧ (1 ≤ n → x < n) ∧ (n < 1 → x = 0)) := by
  obtain ⟨hb, hl, h0, h1⟩ := h
  unfold spec_reader_pick.f
  rw [w64 (x := p + 1) (by omega) (by omega)]
  refine Wp.ite (fun hn1 => ?_) (fun hn1 => ?_)
  · refine Wp.step (fun k => spec_reader_pick.j0.eq_2 ..) (Wp.pos rfl (Wp.ret ?_))
    exact ⟨0, rfl, by omega, by omega, fun _ => rfl⟩
  · refine Wp.step (fun k => spec_reader_pick.j0.eq_2 ..) ?_
    rw [show p + 1 - 1 = p by omega, w64 (x := p) (by omega) (by omega)]
    refine Wp.ite (fun hz => Wp.ret ?_) (fun hz => ?_)
    · exact ⟨0, rfl, by omega, by omega, by omega⟩
    · have hpos : 0 < (b.length : Int) := by
        have : ¬ (b.length : Int) = 0 := by simpa using hz
        omega
      refine Wp.ite (fun hlt => ?_) (fun hge => ?_)
      · refine Wp.pos h0 (Wp.neg (by omega) (Wp.ret ?_))
        have hr := rd_le hb p h0 hlt
        rw [w64 (x := rd b p) (by omega) (by omega)]
        have := tmod_range (rd b p) n hr.1 (by omega)
        exact ⟨_, rfl, this.1, fun _ => this.2, by omega⟩
      · refine Wp.neg (by omega) ?_
        have t1 := tmod_range p b.length h0 hpos
        refine Wp.pos t1.1 (Wp.pos t1.2 ?_)
        rw [w64 (x := p * 7) (by omega) (by omega), w64 (x := p * 7 + 3) (by omega) (by omega)]
        have t2 := tmod_range (p * 7 + 3) b.length (by omega) hpos
        refine Wp.pos t2.1 (Wp.pos t2.2 (Wp.neg (by omega) (Wp.ret ?_)))
        have r1 := rd_le hb _ t1.1 t1.2
        have r2 := rd_le hb _ t2.1 t2.2
        generalize rd b (Int.tmod p b.length) = u at r1 ⊢
        generalize rd b (Int.tmod (p * 7 + 3) b.length) = v at r2 ⊢
        have hd : 0 ≤ Int.tdiv p b.length ∧ Int.tdiv p b.length ≤ p := by
          rw [Int.tdiv_eq_ediv_of_nonneg h0]
          exact ⟨Int.ediv_nonneg h0 (by omega), Int.ediv_le_self _ h0⟩
        generalize Int.tdiv p b.length = d at hd ⊢
        rw [w64 (x := u) (by omega) (by omega), w64 (x := u * 131) (by omega) (by omega), w64 (x := v) (by omega) (by omega), w64 (x := v * 1117) (by omega) (by omega),
          w64 (x := u * 131 + v * 1117) (by omega) (by omega), w64 (x := p * 29) (by omega) (by omega), w64 (x := u * 131 + v * 1117 + p * 29) (by omega) (by omega),
          w64 (x := d) (by omega) (by omega), w64 (x := d * 53) (by omega) (by omega), w64 (x := u * 131 + v * 1117 + p * 29 + d * 53) (by omega) (by omega)]
        have hs : 0 ≤ u * 131 + v * 1117 + p * 29 + d * 53 ∧ u * 131 + v * 1117 + p * 29 + d * 53 ≤ 1000000000 := by omega
        generalize u * 131 + v * 1117 + p * 29 + d * 53 = s at hs ⊢
        have hq : 0 ≤ Int.tdiv s 64 ∧ Int.tdiv s 64 ≤ s := by
          rw [Int.tdiv_eq_ediv_of_nonneg hs.1]
          exact ⟨Int.ediv_nonneg hs.1 (by omega), Int.ediv_le_self _ hs.1⟩
        rw [w64 (x := Int.tdiv s 64) (by omega) (by omega)]
        have hx := bits_xor_nonneg s (Int.tdiv s 64) hs.1 (by omega) hq.1 (by omega)
        have := tmod_range _ n hx (by omega)
        exact ⟨_, rfl, this.1, fun _ => this.2, by omega⟩
theorem Rdr.up {b : List Int} {p q : Int} (h : Rdr b p) (h1 : p ≤ q) (h2 : q ≤ 1000000) : Rdr b q := ⟨h.1, h.2.1, by have := h.2.2.1; omega, h2⟩
theorem w_one (b : List Int) (p : Int) (l : List Int) (h : Rdr b p) (hp : p < 1000000) (hl : 0 < l.length) (hl2 : l.length ≤ 1000) :
    Wp (fun k => spec_reader_one.f k b p l) (fun r => ∃ x, r = (x, p + 1) ∧ x ∈ l) := by
  unfold spec_reader_one.f
  refine Wp.call (w_pick b p l.length h hp (by omega)) ?_
  rintro _ ⟨x, rfl, h0, h1, _⟩
  have h1 := h1 (by omega)
  exact Wp.pos h0 (Wp.pos h1 (Wp.ret ⟨_, rfl, rd_mem l x h0 h1⟩))
end Go.Proofs.Ytnamhlcdlbjcfaa.P
namespace Go.Proofs.Ytnamhlcdlbjcfaa.P
open Go.RowKit Go.Proofs.YtnamhlcdlbjcfaaW.PrintWords Go.Proofs.YtnamhlcdlbjcfaaW.PrintLast Go.Proofs.YtnamhlcdlbjcfaaW.PrintMore Go.Proofs.Ytnamhlcdlbjcfaa.Wp
set_option linter.unusedVariables false
set_option linter.unusedSimpArgs false
theorem allB_set {l : List Int} (h : ∀ x ∈ l, 0 ≤ x ∧ x ≤ 255) (i : Nat) (v : Int) (hv : 0 ≤ v ∧ v ≤ 255) : ∀ x ∈ l.set i v, 0 ≤ x ∧ x ≤ 255 := fun x hx => by
  rcases List.mem_or_eq_of_mem_set hx with h1 | h1
  · exact h x h1
  · rw [h1]; exact hv
def Rnd (p : Int) (r : Int × Int × Int × List Int × Int) (q : Int) : Prop :=
  (1 ≤ r.1 ∧ r.1 ≤ 8) ∧ (1 ≤ r.2.1 ∧ r.2.1 ≤ 8) ∧ r.2.2.1 = p ∧ (r.2.2.2.1.length : Int) = r.1 * r.2.1 * p ∧ (∀ x ∈ r.2.2.2.1, 0 ≤ x ∧ x ≤ 255) ∧ q ≤ r.2.2.2.2 ∧ r.2.2.2.2 ≤ q + 300
theorem prod_le {a b c : Int} (h0 : 1 ≤ a ∧ a ≤ 8) (h1 : 1 ≤ b ∧ b ≤ 8) (h2 : 1 ≤ c ∧ c ≤ 4) : 1 ≤ a * b ∧ a * b ≤ 64 ∧ 1 ≤ a * b * c ∧ a * b * c ≤ 256 := by
  have m1 : 1 * 1 ≤ a * b := Int.mul_le_mul h0.1 h1.1 (by omega) (by omega)
  have m2 : a * b ≤ 8 * 8 := Int.mul_le_mul h0.2 h1.2 (by omega) (by omega)
  have m3 : 1 * 1 ≤ a * b * c := Int.mul_le_mul (by omega) h2.1 (by omega) (by omega)
  have m4 : a * b * c ≤ 64 * 4 := Int.mul_le_mul (by omega) h2.2 (by omega) (by omega)
  omega
theorem w_randomImage (b : List Int) (q p : Int) (h : Rdr b q) (hq : q ≤ 900000) (hp : 1 ≤ p ∧ p ≤ 4) : Wp (fun k => spec_randomImage.f k b q p) (fun r => Rnd p r q) := by
  unfold spec_randomImage.f
  refine Wp.call (w_one b q _ h (by omega) (by simp) (by simp)) ?_
  rintro _ ⟨sx, rfl, hsx⟩
  have hsx : 1 ≤ sx ∧ sx ≤ 8 := by simp only [List.mem_cons, List.not_mem_nil, or_false] at hsx; omega
  refine Wp.call (w_one b _ _ (h.up (by first | omega | (simp only; omega)) (by first | omega | (simp only; omega))) (by first | omega | (simp only; omega)) (by simp) (by simp)) ?_
  rintro _ ⟨sy, rfl, hsy⟩
  have hsy : 1 ≤ sy ∧ sy ≤ 8 := by simp only [List.mem_cons, List.not_mem_nil, or_false] at hsy; omega
  refine Wp.call (w_newImage sx sy p (by omega) (by omega) (by omega)) ?_
  rintro _ rfl
  refine Wp.call (w_pick b _ 4 (h.up (by first | omega | (simp only; omega)) (by first | omega | (simp only; omega))) (by first | omega | (simp only; omega)) (by omega)) ?_
  rintro _ ⟨md, rfl, md0, md1, _⟩
  refine Wp.call (w_pick b _ 256 (h.up (by first | omega | (simp only; omega)) (by first | omega | (simp only; omega))) (by first | omega | (simp only; omega)) (by omega)) ?_
  rintro _ ⟨v, rfl, v0, v1, _⟩
  have v1 := v1 (by omega)
  have hP := prod_le hsx hsy hp
  generalize hL : (sx * sy * p).toNat = L
  have hlen : (List.replicate L (0 : Int)).length = L := by simp
  have hbs : ∀ x ∈ List.replicate L (0 : Int), 0 ≤ x ∧ x ≤ 255 := fun x hx => by rw [List.eq_of_mem_replicate hx]; omega
  dsimp only
  generalize List.replicate L (0 : Int) = l at hlen hbs
  have key : ∀ (d i : Nat) (l : List Int) (v r : Int), i + d = L → l.length = L → (∀ x ∈ l, 0 ≤ x ∧ x ≤ 255) → 0 ≤ v → v < 256 → q ≤ r → r ≤ q + 4 + i → Wp (fun k => spec_randomImage.l0 k md v i b r sx sy p l) (fun r => Rnd p r q) := by
    intro d
    induction d with
    | zero =>
      intro i l v r hd hl hb hv hv1 hr hr1
      refine Wp.step (fun k => spec_randomImage.l0.eq_2 ..) (Wp.neg (by omega) (Wp.ret ?_))
      exact ⟨hsx, hsy, rfl, by first | omega | (simp only; omega), hb, hr, by first | omega | (simp only; omega)⟩
    | succ d ih =>
      intro i l v r hd hl hb hv hv1 hr hr1
      have hR : Rdr b r := h.up hr (by omega)
      have next : ∀ (v' r' : Int), 0 ≤ v' → v' < 256 → q ≤ r' → r' ≤ q + 4 + (i + 1 : Nat) → Wp (fun k => spec_randomImage.l0 k md v' (wrap64 ((i : Int) + 1)) b r' sx sy p (l.set (i : Int).toNat v')) (fun r => Rnd p r q) := by
        intro v' r' h1 h2 h3 h4
        rw [w64 (x := (i : Int) + 1) (by omega) (by omega)]
        exact ih (i + 1) _ v' r' (by omega) (by rw [List.length_set]; exact hl) (allB_set hb _ _ (by omega)) h1 h2 h3 h4
      refine Wp.step (fun k => spec_randomImage.l0.eq_2 ..) (Wp.pos (by omega) ?_)
      refine Wp.ite (fun _ => ?_) (fun _ => Wp.ite (fun _ => ?_) (fun _ => Wp.ite (fun _ => ?_) (fun _ => ?_)))
      · refine Wp.call (w_pick b r 256 hR (by omega) (by omega)) ?_
        rintro _ ⟨u, rfl, u0, u1, _⟩
        exact Wp.pos (by omega) (next u _ u0 (u1 (by omega)) (by first | omega | (simp only; omega)) (by first | omega | (simp only; omega)))
      · refine Wp.call (w_pick b r 5 hR (by omega) (by omega)) ?_
        rintro _ ⟨u, rfl, u0, u1, _⟩
        have u1 := u1 (by omega)
        refine Wp.pos (by omega) ?_
        simp only
        rw [w64 (x := v + u) (by omega) (by omega), w64 (x := v + u + 254) (by omega) (by omega)]
        have ht := tmod_range (v + u + 254) 256 (by omega) (by omega)
        exact next _ _ ht.1 ht.2 (by first | omega | (simp only; omega)) (by first | omega | (simp only; omega))
      · refine Wp.call (w_pick b r 4 hR (by omega) (by omega)) ?_
        rintro _ ⟨u, rfl, u0, u1, _⟩
        have u1 := u1 (by omega)
        refine Wp.pos (by omega) ?_
        simp only
        rw [w64 (x := 60 * u) (by omega) (by omega)]
        exact next _ _ (by omega) (by omega) (by omega) (by omega)
      · exact Wp.pos (by omega) (next v r hv hv1 hr (by omega))
  exact key L 0 l v _ (by omega) hlen hbs v0 v1 (by first | omega | (simp only; omega)) (by first | omega | (simp only; omega))
def Spl (q : Int) (r : Int × Int × Int × List Int × Int) : Prop :=
  (0 ≤ r.1 ∧ r.1 ≤ 17) ∧ (0 ≤ r.2.1 ∧ r.2.1 ≤ 17) ∧ (0 ≤ r.2.2.1 ∧ r.2.2.1 ≤ 5) ∧ r.2.2.2.1.length ≤ 1024 ∧ q ≤ r.2.2.2.2 ∧ r.2.2.2.2 ≤ q + 1000
theorem w_spoilImage (bb : List Int) (q a b c : Int) (l : List Int) (h : Rdr bb q) (hq : q ≤ 900000) (ha : 0 ≤ a ∧ a ≤ 16) (hb : 0 ≤ b ∧ b ≤ 16) (hc : 0 ≤ c ∧ c ≤ 4) (hl : 1 ≤ l.length) (hl2 : l.length ≤ 1024) :
    Wp (fun k => spec_spoilImage.f k bb q a b c l) (fun r => (0 ≤ r.1 ∧ r.1 ≤ 17) ∧ (0 ≤ r.2.1 ∧ r.2.1 ≤ 17) ∧ (0 ≤ r.2.2.1 ∧ r.2.2.1 ≤ 5) ∧ r.2.2.2.1.length ≤ 1024 ∧ q ≤ r.2.2.2.2 ∧ r.2.2.2.2 ≤ q + 2) := by
  unfold spec_spoilImage.f
  refine Wp.call (w_pick bb q 40 h (by omega) (by omega)) ?_
  rintro _ ⟨u, rfl, u0, u1, _⟩
  have h1 : Rdr bb (q + 1) := h.up (by omega) (by omega)
  simp only
  refine Wp.ite (fun _ => ?_) (fun _ => Wp.ite (fun _ => ?_) (fun _ => Wp.ite (fun _ => ?_) (fun _ => Wp.ite (fun _ => ?_) (fun _ => ?_))))
  · refine Wp.call (w_one bb _ _ h1 (by omega) (by simp) (by simp)) ?_
    rintro _ ⟨x, rfl, hx⟩
    rw [w64 (x := a + 1) (by omega) (by omega)] at hx
    simp only [List.mem_cons, List.not_mem_nil, or_false] at hx
    exact Wp.ret ⟨by first | omega | (simp only; omega), by first | omega | (simp only; omega), by first | omega | (simp only; omega), hl2, by first | omega | (simp only; omega), by first | omega | (simp only; omega)⟩
  · exact Wp.pos (by omega) (Wp.ret ⟨by first | omega | (simp only; omega), by first | omega | (simp only; omega), by first | omega | (simp only; omega), by simp only [List.length_drop]; omega, by first | omega | (simp only; omega), by first | omega | (simp only; omega)⟩)
  · refine Wp.call (w_one bb _ _ h1 (by omega) (by simp) (by simp)) ?_
    rintro _ ⟨x, rfl, hx⟩
    exact Wp.pos (by omega) (Wp.ret ⟨by first | omega | (simp only; omega), by first | omega | (simp only; omega), by first | omega | (simp only; omega), by simp only [List.length_set]; omega, by first | omega | (simp only; omega), by first | omega | (simp only; omega)⟩)
  · refine Wp.call (w_one bb _ _ h1 (by omega) (by simp) (by simp)) ?_
    rintro _ ⟨x, rfl, hx⟩
    simp only [List.mem_cons, List.not_mem_nil, or_false] at hx
    exact Wp.ret ⟨by first | omega | (simp only; omega), by first | omega | (simp only; omega), by first | omega | (simp only; omega), hl2, by first | omega | (simp only; omega), by first | omega | (simp only; omega)⟩
  · exact Wp.ret ⟨by first | omega | (simp only; omega), by first | omega | (simp only; omega), by first | omega | (simp only; omega), hl2, by first | omega | (simp only; omega), by first | omega | (simp only; omega)⟩
theorem w_anyPlanes (b : List Int) (q : Int) (h : Rdr b q) (hq : q ≤ 900000) : Wp (fun k => spec_anyPlanes.f k b q) (fun r => (1 ≤ r.1 ∧ r.1 ≤ 4) ∧ r.2 = q + 1) := by
  unfold spec_anyPlanes.f
  refine Wp.call (w_one b q _ h (by omega) (by simp) (by simp)) ?_
  rintro _ ⟨x, rfl, hx⟩
  simp only [List.mem_cons, List.not_mem_nil, or_false] at hx
  exact Wp.ret ⟨by first | omega | (simp only; omega), rfl⟩
theorem Rnd.len {p q : Int} {r : Int × Int × Int × List Int × Int} (h : Rnd p r q) (hp : 1 ≤ p ∧ p ≤ 4) : 1 ≤ r.2.2.2.1.length ∧ r.2.2.2.1.length ≤ 256 := by
  obtain ⟨h0, h1, h2, h3, _⟩ := h
  have := prod_le h0 h1 hp
  omega
theorem w_randomSpoil (b : List Int) (q p : Int) (r : Int × Int × Int × List Int × Int) (h : Rdr b q) (hq : q ≤ 800000) (hp : 1 ≤ p ∧ p ≤ 4) (hr : Rnd p r q) :
    Wp (fun k => spec_spoilImage.f k b r.2.2.2.2 r.1 r.2.1 r.2.2.1 r.2.2.2.1) (fun r => Spl q r ∧ r.2.2.2.2 ≤ q + 302) := by
  have hl := hr.len hp
  obtain ⟨h0, h1, h2, h3, h4, h5, h6⟩ := hr
  refine (w_spoilImage b r.2.2.2.2 _ _ _ _ (h.up h5 (by omega)) (by omega) (by omega) (by omega) (by omega) hl.1 (by omega)).mono ?_
  rintro s ⟨a0, a1, a2, a3, a4, a5⟩
  exact ⟨⟨a0, a1, a2, a3, by omega, by omega⟩, by omega⟩
theorem w_anyImage (b : List Int) (q : Int) (h : Rdr b q) (hq : q ≤ 700000) : Wp (fun k => spec_anyImage.f k b q) (fun r => Spl q r) := by
  unfold spec_anyImage.f
  refine Wp.call (w_anyPlanes b q h (by omega)) ?_
  rintro ⟨p, q'⟩ ⟨hp, e⟩
  simp only at hp e
  subst e
  refine Wp.call (w_randomImage b (q + 1) p (h.up (by omega) (by omega)) (by omega) hp) ?_
  intro r hr
  refine Wp.call (w_randomSpoil b (q + 1) p r (h.up (by omega) (by omega)) (by omega) hp hr) ?_
  rintro s ⟨⟨a0, a1, a2, a3, a4, a5⟩, a6⟩
  refine Wp.ret ⟨a0, a1, a2, a3, by first | omega | (simp only; omega), ?_⟩
  simp only
  omega
end Go.Proofs.Ytnamhlcdlbjcfaa.P
namespace Go.Proofs.Ytnamhlcdlbjcfaa.P
open Go.RowKit Go.Proofs.YtnamhlcdlbjcfaaW.PrintWords Go.Proofs.YtnamhlcdlbjcfaaW.PrintLast Go.Proofs.YtnamhlcdlbjcfaaW.PrintMore Go.Proofs.Ytnamhlcdlbjcfaa.Wp
set_option linter.unusedVariables false
set_option linter.unusedSimpArgs false
theorem w_anySide (b : List Int) (q : Int) (h : Rdr b q) (hq : q ≤ 900000) : Wp (fun k => spec_anySide.f k b q) (fun r => r.2 = q + 1) := by
  unfold spec_anySide.f
  refine Wp.call (w_one b q _ h (by omega) (by simp) (by simp)) ?_
  rintro _ ⟨x, rfl, hx⟩
  exact Wp.ret rfl
theorem w_DrawNear (l : List Int) (hb : ∀ x ∈ l, (Lit.int .u8 x).wf = true) : Wp (fun k => spec_DrawScaleNearest.f k l) (fun r => r.2.2.2.1.length ≤ 1024) := by
  unfold spec_DrawScaleNearest.f
  refine Wp.call (w_newReader l hb) ?_
  rintro ⟨b, p⟩ ⟨h, e⟩
  simp only at e h
  subst e
  refine Wp.call (w_anyImage b 0 h (by omega)) ?_
  rintro ⟨r0, r1, r2, r3, r4⟩ ⟨_, _, _, hl, ha, hb⟩
  simp only at hl ha hb
  refine Wp.call (w_anySide b r4 (h.up ha (by omega)) (by omega)) ?_
  rintro ⟨s, q⟩ e
  simp only at e
  subst e
  refine Wp.call (w_anySide b (r4 + 1) (h.up (by omega) (by omega)) (by omega)) ?_
  intro s _
  exact Wp.ret hl
end Go.Proofs.Ytnamhlcdlbjcfaa.P
namespace Go.Proofs.Ytnamhlcdlbjcfaa.P
open Go.RowKit Go.Proofs.YtnamhlcdlbjcfaaW.PrintWords Go.Proofs.YtnamhlcdlbjcfaaW.PrintLast Go.Proofs.YtnamhlcdlbjcfaaW.PrintMore Go.Proofs.Ytnamhlcdlbjcfaa.Wp
set_option linter.unusedVariables false
set_option linter.unusedSimpArgs false
theorem w_equalImage (a b c : Int) (l : List Int) (a' b' c' : Int) (l' : List Int) (hl : l.length ≤ 1000000000) : Wp (fun k => laws_equalImage.f k a b c l a' b' c' l') (fun r => r = decide ((a, b, c, l) = (a', b', c', l'))) := by
  unfold laws_equalImage.f
  refine Wp.ite (fun h => ?_) (fun h => Wp.ret (decide_eq_false fun e => h (congrArg (·.1) e)).symm)
  refine Wp.ite (fun h1 => ?_) (fun h1 => Wp.ret (decide_eq_false fun e => h1 (congrArg (·.2.1) e)).symm)
  refine Wp.ite (fun h2 => ?_) (fun h2 => Wp.ret (decide_eq_false fun e => h2 (congrArg (·.2.2.1) e)).symm)
  refine Wp.call (w_equalInts l l' hl) ?_
  rintro _ rfl
  refine Wp.ret ?_
  subst h h1 h2
  rw [Bool.eq_iff_iff, decide_eq_true_eq, decide_eq_true_eq]
  exact ⟨fun e => by rw [e], fun e => congrArg (·.2.2.2) e⟩
end Go.Proofs.Ytnamhlcdlbjcfaa.P
namespace Go.Proofs.Ytnamhlcdlbjcfaa.Pure
open Go.RowKit Go.Proofs.Ytnamhlcdlbjcfaa.P Go.Proofs.YtnamhlcdlbjcfaaW.PrintWords Go.Proofs.YtnamhlcdlbjcfaaW.PrintMore Go.Proofs.Ytnamhlcdlbjcfaa.Wp
set_option linter.unusedVariables false
theorem tr_ok (a b p : Nat) (l : List Int) (ha : 1 ≤ a ∧ a ≤ 16) (hb : 1 ≤ b ∧ b ≤ 16) (hp : 1 ≤ p ∧ p ≤ 4) (hl : l.length = b * a * p) (hB : ∀ v ∈ l, 0 ≤ v ∧ v ≤ 255) :
    trI a b p l = (↑b, ↑a, ↑p, imgOf (fun x y => pixOf l a p y x) b a) ∧ imgB b a p (imgOf (fun x y => pixOf l a p y x) b a) = true := by
  have h := tr_img (fun x y => pixOf l a p x y) a b p ha hb hp (fun i j hj hi => pix_len l a b p j i hl hj hi) (fun i j hj hi v hv => hB v (pixOf_mem hv))
  rw [img_self l a b p hl] at h
  exact h
theorem near_turn (a b c : Int) (l : List Int) (n m : Int) (hi : imgB a b c l = true) (hn : 1 ≤ n ∧ n ≤ 16) (hm : 1 ≤ m ∧ m ≤ 16) :
    nearI (trI a b c l).1 (trI a b c l).2.1 (trI a b c l).2.2.1 (trI a b c l).2.2.2 m n = trI (nearI a b c l n m).1 (nearI a b c l n m).2.1 (nearI a b c l n m).2.2.1 (nearI a b c l n m).2.2.2 := by
  obtain ⟨a, b, p, rfl, rfl, rfl, ha, hb, hp, hl, hB⟩ := img_nat hi
  obtain ⟨n, rfl⟩ := Int.eq_ofNat_of_zero_le (show 0 ≤ n by omega)
  obtain ⟨m, rfl⟩ := Int.eq_ofNat_of_zero_le (show 0 ≤ m by omega)
  obtain ⟨t1, t2⟩ := tr_ok a b p l ha hb hp hl hB
  rw [t1]
  unfold nearI
  rw [if_pos ⟨t2, hm, hn⟩, if_pos ⟨hi, hn, hm⟩]
  simp only [Int.toNat_natCast]
  have sc : ∀ (j a n : Nat), j < n → 1 ≤ a → (j : Int) * a / n = ((j * a / n : Nat) : Int) ∧ j * a / n < a := fun j a n hj ha => by
    refine ⟨by rw [← Int.natCast_mul, ← Int.natCast_ediv], Nat.div_lt_of_lt_mul ?_⟩
    exact Nat.mul_lt_mul_of_pos_right hj (by omega)
  have hfp : ∀ i j : Nat, j < n → i < m → (pixOf l a p ((j : Int) * a / n) ((i : Int) * b / m)).length = p := fun i j hj hi2 => by
    rw [(sc j a n hj ha.1).1, (sc i b m hi2 hb.1).1]
    exact pix_len l a b p _ _ hl (sc j a n hj ha.1).2 (sc i b m hi2 hb.1).2
  have h := tr_img (fun x y => pixOf l a p (x * a / n) (y * b / m)) n m p (by omega) (by omega) hp hfp (fun i j hj hi2 v hv => hB v (pixOf_mem hv))
  rw [h.1]
  congr 3
  refine img_congr _ _ m n fun i j hj hi2 => ?_
  show pixOf (imgOf (fun x y => pixOf l a p y x) b a) b p ((j : Int) * b / m) ((i : Int) * a / n) = pixOf l a p ((i : Int) * a / n) ((j : Int) * b / m)
  rw [(sc j b m hj hb.1).1, (sc i a n hi2 ha.1).1]
  exact pix_img (fun x y => pixOf l a p y x) b a p (fun i j hj hi2 => pix_len l a b p i j hl hi2 hj) _ _ (sc j b m hj hb.1).2 (sc i a n hi2 ha.1).2
theorem area_turn (a b c : Int) (l : List Int) (n m : Int) (hi : imgB a b c l = true) (hn : 1 ≤ n ∧ n ≤ 16) (hm : 1 ≤ m ∧ m ≤ 16) :
    areaI (trI a b c l).1 (trI a b c l).2.1 (trI a b c l).2.2.1 (trI a b c l).2.2.2 m n = trI (areaI a b c l n m).1 (areaI a b c l n m).2.1 (areaI a b c l n m).2.2.1 (areaI a b c l n m).2.2.2 := by
  obtain ⟨a, b, p, rfl, rfl, rfl, ha, hb, hp, hl, hB⟩ := img_nat hi
  obtain ⟨n, rfl⟩ := Int.eq_ofNat_of_zero_le (show 0 ≤ n by omega)
  obtain ⟨m, rfl⟩ := Int.eq_ofNat_of_zero_le (show 0 ≤ m by omega)
  obtain ⟨t1, t2⟩ := tr_ok a b p l ha hb hp hl hB
  rw [t1]
  unfold areaI
  rw [if_pos ⟨t2, hm, hn⟩, if_pos ⟨hi, hn, hm⟩]
  simp only [Int.toNat_natCast]
  have h := tr_img (areaP l a b p n m) n m p (by omega) (by omega) hp (fun i j hj hi2 => areaP_len ..) (fun i j hj hi2 v hv => by
    obtain ⟨q, hq, rfl⟩ := List.getElem_of_mem hv
    rw [areaP_len] at hq
    have := areaP_B l a b p n m j i hl ha.1 hb.1 (by omega) (by omega) 0 255 q hq (fun i j hi hj => dat_B l a b p hl hB i j q hi hj hq)
    rw [List.getD_eq_getElem?_getD, List.getElem?_eq_getElem (by rw [areaP_len]; exact hq)] at this
    simpa using this)
  rw [h.1]
  congr 3
  refine img_congr _ _ m n fun i j hj hi2 => ?_
  show areaP (imgOf (fun x y => pixOf l a p y x) b a) b a p m n j i = areaP l a b p n m i j
  refine bl_ext (by rw [areaP_len, areaP_len]) fun q hq => ?_
  rw [areaP_len] at hq
  rw [areaP_get _ _ _ _ _ _ _ _ _ hq, areaP_get _ _ _ _ _ _ _ _ _ hq, Int.mul_comm (b : Int), ← areaS_comm (dat l a p q) a b n m i j]
  congr 1
  unfold areaS
  refine sumN_congr fun y hy => sumN_congr fun x hx => ?_
  rw [dat_img (fun x y => pixOf l a p y x) b a p q x y (fun i j hj hi2 => pix_len l a b p i j hl hi2 hj) hx hy hq, dat_pix l a b p hl y x q hy hx hq]
theorem tr_len (a b c : Int) (l : List Int) (h : l.length ≤ 1000000) : (trI a b c l).2.2.2.length ≤ 1000000000 := by
  unfold trI
  split
  · rename_i hi
    obtain ⟨a, b, p, rfl, rfl, rfl, ha, hb, hp, hl, hB⟩ := img_nat hi
    simp only [Int.toNat_natCast]
    rw [img_len _ b a p (fun i j hj hi2 => pix_len l a b p i j hl hi2 hj), Nat.mul_comm a b, ← hl]
    omega
  · simp
theorem FnScaleNearestTurn : laws_FnScaleNearestTurn.Pure := by
  intro l _ _ hb
  refine Wp.rounds ?_
  unfold laws_FnScaleNearestTurn.f
  refine Wp.ite (fun _ => Wp.ret rfl) (fun _ => ?_)
  refine Wp.call (w_DrawNear l hb) ?_
  rintro ⟨a, b, c, d, n, m⟩ hl
  simp only at hl
  refine Wp.call (w_iNear a b c d n m) ?_
  rintro _ rfl
  refine Wp.call (w_sNear a b c d n m (by omega)) ?_
  rintro _ rfl
  have hg : (nearI a b c d n m).2.2.2.length ≤ 1000000000 := Nat.le_trans (near_len a b c d n m) (by omega)
  refine Wp.call (w_equalImage _ _ _ _ _ _ _ _ hg) ?_
  rintro _ rfl
  refine Wp.pos (by simp) ?_
  refine Wp.step (fun k => laws_FnScaleNearestTurn.j0.eq_2 ..) ?_
  refine Wp.ite (fun h0 => ?_) (fun h0 => ?_)
  · refine Wp.call (w_sNear a b c d n m (by omega)) ?_
    rintro _ rfl
    refine Wp.call (w_equalImage _ _ _ _ _ _ _ _ hg) ?_
    rintro _ rfl
    exact Wp.ret (by simp)
  · have hh : imgB a b c d = true ∧ (1 ≤ n ∧ n ≤ 16) ∧ (1 ≤ m ∧ m ≤ 16) := Decidable.byContradiction fun h => by
      unfold nearI at h0
      rw [if_neg h] at h0
      exact absurd rfl h0
    obtain ⟨hi, hn, hm⟩ := hh
    have e1 := near_turn a b c d n m hi hn hm
    have e2 := area_turn a b c d n m hi hn hm
    refine Wp.call (w_iTrans a b c d) ?_
    rintro _ rfl
    refine Wp.call (w_iNear _ _ _ _ m n) ?_
    rintro _ rfl
    refine Wp.call (w_iTrans _ _ _ _) ?_
    rintro _ rfl
    refine Wp.call (w_equalImage _ _ _ _ _ _ _ _ (Nat.le_trans (near_len _ _ _ _ _ _) (by omega))) ?_
    rintro _ rfl
    refine Wp.pos (decide_eq_true e1) ?_
    refine Wp.call (w_iArea _ _ _ _ m n) ?_
    rintro _ rfl
    refine Wp.call (w_iArea a b c d n m) ?_
    rintro _ rfl
    refine Wp.call (w_iTrans _ _ _ _) ?_
    rintro _ rfl
    refine Wp.call (w_equalImage _ _ _ _ _ _ _ _ (Nat.le_trans (area_len _ _ _ _ _ _) (by omega))) ?_
    rintro _ rfl
    exact Wp.ret (decide_eq_true e2)
end Go.Proofs.Ytnamhlcdlbjcfaa.Pure
