/- Pure lemmas: what the printed functions answer, for every input; no Go, no memory, no condition but those that each lemma names. -/
import Derived.Test.YtnamhlcdlbjcfaaWWords
import Derived.Test.YtnamhlcdlbjcfaaK1
import Derived.Test.YtnamhlcdlbjcfaaK2
import Derived.Test.YtnamhlcdlbjcfaaK3
import Derived.Test.YtnamhlcdlbjcfaaK4
/- Rules for functions that are told with a number of rounds: what they answer once the rounds are enough. Plain lemmas, for every input; no condition. -/
namespace Go.Proofs.Ytnamhlcdlbjcfaa.Wp
open Go.RowKit Go.Proofs.YtnamhlcdlbjcfaaW.PrintWords
set_option linter.unusedVariables false

/-- With enough rounds g answers, and the answer is as P says. -/
def Wp {α : Type} (g : Nat → Option α) (P : α → Prop) : Prop := ∃ r, P r ∧ ∃ K, ∀ k, K ≤ k → g k = some r

theorem Wp.mono {α : Type} {g : Nat → Option α} {P Q : α → Prop} (h : Wp g P) (hi : ∀ a, P a → Q a) : Wp g Q := by
  obtain ⟨r, hp, K, hk⟩ := h
  exact ⟨r, hi r hp, K, hk⟩
theorem Wp.ret {α : Type} {P : α → Prop} {r : α} (h : P r) : Wp (fun _ => some r) P := ⟨r, h, 0, fun _ _ => rfl⟩
theorem Wp.bind {α β : Type} {g : Nat → Option α} {f : Nat → α → Option β} {P : β → Prop} (h : Wp g (fun a => Wp (fun k => f k a) P)) : Wp (fun k => (g k).bind (f k)) P := by
  obtain ⟨a, ⟨r, hp, K, hk⟩, K', hk'⟩ := h
  refine ⟨r, hp, max K K', fun k hkk => ?_⟩
  show (g k).bind (f k) = some r
  rw [hk' k (by omega)]
  exact hk k (by omega)
/-- A call, and what follows. -/
theorem Wp.call {α β : Type} {g : Nat → Option α} {f : Nat → α → Option β} {Q : α → Prop} {P : β → Prop} (h : Wp g Q) (hf : ∀ a, Q a → Wp (fun k => f k a) P) : Wp (fun k => (g k).bind (f k)) P :=
  Wp.bind (h.mono hf)
theorem Wp.ite {α : Type} {c : Prop} [Decidable c] {g h : Nat → Option α} {P : α → Prop} (h1 : c → Wp g P) (h2 : ¬ c → Wp h P) : Wp (fun k => if c then g k else h k) P := by
  by_cases hc : c
  · simpa only [if_pos hc] using h1 hc
  · simpa only [if_neg hc] using h2 hc
theorem Wp.pos {α : Type} {c : Prop} [Decidable c] {g h : Nat → Option α} {P : α → Prop} (hc : c) (h1 : Wp g P) : Wp (fun k => if c then g k else h k) P := Wp.ite (fun _ => h1) (fun h => absurd hc h)
theorem Wp.neg {α : Type} {c : Prop} [Decidable c] {g h : Nat → Option α} {P : α → Prop} (hc : ¬ c) (h1 : Wp h P) : Wp (fun k => if c then g k else h k) P := Wp.ite (fun h => absurd h hc) (fun _ => h1)
/-- A round. -/
theorem Wp.step {α : Type} {g f : Nat → Option α} {P : α → Prop} (h : ∀ k, g (k + 1) = f k) (hf : Wp f P) : Wp g P := by
  obtain ⟨r, hp, K, hk⟩ := hf
  refine ⟨r, hp, K + 1, fun k hkk => ?_⟩
  obtain ⟨k, rfl⟩ : ∃ m, k = m + 1 := ⟨k - 1, by omega⟩
  rw [h k]
  exact hk k (by omega)
theorem Wp.of {α : Type} {g : Nat → Option α} {P : α → Prop} {r : α} (h : ∀ k, g k = some r) (hp : P r) : Wp g P := ⟨r, hp, 0, fun k _ => h k⟩
theorem Wp.rounds {α : Type} {g : Nat → Option α} {r : α} (h : Wp g (fun a => a = r)) : ∃ k, g k = some r := by
  obtain ⟨r', rfl, K, hk⟩ := h
  exact ⟨K, hk K (Nat.le_refl K)⟩
/-- The same answer by two ways. -/
theorem Wp.eq_of {α : Type} {g : Nat → Option α} {P : α → Prop} {r : α} {Q : α → Prop} (h : Wp g P) (k : Wp g Q) : Wp g (fun a => P a ∧ Q a) := by
  obtain ⟨a, hp, K, hk⟩ := h
  obtain ⟨b, hq, K', hk'⟩ := k
  have e : a = b := by
    have h1 := hk (max K K') (by omega)
    have h2 := hk' (max K K') (by omega)
    rw [h1] at h2
    exact Option.some.inj h2
  subst e
  exact ⟨a, ⟨hp, hq⟩, K, hk⟩
/-- A loop over a number that counts down. -/
theorem Wp.loop {σ α : Type} {g : σ → Nat → Option α} {P : α → Prop} (m : σ → Nat) (I : σ → Prop) (h : ∀ s, I s → (∀ s', I s' → m s' < m s → Wp (g s') P) → Wp (g s) P) (s : σ) (hs : I s) : Wp (g s) P := by
  generalize hn : m s = n
  induction n using Nat.strongRecOn generalizing s with
  | _ n ih => exact h s hs fun s' hs' hlt => ih (m s') (by omega) s' hs' rfl

theorem w64 {x : Int} (h0 : -9223372036854775808 ≤ x) (h1 : x ≤ 9223372036854775807) : wrap64 x = x := by
  unfold wrap64
  omega
end Go.Proofs.Ytnamhlcdlbjcfaa.Wp

/- Lists of numbers: what the loops over them answer (all in a range, copies, equality, marks). Plain lemmas; the only condition is a bound on lengths. -/
namespace Go.Proofs.Ytnamhlcdlbjcfaa.P
open Go.RowKit Go.Proofs.YtnamhlcdlbjcfaaW.PrintWords Go.Proofs.YtnamhlcdlbjcfaaW.PrintLast Go.Proofs.YtnamhlcdlbjcfaaW.PrintMore Go.Proofs.Ytnamhlcdlbjcfaa.Wp
set_option linter.unusedVariables false
set_option linter.unusedSimpArgs false

theorem bl_rd (l : List Int) (i : Nat) : rd l (i : Int) = l.getD i 0 := by simp [rd]
theorem bl_rd_lt (l : List Int) (i : Nat) (h : i < l.length) : rd l (i : Int) = l[i] := by simp [rd, List.getD_eq_getElem?_getD, List.getElem?_eq_getElem h]
theorem bl_ext {x l : List Int} (hx : x.length = l.length) (h : ∀ j, j < l.length → x.getD j 0 = l.getD j 0) : x = l := by
  apply List.ext_getElem hx
  intro j h1 h2
  have := h j h2
  simpa [List.getD_eq_getElem?_getD, List.getElem?_eq_getElem h1, List.getElem?_eq_getElem h2] using this
theorem bl_set {x : List Int} {i : Nat} (v : Int) (j : Nat) (hi : i < x.length) : (x.set i v).getD j 0 = if j = i then v else x.getD j 0 := by
  simp only [List.getD_eq_getElem?_getD, List.getElem?_set]
  by_cases h : i = j
  · subst h; simp [hi]
  · simp [h, Ne.symm h, eq_comm]
theorem bl_map_range (f : Nat → Int) (n j : Nat) (hj : j < n) : ((List.range n).map f).getD j 0 = f j := by
  simp [List.getD_eq_getElem?_getD, hj]
theorem bl_all_drop (l : List Int) (p : Int → Bool) (i : Nat) (h : i < l.length) : (l.drop i).all p = (p (l.getD i 0) && (l.drop (i + 1)).all p) := by
  rw [List.drop_eq_getElem_cons h, List.all_cons]
  simp [List.getD_eq_getElem?_getD, List.getElem?_eq_getElem h]
/-- All numbers in 0..255. -/
def allB (l : List Int) : Bool := l.all fun n => decide (0 ≤ n ∧ n ≤ 255)
theorem allB_mem {l : List Int} (h : allB l = true) : ∀ x ∈ l, 0 ≤ x ∧ x ≤ 255 := fun x hx => of_decide_eq_true (List.all_eq_true.1 h x hx)
theorem allB_of {l : List Int} (h : ∀ x ∈ l, 0 ≤ x ∧ x ≤ 255) : allB l = true := List.all_eq_true.2 fun x hx => decide_eq_true (h x hx)
theorem rd_leB {l : List Int} (h : allB l = true) (i : Nat) (hi : i < l.length) : 0 ≤ l.getD i 0 ∧ l.getD i 0 ≤ 255 := by
  have := allB_mem h l[i] (List.getElem_mem hi)
  simpa [List.getD_eq_getElem?_getD, List.getElem?_eq_getElem hi] using this
theorem w_inRange0 (a b c : Int) : Wp (fun _ => spec_inRange.f a b c) (fun r => r = decide (b ≤ a ∧ a ≤ c)) := by
  unfold spec_inRange.f
  refine Wp.ite (fun h => Wp.ret ?_) (fun h => Wp.ret ?_)
  · simp [h]
  · simp [h]
theorem w_allIn (l : List Int) (a b : Int) (hl : l.length ≤ 1000000000) : Wp (fun k => spec_allIn.f k l a b) (fun r => r = l.all fun n => decide (a ≤ n ∧ n ≤ b)) := by
  unfold spec_allIn.f
  have key : ∀ d (i : Nat), i + d = l.length → Wp (fun k => spec_allIn.l0 k l a b i) (fun r => r = (l.drop i).all fun n => decide (a ≤ n ∧ n ≤ b)) := by
    intro d
    induction d with
    | zero =>
      intro i hd
      refine Wp.step (fun k => spec_allIn.l0.eq_2 ..) (Wp.neg (by omega) (Wp.ret ?_))
      rw [List.drop_of_length_le (by omega)]
      rfl
    | succ d ih =>
      intro i hd
      refine Wp.step (fun k => spec_allIn.l0.eq_2 ..) (Wp.pos (by omega) (Wp.pos (by omega) ?_))
      refine Wp.call (w_inRange0 _ _ _) ?_
      rintro _ rfl
      rw [bl_all_drop l _ i (by omega), bl_rd]
      refine Wp.ite (fun h => ?_) (fun h => Wp.ret ?_)
      · rw [h, Bool.true_and, w64 (x := (i : Int) + 1) (by omega) (by omega)]
        exact ih (i + 1) (by omega)
      · rw [Bool.not_eq_true] at h
        rw [h, Bool.false_and]
  exact key l.length 0 (by omega)
theorem w_allB (l : List Int) (hl : l.length ≤ 1000000000) : Wp (fun k => spec_allIn.f k l 0 255) (fun r => r = allB l) := w_allIn l 0 255 hl
theorem w_areBytes (l : List Int) : Wp (fun _ => impl_areBytes.f l) (fun r => r = allB l) := by
  unfold impl_areBytes.f
  refine Wp.ret ?_
  unfold allB
  induction l with
  | nil => rfl
  | cons x l ih =>
    simp only [List.any_cons, List.all_cons, Bool.not_or, ← ih]
    congr 1
    by_cases h0 : x < 0 <;> by_cases h1 : 255 < x <;> simp [h0, h1] <;> omega
theorem w_toIntS (l : List Int) (hl : l.length ≤ 1000000000) : Wp (fun k => laws_toIntS.f k l) (fun r => r = l) := by
  unfold laws_toIntS.f
  refine Wp.pos (by omega) (Wp.pos (by omega) ?_)
  have key : ∀ d (i : Nat) (x : List Int), i + d = l.length → x.length = l.length → (∀ j, j < i → x.getD j 0 = l.getD j 0) → Wp (fun k => laws_toIntS.l0 k l x i) (fun r => r = l) := by
    intro d
    induction d with
    | zero =>
      intro i x hd hx h
      refine Wp.step (fun k => laws_toIntS.l0.eq_2 ..) (Wp.neg (by omega) (Wp.ret ?_))
      exact bl_ext hx fun j hj => h j (by omega)
    | succ d ih =>
      intro i x hd hx h
      refine Wp.step (fun k => laws_toIntS.l0.eq_2 ..) (Wp.pos (by omega) (Wp.pos (by omega) (Wp.pos (by omega) ?_)))
      rw [w64 (x := (i : Int) + 1) (by omega) (by omega), bl_rd, Int.toNat_natCast]
      refine ih (i + 1) _ (by omega) (by rw [List.length_set]; exact hx) fun j hj => ?_
      rw [bl_set _ _ (by omega)]
      split
      · rename_i e; rw [e]
      · exact h j (by omega)
  exact key l.length 0 _ (by omega) (by simp) (fun j hj => by omega)
theorem w_eqIntS (a b : List Int) (hl : a.length ≤ 1000000000) : Wp (fun k => laws_eqIntS.f k a b) (fun r => r = decide (a = b)) := by
  unfold laws_eqIntS.f
  refine Wp.ite (fun he => ?_) (fun he => Wp.ret ?_)
  · have key : ∀ d (i : Nat), i + d = a.length → (∀ j, j < i → a.getD j 0 = b.getD j 0) → Wp (fun k => laws_eqIntS.l0 k a b i) (fun r => r = decide (a = b)) := by
      intro d
      induction d with
      | zero =>
        intro i hd h
        refine Wp.step (fun k => laws_eqIntS.l0.eq_2 ..) (Wp.neg (by omega) (Wp.ret ?_))
        exact (decide_eq_true (bl_ext (by omega) fun j hj => h j (by omega))).symm
      | succ d ih =>
        intro i hd h
        refine Wp.step (fun k => laws_eqIntS.l0.eq_2 ..) (Wp.pos (by omega) (Wp.pos (by omega) (Wp.pos (by omega) ?_)))
        rw [bl_rd, bl_rd]
        refine Wp.ite (fun h1 => ?_) (fun h1 => Wp.ret ?_)
        · rw [w64 (x := (i : Int) + 1) (by omega) (by omega)]
          refine ih (i + 1) (by omega) fun j hj => ?_
          by_cases e : j = i
          · rw [e]; exact h1
          · exact h j (by omega)
        · exact (decide_eq_false fun e => h1 (by rw [e])).symm
    exact key a.length 0 (by omega) (fun j hj => by omega)
  · exact (decide_eq_false fun e => he (by rw [e])).symm
/-- The numbers from a on. -/
def marks (a : Int) (n : Nat) : List Int := (List.range n).map fun j : Nat => a + (j : Int)
theorem marks_length (a : Int) (n : Nat) : (marks a n).length = n := by simp [marks]
theorem marks_get (a : Int) (n j : Nat) (hj : j < n) : (marks a n).getD j 0 = a + j := bl_map_range _ n j hj
theorem w_markIntS (l : List Int) (a : Int) (hl : l.length ≤ 1000000000) (h0 : 0 ≤ a) (h1 : a ≤ 1000000000) : Wp (fun k => laws_markIntS.f k l a) (fun r => r = (a + l.length, marks a l.length)) := by
  unfold laws_markIntS.f
  have key : ∀ d (i : Nat) (x : List Int), i + d = l.length → x.length = l.length → (∀ j, j < i → x.getD j 0 = a + j) → Wp (fun k => laws_markIntS.l0 k x (a + i) i) (fun r => r = (a + l.length, marks a l.length)) := by
    intro d
    induction d with
    | zero =>
      intro i x hd hx h
      refine Wp.step (fun k => laws_markIntS.l0.eq_2 ..) (Wp.neg (by omega) (Wp.ret ?_))
      rw [show (i : Int) = l.length by omega]
      congr 1
      exact bl_ext (by rw [marks_length]; exact hx) fun j hj => by rw [marks_length] at hj; rw [marks_get _ _ _ hj]; exact h j (by omega)
    | succ d ih =>
      intro i x hd hx h
      refine Wp.step (fun k => laws_markIntS.l0.eq_2 ..) (Wp.pos (by omega) (Wp.pos (by omega) ?_))
      rw [w64 (x := (i : Int) + 1) (by omega) (by omega), w64 (x := a + (i : Int) + 1) (by omega) (by omega), Int.toNat_natCast]
      have := ih (i + 1) (x.set i (a + i)) (by omega) (by rw [List.length_set]; exact hx) fun j hj => by
        rw [bl_set _ _ (by omega)]
        split
        · rename_i e; rw [e]
        · exact h j (by omega)
      rw [show a + ((i + 1 : Nat) : Int) = a + (i : Int) + 1 by omega] at this
      exact this
  have := key l.length 0 l (by omega) rfl (fun j hj => by omega)
  simpa using this
theorem w_heldIntS (n : Nat) (a : Int) (hl : n ≤ 1000000000) (h0 : 0 ≤ a) (h1 : a ≤ 1000000000) : Wp (fun k => laws_heldIntS.f k (marks a n) a) (fun r => r = a + n) := by
  unfold laws_heldIntS.f
  have hlen : (marks a n).length = n := marks_length a n
  have key : ∀ d (i : Nat), i + d = n → Wp (fun k => laws_heldIntS.l0 k (marks a n) (a + i) i) (fun r => r = a + n) := by
    intro d
    induction d with
    | zero =>
      intro i hd
      refine Wp.step (fun k => laws_heldIntS.l0.eq_2 ..) (Wp.neg (by omega) (Wp.ret ?_))
      omega
    | succ d ih =>
      intro i hd
      refine Wp.step (fun k => laws_heldIntS.l0.eq_2 ..) (Wp.pos (by omega) (Wp.pos (by omega) ?_))
      rw [bl_rd, marks_get _ _ _ (by omega)]
      refine Wp.pos rfl ?_
      rw [w64 (x := (i : Int) + 1) (by omega) (by omega), w64 (x := a + (i : Int) + 1) (by omega) (by omega)]
      have := ih (i + 1) (by omega)
      rw [show a + ((i + 1 : Nat) : Int) = a + (i : Int) + 1 by omega] at this
      exact this
  have := key n 0 (by omega)
  simpa using this
theorem w_equalInts (a b : List Int) (hl : a.length ≤ 1000000000) : Wp (fun k => laws_equalInts.f k a b) (fun r => r = decide (a = b)) := by
  unfold laws_equalInts.f
  refine Wp.ite (fun he => ?_) (fun he => Wp.ret ?_)
  · have key : ∀ d (i : Nat), i + d = a.length → (∀ j, j < i → a.getD j 0 = b.getD j 0) → Wp (fun k => laws_equalInts.l0 k a b i) (fun r => r = decide (a = b)) := by
      intro d
      induction d with
      | zero =>
        intro i hd h
        refine Wp.step (fun k => laws_equalInts.l0.eq_2 ..) (Wp.neg (by omega) (Wp.ret ?_))
        exact (decide_eq_true (bl_ext (by omega) fun j hj => h j (by omega))).symm
      | succ d ih =>
        intro i hd h
        refine Wp.step (fun k => laws_equalInts.l0.eq_2 ..) (Wp.pos (by omega) (Wp.pos (by omega) (Wp.pos (by omega) ?_)))
        rw [bl_rd, bl_rd]
        refine Wp.ite (fun h1 => ?_) (fun h1 => Wp.ret ?_)
        · rw [w64 (x := (i : Int) + 1) (by omega) (by omega)]
          refine ih (i + 1) (by omega) fun j hj => ?_
          by_cases e : j = i
          · rw [e]; exact h1
          · exact h j (by omega)
        · exact (decide_eq_false fun e => h1 (by rw [e])).symm
    exact key a.length 0 (by omega) (fun j hj => by omega)
  · exact (decide_eq_false fun e => he (by rw [e])).symm
end Go.Proofs.Ytnamhlcdlbjcfaa.P

/- Images row by row: how long they are, and what stands where. Plain lemmas, for every input; the conditions are bounds. -/
namespace Go.Proofs.Ytnamhlcdlbjcfaa.P
open Go.RowKit Go.Proofs.YtnamhlcdlbjcfaaW.PrintWords Go.Proofs.YtnamhlcdlbjcfaaW.PrintLast Go.Proofs.YtnamhlcdlbjcfaaW.PrintMore Go.Proofs.Ytnamhlcdlbjcfaa.Wp
set_option linter.unusedVariables false
set_option linter.unusedSimpArgs false

theorem fm_len (h : Nat → List Int) (n p : Nat) (hf : ∀ i, i < n → (h i).length = p) : ((List.range n).flatMap h).length = n * p := by
  induction n with
  | zero => simp
  | succ n ih =>
    rw [List.range_succ, List.flatMap_append, List.length_append, ih fun i hi => hf i (by omega), Nat.succ_mul]
    simp [hf n (by omega)]
theorem fm_get (h : Nat → List Int) (n p j q : Nat) (hf : ∀ i, i < n → (h i).length = p) (hj : j < n) (hq : q < p) : ((List.range n).flatMap h).getD (j * p + q) 0 = (h j).getD q 0 := by
  induction n with
  | zero => omega
  | succ n ih =>
    have hlen := fm_len h n p fun i hi => hf i (by omega)
    rw [List.range_succ, List.flatMap_append, List.getD_eq_getElem?_getD]
    by_cases hjn : j < n
    · have : j * p + q < n * p := by
        have : (j + 1) * p ≤ n * p := Nat.mul_le_mul_right p (by omega)
        rw [Nat.succ_mul] at this
        omega
      rw [List.getElem?_append_left (by omega), ← List.getD_eq_getElem?_getD]
      exact ih (fun i hi => hf i (by omega)) hjn
    · have : j = n := by omega
      subst this
      rw [List.getElem?_append_right (by omega), hlen, show j * p + q - j * p = q by omega]
      simp [List.getD_eq_getElem?_getD]
theorem img_fm (f : Int → Int → List Int) (h : Nat → List Int) (n m : Nat) (hh : ∀ i j, j < n → i < m → f (j : Int) (i : Int) = h (i * n + j)) : imgOf f n m = (List.range (m * n)).flatMap h := by
  induction m with
  | zero => simp [imgOf]
  | succ m ih =>
    rw [imgOf_succ, ih fun i j hj hi => hh i j hj (by omega), Nat.succ_mul, List.range_add, List.flatMap_append]
    congr 1
    unfold imgRow
    rw [List.flatMap_map]
    have : ∀ (a : List Nat), (∀ x ∈ a, x < n) → a.flatMap (fun j : Nat => f (j : Int) (m : Int)) = a.flatMap (fun x => h (m * n + x)) := by
      intro a
      induction a with
      | nil => intro _; rfl
      | cons x a iha =>
        intro hx
        rw [List.flatMap_cons, List.flatMap_cons, iha fun y hy => hx y (List.mem_cons_of_mem _ hy), hh m x (hx x (List.mem_cons_self ..)) (by omega)]
    exact this _ fun x hx => List.mem_range.1 hx
theorem img_len (f : Int → Int → List Int) (n m p : Nat) (hf : ∀ i j : Nat, j < n → i < m → (f j i).length = p) : (imgOf f n m).length = m * n * p := by
  induction m with
  | zero => simp [imgOf]
  | succ m ih =>
    rw [imgOf_succ, List.length_append, ih fun i j hj hi => hf i j hj (by omega)]
    unfold imgRow
    rw [fm_len _ n p fun j hj => hf m j hj (by omega), Nat.succ_mul, Nat.add_mul]
theorem img_get (f : Int → Int → List Int) (n m p i j q : Nat) (hf : ∀ i j : Nat, j < n → i < m → (f j i).length = p) (hj : j < n) (hi : i < m) (hq : q < p) :
    (imgOf f n m).getD ((i * n + j) * p + q) 0 = (f j i).getD q 0 := by
  have e : imgOf f n m = (List.range m).flatMap fun i : Nat => imgRow f i n := rfl
  have hr : ∀ i : Nat, i < m → (imgRow f i n).length = n * p := fun i hi => by
    unfold imgRow
    exact fm_len _ n p fun j hj => hf i j hj hi
  have hb : j * p + q < n * p := by
    have : (j + 1) * p ≤ n * p := Nat.mul_le_mul_right p (by omega)
    rw [Nat.succ_mul] at this
    omega
  rw [e, show (i * n + j) * p + q = i * (n * p) + (j * p + q) by rw [Nat.add_mul, Nat.mul_assoc]; omega, fm_get _ m (n * p) i _ hr hi hb]
  unfold imgRow
  exact fm_get _ n p j q (fun j hj => hf i j hj hi) hj hq
theorem img_ext (f : Int → Int → List Int) (n m p : Nat) (x : List Int) (hf : ∀ i j : Nat, j < n → i < m → (f j i).length = p) (hx : x.length = m * n * p)
    (h : ∀ i j q : Nat, i < m → j < n → q < p → x.getD ((i * n + j) * p + q) 0 = (f j i).getD q 0) : x = imgOf f n m := by
  refine bl_ext (by rw [hx, img_len f n m p hf]) fun t ht => ?_
  rw [img_len f n m p hf] at ht
  have hp : 0 < p := by rcases Nat.eq_zero_or_pos p with h | h; (· subst h; omega); exact h
  have ht2 : t / p < m * n := Nat.div_lt_of_lt_mul (by rw [Nat.mul_comm]; exact ht)
  have hn : 0 < n := by rcases Nat.eq_zero_or_pos n with h | h; (· subst h; omega); exact h
  have hi : t / p / n < m := Nat.div_lt_of_lt_mul (by rw [Nat.mul_comm]; exact ht2)
  have hj : t / p % n < n := Nat.mod_lt _ hn
  have hq : t % p < p := Nat.mod_lt _ hp
  have e1 : t / p / n * n + t / p % n = t / p := by rw [Nat.mul_comm]; exact Nat.div_add_mod _ _
  have e2 : t / p * p + t % p = t := by rw [Nat.mul_comm]; exact Nat.div_add_mod _ _
  have h1 := h _ _ _ hi hj hq
  have h2 := img_get f n m p _ _ _ hf hj hi hq
  rw [e1, e2] at h1 h2
  rw [h1, h2]
theorem rd_cut (l : List Int) (a b i : Int) (ha : 0 ≤ a) (hi : 0 ≤ i) (hb : a + i < b) : rd ((l.take b.toNat).drop a.toNat) i = rd l (a + i) := by
  unfold rd
  rw [List.getD_eq_getElem?_getD, List.getD_eq_getElem?_getD, List.getElem?_drop, List.getElem?_take, if_pos (by omega)]
  congr 2
  omega
theorem rd_nat (l : List Int) (i : Int) : rd l i = l.getD i.toNat 0 := rfl
theorem rd_B {l : List Int} (h : ∀ x ∈ l, 0 ≤ x ∧ x ≤ 255) (i : Int) (h0 : 0 ≤ i) (h1 : i < (l.length : Int)) : 0 ≤ rd l i ∧ rd l i ≤ 255 := by
  refine h _ ?_
  unfold rd
  rw [List.getD_eq_getElem?_getD, List.getElem?_eq_getElem (by omega)]
  exact List.getElem_mem _
/-- An image as the reference looks at it. -/
def imgB (a b c : Int) (l : List Int) : Bool := decide ((1 ≤ a ∧ a ≤ 16) ∧ (1 ≤ b ∧ b ≤ 16) ∧ (1 ≤ c ∧ c ≤ 4)) && decide ((l.length : Int) = a * b * c) && allB l
theorem imgB_ok {a b c : Int} {l : List Int} : imgB a b c l = true ↔ ImgOk a b c l := by
  unfold imgB ImgOk
  rw [Bool.and_eq_true, Bool.and_eq_true, decide_eq_true_eq, decide_eq_true_eq]
  constructor
  · rintro ⟨⟨h1, h2⟩, h3⟩
    exact ⟨h1.1, h1.2.1, h1.2.2, h2, allB_mem h3⟩
  · rintro ⟨h1, h2, h3, h4, h5⟩
    exact ⟨⟨⟨h1, h2, h3⟩, h4⟩, allB_of h5⟩
theorem w_iImage (a b c : Int) (l : List Int) : Wp (fun _ => impl_isImage.f a b c l) (fun r => r = imgB a b c l) := by
  obtain ⟨r, hr, hi⟩ := isImage_some a b c l
  refine Wp.of (fun _ => hr) ?_
  rw [Bool.eq_iff_iff, hi, imgB_ok]
theorem w_sImage (a b c : Int) (l : List Int) (hl : l.length ≤ 1000000000) : Wp (fun k => spec_validImage.f k a b c l) (fun r => r = imgB a b c l) := by
  unfold spec_validImage.f spec_validShape.f imgB
  refine Wp.call (Q := fun r => r = decide ((1 ≤ a ∧ a ≤ 16) ∧ (1 ≤ b ∧ b ≤ 16) ∧ (1 ≤ c ∧ c ≤ 4))) ?_ ?_
  · refine Wp.call (w_inRange0 _ _ _) ?_
    rintro _ rfl
    refine Wp.ite (fun h => ?_) (fun h => Wp.ret ?_)
    · refine Wp.call (w_inRange0 _ _ _) ?_
      rintro _ rfl
      refine Wp.ite (fun h2 => ?_) (fun h2 => Wp.ret ?_)
      · refine Wp.call (w_inRange0 _ _ _) ?_
        rintro _ rfl
        refine Wp.ret ?_
        rw [decide_eq_true_eq] at h h2
        rw [Bool.eq_iff_iff, decide_eq_true_eq, decide_eq_true_eq]
        exact ⟨fun h3 => ⟨h, h2, h3⟩, fun h3 => h3.2.2⟩
      · rw [decide_eq_true_eq] at h2
        exact (decide_eq_false fun h3 => h2 h3.2.1).symm
    · rw [decide_eq_true_eq] at h
      exact (decide_eq_false fun h3 => h h3.1).symm
  · rintro _ rfl
    refine Wp.ite (fun h => ?_) (fun h => Wp.ret ?_)
    · rw [h, Bool.true_and]
      rw [decide_eq_true_eq] at h
      obtain ⟨h0, h1, h2⟩ := h
      have hB := img_bounds h0 h1 h2
      rw [w64 (x := a * b) (by omega) (by omega), w64 (x := a * b * c) (by omega) (by omega)]
      refine Wp.ite (fun h3 => ?_) (fun h3 => Wp.ret ?_)
      · rw [decide_eq_true h3, Bool.true_and]
        refine Wp.call (w_allB l hl) ?_
        rintro _ rfl
        exact Wp.ret rfl
      · rw [decide_eq_false h3]; rfl
    · rw [Bool.not_eq_true] at h
      rw [h]; rfl
theorem w_newImage (a b c : Int) (h0 : 0 ≤ a ∧ a ≤ 1000) (h1 : 0 ≤ b ∧ b ≤ 1000) (h2 : 0 ≤ c ∧ c ≤ 1000) : Wp (fun _ => spec_newImage.f a b c) (fun r => r = (a, b, c, List.replicate (a * b * c).toNat 0)) := by
  have m1 : 0 ≤ a * b := Int.mul_nonneg h0.1 h1.1
  have m2 : a * b ≤ 1000 * 1000 := Int.mul_le_mul h0.2 h1.2 h1.1 (by omega)
  have m3 : 0 ≤ a * b * c := Int.mul_nonneg m1 h2.1
  have m4 : a * b * c ≤ 1000000 * 1000 := Int.mul_le_mul m2 h2.2 h2.1 (by omega)
  unfold spec_newImage.f
  rw [w64 (x := a * b) (by omega) (by omega), w64 (x := a * b * c) (by omega) (by omega)]
  exact Wp.pos m3 (Wp.pos (by omega) (Wp.ret rfl))
end Go.Proofs.Ytnamhlcdlbjcfaa.P

/- Copies of lists. Plain lemma under a bound. -/
namespace Go.Proofs.Ytnamhlcdlbjcfaa.P
open Go.RowKit Go.Proofs.YtnamhlcdlbjcfaaW.PrintWords Go.Proofs.YtnamhlcdlbjcfaaW.PrintLast Go.Proofs.YtnamhlcdlbjcfaaW.PrintMore Go.Proofs.Ytnamhlcdlbjcfaa.Wp
set_option linter.unusedVariables false
set_option linter.unusedSimpArgs false

theorem w_copyInts (l : List Int) (hl : l.length ≤ 1000000000) : Wp (fun _ => spec_copyInts.f l) (fun r => r = l) := by
  unfold spec_copyInts.f
  exact Wp.pos (by simp; omega) (Wp.ret (by simp))
end Go.Proofs.Ytnamhlcdlbjcfaa.P

/- Pixels that are read and set, one after the other. Plain lemmas under bounds. -/
namespace Go.Proofs.Ytnamhlcdlbjcfaa.P
open Go.RowKit Go.Proofs.YtnamhlcdlbjcfaaW.PrintWords Go.Proofs.YtnamhlcdlbjcfaaW.PrintLast Go.Proofs.YtnamhlcdlbjcfaaW.PrintMore Go.Proofs.Ytnamhlcdlbjcfaa.Wp
set_option linter.unusedVariables false
set_option linter.unusedSimpArgs false

theorem w_pixelAt (n m p : Int) (l : List Int) (x y : Int) (hn : 0 ≤ n ∧ n ≤ 16) (hp : 0 ≤ p ∧ p ≤ 4) (hx : 0 ≤ x ∧ x ≤ 1000) (hy : 0 ≤ y ∧ y ≤ 1000) (hl : (y * n + x) * p + p ≤ (l.length : Int)) :
    Wp (fun _ => spec_pixelAt.f n m p l x y) (fun r => r = pixOf l n p x y) := by
  have m1 : 0 ≤ y * n := Int.mul_nonneg hy.1 hn.1
  have m2 : y * n ≤ 1000 * 16 := Int.mul_le_mul hy.2 hn.2 hn.1 (by omega)
  have m3 : 0 ≤ (y * n + x) * p := Int.mul_nonneg (by omega) hp.1
  have m4 : (y * n + x) * p ≤ 17000 * 4 := Int.mul_le_mul (by omega) hp.2 hp.1 (by omega)
  unfold spec_pixelAt.f
  rw [w64 (x := y * n) (by omega) (by omega), w64 (x := y * n + x) (by omega) (by omega), w64 (x := (y * n + x) * p) (by omega) (by omega), w64 (x := (y * n + x) * p + p) (by omega) (by omega)]
  refine Wp.pos m3 (Wp.pos (by omega) (Wp.pos hl ?_))
  have h := w_copyInts (pixOf l n p x y) (Nat.le_trans (pixOf_len l n p x y hp.1 hp.2) (by omega))
  unfold pixOf at h ⊢
  refine Wp.call h ?_
  rintro _ rfl
  exact Wp.ret rfl
theorem pix_before (n p i j i' j' q : Nat) (hj' : j' < n) (hq : q < p) (h : i' < i ∨ (i' = i ∧ j' < j)) : (i' * n + j') * p + q < (i * n + j) * p := by
  have h1 : i' * n + j' + 1 ≤ i * n + j := by
    rcases h with h | ⟨rfl, h⟩
    · have : (i' + 1) * n ≤ i * n := Nat.mul_le_mul_right n h
      rw [Nat.succ_mul] at this
      omega
    · omega
  have h2 : (i' * n + j' + 1) * p ≤ (i * n + j) * p := Nat.mul_le_mul_right p h1
  rw [Nat.succ_mul] at h2
  omega
/-- A pixel is set: what stands where, after it. -/
theorem w_setPixel (n m p i j : Nat) (l px : List Int) (hn : n ≤ 1000) (hp : p ≤ 1000) (hj : j < n) (hi : i < m) (hm : m ≤ 1000) (hl : l.length = m * n * p) (hpx : p ≤ px.length) :
    Wp (fun k => spec_setPixel.f k n m p l j i px) (fun r => r.length = l.length ∧ (∀ q, q < p → r.getD ((i * n + j) * p + q) 0 = px.getD q 0) ∧ ∀ t, t < (i * n + j) * p → r.getD t 0 = l.getD t 0) := by
  have b1 : i * n + j + 1 ≤ m * n := by
    have : (i + 1) * n ≤ m * n := Nat.mul_le_mul_right n hi
    rw [Nat.succ_mul] at this
    omega
  have b2 : (i * n + j) * p + p ≤ m * n * p := by
    have : (i * n + j + 1) * p ≤ m * n * p := Nat.mul_le_mul_right p b1
    rw [Nat.succ_mul] at this
    omega
  have b3 : i * n ≤ 1000 * 1000 := Nat.mul_le_mul (by omega) hn
  have b4 : (i * n + j) * p ≤ 1001000 * 1000 := Nat.mul_le_mul (by omega) hp
  have c1 : ((i : Int) * n) = ((i * n : Nat) : Int) := by rw [Int.natCast_mul]
  have c2 : (((i * n : Nat) : Int) + j) * p = (((i * n + j) * p : Nat) : Int) := by rw [Int.natCast_mul (i * n + j) p, Int.natCast_add]
  unfold spec_setPixel.f
  generalize hA : (i * n + j) * p = A at *
  have key : ∀ (d q : Nat) (x : List Int), q + d = p → x.length = l.length → (∀ q', q' < q → x.getD (A + q') 0 = px.getD q' 0) → (∀ t, t < A → x.getD t 0 = l.getD t 0) →
      Wp (fun k => spec_setPixel.l0 k j i px q n m p x) (fun r => r.length = l.length ∧ (∀ q, q < p → r.getD (A + q) 0 = px.getD q 0) ∧ ∀ t, t < A → r.getD t 0 = l.getD t 0) := by
    intro d
    induction d with
    | zero =>
      intro q x hd hx h1 h2
      refine Wp.step (fun k => spec_setPixel.l0.eq_2 ..) (Wp.neg (by omega) (Wp.ret ⟨hx, fun q hq => h1 q (by omega), h2⟩))
    | succ d ih =>
      intro q x hd hx h1 h2
      refine Wp.step (fun k => spec_setPixel.l0.eq_2 ..) (Wp.pos (by omega) (Wp.pos (by omega) (Wp.pos (by omega) ?_)))
      rw [c1, w64 (x := ((i * n : Nat) : Int)) (by omega) (by omega), w64 (x := ((i * n : Nat) : Int) + j) (by omega) (by omega), c2, w64 (x := (A : Int)) (by omega) (by omega),
        w64 (x := (A : Int) + q) (by omega) (by omega), w64 (x := (q : Int) + 1) (by omega) (by omega), bl_rd, show ((A : Int) + q).toNat = A + q by omega]
      refine Wp.pos (by omega) (Wp.pos (by omega) ?_)
      refine ih (q + 1) _ (by omega) (by rw [List.length_set]; exact hx) (fun q' hq => ?_) (fun t ht => ?_)
      · rw [bl_set _ _ (by omega)]
        split
        · rename_i e; rw [show q' = q by omega]
        · exact h1 q' (by omega)
      · rw [bl_set _ _ (by omega), if_neg (by omega)]
        exact h2 t ht
  exact key p 0 l (by omega) rfl (fun q hq => by omega) (fun t ht => rfl)
/-- The pixels that are set, up to the j-th one of row i. -/
def Painted (f : Int → Int → List Int) (n m p : Nat) (x : List Int) (i j : Nat) : Prop :=
  x.length = m * n * p ∧ ∀ i' j' q, (i' < i ∨ (i' = i ∧ j' < j)) → j' < n → i' < m → q < p → x.getD ((i' * n + j') * p + q) 0 = (f j' i').getD q 0
theorem Painted.start (f : Int → Int → List Int) (n m p : Nat) (x : List Int) (h : x.length = m * n * p) : Painted f n m p x 0 0 := ⟨h, fun i' j' q h1 => by omega⟩
theorem Painted.row {f : Int → Int → List Int} {n m p : Nat} {x : List Int} {i : Nat} (h : Painted f n m p x i n) : Painted f n m p x (i + 1) 0 :=
  ⟨h.1, fun i' j' q h1 h2 h3 h4 => h.2 i' j' q (by omega) h2 h3 h4⟩
theorem Painted.put {f : Int → Int → List Int} {n m p : Nat} {x y : List Int} {i j : Nat} (h : Painted f n m p x i j) (h0 : y.length = x.length) (h1 : ∀ q, q < p → y.getD ((i * n + j) * p + q) 0 = (f j i).getD q 0)
    (h2 : ∀ t, t < (i * n + j) * p → y.getD t 0 = x.getD t 0) : Painted f n m p y i (j + 1) := by
  refine ⟨h0.trans h.1, fun i' j' q h3 h4 h5 h6 => ?_⟩
  by_cases e : i' < i ∨ (i' = i ∧ j' < j)
  · rw [h2 _ (pix_before n p i j i' j' q h4 h6 e)]
    exact h.2 i' j' q e h4 h5 h6
  · have : i' = i ∧ j' = j := by omega
    rw [this.1, this.2]
    exact h1 q h6
theorem Painted.all {f : Int → Int → List Int} {n m p : Nat} {x : List Int} (h : Painted f n m p x m 0) (hf : ∀ i j : Nat, j < n → i < m → (f j i).length = p) : x = imgOf f n m :=
  img_ext f n m p x hf h.1 fun i j q h1 h2 h3 => h.2 i j q (by omega) h2 h1 h3
/-- One more pixel. -/
theorem w_paint (f : Int → Int → List Int) (n m p i j : Nat) (x : List Int) (hn : n ≤ 1000) (hp : p ≤ 1000) (hj : j < n) (hi : i < m) (hm : m ≤ 1000) (h : Painted f n m p x i j) (hpx : (f j i).length = p) :
    Wp (fun k => spec_setPixel.f k n m p x j i (f j i)) (fun r => Painted f n m p r i (j + 1)) := by
  refine (w_setPixel n m p i j x (f j i) hn hp hj hi hm h.1 (by omega)).mono ?_
  rintro r ⟨h0, h1, h2⟩
  exact h.put h0 h1 h2
end Go.Proofs.Ytnamhlcdlbjcfaa.P

/- The shape of an image. Plain lemma. -/
namespace Go.Proofs.Ytnamhlcdlbjcfaa.P
open Go.RowKit Go.Proofs.YtnamhlcdlbjcfaaW.PrintWords Go.Proofs.YtnamhlcdlbjcfaaW.PrintLast Go.Proofs.YtnamhlcdlbjcfaaW.PrintMore Go.Proofs.Ytnamhlcdlbjcfaa.Wp
set_option linter.unusedVariables false
set_option linter.unusedSimpArgs false

theorem w_validShape (a b c : Int) : Wp (fun _ => spec_validShape.f a b c) (fun r => r = decide ((1 ≤ a ∧ a ≤ 16) ∧ (1 ≤ b ∧ b ≤ 16) ∧ (1 ≤ c ∧ c ≤ 4))) := by
  unfold spec_validShape.f
  refine Wp.call (w_inRange0 _ _ _) ?_
  rintro _ rfl
  refine Wp.ite (fun h => ?_) (fun h => Wp.ret ?_)
  · refine Wp.call (w_inRange0 _ _ _) ?_
    rintro _ rfl
    refine Wp.ite (fun h2 => ?_) (fun h2 => Wp.ret ?_)
    · refine Wp.call (w_inRange0 _ _ _) ?_
      rintro _ rfl
      refine Wp.ret ?_
      rw [decide_eq_true_eq] at h h2
      rw [Bool.eq_iff_iff, decide_eq_true_eq, decide_eq_true_eq]
      exact ⟨fun h3 => ⟨h, h2, h3⟩, fun h3 => h3.2.2⟩
    · rw [decide_eq_true_eq] at h2
      exact (decide_eq_false fun h3 => h2 h3.2.1).symm
  · rw [decide_eq_true_eq] at h
    exact (decide_eq_false fun h3 => h h3.1).symm
end Go.Proofs.Ytnamhlcdlbjcfaa.P

/- Images scaled to the nearest pixel: both ways answer the same. Plain lemmas; the condition is a bound on the length. -/
namespace Go.Proofs.Ytnamhlcdlbjcfaa.P
open Go.RowKit Go.Proofs.YtnamhlcdlbjcfaaW.PrintWords Go.Proofs.YtnamhlcdlbjcfaaW.PrintLast Go.Proofs.YtnamhlcdlbjcfaaW.PrintMore Go.Proofs.Ytnamhlcdlbjcfaa.Wp
set_option linter.unusedVariables false
set_option linter.unusedSimpArgs false

/-- The scaled image. -/
def nearI (a b c : Int) (l : List Int) (n m : Int) : Int × Int × Int × List Int :=
  if imgB a b c l = true ∧ (1 ≤ n ∧ n ≤ 16) ∧ (1 ≤ m ∧ m ≤ 16) then (n, m, c, imgOf (fun x y => pixOf l a c (x * a / n) (y * b / m)) n.toNat m.toNat) else (0, 0, 0, [])
theorem near_len (a b c : Int) (l : List Int) (n m : Int) : (nearI a b c l n m).2.2.2.length ≤ 1000000 := by
  unfold nearI
  split
  · rename_i h
    obtain ⟨hi, hn, hm⟩ := h
    obtain ⟨h0, h1, h2, _⟩ := imgB_ok.1 hi
    have := imgOf_len (fun x y => pixOf l a c (x * a / n) (y * b / m)) n.toNat m.toNat 100 (fun i j _ _ => pixOf_len l a c _ _ (by omega) (by omega))
    have b1 : n.toNat * 100 ≤ 16 * 100 := Nat.mul_le_mul (by omega) (Nat.le_refl _)
    have b2 : m.toNat * (n.toNat * 100) ≤ 16 * 1600 := Nat.mul_le_mul (by omega) b1
    exact Nat.le_trans this (by omega)
  · simp
theorem w_iNear (a b c : Int) (l : List Int) (n m : Int) : Wp (fun _ => impl_ScaleNearest.f a b c l n m) (fun r => r = nearI a b c l n m) := by
  unfold impl_ScaleNearest.f nearI
  refine Wp.call (w_iImage a b c l) ?_
  rintro _ rfl
  refine Wp.ite (fun hi => ?_) (fun hi => Wp.ret (by rw [if_neg fun h => hi h.1]))
  rw [isSide_some, isSide_some]
  simp only [Option.bind_some, decide_eq_true_eq]
  refine Wp.ite (fun h1 => ?_) (fun h1 => Wp.ret (by rw [if_neg fun h => h1 h.2.1]))
  refine Wp.ite (fun h2 => ?_) (fun h2 => Wp.ret (by rw [if_neg fun h => h2 h.2.2]))
  rw [if_pos ⟨hi, h1, h2⟩]
  exact Wp.ret rfl
theorem w_sNear (a b c : Int) (l : List Int) (n m : Int) (hl : l.length ≤ 1000000000) : Wp (fun k => spec_ScaleNearest.f k a b c l n m) (fun r => r = nearI a b c l n m) := by
  unfold spec_ScaleNearest.f nearI
  refine Wp.call (w_sImage a b c l hl) ?_
  rintro _ rfl
  refine Wp.ite (fun hi => ?_) (fun hi => ?_)
  · refine Wp.call (w_validShape n m c) ?_
    rintro _ rfl
    refine Wp.step (fun k => spec_ScaleNearest.j0.eq_2 ..) ?_
    obtain ⟨h0, h1, h2, hlen, hB⟩ := imgB_ok.1 hi
    refine Wp.ite (fun hs => Wp.ret ?_) (fun hs => ?_)
    · rw [if_neg]
      rintro ⟨_, h3, h4⟩
      rw [decide_eq_true ⟨h3, h4, h2⟩] at hs
      exact absurd hs (by simp)
    · have hs : (1 ≤ n ∧ n ≤ 16) ∧ (1 ≤ m ∧ m ≤ 16) ∧ (1 ≤ c ∧ c ≤ 4) := Decidable.byContradiction fun h => hs (by rw [decide_eq_false h]; rfl)
      obtain ⟨hn, hm, _⟩ := hs
      rw [if_pos ⟨hi, hn, hm⟩]
      refine Wp.call (w_newImage n m c (by omega) (by omega) (by omega)) ?_
      rintro _ rfl
      dsimp only
      obtain ⟨n, rfl⟩ := Int.eq_ofNat_of_zero_le (show 0 ≤ n by omega)
      obtain ⟨m, rfl⟩ := Int.eq_ofNat_of_zero_le (show 0 ≤ m by omega)
      obtain ⟨p, rfl⟩ := Int.eq_ofNat_of_zero_le (show 0 ≤ c by omega)
      simp only [Int.toNat_natCast]
      generalize hf : (fun x y => pixOf l a p (x * a / n) (y * b / m)) = f
      have hfd : ∀ x y : Int, f x y = pixOf l a p (x * a / n) (y * b / m) := fun x y => by rw [← hf]
      have hfit : ∀ i j : Nat, j < n → i < m → ((((i : Int) * b / m) * a + (j : Int) * a / n) * p + p ≤ (l.length : Int)) := fun i j hj hi => by
        have s1 := scaled (x := (j : Int)) (a := a) (n := n) (by omega) (by omega) (by omega) (by omega) (by omega)
        have s2 := scaled (x := (i : Int)) (a := b) (n := m) (by omega) (by omega) (by omega) (by omega) (by omega)
        rw [hlen]
        exact pix_fits (by omega) (by omega) (s1.2.2.2.1 (by omega)) s2.2.2.1 (s2.2.2.2.1 (by omega))
      have hfl : ∀ i j : Nat, j < n → i < m → (f j i).length = p := fun i j hj hi => by
        have s1 := scaled (x := (j : Int)) (a := a) (n := n) (by omega) (by omega) (by omega) (by omega) (by omega)
        have s2 := scaled (x := (i : Int)) (a := b) (n := m) (by omega) (by omega) (by omega) (by omega) (by omega)
        rw [hfd]
        have q0 : 0 ≤ ((i : Int) * b / m) * a := Int.mul_nonneg s2.2.2.1 (by omega)
        have := pixOf_length (l := l) (n := a) (p := p) (x := (j : Int) * a / n) (y := (i : Int) * b / m) (Int.mul_nonneg (by omega) (by omega)) (by omega) (hfit i j hj hi)
        omega
      have row : ∀ (i : Nat), i < m → (∀ x, Painted f n m p x (i + 1) 0 → Wp (fun k => spec_ScaleNearest.l0 k n m ((i + 1 : Nat) : Int) a b p l n m p x) (fun r => r = (↑n, ↑m, ↑p, imgOf f n m))) → ∀ (d j : Nat) (x : List Int), j + d = n → Painted f n m p x i j →
          Wp (fun k => spec_ScaleNearest.l1 k n m i j a b p l n m p x) (fun r => r = (↑n, ↑m, ↑p, imgOf f n m)) := by
        intro i hi next d
        induction d with
        | zero =>
          intro j x hd hx
          refine Wp.step (fun k => spec_ScaleNearest.l1.eq_2 ..) (Wp.neg (by omega) ?_)
          rw [w64 (x := (i : Int) + 1) (by omega) (by omega)]
          have : j = n := by omega
          subst this
          exact next x hx.row
        | succ d ih =>
          intro j x hd hx
          have s1 := scaled (x := (j : Int)) (a := a) (n := n) (by omega) (by omega) (by omega) (by omega) (by omega)
          have s2 := scaled (x := (i : Int)) (a := b) (n := m) (by omega) (by omega) (by omega) (by omega) (by omega)
          refine Wp.step (fun k => spec_ScaleNearest.l1.eq_2 ..) (Wp.pos (by omega) (Wp.neg (by omega) (Wp.neg (by omega) ?_)))
          rw [w64 (x := (j : Int) * a) (by omega) (by omega), w64 (x := (i : Int) * b) (by omega) (by omega), Int.tdiv_eq_ediv_of_nonneg s1.1, Int.tdiv_eq_ediv_of_nonneg s2.1, w64 (x := (j : Int) * a / n) (by omega) (by omega), w64 (x := (i : Int) * b / m) (by omega) (by omega)]
          refine Wp.call (w_pixelAt a b p l _ _ (by omega) (by omega) (by omega) (by omega) (hfit i j (by omega) hi)) ?_
          rintro _ rfl
          rw [← hfd, w64 (x := (j : Int) + 1) (by omega) (by omega)]
          refine Wp.call (w_paint f n m p i j x (by omega) (by omega) (by omega) hi (by omega) hx (hfl i j (by omega) hi)) ?_
          intro y hy
          exact ih (j + 1) y (by omega) hy
      have key : ∀ (d i : Nat) (x : List Int), i + d = m → Painted f n m p x i 0 → Wp (fun k => spec_ScaleNearest.l0 k n m i a b p l n m p x) (fun r => r = (↑n, ↑m, ↑p, imgOf f n m)) := by
        intro d
        induction d with
        | zero =>
          intro i x hd hx
          refine Wp.step (fun k => spec_ScaleNearest.l0.eq_2 ..) (Wp.neg (by omega) (Wp.ret ?_))
          have : i = m := by omega
          subst this
          rw [hx.all hfl]
        | succ d ih =>
          intro i x hd hx
          refine Wp.step (fun k => spec_ScaleNearest.l0.eq_2 ..) (Wp.pos (by omega) ?_)
          exact row i (by omega) (fun y hy => ih (i + 1) y (by omega) hy) n 0 x (by omega) hx
      refine key m 0 _ (by omega) (Painted.start f n m p _ ?_)
      rw [List.length_replicate, ← Int.natCast_mul, ← Int.natCast_mul, Int.toNat_natCast, Nat.mul_comm n m]
  · refine Wp.step (fun k => spec_ScaleNearest.j0.eq_2 ..) (Wp.pos rfl (Wp.ret ?_))
    rw [if_neg fun h => hi h.1]
end Go.Proofs.Ytnamhlcdlbjcfaa.P

/- Pixels of images that are made pixel by pixel. Plain lemmas. -/
namespace Go.Proofs.Ytnamhlcdlbjcfaa.P
open Go.RowKit Go.Proofs.YtnamhlcdlbjcfaaW.PrintWords Go.Proofs.YtnamhlcdlbjcfaaW.PrintLast Go.Proofs.YtnamhlcdlbjcfaaW.PrintMore Go.Proofs.Ytnamhlcdlbjcfaa.Wp
set_option linter.unusedVariables false
set_option linter.unusedSimpArgs false

theorem pix_get {l : List Int} {n p x y : Int} (q : Nat) (h0 : 0 ≤ (y * n + x) * p) (hq : (q : Int) < p) : (pixOf l n p x y).getD q 0 = rd l ((y * n + x) * p + q) := by
  unfold pixOf
  have := rd_cut l ((y * n + x) * p) ((y * n + x) * p + p) q h0 (by omega) (by omega)
  rw [← this, bl_rd]
/-- A pixel of an image that is made pixel by pixel. -/
theorem pix_img (f : Int → Int → List Int) (n m p : Nat) (hf : ∀ i j : Nat, j < n → i < m → (f j i).length = p) (i j : Nat) (hj : j < n) (hi : i < m) : pixOf (imgOf f n m) n p j i = f j i := by
  have hl := img_len f n m p hf
  have e : ((i : Int) * n + j) * p = (((i * n + j) * p : Nat) : Int) := by rw [Int.natCast_mul (i * n + j) p, Int.natCast_add, Int.natCast_mul]
  have hb : (i * n + j) * p + p ≤ m * n * p := by
    have h1 : i * n + j + 1 ≤ m * n := by
      have : (i + 1) * n ≤ m * n := Nat.mul_le_mul_right n hi
      rw [Nat.succ_mul] at this
      omega
    have : (i * n + j + 1) * p ≤ m * n * p := Nat.mul_le_mul_right p h1
    rw [Nat.succ_mul] at this
    omega
  have hlen := pixOf_length (l := imgOf f n m) (n := n) (p := p) (x := j) (y := i) (by rw [e]; omega) (by omega) (by rw [e]; omega)
  have hfl := hf i j hj hi
  refine bl_ext (by omega) fun q hq => ?_
  rw [pix_get q (by rw [e]; omega) (by omega), e, ← Int.natCast_add, bl_rd]
  exact img_get f n m p i j q hf hj hi (by omega)
theorem img_mem (f : Int → Int → List Int) (n m : Nat) (P : Int → Prop) (h : ∀ i j : Nat, j < n → i < m → ∀ v ∈ f j i, P v) : ∀ v ∈ imgOf f n m, P v := by
  intro v hv
  unfold imgOf imgRow at hv
  obtain ⟨i, hi, hv⟩ := List.mem_flatMap.1 hv
  obtain ⟨j, hj, hv⟩ := List.mem_flatMap.1 hv
  exact h i j (List.mem_range.1 hj) (List.mem_range.1 hi) v hv
/-- An image that is made pixel by pixel is one. -/
theorem img_ok (f : Int → Int → List Int) (n m p : Nat) (hn : 1 ≤ n ∧ n ≤ 16) (hm : 1 ≤ m ∧ m ≤ 16) (hp : 1 ≤ p ∧ p ≤ 4) (hf : ∀ i j : Nat, j < n → i < m → (f j i).length = p) (hb : ∀ i j : Nat, j < n → i < m → ∀ v ∈ f j i, 0 ≤ v ∧ v ≤ 255) :
    imgB n m p (imgOf f n m) = true := imgB_ok.2 ⟨by omega, by omega, by omega, by rw [img_len f n m p hf, Int.natCast_mul, Int.natCast_mul, Int.mul_comm (m : Int)], img_mem f n m _ hb⟩
/-- Two images that are made pixel by pixel. -/
theorem img_congr (f g : Int → Int → List Int) (n m : Nat) (h : ∀ i j : Nat, j < n → i < m → f j i = g j i) : imgOf f n m = imgOf g n m := by
  induction m with
  | zero => rfl
  | succ m ih =>
    rw [imgOf_succ, imgOf_succ, ih fun i j hj hi => h i j hj (by omega)]
    congr 1
    have hm : ∀ j : Nat, j < n → f j m = g j m := fun j hj => h m j hj (by omega)
    clear ih h
    induction n with
    | zero => rfl
    | succ n ih => rw [imgRow_succ, imgRow_succ, ih fun j hj => hm j (by omega), hm n (by omega)]
/-- An image, pixel by pixel. -/
theorem img_self (l : List Int) (n m p : Nat) (hl : l.length = m * n * p) : imgOf (fun x y => pixOf l n p x y) n m = l := by
  have hlen : ∀ i j : Nat, j < n → i < m → (pixOf l n p j i).length = p ∧ ((i : Int) * n + j) * p = (((i * n + j) * p : Nat) : Int) := fun i j hj hi => by
    have e : ((i : Int) * n + j) * p = (((i * n + j) * p : Nat) : Int) := by rw [Int.natCast_mul (i * n + j) p, Int.natCast_add, Int.natCast_mul]
    have hb : (i * n + j) * p + p ≤ m * n * p := by
      have h1 : i * n + j + 1 ≤ m * n := by
        have : (i + 1) * n ≤ m * n := Nat.mul_le_mul_right n hi
        rw [Nat.succ_mul] at this
        omega
      have : (i * n + j + 1) * p ≤ m * n * p := Nat.mul_le_mul_right p h1
      rw [Nat.succ_mul] at this
      omega
    have := pixOf_length (l := l) (n := n) (p := p) (x := j) (y := i) (by rw [e]; omega) (by omega) (by rw [e]; omega)
    exact ⟨by omega, e⟩
  refine (img_ext _ n m p l (fun i j hj hi => (hlen i j hj hi).1) hl fun i j q hi hj hq => ?_).symm
  have e := (hlen i j hj hi).2
  rw [pix_get q (by rw [e]; omega) (by omega), e, ← Int.natCast_add, bl_rd]
end Go.Proofs.Ytnamhlcdlbjcfaa.P

/- The reader of draws: what it yields lies in its range, and its place goes on by one. Plain lemmas; the conditions are the bytes' range and a bound on the place. -/
namespace Go.Proofs.Ytnamhlcdlbjcfaa.P
open Go.RowKit Go.Proofs.YtnamhlcdlbjcfaaW.PrintWords Go.Proofs.YtnamhlcdlbjcfaaW.PrintLast Go.Proofs.YtnamhlcdlbjcfaaW.PrintMore Go.Proofs.Ytnamhlcdlbjcfaa.Wp
set_option linter.unusedVariables false

theorem rd_mem (l : List Int) (i : Int) (h0 : 0 ≤ i) (h1 : i < (l.length : Int)) : rd l i ∈ l := by
  unfold rd
  rw [List.getD_eq_getElem?_getD, List.getElem?_eq_getElem (by omega)]
  exact List.getElem_mem _
theorem rd_le {l : List Int} {a b : Int} (h : ∀ x ∈ l, a ≤ x ∧ x ≤ b) (i : Int) (h0 : 0 ≤ i) (h1 : i < (l.length : Int)) : a ≤ rd l i ∧ rd l i ≤ b := h _ (rd_mem l i h0 h1)
/-- A reader: bytes, few of them, and its place. -/
def Rdr (b : List Int) (p : Int) : Prop := (∀ x ∈ b, 0 ≤ x ∧ x ≤ 255) ∧ b.length ≤ 2000 ∧ 0 ≤ p ∧ p ≤ 1000000
theorem tmod_range (x n : Int) (hx : 0 ≤ x) (hn : 0 < n) : 0 ≤ Int.tmod x n ∧ Int.tmod x n < n := by
  rw [Int.tmod_eq_emod_of_nonneg hx]
  exact ⟨Int.emod_nonneg _ (by omega), Int.emod_lt_of_pos _ hn⟩
theorem bits_xor_nonneg (x y : Int) (hx : 0 ≤ x) (hx2 : x ≤ 1000000000000) (hy : 0 ≤ y) (hy2 : y ≤ 1000000000000) : 0 ≤ Go.bits .xor .i64 x y := by
  obtain ⟨a, rfl⟩ := Int.eq_ofNat_of_zero_le hx
  obtain ⟨b, rfl⟩ := Int.eq_ofNat_of_zero_le hy
  have ha : a < 2 ^ 62 := by omega
  have hb : b < 2 ^ 62 := by omega
  have ha' : a % 2 ^ 64 = a := Nat.mod_eq_of_lt (by omega)
  have hb' : b % 2 ^ 64 = b := Nat.mod_eq_of_lt (by omega)
  have hc : a ^^^ b < 2 ^ 62 := Nat.xor_lt_two_pow ha hb
  have hw : IntKind.i64.wrap ((a ^^^ b : Nat) : Int) = ((a ^^^ b : Nat) : Int) := by
    have h64 : IntKind.i64.wrap ((a ^^^ b : Nat) : Int) = wrap64 ((a ^^^ b : Nat) : Int) := i64_w _
    rw [h64, w64 (by omega) (by omega)]
  have he : Go.bits .xor .i64 (a : Int) (b : Int) = ((a ^^^ b : Nat) : Int) := by
    have hbits : IntKind.i64.bits = 64 := rfl
    simp only [Go.bits, BitVec.ofInt_natCast, BitVec.toNat_xor, BitVec.toNat_ofNat, hbits, ha', hb', hw]
  rw [he]
  exact Int.natCast_nonneg _
theorem w_newReader (l : List Int) (hb : ∀ x ∈ l, (Lit.int .u8 x).wf = true) : Wp (fun _ => spec_newReader.f l) (fun r => Rdr r.1 r.2 ∧ r.2 = 0) := by
  have hb' : ∀ x ∈ l, 0 ≤ x ∧ x ≤ 255 := fun x hx => by
    have h := hb x hx
    simp only [Lit.wf, Bool.and_eq_true, decide_eq_true_eq] at h
    have h0 : IntKind.u8.min = 0 := rfl
    have h1 : IntKind.u8.max = 255 := rfl
    omega
  unfold spec_newReader.f
  refine Wp.ite (fun h => Wp.pos (by omega) (Wp.ret ?_)) (fun h => Wp.ret ?_)
  · exact ⟨⟨fun x hx => hb' x (List.mem_of_mem_take hx), by show (l.take 2000).length ≤ 2000; rw [List.length_take]; omega, Int.le_refl _, by show (0 : Int) ≤ 1000000; omega⟩, rfl⟩
  · exact ⟨⟨hb', by show l.length ≤ 2000; omega, Int.le_refl _, by show (0 : Int) ≤ 1000000; omega⟩, rfl⟩
theorem w_pick (b : List Int) (p n : Int) (h : Rdr b p) (hp : p < 1000000) (hn : n ≤ 1000000000000) :
    Wp (fun k => spec_reader_pick.f k b p n) (fun r => ∃ x, r = (x, p + 1) ∧ 0 ≤ x ∧ (1 ≤ n → x < n) ∧ (n < 1 → x = 0)) := by
  obtain ⟨hb, hl, h0, h1⟩ := h
  unfold spec_reader_pick.f
  rw [w64 (x := p + 1) (by omega) (by omega)]
  refine Wp.ite (fun hn1 => ?_) (fun hn1 => ?_)
  · refine Wp.step (fun k => spec_reader_pick.j0.eq_2 ..) (Wp.pos rfl (Wp.ret ?_))
    exact ⟨0, rfl, by omega, by omega, fun _ => rfl⟩
  · refine Wp.step (fun k => spec_reader_pick.j0.eq_2 ..) ?_
    rw [show p + 1 - 1 = p by omega, w64 (x := p) (by omega) (by omega)]
    refine Wp.ite (fun hz => Wp.ret ?_) (fun hz => ?_)
    · exact ⟨0, rfl, by omega, by omega, by omega⟩
    · have hpos : 0 < (b.length : Int) := by
        have : ¬ (b.length : Int) = 0 := by simpa using hz
        omega
      refine Wp.ite (fun hlt => ?_) (fun hge => ?_)
      · refine Wp.pos h0 (Wp.neg (by omega) (Wp.ret ?_))
        have hr := rd_le hb p h0 hlt
        rw [w64 (x := rd b p) (by omega) (by omega)]
        have := tmod_range (rd b p) n hr.1 (by omega)
        exact ⟨_, rfl, this.1, fun _ => this.2, by omega⟩
      · refine Wp.neg (by omega) ?_
        have t1 := tmod_range p b.length h0 hpos
        refine Wp.pos t1.1 (Wp.pos t1.2 ?_)
        rw [w64 (x := p * 7) (by omega) (by omega), w64 (x := p * 7 + 3) (by omega) (by omega)]
        have t2 := tmod_range (p * 7 + 3) b.length (by omega) hpos
        refine Wp.pos t2.1 (Wp.pos t2.2 (Wp.neg (by omega) (Wp.ret ?_)))
        have r1 := rd_le hb _ t1.1 t1.2
        have r2 := rd_le hb _ t2.1 t2.2
        generalize rd b (Int.tmod p b.length) = u at r1 ⊢
        generalize rd b (Int.tmod (p * 7 + 3) b.length) = v at r2 ⊢
        have hd : 0 ≤ Int.tdiv p b.length ∧ Int.tdiv p b.length ≤ p := by
          rw [Int.tdiv_eq_ediv_of_nonneg h0]
          exact ⟨Int.ediv_nonneg h0 (by omega), Int.ediv_le_self _ h0⟩
        generalize Int.tdiv p b.length = d at hd ⊢
        rw [w64 (x := u) (by omega) (by omega), w64 (x := u * 131) (by omega) (by omega), w64 (x := v) (by omega) (by omega), w64 (x := v * 1117) (by omega) (by omega),
          w64 (x := u * 131 + v * 1117) (by omega) (by omega), w64 (x := p * 29) (by omega) (by omega), w64 (x := u * 131 + v * 1117 + p * 29) (by omega) (by omega),
          w64 (x := d) (by omega) (by omega), w64 (x := d * 53) (by omega) (by omega), w64 (x := u * 131 + v * 1117 + p * 29 + d * 53) (by omega) (by omega)]
        have hs : 0 ≤ u * 131 + v * 1117 + p * 29 + d * 53 ∧ u * 131 + v * 1117 + p * 29 + d * 53 ≤ 1000000000 := by omega
        generalize u * 131 + v * 1117 + p * 29 + d * 53 = s at hs ⊢
        have hq : 0 ≤ Int.tdiv s 64 ∧ Int.tdiv s 64 ≤ s := by
          rw [Int.tdiv_eq_ediv_of_nonneg hs.1]
          exact ⟨Int.ediv_nonneg hs.1 (by omega), Int.ediv_le_self _ hs.1⟩
        rw [w64 (x := Int.tdiv s 64) (by omega) (by omega)]
        have hx := bits_xor_nonneg s (Int.tdiv s 64) hs.1 (by omega) hq.1 (by omega)
        have := tmod_range _ n hx (by omega)
        exact ⟨_, rfl, this.1, fun _ => this.2, by omega⟩
theorem Rdr.up {b : List Int} {p q : Int} (h : Rdr b p) (h1 : p ≤ q) (h2 : q ≤ 1000000) : Rdr b q := ⟨h.1, h.2.1, by have := h.2.2.1; omega, h2⟩
theorem w_one (b : List Int) (p : Int) (l : List Int) (h : Rdr b p) (hp : p < 1000000) (hl : 0 < l.length) (hl2 : l.length ≤ 1000) :
    Wp (fun k => spec_reader_one.f k b p l) (fun r => ∃ x, r = (x, p + 1) ∧ x ∈ l) := by
  unfold spec_reader_one.f
  refine Wp.call (w_pick b p l.length h hp (by omega)) ?_
  rintro _ ⟨x, rfl, h0, h1, _⟩
  have h1 := h1 (by omega)
  exact Wp.pos h0 (Wp.pos h1 (Wp.ret ⟨_, rfl, rd_mem l x h0 h1⟩))
end Go.Proofs.Ytnamhlcdlbjcfaa.P

/- Drawn images: their sides, their bytes, and how far the reader's place has come. Plain lemmas under bounds. -/
namespace Go.Proofs.Ytnamhlcdlbjcfaa.P
open Go.RowKit Go.Proofs.YtnamhlcdlbjcfaaW.PrintWords Go.Proofs.YtnamhlcdlbjcfaaW.PrintLast Go.Proofs.YtnamhlcdlbjcfaaW.PrintMore Go.Proofs.Ytnamhlcdlbjcfaa.Wp
set_option linter.unusedVariables false
set_option linter.unusedSimpArgs false

theorem m_B {x : Int} : (0 ≤ x ∧ x ≤ 255) ↔ (0 ≤ x ∧ x < 256) := by omega
theorem allB_set {l : List Int} (h : ∀ x ∈ l, 0 ≤ x ∧ x ≤ 255) (i : Nat) (v : Int) (hv : 0 ≤ v ∧ v ≤ 255) : ∀ x ∈ l.set i v, 0 ≤ x ∧ x ≤ 255 := fun x hx => by
  rcases List.mem_or_eq_of_mem_set hx with h1 | h1
  · exact h x h1
  · rw [h1]; exact hv
/-- What is drawn: a few planes, sides from one to eight, bytes. -/
def Rnd (p : Int) (r : Int × Int × Int × List Int × Int) (q : Int) : Prop :=
  (1 ≤ r.1 ∧ r.1 ≤ 8) ∧ (1 ≤ r.2.1 ∧ r.2.1 ≤ 8) ∧ r.2.2.1 = p ∧ (r.2.2.2.1.length : Int) = r.1 * r.2.1 * p ∧ (∀ x ∈ r.2.2.2.1, 0 ≤ x ∧ x ≤ 255) ∧ q ≤ r.2.2.2.2 ∧ r.2.2.2.2 ≤ q + 300
theorem prod_le {a b c : Int} (h0 : 1 ≤ a ∧ a ≤ 8) (h1 : 1 ≤ b ∧ b ≤ 8) (h2 : 1 ≤ c ∧ c ≤ 4) : 1 ≤ a * b ∧ a * b ≤ 64 ∧ 1 ≤ a * b * c ∧ a * b * c ≤ 256 := by
  have m1 : 1 * 1 ≤ a * b := Int.mul_le_mul h0.1 h1.1 (by omega) (by omega)
  have m2 : a * b ≤ 8 * 8 := Int.mul_le_mul h0.2 h1.2 (by omega) (by omega)
  have m3 : 1 * 1 ≤ a * b * c := Int.mul_le_mul (by omega) h2.1 (by omega) (by omega)
  have m4 : a * b * c ≤ 64 * 4 := Int.mul_le_mul (by omega) h2.2 (by omega) (by omega)
  omega
theorem w_randomImage (b : List Int) (q p : Int) (h : Rdr b q) (hq : q ≤ 900000) (hp : 1 ≤ p ∧ p ≤ 4) : Wp (fun k => spec_randomImage.f k b q p) (fun r => Rnd p r q) := by
  unfold spec_randomImage.f
  refine Wp.call (w_one b q _ h (by omega) (by simp) (by simp)) ?_
  rintro _ ⟨sx, rfl, hsx⟩
  have hsx : 1 ≤ sx ∧ sx ≤ 8 := by simp only [List.mem_cons, List.not_mem_nil, or_false] at hsx; omega
  refine Wp.call (w_one b _ _ (h.up (by first | omega | (simp only; omega)) (by first | omega | (simp only; omega))) (by first | omega | (simp only; omega)) (by simp) (by simp)) ?_
  rintro _ ⟨sy, rfl, hsy⟩
  have hsy : 1 ≤ sy ∧ sy ≤ 8 := by simp only [List.mem_cons, List.not_mem_nil, or_false] at hsy; omega
  refine Wp.call (w_newImage sx sy p (by omega) (by omega) (by omega)) ?_
  rintro _ rfl
  refine Wp.call (w_pick b _ 4 (h.up (by first | omega | (simp only; omega)) (by first | omega | (simp only; omega))) (by first | omega | (simp only; omega)) (by omega)) ?_
  rintro _ ⟨md, rfl, md0, md1, _⟩
  refine Wp.call (w_pick b _ 256 (h.up (by first | omega | (simp only; omega)) (by first | omega | (simp only; omega))) (by first | omega | (simp only; omega)) (by omega)) ?_
  rintro _ ⟨v, rfl, v0, v1, _⟩
  have v1 := v1 (by omega)
  have hP := prod_le hsx hsy hp
  generalize hL : (sx * sy * p).toNat = L
  have hlen : (List.replicate L (0 : Int)).length = L := by simp
  have hbs : ∀ x ∈ List.replicate L (0 : Int), 0 ≤ x ∧ x ≤ 255 := fun x hx => by rw [List.eq_of_mem_replicate hx]; omega
  dsimp only
  generalize List.replicate L (0 : Int) = l at hlen hbs
  have key : ∀ (d i : Nat) (l : List Int) (v r : Int), i + d = L → l.length = L → (∀ x ∈ l, 0 ≤ x ∧ x ≤ 255) → 0 ≤ v → v < 256 → q ≤ r → r ≤ q + 4 + i → Wp (fun k => spec_randomImage.l0 k md v i b r sx sy p l) (fun r => Rnd p r q) := by
    intro d
    induction d with
    | zero =>
      intro i l v r hd hl hb hv hv1 hr hr1
      refine Wp.step (fun k => spec_randomImage.l0.eq_2 ..) (Wp.neg (by omega) (Wp.ret ?_))
      exact ⟨hsx, hsy, rfl, by first | omega | (simp only; omega), hb, hr, by first | omega | (simp only; omega)⟩
    | succ d ih =>
      intro i l v r hd hl hb hv hv1 hr hr1
      have hR : Rdr b r := h.up hr (by omega)
      have next : ∀ (v' r' : Int), 0 ≤ v' → v' < 256 → q ≤ r' → r' ≤ q + 4 + (i + 1 : Nat) → Wp (fun k => spec_randomImage.l0 k md v' (wrap64 ((i : Int) + 1)) b r' sx sy p (l.set (i : Int).toNat v')) (fun r => Rnd p r q) := by
        intro v' r' h1 h2 h3 h4
        rw [w64 (x := (i : Int) + 1) (by omega) (by omega)]
        exact ih (i + 1) _ v' r' (by omega) (by rw [List.length_set]; exact hl) (allB_set hb _ _ (by omega)) h1 h2 h3 h4
      refine Wp.step (fun k => spec_randomImage.l0.eq_2 ..) (Wp.pos (by omega) ?_)
      refine Wp.ite (fun _ => ?_) (fun _ => Wp.ite (fun _ => ?_) (fun _ => Wp.ite (fun _ => ?_) (fun _ => ?_)))
      · refine Wp.call (w_pick b r 256 hR (by omega) (by omega)) ?_
        rintro _ ⟨u, rfl, u0, u1, _⟩
        exact Wp.pos (by omega) (next u _ u0 (u1 (by omega)) (by first | omega | (simp only; omega)) (by first | omega | (simp only; omega)))
      · refine Wp.call (w_pick b r 5 hR (by omega) (by omega)) ?_
        rintro _ ⟨u, rfl, u0, u1, _⟩
        have u1 := u1 (by omega)
        refine Wp.pos (by omega) ?_
        simp only
        rw [w64 (x := v + u) (by omega) (by omega), w64 (x := v + u + 254) (by omega) (by omega)]
        have ht := tmod_range (v + u + 254) 256 (by omega) (by omega)
        exact next _ _ ht.1 ht.2 (by first | omega | (simp only; omega)) (by first | omega | (simp only; omega))
      · refine Wp.call (w_pick b r 4 hR (by omega) (by omega)) ?_
        rintro _ ⟨u, rfl, u0, u1, _⟩
        have u1 := u1 (by omega)
        refine Wp.pos (by omega) ?_
        simp only
        rw [w64 (x := 60 * u) (by omega) (by omega)]
        exact next _ _ (by omega) (by omega) (by omega) (by omega)
      · exact Wp.pos (by omega) (next v r hv hv1 hr (by omega))
  exact key L 0 l v _ (by omega) hlen hbs v0 v1 (by first | omega | (simp only; omega)) (by first | omega | (simp only; omega))
/-- A drawn image, perhaps spoiled: not many bytes, and sides near those of an image. -/
def Spl (q : Int) (r : Int × Int × Int × List Int × Int) : Prop :=
  (0 ≤ r.1 ∧ r.1 ≤ 17) ∧ (0 ≤ r.2.1 ∧ r.2.1 ≤ 17) ∧ (0 ≤ r.2.2.1 ∧ r.2.2.1 ≤ 5) ∧ r.2.2.2.1.length ≤ 1024 ∧ q ≤ r.2.2.2.2 ∧ r.2.2.2.2 ≤ q + 1000
theorem w_spoilImage (bb : List Int) (q a b c : Int) (l : List Int) (h : Rdr bb q) (hq : q ≤ 900000) (ha : 0 ≤ a ∧ a ≤ 16) (hb : 0 ≤ b ∧ b ≤ 16) (hc : 0 ≤ c ∧ c ≤ 4) (hl : 1 ≤ l.length) (hl2 : l.length ≤ 1024) :
    Wp (fun k => spec_spoilImage.f k bb q a b c l) (fun r => (0 ≤ r.1 ∧ r.1 ≤ 17) ∧ (0 ≤ r.2.1 ∧ r.2.1 ≤ 17) ∧ (0 ≤ r.2.2.1 ∧ r.2.2.1 ≤ 5) ∧ r.2.2.2.1.length ≤ 1024 ∧ q ≤ r.2.2.2.2 ∧ r.2.2.2.2 ≤ q + 2) := by
  unfold spec_spoilImage.f
  refine Wp.call (w_pick bb q 40 h (by omega) (by omega)) ?_
  rintro _ ⟨u, rfl, u0, u1, _⟩
  have h1 : Rdr bb (q + 1) := h.up (by omega) (by omega)
  simp only
  refine Wp.ite (fun _ => ?_) (fun _ => Wp.ite (fun _ => ?_) (fun _ => Wp.ite (fun _ => ?_) (fun _ => Wp.ite (fun _ => ?_) (fun _ => ?_))))
  · refine Wp.call (w_one bb _ _ h1 (by omega) (by simp) (by simp)) ?_
    rintro _ ⟨x, rfl, hx⟩
    rw [w64 (x := a + 1) (by omega) (by omega)] at hx
    simp only [List.mem_cons, List.not_mem_nil, or_false] at hx
    exact Wp.ret ⟨by first | omega | (simp only; omega), by first | omega | (simp only; omega), by first | omega | (simp only; omega), hl2, by first | omega | (simp only; omega), by first | omega | (simp only; omega)⟩
  · exact Wp.pos (by omega) (Wp.ret ⟨by first | omega | (simp only; omega), by first | omega | (simp only; omega), by first | omega | (simp only; omega), by simp only [List.length_drop]; omega, by first | omega | (simp only; omega), by first | omega | (simp only; omega)⟩)
  · refine Wp.call (w_one bb _ _ h1 (by omega) (by simp) (by simp)) ?_
    rintro _ ⟨x, rfl, hx⟩
    exact Wp.pos (by omega) (Wp.ret ⟨by first | omega | (simp only; omega), by first | omega | (simp only; omega), by first | omega | (simp only; omega), by simp only [List.length_set]; omega, by first | omega | (simp only; omega), by first | omega | (simp only; omega)⟩)
  · refine Wp.call (w_one bb _ _ h1 (by omega) (by simp) (by simp)) ?_
    rintro _ ⟨x, rfl, hx⟩
    simp only [List.mem_cons, List.not_mem_nil, or_false] at hx
    exact Wp.ret ⟨by first | omega | (simp only; omega), by first | omega | (simp only; omega), by first | omega | (simp only; omega), hl2, by first | omega | (simp only; omega), by first | omega | (simp only; omega)⟩
  · exact Wp.ret ⟨by first | omega | (simp only; omega), by first | omega | (simp only; omega), by first | omega | (simp only; omega), hl2, by first | omega | (simp only; omega), by first | omega | (simp only; omega)⟩
theorem w_anyPlanes (b : List Int) (q : Int) (h : Rdr b q) (hq : q ≤ 900000) : Wp (fun k => spec_anyPlanes.f k b q) (fun r => (1 ≤ r.1 ∧ r.1 ≤ 4) ∧ r.2 = q + 1) := by
  unfold spec_anyPlanes.f
  refine Wp.call (w_one b q _ h (by omega) (by simp) (by simp)) ?_
  rintro _ ⟨x, rfl, hx⟩
  simp only [List.mem_cons, List.not_mem_nil, or_false] at hx
  exact Wp.ret ⟨by first | omega | (simp only; omega), rfl⟩
theorem Rnd.len {p q : Int} {r : Int × Int × Int × List Int × Int} (h : Rnd p r q) (hp : 1 ≤ p ∧ p ≤ 4) : 1 ≤ r.2.2.2.1.length ∧ r.2.2.2.1.length ≤ 256 := by
  obtain ⟨h0, h1, h2, h3, _⟩ := h
  have := prod_le h0 h1 hp
  omega
/-- A random image, spoiled. -/
theorem w_randomSpoil (b : List Int) (q p : Int) (r : Int × Int × Int × List Int × Int) (h : Rdr b q) (hq : q ≤ 800000) (hp : 1 ≤ p ∧ p ≤ 4) (hr : Rnd p r q) :
    Wp (fun k => spec_spoilImage.f k b r.2.2.2.2 r.1 r.2.1 r.2.2.1 r.2.2.2.1) (fun r => Spl q r ∧ r.2.2.2.2 ≤ q + 302) := by
  have hl := hr.len hp
  obtain ⟨h0, h1, h2, h3, h4, h5, h6⟩ := hr
  refine (w_spoilImage b r.2.2.2.2 _ _ _ _ (h.up h5 (by omega)) (by omega) (by omega) (by omega) (by omega) hl.1 (by omega)).mono ?_
  rintro s ⟨a0, a1, a2, a3, a4, a5⟩
  exact ⟨⟨a0, a1, a2, a3, by omega, by omega⟩, by omega⟩
theorem w_anyImage (b : List Int) (q : Int) (h : Rdr b q) (hq : q ≤ 700000) : Wp (fun k => spec_anyImage.f k b q) (fun r => Spl q r) := by
  unfold spec_anyImage.f
  refine Wp.call (w_anyPlanes b q h (by omega)) ?_
  rintro ⟨p, q'⟩ ⟨hp, e⟩
  simp only at hp e
  subst e
  refine Wp.call (w_randomImage b (q + 1) p (h.up (by omega) (by omega)) (by omega) hp) ?_
  intro r hr
  refine Wp.call (w_randomSpoil b (q + 1) p r (h.up (by omega) (by omega)) (by omega) hp hr) ?_
  rintro s ⟨⟨a0, a1, a2, a3, a4, a5⟩, a6⟩
  refine Wp.ret ⟨a0, a1, a2, a3, by first | omega | (simp only; omega), ?_⟩
  simp only
  omega
end Go.Proofs.Ytnamhlcdlbjcfaa.P

/- Likeness of drawn images. Plain lemma under bounds. -/
namespace Go.Proofs.Ytnamhlcdlbjcfaa.P
open Go.RowKit Go.Proofs.YtnamhlcdlbjcfaaW.PrintWords Go.Proofs.YtnamhlcdlbjcfaaW.PrintLast Go.Proofs.YtnamhlcdlbjcfaaW.PrintMore Go.Proofs.Ytnamhlcdlbjcfaa.Wp
set_option linter.unusedVariables false
set_option linter.unusedSimpArgs false

theorem w_equalImage (a b c : Int) (l : List Int) (a' b' c' : Int) (l' : List Int) (hl : l.length ≤ 1000000000) : Wp (fun k => laws_equalImage.f k a b c l a' b' c' l') (fun r => r = decide ((a, b, c, l) = (a', b', c', l'))) := by
  unfold laws_equalImage.f
  refine Wp.ite (fun h => ?_) (fun h => Wp.ret (decide_eq_false fun e => h (congrArg (·.1) e)).symm)
  refine Wp.ite (fun h1 => ?_) (fun h1 => Wp.ret (decide_eq_false fun e => h1 (congrArg (·.2.1) e)).symm)
  refine Wp.ite (fun h2 => ?_) (fun h2 => Wp.ret (decide_eq_false fun e => h2 (congrArg (·.2.2.1) e)).symm)
  refine Wp.call (w_equalInts l l' hl) ?_
  rintro _ rfl
  refine Wp.ret ?_
  subst h h1 h2
  rw [Bool.eq_iff_iff, decide_eq_true_eq, decide_eq_true_eq]
  exact ⟨fun e => by rw [e], fun e => congrArg (·.2.2.2) e⟩
end Go.Proofs.Ytnamhlcdlbjcfaa.P

/- The program's ScaleNearest answers as the reference's on drawn images; an image scaled to its own sides stays as it is, and so does one that is doubled and halved again. -/
namespace Go.Proofs.Ytnamhlcdlbjcfaa.Pure
open Go.RowKit Go.Proofs.Ytnamhlcdlbjcfaa.P Go.Proofs.YtnamhlcdlbjcfaaW.PrintWords Go.Proofs.YtnamhlcdlbjcfaaW.PrintMore Go.Proofs.Ytnamhlcdlbjcfaa.Wp
set_option linter.unusedVariables false

theorem w_anySide (b : List Int) (q : Int) (h : Rdr b q) (hq : q ≤ 900000) : Wp (fun k => spec_anySide.f k b q) (fun r => r.2 = q + 1) := by
  unfold spec_anySide.f
  refine Wp.call (w_one b q _ h (by omega) (by simp) (by simp)) ?_
  rintro _ ⟨x, rfl, hx⟩
  exact Wp.ret rfl
theorem w_DrawNear (l : List Int) (hb : ∀ x ∈ l, (Lit.int .u8 x).wf = true) : Wp (fun k => spec_DrawScaleNearest.f k l) (fun r => r.2.2.2.1.length ≤ 1024) := by
  unfold spec_DrawScaleNearest.f
  refine Wp.call (w_newReader l hb) ?_
  rintro ⟨b, p⟩ ⟨h, e⟩
  simp only at e h
  subst e
  refine Wp.call (w_anyImage b 0 h (by omega)) ?_
  rintro ⟨r0, r1, r2, r3, r4⟩ ⟨_, _, _, hl, ha, hb⟩
  simp only at hl ha hb
  refine Wp.call (w_anySide b r4 (h.up ha (by omega)) (by omega)) ?_
  rintro ⟨s, q⟩ e
  simp only at e
  subst e
  refine Wp.call (w_anySide b (r4 + 1) (h.up (by omega) (by omega)) (by omega)) ?_
  intro s _
  exact Wp.ret hl
theorem near_self (a b c : Int) (l : List Int) (hi : imgB a b c l = true) : nearI a b c l a b = (a, b, c, l) := by
  obtain ⟨h0, h1, h2, hlen, hB⟩ := imgB_ok.1 hi
  unfold nearI
  rw [if_pos ⟨hi, h0, h1⟩]
  obtain ⟨n, rfl⟩ := Int.eq_ofNat_of_zero_le (show 0 ≤ a by omega)
  obtain ⟨m, rfl⟩ := Int.eq_ofNat_of_zero_le (show 0 ≤ b by omega)
  obtain ⟨p, rfl⟩ := Int.eq_ofNat_of_zero_le (show 0 ≤ c by omega)
  simp only [Int.toNat_natCast]
  congr 3
  have hl : l.length = m * n * p := by
    rw [← Int.natCast_mul, ← Int.natCast_mul, Nat.mul_comm n m] at hlen
    omega
  refine (img_congr _ (fun x y => pixOf l n p x y) n m fun i j hj hi2 => ?_).trans (img_self l n m p hl)
  rw [Int.mul_ediv_cancel _ (by omega), Int.mul_ediv_cancel _ (by omega)]
theorem near_twice (a b c : Int) (l : List Int) (hi : imgB a b c l = true) (h2a : 2 * a ≤ 16) (h2b : 2 * b ≤ 16) :
    ∃ d, nearI a b c l (2 * a) (2 * b) = (2 * a, 2 * b, c, d) ∧ nearI (2 * a) (2 * b) c d a b = (a, b, c, l) := by
  have hs := near_self a b c l hi
  obtain ⟨h0, h1, h2, hlen, hB⟩ := imgB_ok.1 hi
  unfold nearI at hs ⊢
  rw [if_pos ⟨hi, h0, h1⟩] at hs
  rw [if_pos ⟨hi, by omega, by omega⟩]
  refine ⟨_, rfl, ?_⟩
  rw [← hs]
  obtain ⟨n, rfl⟩ := Int.eq_ofNat_of_zero_le (show 0 ≤ a by omega)
  obtain ⟨m, rfl⟩ := Int.eq_ofNat_of_zero_le (show 0 ≤ b by omega)
  obtain ⟨p, rfl⟩ := Int.eq_ofNat_of_zero_le (show 0 ≤ c by omega)
  have e2n : (2 * (n : Int)) = ((2 * n : Nat) : Int) := by omega
  have e2m : (2 * (m : Int)) = ((2 * m : Nat) : Int) := by omega
  rw [e2n, e2m]
  simp only [Int.toNat_natCast]
  generalize hF : (fun x y => pixOf l n p (x * n / ((2 * n : Nat) : Int)) (y * m / ((2 * m : Nat) : Int))) = F
  have hFd : ∀ x y : Int, F x y = pixOf l n p (x / 2) (y / 2) := fun x y => by
    rw [← hF]
    simp only
    have q1 : ((2 * n : Nat) : Int) = (n : Int) * 2 := by omega
    have q2 : ((2 * m : Nat) : Int) = (m : Int) * 2 := by omega
    rw [q1, q2, Int.mul_comm x, Int.mul_comm y, Int.mul_ediv_mul_of_pos _ _ (by omega), Int.mul_ediv_mul_of_pos _ _ (by omega)]
  have hfl : ∀ i j : Nat, j < 2 * n → i < 2 * m → (F j i).length = p := fun i j hj hi2 => by
    rw [hFd, show (j : Int) / 2 = ((j / 2 : Nat) : Int) by omega, show (i : Int) / 2 = ((i / 2 : Nat) : Int) by omega]
    have hf := pix_fits (a0 := n) (a1 := m) (a2 := p) (x := ((j / 2 : Nat) : Int)) (y := ((i / 2 : Nat) : Int)) (by omega) (by omega) (by omega) (by omega) (by omega)
    have hz : 0 ≤ (((i / 2 : Nat) : Int)) * n := Int.mul_nonneg (by omega) (by omega)
    have := pixOf_length (l := l) (n := n) (p := p) (x := ((j / 2 : Nat) : Int)) (y := ((i / 2 : Nat) : Int)) (Int.mul_nonneg (by omega) (by omega)) (by omega) (by rw [hlen]; exact hf)
    omega
  have ok := img_ok F (2 * n) (2 * m) p (by omega) (by omega) (by omega) hfl (fun i j hj hi2 v hv => by rw [hFd] at hv; exact hB v (pixOf_mem hv))
  rw [if_pos ⟨ok, h0, h1⟩]
  congr 3
  refine img_congr _ _ n m fun i j hj hi2 => ?_
  have e1 : (j : Int) * ((2 * n : Nat) : Int) / n = ((2 * j : Nat) : Int) := by
    rw [show (j : Int) * ((2 * n : Nat) : Int) = ((2 * j : Nat) : Int) * n by rw [← Int.natCast_mul, ← Int.natCast_mul, Nat.mul_left_comm, Nat.mul_assoc], Int.mul_ediv_cancel _ (by omega)]
  have e3 : (i : Int) * ((2 * m : Nat) : Int) / m = ((2 * i : Nat) : Int) := by
    rw [show (i : Int) * ((2 * m : Nat) : Int) = ((2 * i : Nat) : Int) * m by rw [← Int.natCast_mul, ← Int.natCast_mul, Nat.mul_left_comm, Nat.mul_assoc], Int.mul_ediv_cancel _ (by omega)]
  rw [e1, e3, pix_img F (2 * n) (2 * m) p hfl (2 * i) (2 * j) (by omega) (by omega), hFd, Int.mul_ediv_cancel _ (by omega), Int.mul_ediv_cancel _ (by omega)]
  congr 1 <;> omega
theorem FnScaleNearest : laws_FnScaleNearest.Pure := by
  intro l _ _ hb
  refine Wp.rounds ?_
  unfold laws_FnScaleNearest.f
  refine Wp.ite (fun _ => Wp.ret rfl) (fun _ => ?_)
  refine Wp.call (w_DrawNear l hb) ?_
  rintro ⟨a, b, c, d, n, m⟩ hl
  simp only at hl
  refine Wp.call (w_iNear a b c d n m) ?_
  rintro _ rfl
  refine Wp.call (w_sNear a b c d n m (by omega)) ?_
  rintro _ rfl
  have hg : (nearI a b c d n m).2.2.2.length ≤ 1000000000 := Nat.le_trans (near_len a b c d n m) (by omega)
  refine Wp.call (w_equalImage _ _ _ _ _ _ _ _ hg) ?_
  rintro _ rfl
  refine Wp.pos (by simp) ?_
  refine Wp.step (fun k => laws_FnScaleNearest.j0.eq_2 ..) ?_
  refine Wp.ite (fun h0 => ?_) (fun h0 => ?_)
  · refine Wp.call (w_sNear a b c d n m (by omega)) ?_
    rintro _ rfl
    refine Wp.call (w_equalImage _ _ _ _ _ _ _ _ hg) ?_
    rintro _ rfl
    exact Wp.ret (by simp)
  · have hi : imgB a b c d = true := by
      unfold nearI at h0
      by_cases h : imgB a b c d = true ∧ (1 ≤ n ∧ n ≤ 16) ∧ (1 ≤ m ∧ m ≤ 16)
      · exact h.1
      · rw [if_neg h] at h0
        exact absurd rfl h0
    obtain ⟨g0, g1, g2, _⟩ := imgB_ok.1 hi
    have hd : d.length ≤ 1000000000 := by omega
    have self : Wp (fun k => laws_FnScaleNearest.j1 k true a b c d) (fun r => r = true) := by
      refine Wp.step (fun k => laws_FnScaleNearest.j1.eq_2 ..) (Wp.pos rfl ?_)
      refine Wp.call (w_iNear a b c d a b) ?_
      rintro _ rfl
      rw [near_self a b c d hi]
      refine Wp.call (w_equalImage _ _ _ _ _ _ _ _ hd) ?_
      rintro _ rfl
      exact Wp.ret (by simp)
    rw [w64 (x := 2 * a) (by omega) (by omega), w64 (x := 2 * b) (by omega) (by omega)]
    refine Wp.ite (fun _ => self) (fun h2a => ?_)
    by_cases h2b : 2 * b > 16
    · rw [decide_eq_true h2b]; exact self
    · rw [decide_eq_false h2b]
      refine Wp.step (fun k => laws_FnScaleNearest.j1.eq_2 ..) (Wp.neg (by simp) ?_)
      obtain ⟨x, hx, hx2⟩ := near_twice a b c d hi (by omega) (by omega)
      rw [w64 (x := 2 * a) (by omega) (by omega), w64 (x := 2 * b) (by omega) (by omega)]
      refine Wp.call (w_iNear a b c d (2 * a) (2 * b)) ?_
      rintro _ rfl
      rw [hx]
      refine Wp.call (w_iNear a b c d a b) ?_
      rintro _ rfl
      rw [near_self a b c d hi]
      refine Wp.call (w_equalImage _ _ _ _ _ _ _ _ hd) ?_
      rintro _ rfl
      refine Wp.pos (by simp) ?_
      refine Wp.call (w_iNear _ _ _ _ a b) ?_
      rintro _ rfl
      dsimp only
      rw [hx2]
      refine Wp.call (w_equalImage _ _ _ _ _ _ _ _ hd) ?_
      rintro _ rfl
      exact Wp.ret (by simp)
end Go.Proofs.Ytnamhlcdlbjcfaa.Pure
