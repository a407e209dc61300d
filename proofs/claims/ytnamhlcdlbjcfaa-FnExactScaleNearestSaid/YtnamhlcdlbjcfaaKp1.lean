/- Pure lemmas: what the printed functions answer, for every input; no Go, no memory, no condition but those that each lemma names. -/
import Derived.Test.YtnamhlcdlbjcfaaWWords
import Derived.Test.YtnamhlcdlbjcfaaK1
import Derived.Test.YtnamhlcdlbjcfaaK2
import Derived.Test.YtnamhlcdlbjcfaaK3
/- Rules for functions that are told with a number of rounds: what they answer once the rounds are enough. Plain lemmas, for every input; no condition. -/
namespace Go.Proofs.Ytnamhlcdlbjcfaa.Wp
open Go.RowKit Go.Proofs.YtnamhlcdlbjcfaaW.PrintWords
set_option linter.unusedVariables false

/-- With enough rounds g answers, and the answer is as P says. -/
def Wp {α : Type} (g : Nat → Option α) (P : α → Prop) : Prop := ∃ r, P r ∧ ∃ K, ∀ k, K ≤ k → g k = some r

theorem Wp.mono {α : Type} {g : Nat → Option α} {P Q : α → Prop} (h : Wp g P) (hi : ∀ a, P a → Q a) : Wp g Q := by
  obtain ⟨r, hp, K, hk⟩ := h
  exact ⟨r, hi r hp, K, hk⟩
theorem Wp.ret {α : Type} {P : α → Prop} {r : α} (h : P r) : Wp (fun _ => some r) P := ⟨r, h, 0, fun _ _ => rfl⟩
theorem Wp.bind {α β : Type} {g : Nat → Option α} {f : Nat → α → Option β} {P : β → Prop} (h : Wp g (fun a => Wp (fun k => f k a) P)) : Wp (fun k => (g k).bind (f k)) P := by
  obtain ⟨a, ⟨r, hp, K, hk⟩, K', hk'⟩ := h
  refine ⟨r, hp, max K K', fun k hkk => ?_⟩
  show (g k).bind (f k) = some r
  rw [hk' k (by omega)]
  exact hk k (by omega)
/-- A call, and what follows. -/
theorem Wp.call {α β : Type} {g : Nat → Option α} {f : Nat → α → Option β} {Q : α → Prop} {P : β → Prop} (h : Wp g Q) (hf : ∀ a, Q a → Wp (fun k => f k a) P) : Wp (fun k => (g k).bind (f k)) P :=
  Wp.bind (h.mono hf)
theorem Wp.ite {α : Type} {c : Prop} [Decidable c] {g h : Nat → Option α} {P : α → Prop} (h1 : c → Wp g P) (h2 : ¬ c → Wp h P) : Wp (fun k => if c then g k else h k) P := by
  by_cases hc : c
  · simpa only [if_pos hc] using h1 hc
  · simpa only [if_neg hc] using h2 hc
theorem Wp.pos {α : Type} {c : Prop} [Decidable c] {g h : Nat → Option α} {P : α → Prop} (hc : c) (h1 : Wp g P) : Wp (fun k => if c then g k else h k) P := Wp.ite (fun _ => h1) (fun h => absurd hc h)
theorem Wp.neg {α : Type} {c : Prop} [Decidable c] {g h : Nat → Option α} {P : α → Prop} (hc : ¬ c) (h1 : Wp h P) : Wp (fun k => if c then g k else h k) P := Wp.ite (fun h => absurd h hc) (fun _ => h1)
/-- A round. -/
theorem Wp.step {α : Type} {g f : Nat → Option α} {P : α → Prop} (h : ∀ k, g (k + 1) = f k) (hf : Wp f P) : Wp g P := by
  obtain ⟨r, hp, K, hk⟩ := hf
  refine ⟨r, hp, K + 1, fun k hkk => ?_⟩
  obtain ⟨k, rfl⟩ : ∃ m, k = m + 1 := ⟨k - 1, by omega⟩
  rw [h k]
  exact hk k (by omega)
theorem Wp.of {α : Type} {g : Nat → Option α} {P : α → Prop} {r : α} (h : ∀ k, g k = some r) (hp : P r) : Wp g P := ⟨r, hp, 0, fun k _ => h k⟩
theorem Wp.rounds {α : Type} {g : Nat → Option α} {r : α} (h : Wp g (fun a => a = r)) : ∃ k, g k = some r := by
  obtain ⟨r', rfl, K, hk⟩ := h
  exact ⟨K, hk K (Nat.le_refl K)⟩
/-- The same answer by two ways. -/
theorem Wp.eq_of {α : Type} {g : Nat → Option α} {P : α → Prop} {r : α} {Q : α → Prop} (h : Wp g P) (k : Wp g Q) : Wp g (fun a => P a ∧ Q a) := by
  obtain ⟨a, hp, K, hk⟩ := h
  obtain ⟨b, hq, K', hk'⟩ := k
  have e : a = b := by
    have h1 := hk (max K K') (by omega)
    have h2 := hk' (max K K') (by omega)
    rw [h1] at h2
    exact Option.some.inj h2
  subst e
  exact ⟨a, ⟨hp, hq⟩, K, hk⟩
/-- A loop over a number that counts down. -/
theorem Wp.loop {σ α : Type} {g : σ → Nat → Option α} {P : α → Prop} (m : σ → Nat) (I : σ → Prop) (h : ∀ s, I s → (∀ s', I s' → m s' < m s → Wp (g s') P) → Wp (g s) P) (s : σ) (hs : I s) : Wp (g s) P := by
  generalize hn : m s = n
  induction n using Nat.strongRecOn generalizing s with
  | _ n ih => exact h s hs fun s' hs' hlt => ih (m s') (by omega) s' hs' rfl

theorem w64 {x : Int} (h0 : -9223372036854775808 ≤ x) (h1 : x ≤ 9223372036854775807) : wrap64 x = x := by
  unfold wrap64
  omega
end Go.Proofs.Ytnamhlcdlbjcfaa.Wp

/- Lists of numbers: what the loops over them answer (all in a range, copies, equality, marks). Plain lemmas; the only condition is a bound on lengths. -/
namespace Go.Proofs.Ytnamhlcdlbjcfaa.P
open Go.RowKit Go.Proofs.YtnamhlcdlbjcfaaW.PrintWords Go.Proofs.YtnamhlcdlbjcfaaW.PrintLast Go.Proofs.YtnamhlcdlbjcfaaW.PrintMore Go.Proofs.Ytnamhlcdlbjcfaa.Wp
set_option linter.unusedVariables false
set_option linter.unusedSimpArgs false

theorem bl_rd (l : List Int) (i : Nat) : rd l (i : Int) = l.getD i 0 := by simp [rd]
theorem bl_rd_lt (l : List Int) (i : Nat) (h : i < l.length) : rd l (i : Int) = l[i] := by simp [rd, List.getD_eq_getElem?_getD, List.getElem?_eq_getElem h]
theorem bl_ext {x l : List Int} (hx : x.length = l.length) (h : ∀ j, j < l.length → x.getD j 0 = l.getD j 0) : x = l := by
  apply List.ext_getElem hx
  intro j h1 h2
  have := h j h2
  simpa [List.getD_eq_getElem?_getD, List.getElem?_eq_getElem h1, List.getElem?_eq_getElem h2] using this
theorem bl_set {x : List Int} {i : Nat} (v : Int) (j : Nat) (hi : i < x.length) : (x.set i v).getD j 0 = if j = i then v else x.getD j 0 := by
  simp only [List.getD_eq_getElem?_getD, List.getElem?_set]
  by_cases h : i = j
  · subst h; simp [hi]
  · simp [h, Ne.symm h, eq_comm]
theorem bl_map_range (f : Nat → Int) (n j : Nat) (hj : j < n) : ((List.range n).map f).getD j 0 = f j := by
  simp [List.getD_eq_getElem?_getD, hj]
theorem bl_all_drop (l : List Int) (p : Int → Bool) (i : Nat) (h : i < l.length) : (l.drop i).all p = (p (l.getD i 0) && (l.drop (i + 1)).all p) := by
  rw [List.drop_eq_getElem_cons h, List.all_cons]
  simp [List.getD_eq_getElem?_getD, List.getElem?_eq_getElem h]
/-- All numbers in 0..255. -/
def allB (l : List Int) : Bool := l.all fun n => decide (0 ≤ n ∧ n ≤ 255)
theorem allB_mem {l : List Int} (h : allB l = true) : ∀ x ∈ l, 0 ≤ x ∧ x ≤ 255 := fun x hx => of_decide_eq_true (List.all_eq_true.1 h x hx)
theorem allB_of {l : List Int} (h : ∀ x ∈ l, 0 ≤ x ∧ x ≤ 255) : allB l = true := List.all_eq_true.2 fun x hx => decide_eq_true (h x hx)
theorem rd_leB {l : List Int} (h : allB l = true) (i : Nat) (hi : i < l.length) : 0 ≤ l.getD i 0 ∧ l.getD i 0 ≤ 255 := by
  have := allB_mem h l[i] (List.getElem_mem hi)
  simpa [List.getD_eq_getElem?_getD, List.getElem?_eq_getElem hi] using this
theorem w_inRange0 (a b c : Int) : Wp (fun _ => spec_inRange.f a b c) (fun r => r = decide (b ≤ a ∧ a ≤ c)) := by
  unfold spec_inRange.f
  refine Wp.ite (fun h => Wp.ret ?_) (fun h => Wp.ret ?_)
  · simp [h]
  · simp [h]
theorem w_allIn (l : List Int) (a b : Int) (hl : l.length ≤ 1000000000) : Wp (fun k => spec_allIn.f k l a b) (fun r => r = l.all fun n => decide (a ≤ n ∧ n ≤ b)) := by
  unfold spec_allIn.f
  have key : ∀ d (i : Nat), i + d = l.length → Wp (fun k => spec_allIn.l0 k l a b i) (fun r => r = (l.drop i).all fun n => decide (a ≤ n ∧ n ≤ b)) := by
    intro d
    induction d with
    | zero =>
      intro i hd
      refine Wp.step (fun k => spec_allIn.l0.eq_2 ..) (Wp.neg (by omega) (Wp.ret ?_))
      rw [List.drop_of_length_le (by omega)]
      rfl
    | succ d ih =>
      intro i hd
      refine Wp.step (fun k => spec_allIn.l0.eq_2 ..) (Wp.pos (by omega) (Wp.pos (by omega) ?_))
      refine Wp.call (w_inRange0 _ _ _) ?_
      rintro _ rfl
      rw [bl_all_drop l _ i (by omega), bl_rd]
      refine Wp.ite (fun h => ?_) (fun h => Wp.ret ?_)
      · rw [h, Bool.true_and, w64 (x := (i : Int) + 1) (by omega) (by omega)]
        exact ih (i + 1) (by omega)
      · rw [Bool.not_eq_true] at h
        rw [h, Bool.false_and]
  exact key l.length 0 (by omega)
theorem w_allB (l : List Int) (hl : l.length ≤ 1000000000) : Wp (fun k => spec_allIn.f k l 0 255) (fun r => r = allB l) := w_allIn l 0 255 hl
theorem w_areBytes (l : List Int) : Wp (fun _ => impl_areBytes.f l) (fun r => r = allB l) := by
  unfold impl_areBytes.f
  refine Wp.ret ?_
  unfold allB
  induction l with
  | nil => rfl
  | cons x l ih =>
    simp only [List.any_cons, List.all_cons, Bool.not_or, ← ih]
    congr 1
    by_cases h0 : x < 0 <;> by_cases h1 : 255 < x <;> simp [h0, h1] <;> omega
theorem w_toIntS (l : List Int) (hl : l.length ≤ 1000000000) : Wp (fun k => laws_toIntS.f k l) (fun r => r = l) := by
  unfold laws_toIntS.f
  refine Wp.pos (by omega) (Wp.pos (by omega) ?_)
  have key : ∀ d (i : Nat) (x : List Int), i + d = l.length → x.length = l.length → (∀ j, j < i → x.getD j 0 = l.getD j 0) → Wp (fun k => laws_toIntS.l0 k l x i) (fun r => r = l) := by
    intro d
    induction d with
    | zero =>
      intro i x hd hx h
      refine Wp.step (fun k => laws_toIntS.l0.eq_2 ..) (Wp.neg (by omega) (Wp.ret ?_))
      exact bl_ext hx fun j hj => h j (by omega)
    | succ d ih =>
      intro i x hd hx h
      refine Wp.step (fun k => laws_toIntS.l0.eq_2 ..) (Wp.pos (by omega) (Wp.pos (by omega) (Wp.pos (by omega) ?_)))
      rw [w64 (x := (i : Int) + 1) (by omega) (by omega), bl_rd, Int.toNat_natCast]
      refine ih (i + 1) _ (by omega) (by rw [List.length_set]; exact hx) fun j hj => ?_
      rw [bl_set _ _ (by omega)]
      split
      · rename_i e; rw [e]
      · exact h j (by omega)
  exact key l.length 0 _ (by omega) (by simp) (fun j hj => by omega)
theorem w_eqIntS (a b : List Int) (hl : a.length ≤ 1000000000) : Wp (fun k => laws_eqIntS.f k a b) (fun r => r = decide (a = b)) := by
  unfold laws_eqIntS.f
  refine Wp.ite (fun he => ?_) (fun he => Wp.ret ?_)
  · have key : ∀ d (i : Nat), i + d = a.length → (∀ j, j < i → a.getD j 0 = b.getD j 0) → Wp (fun k => laws_eqIntS.l0 k a b i) (fun r => r = decide (a = b)) := by
      intro d
      induction d with
      | zero =>
        intro i hd h
        refine Wp.step (fun k => laws_eqIntS.l0.eq_2 ..) (Wp.neg (by omega) (Wp.ret ?_))
        exact (decide_eq_true (bl_ext (by omega) fun j hj => h j (by omega))).symm
      | succ d ih =>
        intro i hd h
        refine Wp.step (fun k => laws_eqIntS.l0.eq_2 ..) (Wp.pos (by omega) (Wp.pos (by omega) (Wp.pos (by omega) ?_)))
        rw [bl_rd, bl_rd]
        refine Wp.ite (fun h1 => ?_) (fun h1 => Wp.ret ?_)
        · rw [w64 (x := (i : Int) + 1) (by omega) (by omega)]
          refine ih (i + 1) (by omega) fun j hj => ?_
          by_cases e : j = i
          · rw [e]; exact h1
          · exact h j (by omega)
        · exact (decide_eq_false fun e => h1 (by rw [e])).symm
    exact key a.length 0 (by omega) (fun j hj => by omega)
  · exact (decide_eq_false fun e => he (by rw [e])).symm
/-- The numbers from a on. -/
def marks (a : Int) (n : Nat) : List Int := (List.range n).map fun j : Nat => a + (j : Int)
theorem marks_length (a : Int) (n : Nat) : (marks a n).length = n := by simp [marks]
theorem marks_get (a : Int) (n j : Nat) (hj : j < n) : (marks a n).getD j 0 = a + j := bl_map_range _ n j hj
theorem w_markIntS (l : List Int) (a : Int) (hl : l.length ≤ 1000000000) (h0 : 0 ≤ a) (h1 : a ≤ 1000000000) : Wp (fun k => laws_markIntS.f k l a) (fun r => r = (a + l.length, marks a l.length)) := by
  unfold laws_markIntS.f
  have key : ∀ d (i : Nat) (x : List Int), i + d = l.length → x.length = l.length → (∀ j, j < i → x.getD j 0 = a + j) → Wp (fun k => laws_markIntS.l0 k x (a + i) i) (fun r => r = (a + l.length, marks a l.length)) := by
    intro d
    induction d with
    | zero =>
      intro i x hd hx h
      refine Wp.step (fun k => laws_markIntS.l0.eq_2 ..) (Wp.neg (by omega) (Wp.ret ?_))
      rw [show (i : Int) = l.length by omega]
      congr 1
      exact bl_ext (by rw [marks_length]; exact hx) fun j hj => by rw [marks_length] at hj; rw [marks_get _ _ _ hj]; exact h j (by omega)
    | succ d ih =>
      intro i x hd hx h
      refine Wp.step (fun k => laws_markIntS.l0.eq_2 ..) (Wp.pos (by omega) (Wp.pos (by omega) ?_))
      rw [w64 (x := (i : Int) + 1) (by omega) (by omega), w64 (x := a + (i : Int) + 1) (by omega) (by omega), Int.toNat_natCast]
      have := ih (i + 1) (x.set i (a + i)) (by omega) (by rw [List.length_set]; exact hx) fun j hj => by
        rw [bl_set _ _ (by omega)]
        split
        · rename_i e; rw [e]
        · exact h j (by omega)
      rw [show a + ((i + 1 : Nat) : Int) = a + (i : Int) + 1 by omega] at this
      exact this
  have := key l.length 0 l (by omega) rfl (fun j hj => by omega)
  simpa using this
theorem w_heldIntS (n : Nat) (a : Int) (hl : n ≤ 1000000000) (h0 : 0 ≤ a) (h1 : a ≤ 1000000000) : Wp (fun k => laws_heldIntS.f k (marks a n) a) (fun r => r = a + n) := by
  unfold laws_heldIntS.f
  have hlen : (marks a n).length = n := marks_length a n
  have key : ∀ d (i : Nat), i + d = n → Wp (fun k => laws_heldIntS.l0 k (marks a n) (a + i) i) (fun r => r = a + n) := by
    intro d
    induction d with
    | zero =>
      intro i hd
      refine Wp.step (fun k => laws_heldIntS.l0.eq_2 ..) (Wp.neg (by omega) (Wp.ret ?_))
      omega
    | succ d ih =>
      intro i hd
      refine Wp.step (fun k => laws_heldIntS.l0.eq_2 ..) (Wp.pos (by omega) (Wp.pos (by omega) ?_))
      rw [bl_rd, marks_get _ _ _ (by omega)]
      refine Wp.pos rfl ?_
      rw [w64 (x := (i : Int) + 1) (by omega) (by omega), w64 (x := a + (i : Int) + 1) (by omega) (by omega)]
      have := ih (i + 1) (by omega)
      rw [show a + ((i + 1 : Nat) : Int) = a + (i : Int) + 1 by omega] at this
      exact this
  have := key n 0 (by omega)
  simpa using this
theorem w_equalInts (a b : List Int) (hl : a.length ≤ 1000000000) : Wp (fun k => laws_equalInts.f k a b) (fun r => r = decide (a = b)) := by
  unfold laws_equalInts.f
  refine Wp.ite (fun he => ?_) (fun he => Wp.ret ?_)
  · have key : ∀ d (i : Nat), i + d = a.length → (∀ j, j < i → a.getD j 0 = b.getD j 0) → Wp (fun k => laws_equalInts.l0 k a b i) (fun r => r = decide (a = b)) := by
      intro d
      induction d with
      | zero =>
        intro i hd h
        refine Wp.step (fun k => laws_equalInts.l0.eq_2 ..) (Wp.neg (by omega) (Wp.ret ?_))
        exact (decide_eq_true (bl_ext (by omega) fun j hj => h j (by omega))).symm
      | succ d ih =>
        intro i hd h
        refine Wp.step (fun k => laws_equalInts.l0.eq_2 ..) (Wp.pos (by omega) (Wp.pos (by omega) (Wp.pos (by omega) ?_)))
        rw [bl_rd, bl_rd]
        refine Wp.ite (fun h1 => ?_) (fun h1 => Wp.ret ?_)
        · rw [w64 (x := (i : Int) + 1) (by omega) (by omega)]
          refine ih (i + 1) (by omega) fun j hj => ?_
          by_cases e : j = i
          · rw [e]; exact h1
          · exact h j (by omega)
        · exact (decide_eq_false fun e => h1 (by rw [e])).symm
    exact key a.length 0 (by omega) (fun j hj => by omega)
  · exact (decide_eq_false fun e => he (by rw [e])).symm
end Go.Proofs.Ytnamhlcdlbjcfaa.P

/- Images row by row: how long they are, and what stands where. Plain lemmas, for every input; the conditions are bounds. -/
namespace Go.Proofs.Ytnamhlcdlbjcfaa.P
open Go.RowKit Go.Proofs.YtnamhlcdlbjcfaaW.PrintWords Go.Proofs.YtnamhlcdlbjcfaaW.PrintLast Go.Proofs.YtnamhlcdlbjcfaaW.PrintMore Go.Proofs.Ytnamhlcdlbjcfaa.Wp
set_option linter.unusedVariables false
set_option linter.unusedSimpArgs false

theorem fm_len (h : Nat → List Int) (n p : Nat) (hf : ∀ i, i < n → (h i).length = p) : ((List.range n).flatMap h).length = n * p := by
  induction n with
  | zero => simp
  | succ n ih =>
    rw [List.range_succ, List.flatMap_append, List.length_append, ih fun i hi => hf i (by omega), Nat.succ_mul]
    simp [hf n (by omega)]
theorem fm_get (h : Nat → List Int) (n p j q : Nat) (hf : ∀ i, i < n → (h i).length = p) (hj : j < n) (hq : q < p) : ((List.range n).flatMap h).getD (j * p + q) 0 = (h j).getD q 0 := by
  induction n with
  | zero => omega
  | succ n ih =>
    have hlen := fm_len h n p fun i hi => hf i (by omega)
    rw [List.range_succ, List.flatMap_append, List.getD_eq_getElem?_getD]
    by_cases hjn : j < n
    · have : j * p + q < n * p := by
        have : (j + 1) * p ≤ n * p := Nat.mul_le_mul_right p (by omega)
        rw [Nat.succ_mul] at this
        omega
      rw [List.getElem?_append_left (by omega), ← List.getD_eq_getElem?_getD]
      exact ih (fun i hi => hf i (by omega)) hjn
    · have : j = n := by omega
      subst this
      rw [List.getElem?_append_right (by omega), hlen, show j * p + q - j * p = q by omega]
      simp [List.getD_eq_getElem?_getD]
theorem img_fm (f : Int → Int → List Int) (h : Nat → List Int) (n m : Nat) (hh : ∀ i j, j < n → i < m → f (j : Int) (i : Int) = h (i * n + j)) : imgOf f n m = (List.range (m * n)).flatMap h := by
  induction m with
  | zero => simp [imgOf]
  | succ m ih =>
    rw [imgOf_succ, ih fun i j hj hi => hh i j hj (by omega), Nat.succ_mul, List.range_add, List.flatMap_append]
    congr 1
    unfold imgRow
    rw [List.flatMap_map]
    have : ∀ (a : List Nat), (∀ x ∈ a, x < n) → a.flatMap (fun j : Nat => f (j : Int) (m : Int)) = a.flatMap (fun x => h (m * n + x)) := by
      intro a
      induction a with
      | nil => intro _; rfl
      | cons x a iha =>
        intro hx
        rw [List.flatMap_cons, List.flatMap_cons, iha fun y hy => hx y (List.mem_cons_of_mem _ hy), hh m x (hx x (List.mem_cons_self ..)) (by omega)]
    exact this _ fun x hx => List.mem_range.1 hx
theorem img_len (f : Int → Int → List Int) (n m p : Nat) (hf : ∀ i j : Nat, j < n → i < m → (f j i).length = p) : (imgOf f n m).length = m * n * p := by
  induction m with
  | zero => simp [imgOf]
  | succ m ih =>
    rw [imgOf_succ, List.length_append, ih fun i j hj hi => hf i j hj (by omega)]
    unfold imgRow
    rw [fm_len _ n p fun j hj => hf m j hj (by omega), Nat.succ_mul, Nat.add_mul]
theorem img_get (f : Int → Int → List Int) (n m p i j q : Nat) (hf : ∀ i j : Nat, j < n → i < m → (f j i).length = p) (hj : j < n) (hi : i < m) (hq : q < p) :
    (imgOf f n m).getD ((i * n + j) * p + q) 0 = (f j i).getD q 0 := by
  have e : imgOf f n m = (List.range m).flatMap fun i : Nat => imgRow f i n := rfl
  have hr : ∀ i : Nat, i < m → (imgRow f i n).length = n * p := fun i hi => by
    unfold imgRow
    exact fm_len _ n p fun j hj => hf i j hj hi
  have hb : j * p + q < n * p := by
    have : (j + 1) * p ≤ n * p := Nat.mul_le_mul_right p (by omega)
    rw [Nat.succ_mul] at this
    omega
  rw [e, show (i * n + j) * p + q = i * (n * p) + (j * p + q) by rw [Nat.add_mul, Nat.mul_assoc]; omega, fm_get _ m (n * p) i _ hr hi hb]
  unfold imgRow
  exact fm_get _ n p j q (fun j hj => hf i j hj hi) hj hq
theorem img_ext (f : Int → Int → List Int) (n m p : Nat) (x : List Int) (hf : ∀ i j : Nat, j < n → i < m → (f j i).length = p) (hx : x.length = m * n * p)
    (h : ∀ i j q : Nat, i < m → j < n → q < p → x.getD ((i * n + j) * p + q) 0 = (f j i).getD q 0) : x = imgOf f n m := by
  refine bl_ext (by rw [hx, img_len f n m p hf]) fun t ht => ?_
  rw [img_len f n m p hf] at ht
  have hp : 0 < p := by rcases Nat.eq_zero_or_pos p with h | h; (· subst h; omega); exact h
  have ht2 : t / p < m * n := Nat.div_lt_of_lt_mul (by rw [Nat.mul_comm]; exact ht)
  have hn : 0 < n := by rcases Nat.eq_zero_or_pos n with h | h; (· subst h; omega); exact h
  have hi : t / p / n < m := Nat.div_lt_of_lt_mul (by rw [Nat.mul_comm]; exact ht2)
  have hj : t / p % n < n := Nat.mod_lt _ hn
  have hq : t % p < p := Nat.mod_lt _ hp
  have e1 : t / p / n * n + t / p % n = t / p := by rw [Nat.mul_comm]; exact Nat.div_add_mod _ _
  have e2 : t / p * p + t % p = t := by rw [Nat.mul_comm]; exact Nat.div_add_mod _ _
  have h1 := h _ _ _ hi hj hq
  have h2 := img_get f n m p _ _ _ hf hj hi hq
  rw [e1, e2] at h1 h2
  rw [h1, h2]
theorem rd_cut (l : List Int) (a b i : Int) (ha : 0 ≤ a) (hi : 0 ≤ i) (hb : a + i < b) : rd ((l.take b.toNat).drop a.toNat) i = rd l (a + i) := by
  unfold rd
  rw [List.getD_eq_getElem?_getD, List.getD_eq_getElem?_getD, List.getElem?_drop, List.getElem?_take, if_pos (by omega)]
  congr 2
  omega
theorem rd_nat (l : List Int) (i : Int) : rd l i = l.getD i.toNat 0 := rfl
theorem rd_B {l : List Int} (h : ∀ x ∈ l, 0 ≤ x ∧ x ≤ 255) (i : Int) (h0 : 0 ≤ i) (h1 : i < (l.length : Int)) : 0 ≤ rd l i ∧ rd l i ≤ 255 := by
  refine h _ ?_
  unfold rd
  rw [List.getD_eq_getElem?_getD, List.getElem?_eq_getElem (by omega)]
  exact List.getElem_mem _
/-- An image as the reference looks at it. -/
def imgB (a b c : Int) (l : List Int) : Bool := decide ((1 ≤ a ∧ a ≤ 16) ∧ (1 ≤ b ∧ b ≤ 16) ∧ (1 ≤ c ∧ c ≤ 4)) && decide ((l.length : Int) = a * b * c) && allB l
theorem imgB_ok {a b c : Int} {l : List Int} : imgB a b c l = true ↔ ImgOk a b c l := by
  unfold imgB ImgOk
  rw [Bool.and_eq_true, Bool.and_eq_true, decide_eq_true_eq, decide_eq_true_eq]
  constructor
  · rintro ⟨⟨h1, h2⟩, h3⟩
    exact ⟨h1.1, h1.2.1, h1.2.2, h2, allB_mem h3⟩
  · rintro ⟨h1, h2, h3, h4, h5⟩
    exact ⟨⟨⟨h1, h2, h3⟩, h4⟩, allB_of h5⟩
theorem w_iImage (a b c : Int) (l : List Int) : Wp (fun _ => impl_isImage.f a b c l) (fun r => r = imgB a b c l) := by
  obtain ⟨r, hr, hi⟩ := isImage_some a b c l
  refine Wp.of (fun _ => hr) ?_
  rw [Bool.eq_iff_iff, hi, imgB_ok]
theorem w_sImage (a b c : Int) (l : List Int) (hl : l.length ≤ 1000000000) : Wp (fun k => spec_validImage.f k a b c l) (fun r => r = imgB a b c l) := by
  unfold spec_validImage.f spec_validShape.f imgB
  refine Wp.call (Q := fun r => r = decide ((1 ≤ a ∧ a ≤ 16) ∧ (1 ≤ b ∧ b ≤ 16) ∧ (1 ≤ c ∧ c ≤ 4))) ?_ ?_
  · refine Wp.call (w_inRange0 _ _ _) ?_
    rintro _ rfl
    refine Wp.ite (fun h => ?_) (fun h => Wp.ret ?_)
    · refine Wp.call (w_inRange0 _ _ _) ?_
      rintro _ rfl
      refine Wp.ite (fun h2 => ?_) (fun h2 => Wp.ret ?_)
      · refine Wp.call (w_inRange0 _ _ _) ?_
        rintro _ rfl
        refine Wp.ret ?_
        rw [decide_eq_true_eq] at h h2
        rw [Bool.eq_iff_iff, decide_eq_true_eq, decide_eq_true_eq]
        exact ⟨fun h3 => ⟨h, h2, h3⟩, fun h3 => h3.2.2⟩
      · rw [decide_eq_true_eq] at h2
        exact (decide_eq_false fun h3 => h2 h3.2.1).symm
    · rw [decide_eq_true_eq] at h
      exact (decide_eq_false fun h3 => h h3.1).symm
  · rintro _ rfl
    refine Wp.ite (fun h => ?_) (fun h => Wp.ret ?_)
    · rw [h, Bool.true_and]
      rw [decide_eq_true_eq] at h
      obtain ⟨h0, h1, h2⟩ := h
      have hB := img_bounds h0 h1 h2
      rw [w64 (x := a * b) (by omega) (by omega), w64 (x := a * b * c) (by omega) (by omega)]
      refine Wp.ite (fun h3 => ?_) (fun h3 => Wp.ret ?_)
      · rw [decide_eq_true h3, Bool.true_and]
        refine Wp.call (w_allB l hl) ?_
        rintro _ rfl
        exact Wp.ret rfl
      · rw [decide_eq_false h3]; rfl
    · rw [Bool.not_eq_true] at h
      rw [h]; rfl
theorem w_newImage (a b c : Int) (h0 : 0 ≤ a ∧ a ≤ 1000) (h1 : 0 ≤ b ∧ b ≤ 1000) (h2 : 0 ≤ c ∧ c ≤ 1000) : Wp (fun _ => spec_newImage.f a b c) (fun r => r = (a, b, c, List.replicate (a * b * c).toNat 0)) := by
  have m1 : 0 ≤ a * b := Int.mul_nonneg h0.1 h1.1
  have m2 : a * b ≤ 1000 * 1000 := Int.mul_le_mul h0.2 h1.2 h1.1 (by omega)
  have m3 : 0 ≤ a * b * c := Int.mul_nonneg m1 h2.1
  have m4 : a * b * c ≤ 1000000 * 1000 := Int.mul_le_mul m2 h2.2 h2.1 (by omega)
  unfold spec_newImage.f
  rw [w64 (x := a * b) (by omega) (by omega), w64 (x := a * b * c) (by omega) (by omega)]
  exact Wp.pos m3 (Wp.pos (by omega) (Wp.ret rfl))
end Go.Proofs.Ytnamhlcdlbjcfaa.P

/- Copies of lists. Plain lemma under a bound. -/
namespace Go.Proofs.Ytnamhlcdlbjcfaa.P
open Go.RowKit Go.Proofs.YtnamhlcdlbjcfaaW.PrintWords Go.Proofs.YtnamhlcdlbjcfaaW.PrintLast Go.Proofs.YtnamhlcdlbjcfaaW.PrintMore Go.Proofs.Ytnamhlcdlbjcfaa.Wp
set_option linter.unusedVariables false
set_option linter.unusedSimpArgs false

theorem w_copyInts (l : List Int) (hl : l.length ≤ 1000000000) : Wp (fun _ => spec_copyInts.f l) (fun r => r = l) := by
  unfold spec_copyInts.f
  exact Wp.pos (by simp; omega) (Wp.ret (by simp))
end Go.Proofs.Ytnamhlcdlbjcfaa.P

/- Pixels that are read and set, one after the other. Plain lemmas under bounds. -/
namespace Go.Proofs.Ytnamhlcdlbjcfaa.P
open Go.RowKit Go.Proofs.YtnamhlcdlbjcfaaW.PrintWords Go.Proofs.YtnamhlcdlbjcfaaW.PrintLast Go.Proofs.YtnamhlcdlbjcfaaW.PrintMore Go.Proofs.Ytnamhlcdlbjcfaa.Wp
set_option linter.unusedVariables false
set_option linter.unusedSimpArgs false

theorem w_pixelAt (n m p : Int) (l : List Int) (x y : Int) (hn : 0 ≤ n ∧ n ≤ 16) (hp : 0 ≤ p ∧ p ≤ 4) (hx : 0 ≤ x ∧ x ≤ 1000) (hy : 0 ≤ y ∧ y ≤ 1000) (hl : (y * n + x) * p + p ≤ (l.length : Int)) :
    Wp (fun _ => spec_pixelAt.f n m p l x y) (fun r => r = pixOf l n p x y) := by
  have m1 : 0 ≤ y * n := Int.mul_nonneg hy.1 hn.1
  have m2 : y * n ≤ 1000 * 16 := Int.mul_le_mul hy.2 hn.2 hn.1 (by omega)
  have m3 : 0 ≤ (y * n + x) * p := Int.mul_nonneg (by omega) hp.1
  have m4 : (y * n + x) * p ≤ 17000 * 4 := Int.mul_le_mul (by omega) hp.2 hp.1 (by omega)
  unfold spec_pixelAt.f
  rw [w64 (x := y * n) (by omega) (by omega), w64 (x := y * n + x) (by omega) (by omega), w64 (x := (y * n + x) * p) (by omega) (by omega), w64 (x := (y * n + x) * p + p) (by omega) (by omega)]
  refine Wp.pos m3 (Wp.pos (by omega) (Wp.pos hl ?_))
  have h := w_copyInts (pixOf l n p x y) (Nat.le_trans (pixOf_len l n p x y hp.1 hp.2) (by omega))
  unfold pixOf at h ⊢
  refine Wp.call h ?_
  rintro _ rfl
  exact Wp.ret rfl
theorem pix_before (n p i j i' j' q : Nat) (hj' : j' < n) (hq : q < p) (h : i' < i ∨ (i' = i ∧ j' < j)) : (i' * n + j') * p + q < (i * n + j) * p := by
  have h1 : i' * n + j' + 1 ≤ i * n + j := by
    rcases h with h | ⟨rfl, h⟩
    · have : (i' + 1) * n ≤ i * n := Nat.mul_le_mul_right n h
      rw [Nat.succ_mul] at this
      omega
    · omega
  have h2 : (i' * n + j' + 1) * p ≤ (i * n + j) * p := Nat.mul_le_mul_right p h1
  rw [Nat.succ_mul] at h2
  omega
/-- A pixel is set: what stands where, after it. -/
theorem w_setPixel (n m p i j : Nat) (l px : List Int) (hn : n ≤ 1000) (hp : p ≤ 1000) (hj : j < n) (hi : i < m) (hm : m ≤ 1000) (hl : l.length = m * n * p) (hpx : p ≤ px.length) :
    Wp (fun k => spec_setPixel.f k n m p l j i px) (fun r => r.length = l.length ∧ (∀ q, q < p → r.getD ((i * n + j) * p + q) 0 = px.getD q 0) ∧ ∀ t, t < (i * n + j) * p → r.getD t 0 = l.getD t 0) := by
  have b1 : i * n + j + 1 ≤ m * n := by
    have : (i + 1) * n ≤ m * n := Nat.mul_le_mul_right n hi
    rw [Nat.succ_mul] at this
    omega
  have b2 : (i * n + j) * p + p ≤ m * n * p := by
    have : (i * n + j + 1) * p ≤ m * n * p := Nat.mul_le_mul_right p b1
    rw [Nat.succ_mul] at this
    omega
  have b3 : i * n ≤ 1000 * 1000 := Nat.mul_le_mul (by omega) hn
  have b4 : (i * n + j) * p ≤ 1001000 * 1000 := Nat.mul_le_mul (by omega) hp
  have c1 : ((i : Int) * n) = ((i * n : Nat) : Int) := by rw [Int.natCast_mul]
  have c2 : (((i * n : Nat) : Int) + j) * p = (((i * n + j) * p : Nat) : Int) := by rw [Int.natCast_mul (i * n + j) p, Int.natCast_add]
  unfold spec_setPixel.f
  generalize hA : (i * n + j) * p = A at *
  have key : ∀ (d q : Nat) (x : List Int), q + d = p → x.length = l.length → (∀ q', q' < q → x.getD (A + q') 0 = px.getD q' 0) → (∀ t, t < A → x.getD t 0 = l.getD t 0) →
      Wp (fun k => spec_setPixel.l0 k j i px q n m p x) (fun r => r.length = l.length ∧ (∀ q, q < p → r.getD (A + q) 0 = px.getD q 0) ∧ ∀ t, t < A → r.getD t 0 = l.getD t 0) := by
    intro d
    induction d with
    | zero =>
      intro q x hd hx h1 h2
      refine Wp.step (fun k => spec_setPixel.l0.eq_2 ..) (Wp.neg (by omega) (Wp.ret ⟨hx, fun q hq => h1 q (by omega), h2⟩))
    | succ d ih =>
      intro q x hd hx h1 h2
      refine Wp.step (fun k => spec_setPixel.l0.eq_2 ..) (Wp.pos (by omega) (Wp.pos (by omega) (Wp.pos (by omega) ?_)))
      rw [c1, w64 (x := ((i * n : Nat) : Int)) (by omega) (by omega), w64 (x := ((i * n : Nat) : Int) + j) (by omega) (by omega), c2, w64 (x := (A : Int)) (by omega) (by omega),
        w64 (x := (A : Int) + q) (by omega) (by omega), w64 (x := (q : Int) + 1) (by omega) (by omega), bl_rd, show ((A : Int) + q).toNat = A + q by omega]
      refine Wp.pos (by omega) (Wp.pos (by omega) ?_)
      refine ih (q + 1) _ (by omega) (by rw [List.length_set]; exact hx) (fun q' hq => ?_) (fun t ht => ?_)
      · rw [bl_set _ _ (by omega)]
        split
        · rename_i e; rw [show q' = q by omega]
        · exact h1 q' (by omega)
      · rw [bl_set _ _ (by omega), if_neg (by omega)]
        exact h2 t ht
  exact key p 0 l (by omega) rfl (fun q hq => by omega) (fun t ht => rfl)
/-- The pixels that are set, up to the j-th one of row i. -/
def Painted (f : Int → Int → List Int) (n m p : Nat) (x : List Int) (i j : Nat) : Prop :=
  x.length = m * n * p ∧ ∀ i' j' q, (i' < i ∨ (i' = i ∧ j' < j)) → j' < n → i' < m → q < p → x.getD ((i' * n + j') * p + q) 0 = (f j' i').getD q 0
theorem Painted.start (f : Int → Int → List Int) (n m p : Nat) (x : List Int) (h : x.length = m * n * p) : Painted f n m p x 0 0 := ⟨h, fun i' j' q h1 => by omega⟩
theorem Painted.row {f : Int → Int → List Int} {n m p : Nat} {x : List Int} {i : Nat} (h : Painted f n m p x i n) : Painted f n m p x (i + 1) 0 :=
  ⟨h.1, fun i' j' q h1 h2 h3 h4 => h.2 i' j' q (by omega) h2 h3 h4⟩
theorem Painted.put {f : Int → Int → List Int} {n m p : Nat} {x y : List Int} {i j : Nat} (h : Painted f n m p x i j) (h0 : y.length = x.length) (h1 : ∀ q, q < p → y.getD ((i * n + j) * p + q) 0 = (f j i).getD q 0)
    (h2 : ∀ t, t < (i * n + j) * p → y.getD t 0 = x.getD t 0) : Painted f n m p y i (j + 1) := by
  refine ⟨h0.trans h.1, fun i' j' q h3 h4 h5 h6 => ?_⟩
  by_cases e : i' < i ∨ (i' = i ∧ j' < j)
  · rw [h2 _ (pix_before n p i j i' j' q h4 h6 e)]
    exact h.2 i' j' q e h4 h5 h6
  · have : i' = i ∧ j' = j := by omega
    rw [this.1, this.2]
    exact h1 q h6
theorem Painted.all {f : Int → Int → List Int} {n m p : Nat} {x : List Int} (h : Painted f n m p x m 0) (hf : ∀ i j : Nat, j < n → i < m → (f j i).length = p) : x = imgOf f n m :=
  img_ext f n m p x hf h.1 fun i j q h1 h2 h3 => h.2 i j q (by omega) h2 h1 h3
/-- One more pixel. -/
theorem w_paint (f : Int → Int → List Int) (n m p i j : Nat) (x : List Int) (hn : n ≤ 1000) (hp : p ≤ 1000) (hj : j < n) (hi : i < m) (hm : m ≤ 1000) (h : Painted f n m p x i j) (hpx : (f j i).length = p) :
    Wp (fun k => spec_setPixel.f k n m p x j i (f j i)) (fun r => Painted f n m p r i (j + 1)) := by
  refine (w_setPixel n m p i j x (f j i) hn hp hj hi hm h.1 (by omega)).mono ?_
  rintro r ⟨h0, h1, h2⟩
  exact h.put h0 h1 h2
end Go.Proofs.Ytnamhlcdlbjcfaa.P

/- Images scaled to the nearest pixel: both ways answer the same. Plain lemmas; the condition is a bound on the length. -/
namespace Go.Proofs.Ytnamhlcdlbjcfaa.P
open Go.RowKit Go.Proofs.YtnamhlcdlbjcfaaW.PrintWords Go.Proofs.YtnamhlcdlbjcfaaW.PrintLast Go.Proofs.YtnamhlcdlbjcfaaW.PrintMore Go.Proofs.Ytnamhlcdlbjcfaa.Wp
set_option linter.unusedVariables false
set_option linter.unusedSimpArgs false

/-- The scaled image. -/
def nearI (a b c : Int) (l : List Int) (n m : Int) : Int × Int × Int × List Int :=
  if imgB a b c l = true ∧ (1 ≤ n ∧ n ≤ 16) ∧ (1 ≤ m ∧ m ≤ 16) then (n, m, c, imgOf (fun x y => pixOf l a c (x * a / n) (y * b / m)) n.toNat m.toNat) else (0, 0, 0, [])
theorem near_len (a b c : Int) (l : List Int) (n m : Int) : (nearI a b c l n m).2.2.2.length ≤ 1000000 := by
  unfold nearI
  split
  · rename_i h
    obtain ⟨hi, hn, hm⟩ := h
    obtain ⟨h0, h1, h2, _⟩ := imgB_ok.1 hi
    have := imgOf_len (fun x y => pixOf l a c (x * a / n) (y * b / m)) n.toNat m.toNat 100 (fun i j _ _ => pixOf_len l a c _ _ (by omega) (by omega))
    have b1 : n.toNat * 100 ≤ 16 * 100 := Nat.mul_le_mul (by omega) (Nat.le_refl _)
    have b2 : m.toNat * (n.toNat * 100) ≤ 16 * 1600 := Nat.mul_le_mul (by omega) b1
    exact Nat.le_trans this (by omega)
  · simp
theorem w_iNear (a b c : Int) (l : List Int) (n m : Int) : Wp (fun _ => impl_ScaleNearest.f a b c l n m) (fun r => r = nearI a b c l n m) := by
  unfold impl_ScaleNearest.f nearI
  refine Wp.call (w_iImage a b c l) ?_
  rintro _ rfl
  refine Wp.ite (fun hi => ?_) (fun hi => Wp.ret (by rw [if_neg fun h => hi h.1]))
  rw [isSide_some, isSide_some]
  simp only [Option.bind_some, decide_eq_true_eq]
  refine Wp.ite (fun h1 => ?_) (fun h1 => Wp.ret (by rw [if_neg fun h => h1 h.2.1]))
  refine Wp.ite (fun h2 => ?_) (fun h2 => Wp.ret (by rw [if_neg fun h => h2 h.2.2]))
  rw [if_pos ⟨hi, h1, h2⟩]
  exact Wp.ret rfl
theorem w_validShape (a b c : Int) : Wp (fun _ => spec_validShape.f a b c) (fun r => r = decide ((1 ≤ a ∧ a ≤ 16) ∧ (1 ≤ b ∧ b ≤ 16) ∧ (1 ≤ c ∧ c ≤ 4))) := by
  unfold spec_validShape.f
  refine Wp.call (w_inRange0 _ _ _) ?_
  rintro _ rfl
  refine Wp.ite (fun h => ?_) (fun h => Wp.ret ?_)
  · refine Wp.call (w_inRange0 _ _ _) ?_
    rintro _ rfl
    refine Wp.ite (fun h2 => ?_) (fun h2 => Wp.ret ?_)
    · refine Wp.call (w_inRange0 _ _ _) ?_
      rintro _ rfl
      refine Wp.ret ?_
      rw [decide_eq_true_eq] at h h2
      rw [Bool.eq_iff_iff, decide_eq_true_eq, decide_eq_true_eq]
      exact ⟨fun h3 => ⟨h, h2, h3⟩, fun h3 => h3.2.2⟩
    · rw [decide_eq_true_eq] at h2
      exact (decide_eq_false fun h3 => h2 h3.2.1).symm
  · rw [decide_eq_true_eq] at h
    exact (decide_eq_false fun h3 => h h3.1).symm
theorem w_sNear (a b c : Int) (l : List Int) (n m : Int) (hl : l.length ≤ 1000000000) : Wp (fun k => spec_ScaleNearest.f k a b c l n m) (fun r => r = nearI a b c l n m) := by
  unfold spec_ScaleNearest.f nearI
  refine Wp.call (w_sImage a b c l hl) ?_
  rintro _ rfl
  refine Wp.ite (fun hi => ?_) (fun hi => ?_)
  · refine Wp.call (w_validShape n m c) ?_
    rintro _ rfl
    refine Wp.step (fun k => spec_ScaleNearest.j0.eq_2 ..) ?_
    obtain ⟨h0, h1, h2, hlen, hB⟩ := imgB_ok.1 hi
    refine Wp.ite (fun hs => Wp.ret ?_) (fun hs => ?_)
    · rw [if_neg]
      rintro ⟨_, h3, h4⟩
      rw [decide_eq_true ⟨h3, h4, h2⟩] at hs
      exact absurd hs (by simp)
    · have hs : (1 ≤ n ∧ n ≤ 16) ∧ (1 ≤ m ∧ m ≤ 16) ∧ (1 ≤ c ∧ c ≤ 4) := Decidable.byContradiction fun h => hs (by rw [decide_eq_false h]; rfl)
      obtain ⟨hn, hm, _⟩ := hs
      rw [if_pos ⟨hi, hn, hm⟩]
      refine Wp.call (w_newImage n m c (by omega) (by omega) (by omega)) ?_
      rintro _ rfl
      dsimp only
      obtain ⟨n, rfl⟩ := Int.eq_ofNat_of_zero_le (show 0 ≤ n by omega)
      obtain ⟨m, rfl⟩ := Int.eq_ofNat_of_zero_le (show 0 ≤ m by omega)
      obtain ⟨p, rfl⟩ := Int.eq_ofNat_of_zero_le (show 0 ≤ c by omega)
      simp only [Int.toNat_natCast]
      generalize hf : (fun x y => pixOf l a p (x * a / n) (y * b / m)) = f
      have hfd : ∀ x y : Int, f x y = pixOf l a p (x * a / n) (y * b / m) := fun x y => by rw [← hf]
      have hfit : ∀ i j : Nat, j < n → i < m → ((((i : Int) * b / m) * a + (j : Int) * a / n) * p + p ≤ (l.length : Int)) := fun i j hj hi => by
        have s1 := scaled (x := (j : Int)) (a := a) (n := n) (by omega) (by omega) (by omega) (by omega) (by omega)
        have s2 := scaled (x := (i : Int)) (a := b) (n := m) (by omega) (by omega) (by omega) (by omega) (by omega)
        rw [hlen]
        exact pix_fits (by omega) (by omega) (s1.2.2.2.1 (by omega)) s2.2.2.1 (s2.2.2.2.1 (by omega))
      have hfl : ∀ i j : Nat, j < n → i < m → (f j i).length = p := fun i j hj hi => by
        have s1 := scaled (x := (j : Int)) (a := a) (n := n) (by omega) (by omega) (by omega) (by omega) (by omega)
        have s2 := scaled (x := (i : Int)) (a := b) (n := m) (by omega) (by omega) (by omega) (by omega) (by omega)
        rw [hfd]
        have q0 : 0 ≤ ((i : Int) * b / m) * a := Int.mul_nonneg s2.2.2.1 (by omega)
        have := pixOf_length (l := l) (n := a) (p := p) (x := (j : Int) * a / n) (y := (i : Int) * b / m) (Int.mul_nonneg (by omega) (by omega)) (by omega) (hfit i j hj hi)
        omega
      have row : ∀ (i : Nat), i < m → (∀ x, Painted f n m p x (i + 1) 0 → Wp (fun k => spec_ScaleNearest.l0 k n m ((i + 1 : Nat) : Int) a b p l n m p x) (fun r => r = (↑n, ↑m, ↑p, imgOf f n m))) → ∀ (d j : Nat) (x : List Int), j + d = n → Painted f n m p x i j →
          Wp (fun k => spec_ScaleNearest.l1 k n m i j a b p l n m p x) (fun r => r = (↑n, ↑m, ↑p, imgOf f n m)) := by
        intro i hi next d
        induction d with
        | zero =>
          intro j x hd hx
          refine Wp.step (fun k => spec_ScaleNearest.l1.eq_2 ..) (Wp.neg (by omega) ?_)
          rw [w64 (x := (i : Int) + 1) (by omega) (by omega)]
          have : j = n := by omega
          subst this
          exact next x hx.row
        | succ d ih =>
          intro j x hd hx
          have s1 := scaled (x := (j : Int)) (a := a) (n := n) (by omega) (by omega) (by omega) (by omega) (by omega)
          have s2 := scaled (x := (i : Int)) (a := b) (n := m) (by omega) (by omega) (by omega) (by omega) (by omega)
          refine Wp.step (fun k => spec_ScaleNearest.l1.eq_2 ..) (Wp.pos (by omega) (Wp.neg (by omega) (Wp.neg (by omega) ?_)))
          rw [w64 (x := (j : Int) * a) (by omega) (by omega), w64 (x := (i : Int) * b) (by omega) (by omega), Int.tdiv_eq_ediv_of_nonneg s1.1, Int.tdiv_eq_ediv_of_nonneg s2.1, w64 (x := (j : Int) * a / n) (by omega) (by omega), w64 (x := (i : Int) * b / m) (by omega) (by omega)]
          refine Wp.call (w_pixelAt a b p l _ _ (by omega) (by omega) (by omega) (by omega) (hfit i j (by omega) hi)) ?_
          rintro _ rfl
          rw [← hfd, w64 (x := (j : Int) + 1) (by omega) (by omega)]
          refine Wp.call (w_paint f n m p i j x (by omega) (by omega) (by omega) hi (by omega) hx (hfl i j (by omega) hi)) ?_
          intro y hy
          exact ih (j + 1) y (by omega) hy
      have key : ∀ (d i : Nat) (x : List Int), i + d = m → Painted f n m p x i 0 → Wp (fun k => spec_ScaleNearest.l0 k n m i a b p l n m p x) (fun r => r = (↑n, ↑m, ↑p, imgOf f n m)) := by
        intro d
        induction d with
        | zero =>
          intro i x hd hx
          refine Wp.step (fun k => spec_ScaleNearest.l0.eq_2 ..) (Wp.neg (by omega) (Wp.ret ?_))
          have : i = m := by omega
          subst this
          rw [hx.all hfl]
        | succ d ih =>
          intro i x hd hx
          refine Wp.step (fun k => spec_ScaleNearest.l0.eq_2 ..) (Wp.pos (by omega) ?_)
          exact row i (by omega) (fun y hy => ih (i + 1) y (by omega) hy) n 0 x (by omega) hx
      refine key m 0 _ (by omega) (Painted.start f n m p _ ?_)
      rw [List.length_replicate, ← Int.natCast_mul, ← Int.natCast_mul, Int.toNat_natCast, Nat.mul_comm n m]
  · refine Wp.step (fun k => spec_ScaleNearest.j0.eq_2 ..) (Wp.pos rfl (Wp.ret ?_))
    rw [if_neg fun h => hi h.1]
end Go.Proofs.Ytnamhlcdlbjcfaa.P

/- Copies, marks and likeness of images. Plain lemmas under bounds. -/
namespace Go.Proofs.Ytnamhlcdlbjcfaa.P
open Go.RowKit Go.Proofs.YtnamhlcdlbjcfaaW.PrintWords Go.Proofs.YtnamhlcdlbjcfaaW.PrintLast Go.Proofs.YtnamhlcdlbjcfaaW.PrintMore Go.Proofs.Ytnamhlcdlbjcfaa.Wp
set_option linter.unusedVariables false
set_option linter.unusedSimpArgs false

abbrev Img := Int × Int × Int × List Int
theorem w_szImage (a b c : Int) (l : List Int) (hl : l.length ≤ maxLen) : Wp (fun _ => laws_szImage.f a b c l 1048576) (fun r => r < 0 ∨ l.length ≤ 1048576) := by
  unfold maxLen at hl
  unfold laws_szImage.f laws_szIntS.f
  rw [w64 (x := 1048576 - (l.length : Int)) (by omega) (by omega)]
  refine Wp.call (Q := fun r => r < 0 ∨ l.length ≤ 1048576) ?_ ?_
  · exact Wp.ite (fun _ => Wp.ret (by omega)) (fun _ => Wp.ret (by omega))
  · intro r hr
    exact Wp.ite (fun _ => Wp.ret (by omega)) (fun _ => Wp.ret hr)
theorem w_toImage (a b c : Int) (l : List Int) (hl : l.length ≤ 1000000000) : Wp (fun k => laws_toImage.f k a b c l) (fun r => r = (a, b, c, l)) := by
  unfold laws_toImage.f
  refine Wp.call (w_toIntS l hl) ?_
  rintro _ rfl
  exact Wp.ret rfl
theorem w_eqImage (a b c : Int) (l : List Int) (a' b' c' : Int) (l' : List Int) (hl : l.length ≤ 1000000000) : Wp (fun k => laws_eqImage.f k a b c l a' b' c' l') (fun r => r = decide ((a, b, c, l) = (a', b', c', l'))) := by
  unfold laws_eqImage.f
  refine Wp.ite (fun h => ?_) (fun h => Wp.ret (decide_eq_false fun e => h (congrArg (·.1) e)).symm)
  refine Wp.ite (fun h1 => ?_) (fun h1 => Wp.ret (decide_eq_false fun e => h1 (congrArg (·.2.1) e)).symm)
  refine Wp.ite (fun h2 => ?_) (fun h2 => Wp.ret (decide_eq_false fun e => h2 (congrArg (·.2.2.1) e)).symm)
  refine Wp.call (w_eqIntS l l' hl) ?_
  rintro _ rfl
  refine Wp.ite (fun h3 => Wp.ret ?_) (fun h3 => Wp.ret (decide_eq_false fun e => h3 (decide_eq_true (congrArg (·.2.2.2) e))).symm)
  rw [decide_eq_true_eq] at h3
  rw [h, h1, h2, h3]
  exact (decide_eq_true rfl).symm
theorem w_markImage (a b c : Int) (l : List Int) (x : Int) (hl : l.length ≤ 1000000000) (h0 : 0 ≤ x) (h1 : x ≤ 1000000000) : Wp (fun k => laws_markImage.f k a b c l x) (fun r => r = (x + l.length, marks x l.length)) := by
  unfold laws_markImage.f
  refine Wp.call (w_markIntS l x hl h0 h1) ?_
  rintro _ rfl
  exact Wp.ret rfl
theorem w_heldImage (a b c : Int) (n : Nat) (x : Int) (hl : n ≤ 1000000000) (h0 : 0 ≤ x) (h1 : x ≤ 1000000000) : Wp (fun k => laws_heldImage.f k a b c (marks x n) x) (fun r => r = x + n) := by
  unfold laws_heldImage.f
  refine Wp.call (w_heldIntS n x hl h0 h1) ?_
  rintro _ rfl
  exact Wp.neg (by omega) (Wp.ret rfl)
end Go.Proofs.Ytnamhlcdlbjcfaa.P

/- The program's ScaleNearest answers what the reference's answers, for every image, leaves it alone, and shares no memory. -/
namespace Go.Proofs.Ytnamhlcdlbjcfaa.Pure
open Go.RowKit Go.Proofs.Ytnamhlcdlbjcfaa.P Go.Proofs.YtnamhlcdlbjcfaaW.PrintWords Go.Proofs.Ytnamhlcdlbjcfaa.Wp
set_option linter.unusedVariables false

theorem near_small (a b c : Int) (l : List Int) (n m : Int) : (nearI a b c l n m).2.2.2.length ≤ 1000000 := near_len a b c l n m
theorem FnExactScaleNearest : laws_FnExactScaleNearest.Pure := by
  intro a b c l n m _ _ _ hm _ _ _
  refine Wp.rounds ?_
  unfold laws_FnExactScaleNearest.f
  refine Wp.call (w_szImage a b c l hm) ?_
  intro sz hsz
  refine Wp.ite (fun _ => Wp.ret rfl) (fun h0 => ?_)
  have hl : l.length ≤ 1000000000 := by omega
  have hu := near_small a b c l n m
  generalize hg : nearI a b c l n m = g at hu
  obtain ⟨g0, g1, g2, g3⟩ := g
  simp only at hu
  have hu : g3.length ≤ 1000000000 := by omega
  have hs : ∀ P : Img → Prop, P (g0, g1, g2, g3) → Wp (fun k => spec_ScaleNearest.f k a b c l n m) P := fun P hP => (w_sNear a b c l n m hl).mono fun r e => by rw [e, hg]; exact hP
  have hi : ∀ P : Img → Prop, P (g0, g1, g2, g3) → Wp (fun _ => impl_ScaleNearest.f a b c l n m) P := fun P hP => (w_iNear a b c l n m).mono fun r e => by rw [e, hg]; exact hP
  repeat' first
    | with_reducible exact Wp.ret rfl
    | with_reducible refine Wp.step (fun k => laws_FnExactScaleNearest.j0.eq_2 ..) ?_
    | ((with_reducible refine Wp.call (w_toImage _ _ _ _ hl) ?_); rintro _ rfl; dsimp only)
    | ((with_reducible refine Wp.call (hs (fun r => r = (g0, g1, g2, g3)) rfl) ?_); rintro _ rfl; dsimp only)
    | ((with_reducible refine Wp.call (hi (fun r => r = (g0, g1, g2, g3)) rfl) ?_); rintro _ rfl; dsimp only)
    | ((with_reducible refine Wp.call (w_eqImage _ _ _ _ _ _ _ _ hu) ?_); rintro _ rfl)
    | ((with_reducible refine Wp.call (w_eqImage _ _ _ _ _ _ _ _ hl) ?_); rintro _ rfl)
    | ((with_reducible refine Wp.call (w_markImage _ _ _ _ 1 hl (by omega) (by omega)) ?_); rintro _ rfl; dsimp only)
    | ((with_reducible refine Wp.call (w_markImage _ _ _ _ 1 hu (by omega) (by omega)) ?_); rintro _ rfl; dsimp only)
    | ((with_reducible refine Wp.call (w_heldImage _ _ _ _ 1 hu (by omega) (by omega)) ?_); rintro _ rfl)
    | ((with_reducible refine Wp.pos ?c ?_); (case c => first | rfl | omega | (simp; done)))
    | ((with_reducible refine Wp.neg ?c ?_); (case c => first | omega | (simp; done)))
end Go.Proofs.Ytnamhlcdlbjcfaa.Pure
