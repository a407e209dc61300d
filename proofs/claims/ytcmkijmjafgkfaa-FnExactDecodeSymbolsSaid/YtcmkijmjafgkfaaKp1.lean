/- Pure lemmas: what the printed functions answer, for every input; no Go, no memory, no condition but those that each lemma names. -/
import Derived.Laws.Strings
import Derived.Test.YtcmkijmjafgkfaaVWords
import Derived.Test.YtcmkijmjafgkfaaK1
namespace Go.Proofs.Ytcmkijmjafgkfaa.Wp
open Go.RowKit Go.Proofs.YtcmkijmjafgkfaaW.PrintWords
set_option linter.unusedVariables false
def Wp {α : Type} (g : Nat → Option α) (P : α → Prop) : Prop := ∃ r, P r ∧ ∃ K, ∀ k, K ≤ k → g k = some r
theorem Wp.mono {α : Type} {g : Nat → Option α} {P Q : α → Prop} (h : Wp g P) (hi : ∀ a, P a → Q a) : Wp g Q := by
  obtain ⟨r, hp, K, hk⟩ := h
  exact ⟨r, hi r hp, K, hk⟩
theorem Wp.ret {α : Type} {P : α → Prop} {r : α} (h : P r) : Wp (fun _ => some r) P := ⟨r, h, 0, fun _ _ => rfl⟩
theorem Wp.bind {α β : Type} {g : Nat → Option α} {f : Nat → α → Option β} {P : β → Prop} (h : Wp g (fun a => Wp (fun k => f k a) P)) : Wp (fun k => (g k).bind (f k)) P := by
  obtain ⟨a, ⟨r, hp, K, hk⟩, K', hk'⟩ := h
  refine ⟨r, hp, max K K', fun k hkk => ?_⟩
  show (g k).bind (f k) = some r
  rw [hk' k (by omega)]
  exact hk k (by omega)
theorem Wp.call {α β : Type} {g : Nat → Option α} {f : Nat → α → Option β} {Q : α → Prop} {P : β → Prop} (h : Wp g Q) (hf : ∀ a, Q a → Wp (fun k => f k a) P) : Wp (fun k => (g k).bind (f k)) P :=
  Wp.bind (h.mono hf)
theorem Wp.ite {α : Type} {c : Prop} [Decidable c] {g h : Nat → Option α} {P : α → Prop} (h1 : c → Wp g P) (h2 : ¬ c → Wp h P) : Wp (fun k => if c then g k else h k) P := by
  by_cases hc : c
  · simpa only [if_pos hc] using h1 hc
  · simpa only [if_neg hc] using h2 hc
theorem Wp.pos {α : Type} {c : Prop} [Decidable c] {g h : Nat → Option α} {P : α → Prop} (hc : c) (h1 : Wp g P) : Wp (fun k => if c then g k else h k) P := Wp.ite (fun _ => h1) (fun h => absurd hc h)
theorem Wp.neg {α : Type} {c : Prop} [Decidable c] {g h : Nat → Option α} {P : α → Prop} (hc : ¬ c) (h1 : Wp h P) : Wp (fun k => if c then g k else h k) P := Wp.ite (fun h => absurd h hc) (fun _ => h1)
theorem Wp.step {α : Type} {g f : Nat → Option α} {P : α → Prop} (h : ∀ k, g (k + 1) = f k) (hf : Wp f P) : Wp g P := by
  obtain ⟨r, hp, K, hk⟩ := hf
  refine ⟨r, hp, K + 1, fun k hkk => ?_⟩
  obtain ⟨k, rfl⟩ : ∃ m, k = m + 1 := ⟨k - 1, by omega⟩
  rw [h k]
  exact hk k (by omega)
theorem Wp.of {α : Type} {g : Nat → Option α} {P : α → Prop} {r : α} (h : ∀ k, g k = some r) (hp : P r) : Wp g P := ⟨r, hp, 0, fun k _ => h k⟩
theorem Wp.rounds {α : Type} {g : Nat → Option α} {r : α} (h : Wp g (fun a => a = r)) : ∃ k, g k = some r := by
  obtain ⟨r', rfl, K, hk⟩ := h
  exact ⟨K, hk K (Nat.le_refl K)⟩
theorem w64 {x : Int} (h0 : -9223372036854775808 ≤ x) (h1 : x ≤ 9223372036854775807) : wrap64 x = x := by
  unfold wrap64
  omega
end Go.Proofs.Ytcmkijmjafgkfaa.Wp
namespace Go.Proofs.Ytcmkijmjafgkfaa.P
open Go.RowKit Go.Proofs.YtcmkijmjafgkfaaW.PrintWords Go.Proofs.YtcmkijmjafgkfaaW.PrintLast Go.Proofs.YtcmkijmjafgkfaaW.PrintMore Go.Proofs.Ytcmkijmjafgkfaa.Wp
set_option linter.unusedVariables false
set_option linter.unusedSimpArgs false
theorem bl_rd (l : List Int) (i : Nat) : rd l (i : Int) = l.getD i 0 := by simp [rd]
theorem bl_rd_lt (l : List Int) (i : Nat) (h : i < l.length) : rd l (i : Int) = l[i] := by simp [rd, List.getD_eq_getElem?_getD, List.getElem?_eq_getElem h]
theorem bl_ext {x l : List Int} (hx : x.length = l.length) (h : ∀ j, j < l.length → x.getD j 0 = l.getD j 0) : x = l := by
  apply List.ext_getElem hx
  intro j h1 h2
  have := h j h2
  simpa [List.getD_eq_getElem?_getD, List.getElem?_eq_getElem h1, List.getElem?_eq_getElem h2] using this
theorem bl_set {x : List Int} {i : Nat} (v : Int) (j : Nat) (hi : i < x.length) : (x.set i v).getD j 0 = if j = i then v else x.getD j 0 := by
  simp only [List.getD_eq_getElem?_getD, List.getElem?_set]
  by_cases h : i = j
  · subst h; simp [hi]
  · simp [h, Ne.symm h, eq_comm]
theorem bl_map_range (f : Nat → Int) (n j : Nat) (hj : j < n) : ((List.range n).map f).getD j 0 = f j := by
  simp [List.getD_eq_getElem?_getD, hj]
theorem bl_all_drop (l : List Int) (p : Int → Bool) (i : Nat) (h : i < l.length) : (l.drop i).all p = (p (l.getD i 0) && (l.drop (i + 1)).all p) := by
  rw [List.drop_eq_getElem_cons h, List.all_cons]
  simp [List.getD_eq_getElem?_getD, List.getElem?_eq_getElem h]
theorem w_inRange0 (a b c : Int) : Wp (fun _ => spec_inRange.f a b c) (fun r => r = decide (b ≤ a ∧ a ≤ c)) := by
  unfold spec_inRange.f
  refine Wp.ite (fun h => Wp.ret ?_) (fun h => Wp.ret ?_)
  · simp [h]
  · simp [h]
theorem w_allIn (l : List Int) (a b : Int) (hl : l.length ≤ 1000000000) : Wp (fun k => spec_allIn.f k l a b) (fun r => r = l.all fun n => decide (a ≤ n ∧ n ≤ b)) := by
  unfold spec_allIn.f
  have key : ∀ d (i : Nat), i + d = l.length → Wp (fun k => spec_allIn.l0 k l a b i) (fun r => r = (l.drop i).all fun n => decide (a ≤ n ∧ n ≤ b)) := by
    intro d
    induction d with
    | zero =>
      intro i hd
      refine Wp.step (fun k => spec_allIn.l0.eq_2 ..) (Wp.neg (by omega) (Wp.ret ?_))
      rw [List.drop_of_length_le (by omega)]
      rfl
    | succ d ih =>
      intro i hd
      refine Wp.step (fun k => spec_allIn.l0.eq_2 ..) (Wp.pos (by omega) (Wp.pos (by omega) ?_))
      refine Wp.call (w_inRange0 _ _ _) ?_
      rintro _ rfl
      rw [bl_all_drop l _ i (by omega), bl_rd]
      refine Wp.ite (fun h => ?_) (fun h => Wp.ret ?_)
      · rw [h, Bool.true_and, w64 (x := (i : Int) + 1) (by omega) (by omega)]
        exact ih (i + 1) (by omega)
      · rw [Bool.not_eq_true] at h
        rw [h, Bool.false_and]
  exact key l.length 0 (by omega)
theorem w_toIntS (l : List Int) (hl : l.length ≤ 1000000000) : Wp (fun k => laws_toIntS.f k l) (fun r => r = l) := by
  unfold laws_toIntS.f
  refine Wp.pos (by omega) (Wp.pos (by omega) ?_)
  have key : ∀ d (i : Nat) (x : List Int), i + d = l.length → x.length = l.length → (∀ j, j < i → x.getD j 0 = l.getD j 0) → Wp (fun k => laws_toIntS.l0 k l x i) (fun r => r = l) := by
    intro d
    induction d with
    | zero =>
      intro i x hd hx h
      refine Wp.step (fun k => laws_toIntS.l0.eq_2 ..) (Wp.neg (by omega) (Wp.ret ?_))
      exact bl_ext hx fun j hj => h j (by omega)
    | succ d ih =>
      intro i x hd hx h
      refine Wp.step (fun k => laws_toIntS.l0.eq_2 ..) (Wp.pos (by omega) (Wp.pos (by omega) (Wp.pos (by omega) ?_)))
      rw [w64 (x := (i : Int) + 1) (by omega) (by omega), bl_rd, Int.toNat_natCast]
      refine ih (i + 1) _ (by omega) (by rw [List.length_set]; exact hx) fun j hj => ?_
      rw [bl_set _ _ (by omega)]
      split
      · rename_i e; rw [e]
      · exact h j (by omega)
  exact key l.length 0 _ (by omega) (by simp) (fun j hj => by omega)
theorem w_eqIntS (a b : List Int) (hl : a.length ≤ 1000000000) : Wp (fun k => laws_eqIntS.f k a b) (fun r => r = decide (a = b)) := by
  unfold laws_eqIntS.f
  refine Wp.ite (fun he => ?_) (fun he => Wp.ret ?_)
  · have key : ∀ d (i : Nat), i + d = a.length → (∀ j, j < i → a.getD j 0 = b.getD j 0) → Wp (fun k => laws_eqIntS.l0 k a b i) (fun r => r = decide (a = b)) := by
      intro d
      induction d with
      | zero =>
        intro i hd h
        refine Wp.step (fun k => laws_eqIntS.l0.eq_2 ..) (Wp.neg (by omega) (Wp.ret ?_))
        exact (decide_eq_true (bl_ext (by omega) fun j hj => h j (by omega))).symm
      | succ d ih =>
        intro i hd h
        refine Wp.step (fun k => laws_eqIntS.l0.eq_2 ..) (Wp.pos (by omega) (Wp.pos (by omega) (Wp.pos (by omega) ?_)))
        rw [bl_rd, bl_rd]
        refine Wp.ite (fun h1 => ?_) (fun h1 => Wp.ret ?_)
        · rw [w64 (x := (i : Int) + 1) (by omega) (by omega)]
          refine ih (i + 1) (by omega) fun j hj => ?_
          by_cases e : j = i
          · rw [e]; exact h1
          · exact h j (by omega)
        · exact (decide_eq_false fun e => h1 (by rw [e])).symm
    exact key a.length 0 (by omega) (fun j hj => by omega)
  · exact (decide_eq_false fun e => he (by rw [e])).symm
def marks (a : Int) (n : Nat) : List Int := (List.range n).map fun j : Nat => a + (j : Int)
theorem marks_length (a : Int) (n : Nat) : (marks a n).length = n := by simp [marks]
theorem marks_get (a : Int) (n j : Nat) (hj : j < n) : (marks a n).getD j 0 = a + j := bl_map_range _ n j hj
theorem w_markIntS (l : List Int) (a : Int) (hl : l.length ≤ 1000000000) (h0 : 0 ≤ a) (h1 : a ≤ 1000000000) : Wp (fun k => laws_markIntS.f k l a) (fun r => r = (a + l.length, marks a l.length)) := by
  unfold laws_markIntS.f
  have key : ∀ d (i : Nat) (x : List Int), i + d = l.length → x.length = l.length → (∀ j, j < i → x.getD j 0 = a + j) → Wp (fun k => laws_markIntS.l0 k x (a + i) i) (fun r => r = (a + l.length, marks a l.length)) := by
    intro d
    induction d with
    | zero =>
      intro i x hd hx h
      refine Wp.step (fun k => laws_markIntS.l0.eq_2 ..) (Wp.neg (by omega) (Wp.ret ?_))
      rw [show (i : Int) = l.length by omega]
      congr 1
      exact bl_ext (by rw [marks_length]; exact hx) fun j hj => by rw [marks_length] at hj; rw [marks_get _ _ _ hj]; exact h j (by omega)
    | succ d ih =>
      intro i x hd hx h
      refine Wp.step (fun k => laws_markIntS.l0.eq_2 ..) (Wp.pos (by omega) (Wp.pos (by omega) ?_))
      rw [w64 (x := (i : Int) + 1) (by omega) (by omega), w64 (x := a + (i : Int) + 1) (by omega) (by omega), Int.toNat_natCast]
      have := ih (i + 1) (x.set i (a + i)) (by omega) (by rw [List.length_set]; exact hx) fun j hj => by
        rw [bl_set _ _ (by omega)]
        split
        · rename_i e; rw [e]
        · exact h j (by omega)
      rw [show a + ((i + 1 : Nat) : Int) = a + (i : Int) + 1 by omega] at this
      exact this
  have := key l.length 0 l (by omega) rfl (fun j hj => by omega)
  simpa using this
theorem w_heldIntS (n : Nat) (a : Int) (hl : n ≤ 1000000000) (h0 : 0 ≤ a) (h1 : a ≤ 1000000000) : Wp (fun k => laws_heldIntS.f k (marks a n) a) (fun r => r = a + n) := by
  unfold laws_heldIntS.f
  have hlen : (marks a n).length = n := marks_length a n
  have key : ∀ d (i : Nat), i + d = n → Wp (fun k => laws_heldIntS.l0 k (marks a n) (a + i) i) (fun r => r = a + n) := by
    intro d
    induction d with
    | zero =>
      intro i hd
      refine Wp.step (fun k => laws_heldIntS.l0.eq_2 ..) (Wp.neg (by omega) (Wp.ret ?_))
      omega
    | succ d ih =>
      intro i hd
      refine Wp.step (fun k => laws_heldIntS.l0.eq_2 ..) (Wp.pos (by omega) (Wp.pos (by omega) ?_))
      rw [bl_rd, marks_get _ _ _ (by omega)]
      refine Wp.pos rfl ?_
      rw [w64 (x := (i : Int) + 1) (by omega) (by omega), w64 (x := a + (i : Int) + 1) (by omega) (by omega)]
      have := ih (i + 1) (by omega)
      rw [show a + ((i + 1 : Nat) : Int) = a + (i : Int) + 1 by omega] at this
      exact this
  have := key n 0 (by omega)
  simpa using this
end Go.Proofs.Ytcmkijmjafgkfaa.P
namespace Go.Proofs.Ytcmkijmjafgkfaa.P
open Go.RowKit Go.Proofs.YtcmkijmjafgkfaaW.PrintWords Go.Proofs.YtcmkijmjafgkfaaW.PrintLast Go.Proofs.YtcmkijmjafgkfaaW.PrintMore Go.Proofs.Ytcmkijmjafgkfaa.Wp
set_option linter.unusedVariables false
set_option linter.unusedSimpArgs false
theorem w_min (l : List Int) (hl : l.length ≤ 1000000000) (h : 0 < l.length) : Wp (fun k => slices_Min_int_int.f k l) (fun r => r ∈ l ∧ ∀ x ∈ l, r ≤ x) := by
  unfold slices_Min_int_int.f
  have key : ∀ d (i : Nat) (m : Int), i + d = l.length → m ∈ l → (∀ j, j < i → m ≤ l.getD j 0) → Wp (fun k => slices_Min_int_int.l0 k l m i) (fun r => r ∈ l ∧ ∀ x ∈ l, r ≤ x) := by
    intro d
    induction d with
    | zero =>
      intro i m hd hm h
      refine Wp.step (fun k => slices_Min_int_int.l0.eq_2 ..) (Wp.neg (by omega) (Wp.ret ⟨hm, fun x hx => ?_⟩))
      obtain ⟨j, hj, rfl⟩ := List.getElem_of_mem hx
      have := h j (by omega)
      simpa [List.getD_eq_getElem?_getD, List.getElem?_eq_getElem hj] using this
    | succ d ih =>
      intro i m hd hm h
      refine Wp.step (fun k => slices_Min_int_int.l0.eq_2 ..) (Wp.pos (by omega) (Wp.pos (by omega) ?_))
      rw [w64 (x := (i : Int) + 1) (by omega) (by omega), bl_rd]
      have hmem : l.getD i 0 ∈ l := by rw [← bl_rd, bl_rd_lt l i (by omega)]; exact List.getElem_mem _
      refine ih (i + 1) _ (by omega) ?_ fun j hj => ?_
      · unfold mn
        split
        · exact hmem
        · exact hm
      · have h1 : mn m (l.getD i 0) ≤ m ∧ mn m (l.getD i 0) ≤ l.getD i 0 := by unfold mn; split <;> omega
        by_cases e : j = i
        · rw [e]; exact h1.2
        · exact Int.le_trans h1.1 (h j (by omega))
  refine Wp.neg (by omega) (Wp.pos (by omega) ?_)
  have e0 : rd l 0 = l[0] := bl_rd_lt l 0 h
  rw [e0]
  refine key (l.length - 1) 1 _ (by omega) (List.getElem_mem _) fun j hj => ?_
  have : j = 0 := by omega
  subst this
  simp [List.getD_eq_getElem?_getD, List.getElem?_eq_getElem h]
theorem w_max (l : List Int) (hl : l.length ≤ 1000000000) (h : 0 < l.length) : Wp (fun k => slices_Max_int_int.f k l) (fun r => r ∈ l ∧ ∀ x ∈ l, x ≤ r) := by
  unfold slices_Max_int_int.f
  have key : ∀ d (i : Nat) (m : Int), i + d = l.length → m ∈ l → (∀ j, j < i → l.getD j 0 ≤ m) → Wp (fun k => slices_Max_int_int.l0 k l m i) (fun r => r ∈ l ∧ ∀ x ∈ l, x ≤ r) := by
    intro d
    induction d with
    | zero =>
      intro i m hd hm h
      refine Wp.step (fun k => slices_Max_int_int.l0.eq_2 ..) (Wp.neg (by omega) (Wp.ret ⟨hm, fun x hx => ?_⟩))
      obtain ⟨j, hj, rfl⟩ := List.getElem_of_mem hx
      have := h j (by omega)
      simpa [List.getD_eq_getElem?_getD, List.getElem?_eq_getElem hj] using this
    | succ d ih =>
      intro i m hd hm h
      refine Wp.step (fun k => slices_Max_int_int.l0.eq_2 ..) (Wp.pos (by omega) (Wp.pos (by omega) ?_))
      rw [w64 (x := (i : Int) + 1) (by omega) (by omega), bl_rd]
      have hmem : l.getD i 0 ∈ l := by rw [← bl_rd, bl_rd_lt l i (by omega)]; exact List.getElem_mem _
      refine ih (i + 1) _ (by omega) ?_ fun j hj => ?_
      · unfold mx
        split
        · exact hmem
        · exact hm
      · have h1 : m ≤ mx m (l.getD i 0) ∧ l.getD i 0 ≤ mx m (l.getD i 0) := by unfold mx; split <;> omega
        by_cases e : j = i
        · rw [e]; exact h1.2
        · exact Int.le_trans (h j (by omega)) h1.1
  refine Wp.neg (by omega) (Wp.pos (by omega) ?_)
  have e0 : rd l 0 = l[0] := bl_rd_lt l 0 h
  rw [e0]
  refine key (l.length - 1) 1 _ (by omega) (List.getElem_mem _) fun j hj => ?_
  have : j = 0 := by omega
  subst this
  simp [List.getD_eq_getElem?_getD, List.getElem?_eq_getElem h]
def p2 (n : Nat) : Int := ((2 ^ n : Nat) : Int)
theorem p2_pos (n : Nat) : 1 ≤ p2 n := by
  unfold p2
  have : 0 < 2 ^ n := Nat.pow_pos (by omega)
  omega
theorem p2_succ (n : Nat) : p2 (n + 1) = 2 * p2 n := by
  unfold p2
  rw [Nat.pow_succ]
  omega
theorem p2_add (a b : Nat) : p2 (a + b) = p2 a * p2 b := by
  unfold p2
  rw [Nat.pow_add, Int.natCast_mul]
theorem p2_mono {a b : Nat} (h : a ≤ b) : p2 a ≤ p2 b := by
  unfold p2
  have := Nat.pow_le_pow_right (n := 2) (by omega) h
  omega
theorem p2_16 : p2 16 = 65536 := by decide
theorem shl_p2 (x : Int) (n : Nat) (hn : n ≤ 20) (h0 : 0 ≤ x) (h1 : x ≤ 1000000000) : shl .i64 x (n : Int) = x * p2 n := by
  unfold shl
  have e : min ((n : Int).toNat) IntKind.i64.bits = n := by
    rw [Int.toNat_natCast]
    exact Nat.min_eq_left (by show n ≤ 64; omega)
  rw [e, show (2 : Int) ^ n = p2 n by unfold p2; rw [Int.natCast_pow]; rfl]
  have h2 : p2 n ≤ p2 20 := p2_mono hn
  have h20 : p2 20 = 1048576 := by decide
  have hp := p2_pos n
  have m0 : 0 ≤ x * p2 n := Int.mul_nonneg h0 (by omega)
  have m1 : x * p2 n ≤ 1000000000 * 1048576 := Int.mul_le_mul h1 (by omega) (by omega) (by omega)
  exact (i64_w _).trans (w64 (by omega) (by omega))
theorem shr_p2 (x : Int) (n : Nat) (hn : n ≤ 60) : shr .i64 x (n : Int) = x / p2 n := by
  unfold shr
  have e : min ((n : Int).toNat) IntKind.i64.bits = n := by
    rw [Int.toNat_natCast]
    exact Nat.min_eq_left (by show n ≤ 64; omega)
  rw [e, show (2 : Int) ^ n = p2 n by unfold p2; rw [Int.natCast_pow]; rfl]
end Go.Proofs.Ytcmkijmjafgkfaa.P
namespace Go.Proofs.Ytcmkijmjafgkfaa.P
open Go.RowKit Go.Proofs.YtcmkijmjafgkfaaW.PrintWords Go.Proofs.YtcmkijmjafgkfaaW.PrintLast Go.Proofs.YtcmkijmjafgkfaaW.PrintMore Go.Proofs.Ytcmkijmjafgkfaa.Wp
set_option linter.unusedVariables false
set_option linter.unusedSimpArgs false
def cnStep (l : List Int) (n : Int) (s : List Int × Int) (i : Nat) : List Int × Int := if l.getD i 0 = n then (s.1.set i s.2, s.2 + 1) else s
def cnRow (l : List Int) (n : Int) (s : List Int × Int) : Nat → List Int × Int
  | 0 => s
  | i + 1 => cnStep l n (cnRow l n s i) i
def cnAll (l : List Int) : Nat → List Int × Int
  | 0 => (List.replicate l.length 0, 0)
  | n + 1 => cnRow l ((n : Int) + 1) ((cnAll l n).1, 2 * (cnAll l n).2) l.length
def cnOf (l : List Int) : List Int := (cnAll l 16).1
theorem cnStep_len (l : List Int) (n : Int) (s : List Int × Int) (i : Nat) : (cnStep l n s i).1.length = s.1.length := by
  unfold cnStep
  split <;> simp
theorem cnRow_len (l : List Int) (n : Int) (s : List Int × Int) (i : Nat) : (cnRow l n s i).1.length = s.1.length := by
  induction i with
  | zero => rfl
  | succ i ih => exact (cnStep_len l n _ i).trans ih
theorem cnAll_len (l : List Int) (n : Nat) : (cnAll l n).1.length = l.length := by
  induction n with
  | zero => simp [cnAll]
  | succ n ih => exact (cnRow_len l _ _ _).trans ih
theorem cnOf_len (l : List Int) : (cnOf l).length = l.length := cnAll_len l 16
theorem cnRow_next (l : List Int) (n : Int) (s : List Int × Int) (i : Nat) : s.2 ≤ (cnRow l n s i).2 ∧ (cnRow l n s i).2 ≤ s.2 + i := by
  induction i with
  | zero => exact ⟨Int.le_refl _, by show s.2 ≤ s.2 + ((0 : Nat) : Int); omega⟩
  | succ i ih =>
    have : (cnRow l n s i).2 ≤ (cnStep l n (cnRow l n s i) i).2 ∧ (cnStep l n (cnRow l n s i) i).2 ≤ (cnRow l n s i).2 + 1 := by
      unfold cnStep
      split <;> (try simp only) <;> omega
    show s.2 ≤ (cnStep l n (cnRow l n s i) i).2 ∧ (cnStep l n (cnRow l n s i) i).2 ≤ s.2 + ((i + 1 : Nat) : Int)
    omega
theorem cnAll_next (l : List Int) (hl : l.length ≤ 16) (n : Nat) : 0 ≤ (cnAll l n).2 ∧ (cnAll l n).2 ≤ 16 * p2 n - 16 := by
  induction n with
  | zero => exact ⟨Int.le_refl _, by show (0 : Int) ≤ 16 * p2 0 - 16; decide⟩
  | succ n ih =>
    have h := cnRow_next l ((n : Int) + 1) ((cnAll l n).1, 2 * (cnAll l n).2) l.length
    try simp only at h
    rw [p2_succ]
    show 0 ≤ (cnRow l ((n : Int) + 1) ((cnAll l n).1, 2 * (cnAll l n).2) l.length).2 ∧ _ ≤ _
    constructor
    · omega
    · show (cnRow l ((n : Int) + 1) ((cnAll l n).1, 2 * (cnAll l n).2) l.length).2 ≤ _
      omega
theorem cnAll_small (l : List Int) (hl : l.length ≤ 16) (n : Nat) (hn : n ≤ 16) : 0 ≤ (cnAll l n).2 ∧ (cnAll l n).2 ≤ 1048576 := by
  have h := cnAll_next l hl n
  have := p2_mono hn
  rw [p2_16] at this
  omega
theorem w_sCanon (l : List Int) (hl : l.length ≤ 16) : Wp (fun k => spec_canonicalCodes.f k l) (fun r => r = cnOf l) := by
  unfold spec_canonicalCodes.f
  refine Wp.pos (by omega) (Wp.pos (by omega) ?_)
  have row : ∀ (n : Nat), n < 16 → Wp (fun k => spec_canonicalCodes.l0 k l (cnAll l (n + 1)).1 (cnAll l (n + 1)).2 ((n : Int) + 1 + 1)) (fun r => r = cnOf l) → ∀ d (i : Nat), i + d = l.length →
      Wp (fun k => spec_canonicalCodes.l1 k l (cnRow l ((n : Int) + 1) ((cnAll l n).1, 2 * (cnAll l n).2) i).1 (cnRow l ((n : Int) + 1) ((cnAll l n).1, 2 * (cnAll l n).2) i).2 ((n : Int) + 1) i) (fun r => r = cnOf l) := by
    intro n hn next d
    induction d with
    | zero =>
      intro i hd
      refine Wp.step (fun k => spec_canonicalCodes.l1.eq_2 ..) (Wp.neg (by omega) ?_)
      rw [w64 (x := (n : Int) + 1 + 1) (by omega) (by omega)]
      have : i = l.length := by omega
      subst this
      exact next
    | succ d ih =>
      intro i hd
      have h := ih (i + 1) (by omega)
      have hb := cnRow_next l ((n : Int) + 1) ((cnAll l n).1, 2 * (cnAll l n).2) i
      have hs := cnAll_small l hl n (by omega)
      have hlen := (cnRow_len l ((n : Int) + 1) ((cnAll l n).1, 2 * (cnAll l n).2) i).trans (cnAll_len l n)
      try simp only at hb
      refine Wp.step (fun k => spec_canonicalCodes.l1.eq_2 ..) (Wp.pos (by omega) (Wp.pos (by omega) ?_))
      rw [bl_rd, w64 (x := (i : Int) + 1) (by omega) (by omega), w64 (x := _ + 1) (by omega) (by omega)]
      refine Wp.ite (fun h1 => Wp.pos (by omega) ?_) (fun h1 => ?_)
      · rw [show cnRow l ((n : Int) + 1) ((cnAll l n).1, 2 * (cnAll l n).2) (i + 1) = (((cnRow l ((n : Int) + 1) ((cnAll l n).1, 2 * (cnAll l n).2) i).1.set i (cnRow l ((n : Int) + 1) ((cnAll l n).1, 2 * (cnAll l n).2) i).2), (cnRow l ((n : Int) + 1) ((cnAll l n).1, 2 * (cnAll l n).2) i).2 + 1) from if_pos h1] at h
        exact h
      · rw [show cnRow l ((n : Int) + 1) ((cnAll l n).1, 2 * (cnAll l n).2) (i + 1) = cnRow l ((n : Int) + 1) ((cnAll l n).1, 2 * (cnAll l n).2) i from if_neg h1] at h
        exact h
  have key : ∀ d (n : Nat), n + d = 16 → Wp (fun k => spec_canonicalCodes.l0 k l (cnAll l n).1 (cnAll l n).2 ((n : Int) + 1)) (fun r => r = cnOf l) := by
    intro d
    induction d with
    | zero =>
      intro n hd
      refine Wp.step (fun k => spec_canonicalCodes.l0.eq_2 ..) (Wp.neg (by omega) (Wp.ret ?_))
      have : n = 16 := by omega
      subst this
      rfl
    | succ d ih =>
      intro n hd
      have hs := cnAll_small l hl n (by omega)
      refine Wp.step (fun k => spec_canonicalCodes.l0.eq_2 ..) (Wp.pos (by omega) ?_)
      rw [w64 (x := 2 * _) (by omega) (by omega)]
      exact row n (by omega) (ih (n + 1) (by omega)) l.length 0 (by omega)
  exact key 16 0 (by omega)
def kw (x : Int) : Int := if 0 < x then p2 (16 - x).toNat else 0
def kr (l : List Int) : Int := (l.map kw).sum
theorem kr_take (l : List Int) (i : Nat) (h : i < l.length) : kr (l.take (i + 1)) = kr (l.take i) + kw (l.getD i 0) := by
  unfold kr
  rw [List.take_succ_eq_append_getElem h, List.map_append, List.sum_append]
  simp [List.getD_eq_getElem?_getD, List.getElem?_eq_getElem h]
theorem kw_range (x : Int) (h : 0 ≤ x) : 0 ≤ kw x ∧ kw x ≤ 65536 := by
  unfold kw
  split
  · have h1 := p2_pos (16 - x).toNat
    have h2 := p2_mono (show (16 - x).toNat ≤ 16 by omega)
    rw [p2_16] at h2
    omega
  · omega
theorem kr_range (l : List Int) (h : ∀ x ∈ l, 0 ≤ x) : 0 ≤ kr l ∧ kr l ≤ 65536 * l.length := by
  induction l with
  | nil => exact ⟨Int.le_refl _, by simp [kr]⟩
  | cons x l ih =>
    have h1 := kw_range x (h x (List.mem_cons_self ..))
    have h2 := ih fun y hy => h y (List.mem_cons_of_mem _ hy)
    have e : kr (x :: l) = kw x + kr l := by simp [kr]
    rw [e, List.length_cons]
    omega
def all16 (l : List Int) : Bool := l.all fun n => decide (0 ≤ n ∧ n ≤ 16)
theorem all16_mem {l : List Int} (h : all16 l = true) : ∀ x ∈ l, 0 ≤ x ∧ x ≤ 16 := fun x hx => of_decide_eq_true (List.all_eq_true.1 h x hx)
theorem all16_get {l : List Int} (h : all16 l = true) (i : Nat) : 0 ≤ l.getD i 0 ∧ l.getD i 0 ≤ 16 := by
  rcases Nat.lt_or_ge i l.length with hi | hi
  · have := all16_mem h l[i] (List.getElem_mem hi)
    simpa [List.getD_eq_getElem?_getD, List.getElem?_eq_getElem hi] using this
  · simp [List.getD_eq_getElem?_getD, List.getElem?_eq_none hi]
def VL (l : List Int) : Prop := (1 ≤ l.length ∧ l.length ≤ 16) ∧ all16 l = true ∧ kr l ≤ 65536
instance (l : List Int) : Decidable (VL l) := inferInstanceAs (Decidable (_ ∧ _ ∧ _))
theorem w_kraft (l : List Int) (hl : l.length ≤ 16) (ha : all16 l = true) : Wp (fun k => spec_kraft.f k l) (fun r => r = kr l) := by
  unfold spec_kraft.f
  have key : ∀ d (i : Nat), i + d = l.length → Wp (fun k => spec_kraft.l0 k l (kr (l.take i)) i) (fun r => r = kr l) := by
    intro d
    induction d with
    | zero =>
      intro i hd
      refine Wp.step (fun k => spec_kraft.l0.eq_2 ..) (Wp.neg (by omega) (Wp.ret ?_))
      rw [List.take_of_length_le (by omega)]
    | succ d ih =>
      intro i hd
      have h := ih (i + 1) (by omega)
      have hr := all16_get ha i
      have hk := kr_range (l.take i) fun x hx => (all16_mem ha x (List.mem_of_mem_take hx)).1
      rw [List.length_take] at hk
      rw [kr_take l i (by omega)] at h
      refine Wp.step (fun k => spec_kraft.l0.eq_2 ..) (Wp.pos (by omega) (Wp.pos (by omega) ?_))
      rw [bl_rd, w64 (x := (i : Int) + 1) (by omega) (by omega), w64 (x := 16 - _) (by omega) (by omega)]
      have hkw := kw_range (l.getD i 0) hr.1
      refine Wp.ite (fun h1 => Wp.pos (by omega) ?_) (fun h1 => ?_)
      · have e : shl .i64 1 (16 - l.getD i 0) = kw (l.getD i 0) := by
          have := shl_p2 1 (16 - l.getD i 0).toNat (by omega) (by omega) (by omega)
          rw [Int.toNat_of_nonneg (by omega), Int.one_mul] at this
          rw [this]
          unfold kw
          rw [if_pos h1]
        rw [e, w64 (x := kr (l.take i) + _) (by omega) (by omega)]
        exact h
      · rw [show kw (l.getD i 0) = 0 from if_neg h1, Int.add_zero] at h
        exact h
  exact key l.length 0 (by omega)
theorem w_validLengths (l : List Int) (hl : l.length ≤ 1000000000) : Wp (fun k => spec_validLengths.f k l) (fun r => r = decide (VL l)) := by
  unfold spec_validLengths.f
  refine Wp.call (w_inRange0 _ _ _) ?_
  rintro _ rfl
  refine Wp.ite (fun h => ?_) (fun h => Wp.ret (decide_eq_false fun e => h (decide_eq_true ⟨by have := e.1.1; omega, by have := e.1.2; omega⟩)).symm)
  have h := of_decide_eq_true h
  refine Wp.call (w_allIn l 0 16 hl) ?_
  rintro _ rfl
  refine Wp.ite (fun ha => ?_) (fun ha => Wp.ret (decide_eq_false fun e => ha e.2.1).symm)
  refine Wp.call (w_kraft l (by omega) ha) ?_
  rintro _ rfl
  refine Wp.ret ?_
  by_cases hk : kr l ≤ 65536
  · rw [decide_eq_true hk, decide_eq_true (show VL l from ⟨by omega, ha, hk⟩)]
  · rw [decide_eq_false hk, decide_eq_false (show ¬ VL l from fun e => hk e.2.2)]
theorem w_canonical (l : List Int) (hl : l.length ≤ 1000000000) : Wp (fun k => impl_canonical.f k l) (fun r => r = if VL l then (cnOf l, true) else ([], false)) := by
  unfold impl_canonical.f
  have bad : ¬ VL l → Wp (fun k => impl_canonical.j0 k l true) (fun r => r = if VL l then (cnOf l, true) else ([], false)) := fun h =>
    Wp.step (fun k => impl_canonical.j0.eq_2 ..) (Wp.pos rfl (Wp.ret (if_neg h).symm))
  refine Wp.ite (fun h => bad fun e => by have := e.1.1; omega) (fun h0 => ?_)
  refine Wp.ite (fun h => bad fun e => by have := e.1.2; omega) (fun h1 => ?_)
  refine Wp.call (w_min l hl (by omega)) ?_
  rintro a ⟨ha, ha'⟩
  refine Wp.ite (fun h => bad fun e => by have := (all16_mem e.2.1 a ha).1; omega) (fun h2 => ?_)
  refine Wp.call (w_max l hl (by omega)) ?_
  rintro b ⟨hb, hb'⟩
  by_cases hb16 : b > 16
  · rw [decide_eq_true hb16]
    exact bad fun e => by have := (all16_mem e.2.1 b hb).2; omega
  · rw [decide_eq_false hb16]
    have h16 : all16 l = true := List.all_eq_true.2 fun x hx => decide_eq_true ⟨by have := ha' x hx; omega, by have := hb' x hx; omega⟩
    refine Wp.step (fun k => impl_canonical.j0.eq_2 ..) (Wp.neg (by decide) ?_)
    have fin : Wp (fun k => impl_canonical.l0 k l (kr l) l l.length (l.length : Nat)) (fun r => r = if VL l then (cnOf l, true) else ([], false)) := by
      refine Wp.step (fun k => impl_canonical.l0.eq_2 ..) (Wp.neg (by omega) ?_)
      refine Wp.ite (fun hk => Wp.ret (if_neg fun e => by have := e.2.2; omega).symm) (fun hk => ?_)
      rw [if_pos (show VL l from ⟨by omega, h16, by omega⟩)]
      refine Wp.pos (by omega) (Wp.pos (by omega) ?_)
      have row : ∀ (n : Nat), n < 16 → Wp (fun k => impl_canonical.l1 k l (cnAll l (n + 1)).1 (cnAll l (n + 1)).2 ((n : Int) + 1 + 1)) (fun r => r = (cnOf l, true)) → ∀ d (i : Nat), i + d = l.length →
          Wp (fun k => impl_canonical.l2 k l (cnRow l ((n : Int) + 1) ((cnAll l n).1, 2 * (cnAll l n).2) i).1 (cnRow l ((n : Int) + 1) ((cnAll l n).1, 2 * (cnAll l n).2) i).2 ((n : Int) + 1) l l.length i) (fun r => r = (cnOf l, true)) := by
        intro n hn next d
        induction d with
        | zero =>
          intro i hd
          refine Wp.step (fun k => impl_canonical.l2.eq_2 ..) (Wp.neg (by omega) ?_)
          rw [w64 (x := (n : Int) + 1 + 1) (by omega) (by omega)]
          have : i = l.length := by omega
          subst this
          exact next
        | succ d ih =>
          intro i hd
          have h := ih (i + 1) (by omega)
          have hb := cnRow_next l ((n : Int) + 1) ((cnAll l n).1, 2 * (cnAll l n).2) i
          have hs := cnAll_small l (by omega) n (by omega)
          have hlen := (cnRow_len l ((n : Int) + 1) ((cnAll l n).1, 2 * (cnAll l n).2) i).trans (cnAll_len l n)
          try simp only at hb
          refine Wp.step (fun k => impl_canonical.l2.eq_2 ..) (Wp.pos (by omega) (Wp.pos (by omega) (Wp.pos (by omega) ?_)))
          rw [bl_rd, w64 (x := (i : Int) + 1) (by omega) (by omega), w64 (x := _ + 1) (by omega) (by omega)]
          refine Wp.ite (fun h1 => Wp.pos (by omega) ?_) (fun h1 => ?_)
          · rw [show cnRow l ((n : Int) + 1) ((cnAll l n).1, 2 * (cnAll l n).2) (i + 1) = (((cnRow l ((n : Int) + 1) ((cnAll l n).1, 2 * (cnAll l n).2) i).1.set i (cnRow l ((n : Int) + 1) ((cnAll l n).1, 2 * (cnAll l n).2) i).2), (cnRow l ((n : Int) + 1) ((cnAll l n).1, 2 * (cnAll l n).2) i).2 + 1) from if_pos h1] at h
            exact h
          · rw [show cnRow l ((n : Int) + 1) ((cnAll l n).1, 2 * (cnAll l n).2) (i + 1) = cnRow l ((n : Int) + 1) ((cnAll l n).1, 2 * (cnAll l n).2) i from if_neg h1] at h
            exact h
      have key : ∀ d (n : Nat), n + d = 16 → Wp (fun k => impl_canonical.l1 k l (cnAll l n).1 (cnAll l n).2 ((n : Int) + 1)) (fun r => r = (cnOf l, true)) := by
        intro d
        induction d with
        | zero =>
          intro n hd
          refine Wp.step (fun k => impl_canonical.l1.eq_2 ..) (Wp.neg (by omega) (Wp.ret ?_))
          have : n = 16 := by omega
          subst this
          rfl
        | succ d ih =>
          intro n hd
          have hs := cnAll_small l (by omega) n (by omega)
          refine Wp.step (fun k => impl_canonical.l1.eq_2 ..) (Wp.pos (by omega) ?_)
          rw [Int.mul_comm _ 2, w64 (x := 2 * _) (by omega) (by omega)]
          exact row n (by omega) (ih (n + 1) (by omega)) l.length 0 (by omega)
      exact key 16 0 (by omega)
    have key : ∀ d (i : Nat), i + d = l.length → Wp (fun k => impl_canonical.l0 k l (kr (l.take i)) l l.length i) (fun r => r = if VL l then (cnOf l, true) else ([], false)) := by
      intro d
      induction d with
      | zero =>
        intro i hd
        have : i = l.length := by omega
        subst this
        rw [List.take_length]
        exact fin
      | succ d ih =>
        intro i hd
        have h := ih (i + 1) (by omega)
        have hr := all16_get h16 i
        have hk := kr_range (l.take i) fun x hx => (all16_mem h16 x (List.mem_of_mem_take hx)).1
        rw [List.length_take] at hk
        rw [kr_take l i (by omega)] at h
        refine Wp.step (fun k => impl_canonical.l0.eq_2 ..) (Wp.pos (by omega) (Wp.pos (by omega) (Wp.pos (by omega) ?_)))
        rw [bl_rd, w64 (x := (i : Int) + 1) (by omega) (by omega), w64 (x := 16 - _) (by omega) (by omega)]
        have hkw := kw_range (l.getD i 0) hr.1
        refine Wp.ite (fun h1 => Wp.pos (by omega) ?_) (fun h1 => ?_)
        · have e : shl .i64 1 (16 - l.getD i 0) = kw (l.getD i 0) := by
            have := shl_p2 1 (16 - l.getD i 0).toNat (by omega) (by omega) (by omega)
            rw [Int.toNat_of_nonneg (by omega), Int.one_mul] at this
            rw [this]
            unfold kw
            rw [if_pos h1]
          rw [e, w64 (x := kr (l.take i) + _) (by omega) (by omega)]
          exact h
        · rw [show kw (l.getD i 0) = 0 from if_neg h1, Int.add_zero] at h
          exact h
    exact key l.length 0 (by omega)
end Go.Proofs.Ytcmkijmjafgkfaa.P
namespace Go.Proofs.Ytcmkijmjafgkfaa.P
open Go.RowKit Go.Proofs.YtcmkijmjafgkfaaW.PrintWords Go.Proofs.YtcmkijmjafgkfaaW.PrintLast Go.Proofs.YtcmkijmjafgkfaaW.PrintMore Go.Proofs.Ytcmkijmjafgkfaa.Wp
set_option linter.unusedVariables false
set_option linter.unusedSimpArgs false
def CnOk (c : List Int) : Prop := ∀ x ∈ c, 0 ≤ x ∧ x ≤ 1048592
theorem cnRow_ok (l : List Int) (n : Int) (s : List Int × Int) (i : Nat) (hi : i ≤ 16) (h : CnOk s.1) (h0 : 0 ≤ s.2) (h1 : s.2 ≤ 1048576) : CnOk (cnRow l n s i).1 := by
  induction i with
  | zero => exact h
  | succ i ih =>
    have hb := cnRow_next l n s i
    show CnOk (cnStep l n (cnRow l n s i) i).1
    unfold cnStep
    split
    · intro x hx
      rcases List.mem_or_eq_of_mem_set hx with h2 | h2
      · exact ih (by omega) x h2
      · rw [h2]; omega
    · exact ih (by omega)
theorem cnAll_ok (l : List Int) (hl : l.length ≤ 16) (n : Nat) (hn : n ≤ 16) : CnOk (cnAll l n).1 := by
  induction n with
  | zero => intro x hx; rw [List.eq_of_mem_replicate hx]; omega
  | succ n ih =>
    have h1 := cnAll_next l hl n
    have h2 := p2_mono (show n ≤ 15 by omega)
    have h3 : p2 15 = 32768 := by decide
    exact cnRow_ok l _ _ _ hl (ih (by omega)) (by show 0 ≤ 2 * (cnAll l n).2; omega) (by show 2 * (cnAll l n).2 ≤ 1048576; omega)
theorem cnOf_get (l : List Int) (hl : l.length ≤ 16) (i : Nat) : 0 ≤ (cnOf l).getD i 0 ∧ (cnOf l).getD i 0 ≤ 1048592 := by
  rcases Nat.lt_or_ge i (cnOf l).length with h | h
  · have := cnAll_ok l hl 16 (by omega) _ (List.getElem_mem h)
    simpa [List.getD_eq_getElem?_getD, List.getElem?_eq_getElem h] using this
  · simp [List.getD_eq_getElem?_getD, List.getElem?_eq_none h]
def digs (c : Int) : Nat → List Int
  | 0 => []
  | n + 1 => (48 + c / p2 n % 2) :: digs c n
theorem digs_len (c : Int) (n : Nat) : (digs c n).length = n := by
  induction n with
  | zero => rfl
  | succ n ih => simp [digs, ih]
theorem half_range (c : Int) (n : Nat) (h0 : 0 ≤ c) (h1 : c ≤ 1048592) : 0 ≤ c / p2 n ∧ c / p2 n ≤ 1048592 := by
  have hp := p2_pos n
  exact ⟨Int.ediv_nonneg h0 (by omega), Int.le_trans (Int.ediv_le_self _ h0) h1⟩
theorem w_digits (c : Int) (n : Nat) (hn : n ≤ 16) (h0 : 0 ≤ c) (h1 : c ≤ 1048592) : Wp (fun k => spec_digits.f k c n) (fun r => r = strOfNums (digs c n)) := by
  unfold spec_digits.f
  have key : ∀ (n : Nat) (a : List Int), n ≤ 16 → a.length ≤ 1000 - n → Wp (fun k => spec_digits.l0 k c a ((n : Int) - 1)) (fun r => r = strOfNums (a ++ digs c n)) := by
    intro n
    induction n with
    | zero =>
      intro a _ _
      refine Wp.step (fun k => spec_digits.l0.eq_2 ..) (Wp.neg (by omega) (Wp.ret ?_))
      simp [digs]
    | succ n ih =>
      intro a hn ha
      have h := ih (a ++ [48 + c / p2 n % 2]) (by omega) (by rw [List.length_append]; simp; omega)
      rw [List.append_assoc] at h
      have hr := half_range c n h0 h1
      refine Wp.step (fun k => spec_digits.l0.eq_2 ..) (Wp.pos (by omega) (Wp.pos (by omega) (Wp.pos (by omega) ?_)))
      rw [show ((n + 1 : Nat) : Int) - 1 = (n : Int) by omega, w64 (x := (n : Int) - 1) (by omega) (by omega), shr_p2 c n (by omega), Int.tmod_eq_emod_of_nonneg hr.1, w64 (x := 48 + _) (by omega) (by omega),
        show (48 + c / p2 n % 2) % 256 = 48 + c / p2 n % 2 by omega]
      exact h
  rw [w64 (x := (n : Int) - 1) (by omega) (by omega)]
  exact key n [] hn (by simp)
end Go.Proofs.Ytcmkijmjafgkfaa.P
namespace Go.Proofs.Ytcmkijmjafgkfaa.P
open Go.RowKit Go.Proofs.YtcmkijmjafgkfaaW.PrintWords Go.Proofs.YtcmkijmjafgkfaaW.PrintLast Go.Proofs.YtcmkijmjafgkfaaW.PrintMore Go.Proofs.Ytcmkijmjafgkfaa.Wp
set_option linter.unusedVariables false
set_option linter.unusedSimpArgs false
def Proc (l : List Int) (n : Int) (i a : Nat) : Prop := a < l.length ∧ 0 < l.getD a 0 ∧ (l.getD a 0 < n ∨ l.getD a 0 = n ∧ a < i)
def Bef (l : List Int) (a b : Nat) : Prop := l.getD a 0 < l.getD b 0 ∨ l.getD a 0 = l.getD b 0 ∧ a < b
def CnInv (l : List Int) (n : Int) (i : Nat) (c : List Int) (x : Int) : Prop :=
  (∀ a, Proc l n i a → (c.getD a 0 + 1) * p2 (n - l.getD a 0).toNat ≤ x) ∧ ∀ a b, Proc l n i a → Proc l n i b → Bef l a b → (c.getD a 0 + 1) * p2 (l.getD b 0 - l.getD a 0).toNat ≤ c.getD b 0
theorem p2_0 : p2 0 = 1 := by decide
theorem CnInv.row {l : List Int} {n : Int} {i : Nat} {s : List Int × Int} (h : CnInv l n i s.1 s.2) (hn : 0 < n) (hl : s.1.length = l.length) (hi : i < l.length) : CnInv l n (i + 1) (cnStep l n s i).1 (cnStep l n s i).2 := by
  obtain ⟨h1, h2⟩ := h
  unfold cnStep
  by_cases e : l.getD i 0 = n
  · rw [if_pos e]
    have old : ∀ a, Proc l n (i + 1) a → a ≠ i → Proc l n i a := fun a ⟨p1, p2, p3⟩ hne => ⟨p1, p2, p3.elim .inl fun p => .inr ⟨p.1, by omega⟩⟩
    have get : ∀ a, (s.1.set i s.2).getD a 0 = if a = i then s.2 else s.1.getD a 0 := fun a => bl_set _ _ (by omega)
    refine ⟨fun a ha => ?_, fun a b ha hb hab => ?_⟩
    · simp only [get]
      by_cases hai : a = i
      · subst hai
        rw [if_pos rfl, e, show (n - n).toNat = 0 by omega, p2_0]
        omega
      · rw [if_neg hai]
        have := h1 a (old a ha hai)
        omega
    · simp only [get]
      by_cases hbi : b = i
      · subst hbi
        by_cases hai : a = b
        · subst hai
          rcases hab with h | h <;> omega
        · rw [if_neg hai, if_pos rfl, e]
          exact h1 a (old a ha hai)
      · by_cases hai : a = i
        · subst hai
          obtain ⟨q1, q2, q3⟩ := hb
          rcases hab with h | h <;> rcases q3 with h' | h' <;> omega
        · rw [if_neg hai, if_neg hbi]
          exact h2 a b (old a ha hai) (old b hb hbi) hab
  · rw [if_neg e]
    have old : ∀ a, Proc l n (i + 1) a → Proc l n i a := fun a ⟨p1, p2, p3⟩ => ⟨p1, p2, p3.elim .inl fun p => .inr ⟨p.1, by
      rcases Nat.lt_or_ge a i with h | h
      · exact h
      · have : a = i := by omega
        subst this
        exact absurd p.1 e⟩⟩
    exact ⟨fun a ha => h1 a (old a ha), fun a b ha hb => h2 a b (old a ha) (old b hb)⟩
theorem cnAll_inv (l : List Int) (n : Nat) : CnInv l n l.length (cnAll l n).1 (cnAll l n).2 := by
  induction n with
  | zero =>
    have no : ∀ a, ¬ Proc l ((0 : Nat) : Int) l.length a := fun a ⟨p1, p2, p3⟩ => by rcases p3 with h | h <;> omega
    exact ⟨fun a ha => absurd ha (no a), fun a b ha => absurd ha (no a)⟩
  | succ n ih =>
    obtain ⟨h1, h2⟩ := ih
    have st : CnInv l ((n : Int) + 1) 0 (cnAll l n).1 (2 * (cnAll l n).2) := by
      have old : ∀ a, Proc l ((n : Int) + 1) 0 a → Proc l n l.length a := fun a ⟨p1, p2, p3⟩ => ⟨p1, p2, by omega⟩
      refine ⟨fun a ha => ?_, fun a b ha hb => h2 a b (old a ha) (old b hb)⟩
      have h := h1 a (old a ha)
      have hlt : l.getD a 0 ≤ n := by have := (old a ha).2.2; omega
      rw [show ((n : Int) + 1 - l.getD a 0).toNat = (n - l.getD a 0).toNat + 1 by omega, p2_succ, Int.mul_left_comm]
      omega
    have go : ∀ i, i ≤ l.length → CnInv l ((n : Int) + 1) i (cnRow l ((n : Int) + 1) ((cnAll l n).1, 2 * (cnAll l n).2) i).1 (cnRow l ((n : Int) + 1) ((cnAll l n).1, 2 * (cnAll l n).2) i).2 := by
      intro i hi
      induction i with
      | zero => exact st
      | succ i ih => exact (ih (by omega)).row (by omega) ((cnRow_len l _ _ i).trans (cnAll_len l n)) (by omega)
    exact go l.length (Nat.le_refl _)
theorem cn_before {l : List Int} (h : all16 l = true) {a b : Nat} (ha : a < l.length) (hb : b < l.length) (h0 : 0 < l.getD a 0) (hab : Bef l a b) : ((cnOf l).getD a 0 + 1) * p2 (l.getD b 0 - l.getD a 0).toNat ≤ (cnOf l).getD b 0 := by
  have r1 := all16_get h a
  have r2 := all16_get h b
  refine (cnAll_inv l 16).2 a b ⟨ha, h0, ?_⟩ ⟨hb, ?_, ?_⟩ hab
  · by_cases e : l.getD a 0 = 16
    · exact .inr ⟨e, ha⟩
    · exact .inl (by show l.getD a 0 < (16 : Int); omega)
  · rcases hab with h | h <;> omega
  · by_cases e : l.getD b 0 = 16
    · exact .inr ⟨e, hb⟩
    · exact .inl (by show l.getD b 0 < (16 : Int); omega)
theorem cn_prefix {l : List Int} (h : all16 l = true) {a b : Nat} (ha : a < l.length) (hb : b < l.length) (h0 : 0 < l.getD a 0) (hne : a ≠ b) (hle : l.getD a 0 ≤ l.getD b 0) : (cnOf l).getD b 0 / p2 (l.getD b 0 - l.getD a 0).toNat ≠ (cnOf l).getD a 0 := by
  by_cases hab : Bef l a b
  · have h1 := cn_before h ha hb h0 hab
    have hp := p2_pos (l.getD b 0 - l.getD a 0).toNat
    have := Int.le_ediv_of_mul_le (by omega) h1
    omega
  · have e : l.getD b 0 = l.getD a 0 := by
      rcases Int.lt_or_le (l.getD a 0) (l.getD b 0) with h | h
      · exact absurd (.inl h) hab
      · omega
    have hlt : b < a := by
      rcases Nat.lt_or_ge b a with h | h
      · exact h
      · exact absurd (.inr ⟨e.symm, by omega⟩) hab
    have h1 := cn_before h hb ha (by omega) (.inr ⟨e, hlt⟩)
    rw [e, show (l.getD a 0 - l.getD a 0).toNat = 0 by omega, p2_0] at h1 ⊢
    rw [Int.ediv_one]
    omega
end Go.Proofs.Ytcmkijmjafgkfaa.P
namespace Go.Proofs.Ytcmkijmjafgkfaa.P
open Go.RowKit Go.Proofs.YtcmkijmjafgkfaaW.PrintWords Go.Proofs.YtcmkijmjafgkfaaW.PrintLast Go.Proofs.YtcmkijmjafgkfaaW.PrintMore Go.Proofs.Ytcmkijmjafgkfaa.Wp
set_option linter.unusedVariables false
def cntE (n : Int) (l : List Int) : Int := (l.map fun x => if x = n then (1 : Int) else 0).sum
def kn (n : Int) (l : List Int) : Int := (l.map fun x => if 0 < x ∧ x ≤ n then p2 (n - x).toNat else 0).sum
theorem cntE_take (n : Int) (l : List Int) (i : Nat) (h : i < l.length) : cntE n (l.take (i + 1)) = cntE n (l.take i) + if l.getD i 0 = n then 1 else 0 := by
  unfold cntE
  rw [List.take_succ_eq_append_getElem h, List.map_append, List.sum_append]
  simp [List.getD_eq_getElem?_getD, List.getElem?_eq_getElem h]
theorem cnRow_two (l : List Int) (n : Int) (s : List Int × Int) : ∀ i, i ≤ l.length → (cnRow l n s i).2 = s.2 + cntE n (l.take i)
  | 0, _ => by simp [cnRow, cntE]
  | i + 1, h => by
    have ih := cnRow_two l n s i (by omega)
    rw [cnRow, cnStep, cntE_take n l i (by omega)]
    split
    · show (cnRow l n s i).2 + 1 = _
      rw [ih]
      omega
    · rw [ih]
      omega
theorem kn_succ (n : Nat) (l : List Int) : kn ((n : Int) + 1) l = 2 * kn n l + cntE ((n : Int) + 1) l := by
  unfold kn cntE
  induction l with
  | nil => rfl
  | cons x l ih =>
    simp only [List.map_cons, List.sum_cons]
    rw [ih]
    by_cases h : 0 < x ∧ x ≤ (n : Int)
    · rw [if_pos (⟨h.1, by omega⟩ : 0 < x ∧ x ≤ (n : Int) + 1), if_pos h, if_neg (by omega), show ((n : Int) + 1 - x).toNat = ((n : Int) - x).toNat + 1 by omega, p2_succ]
      omega
    · by_cases h2 : x = (n : Int) + 1
      · rw [if_pos (by omega : 0 < x ∧ x ≤ (n : Int) + 1), if_neg h, if_pos h2, show ((n : Int) + 1 - x).toNat = 0 by omega, p2_0]
        omega
      · rw [if_neg (by omega : ¬ (0 < x ∧ x ≤ (n : Int) + 1)), if_neg h, if_neg h2]
        omega
theorem cnAll_two (l : List Int) : ∀ n : Nat, (cnAll l n).2 = kn n l
  | 0 => by
    unfold kn
    show (0 : Int) = _
    induction l with
    | nil => rfl
    | cons x l ih =>
      simp only [List.map_cons, List.sum_cons]
      rw [← ih, if_neg (by omega)]
      rfl
  | n + 1 => by
    have ih := cnAll_two l n
    rw [cnAll, cnRow_two l _ _ _ (Nat.le_refl _), List.take_length]
    show 2 * (cnAll l n).2 + _ = _
    rw [ih]
    exact (kn_succ n l).symm
theorem kn16 {l : List Int} (h : all16 l = true) : kn ((16 : Nat) : Int) l = kr l := by
  have hm := all16_mem h
  clear h
  unfold kn kr
  induction l with
  | nil => rfl
  | cons x l ih =>
    simp only [List.map_cons, List.sum_cons]
    rw [ih (fun y hy => hm y (List.mem_cons_of_mem _ hy))]
    have hx := hm x List.mem_cons_self
    unfold kw
    by_cases h0 : 0 < x
    · rw [if_pos h0, if_pos (⟨h0, by omega⟩ : 0 < x ∧ x ≤ ((16 : Nat) : Int))]
      rfl
    · rw [if_neg h0, if_neg (by omega)]
theorem cn_bound {l : List Int} (h : VL l) {a : Nat} (ha : a < l.length) (h0 : 0 < l.getD a 0) : (cnOf l).getD a 0 < p2 (l.getD a 0).toNat := by
  obtain ⟨_, h16, hk⟩ := h
  have hr := all16_get h16 a
  have h1 := (cnAll_inv l 16).1 a ⟨ha, h0, by omega⟩
  rw [cnAll_two, kn16 h16] at h1
  have e : p2 (l.getD a 0).toNat * p2 (((16 : Nat) : Int) - l.getD a 0).toNat = 65536 := by
    rw [← p2_add, show (l.getD a 0).toNat + (((16 : Nat) : Int) - l.getD a 0).toNat = 16 by omega]
    rfl
  have hp := p2_pos (((16 : Nat) : Int) - l.getD a 0).toNat
  have h2 : ((cnOf l).getD a 0 + 1) * p2 (((16 : Nat) : Int) - l.getD a 0).toNat ≤ p2 (l.getD a 0).toNat * p2 (((16 : Nat) : Int) - l.getD a 0).toNat := by
    rw [e]
    exact Int.le_trans h1 hk
  have := Int.le_of_mul_le_mul_right h2 (by omega)
  omega
end Go.Proofs.Ytcmkijmjafgkfaa.P
namespace Go.Proofs.Ytcmkijmjafgkfaa.P
open Go.RowKit Go.Proofs.YtcmkijmjafgkfaaW.PrintWords Go.Proofs.YtcmkijmjafgkfaaW.PrintLast Go.Proofs.YtcmkijmjafgkfaaW.PrintMore Go.Proofs.Ytcmkijmjafgkfaa.Wp
set_option linter.unusedVariables false
set_option linter.unusedSimpArgs false
theorem half_div (x : Int) (q : Nat) : x / 2 / p2 q = x / (2 * p2 q) := Int.ediv_ediv_of_nonneg (by omega)
def cv (s : ByteArray) (i : Nat) : Nat → Int
  | 0 => 0
  | j + 1 => 2 * cv s i j + (bt s ((i + j : Nat) : Int) - 48)
def Bits (s : ByteArray) (i j : Nat) : Prop := ∀ t, t < j → bt s ((i + t : Nat) : Int) = 48 ∨ bt s ((i + t : Nat) : Int) = 49
theorem Bits.le {s : ByteArray} {i j j' : Nat} (h : Bits s i j) (hj : j' ≤ j) : Bits s i j' := fun t ht => h t (by omega)
theorem Bits.succ {s : ByteArray} {i j : Nat} (h : Bits s i j) (hb : bt s ((i + j : Nat) : Int) = 48 ∨ bt s ((i + j : Nat) : Int) = 49) : Bits s i (j + 1) := fun t ht => by
  rcases Nat.lt_or_ge t j with h1 | h1
  · exact h t h1
  · have : t = j := by omega
    subst this
    exact hb
theorem cv_range {s : ByteArray} {i : Nat} : ∀ j, Bits s i j → 0 ≤ cv s i j ∧ cv s i j < p2 j
  | 0, _ => ⟨Int.le_refl _, by rw [p2_0]; exact Int.zero_lt_one⟩
  | j + 1, h => by
    have ih := cv_range j (h.le (Nat.le_succ _))
    have hb := h j (Nat.lt_succ_self _)
    rw [cv, p2_succ]
    omega
theorem cv_div {s : ByteArray} {i a : Nat} : ∀ b, Bits s i (a + b) → cv s i (a + b) / p2 b = cv s i a
  | 0, _ => by rw [p2_0]; exact Int.ediv_one _
  | b + 1, h => by
    have ih := cv_div (s := s) (i := i) (a := a) b (h.le (by omega))
    have hb := h (a + b) (by omega)
    rw [← Nat.add_assoc, cv, p2_succ, ← half_div]
    rw [show (2 * cv s i (a + b) + (bt s ((i + (a + b) : Nat) : Int) - 48)) / 2 = cv s i (a + b) by omega]
    exact ih
theorem digs_bits {s : ByteArray} {i : Nat} : ∀ (m : Nat) (c : Int), 0 ≤ c → c < p2 m → ((∀ j, j < m → bt s ((i + j : Nat) : Int) = (digs c m).getD j 0) ↔ Bits s i m ∧ cv s i m = c)
  | 0, c, h0, h1 => by
    have : c = 0 := by rw [p2_0] at h1; omega
    subst this
    exact ⟨fun _ => ⟨fun t ht => absurd ht (Nat.not_lt_zero _), rfl⟩, fun _ j hj => absurd hj (Nat.not_lt_zero _)⟩
  | m + 1, c, h0, h1 => by
    have hg : ∀ (n : Nat) (c : Int) (j : Nat), j < n → (digs c n).getD j 0 = 48 + c / p2 (n - 1 - j) % 2 := by
      intro n
      induction n with
      | zero => intro c j hj; omega
      | succ n ihn =>
        intro c j hj
        cases j with
        | zero => simp [digs]
        | succ j =>
          rw [digs, List.getD_cons_succ, ihn c j (by omega), show n - 1 - j = n + 1 - 1 - (j + 1) by omega]
    rw [p2_succ] at h1
    have ih := digs_bits (s := s) (i := i) m (c / 2) (by omega) (by omega)
    have hd : ∀ j, j < m → (digs c (m + 1)).getD j 0 = (digs (c / 2) m).getD j 0 := fun j hj => by
      rw [hg _ _ _ (by omega), hg _ _ _ hj, show m + 1 - 1 - j = (m - 1 - j) + 1 by omega, p2_succ, ← half_div]
    have hl : (digs c (m + 1)).getD m 0 = 48 + c % 2 := by
      rw [hg _ _ _ (by omega), show m + 1 - 1 - m = 0 by omega, p2_0, Int.ediv_one]
    constructor
    · intro h
      obtain ⟨h2, h3⟩ := ih.1 (fun j hj => (h j (by omega)).trans (hd j hj))
      have h4 := (h m (by omega)).trans hl
      refine ⟨h2.succ (by omega), ?_⟩
      rw [cv, h3, h4]
      omega
    · rintro ⟨h2, h3⟩
      have hb := h2 m (Nat.lt_succ_self _)
      rw [cv] at h3
      have h4 := ih.2 ⟨h2.le (Nat.le_succ _), by omega⟩
      intro j hj
      rcases Nat.lt_or_ge j m with h5 | h5
      · exact (h4 j h5).trans (hd j h5).symm
      · have : j = m := by omega
        subst this
        rw [hl]
        omega
def Mt (l : List Int) (s : ByteArray) (i n : Nat) : Prop := n < l.length ∧ 0 < l.getD n 0 ∧ i + (l.getD n 0).toNat ≤ s.size ∧ Bits s i (l.getD n 0).toNat ∧ cv s i (l.getD n 0).toNat = (cnOf l).getD n 0
theorem Mt.one {l : List Int} (hV : VL l) {s : ByteArray} {i a b : Nat} (ha : Mt l s i a) (hb : Mt l s i b) : a = b := by
  have key : ∀ a b, Mt l s i a → Mt l s i b → l.getD a 0 ≤ l.getD b 0 → a = b := fun a b ha hb hle => by
    refine Classical.byContradiction fun hne => ?_
    obtain ⟨a1, a2, a3, a4, a5⟩ := ha
    obtain ⟨b1, b2, b3, b4, b5⟩ := hb
    refine cn_prefix hV.2.1 a1 b1 a2 hne hle ?_
    rw [← b5, ← a5]
    have e : (l.getD b 0).toNat = (l.getD a 0).toNat + (l.getD b 0 - l.getD a 0).toNat := by omega
    rw [e]
    exact cv_div _ (by rw [← e]; exact b4)
  rcases Int.le_total (l.getD a 0) (l.getD b 0) with h | h
  · exact key a b ha hb h
  · exact (key b a hb ha h).symm
end Go.Proofs.Ytcmkijmjafgkfaa.P
namespace Go.Proofs.Ytcmkijmjafgkfaa.P
open Go.RowKit Go.Proofs.YtcmkijmjafgkfaaW.PrintWords Go.Proofs.YtcmkijmjafgkfaaW.PrintLast Go.Proofs.YtcmkijmjafgkfaaW.PrintMore Go.Proofs.Ytcmkijmjafgkfaa.Wp
set_option linter.unusedVariables false
set_option linter.unusedSimpArgs false
theorem u8_inj : ∀ {a b : List UInt8}, a.map (fun x => (x.toNat : Int)) = b.map (fun x => (x.toNat : Int)) → a = b
  | [], [], _ => rfl
  | [], _ :: _, h => by simp at h
  | _ :: _, [], h => by simp at h
  | x :: a, y :: b, h => by
    simp only [List.map_cons, List.cons.injEq] at h
    have e : x = y := UInt8.toNat_inj.1 (by have := h.1; omega)
    rw [e, u8_inj h.2]
theorem u8_nums : ∀ {x : List Int}, (∀ y ∈ x, 0 ≤ y ∧ y ≤ 255) → (x.map fun n => UInt8.ofNat n.toNat).map (fun b => (b.toNat : Int)) = x
  | [], _ => rfl
  | y :: x, h => by
    rw [List.map_cons, List.map_cons, u8_nums (fun z hz => h z (List.mem_cons_of_mem _ hz))]
    have hy := h y List.mem_cons_self
    have e : ((UInt8.ofNat y.toNat).toNat : Int) = y := by
      rw [UInt8.toNat_ofNat', Nat.mod_eq_of_lt (by omega)]
      omega
    rw [e]
theorem bt_bytes (s : ByteArray) (i : Nat) : bt s (i : Int) = (bytesOf s).getD i 0 := by
  rw [← rd_bytesOf]
  unfold rd
  rw [Int.toNat_natCast]
theorem cut_eq (s : ByteArray) (a m : Nat) (h : a + m ≤ s.size) (x : List Int) (hx : x.length = m) (hb : ∀ y ∈ x, 0 ≤ y ∧ y ≤ 255) : (s.extract a (a + m)).toList = (strOfNums x).toList ↔ ∀ j, j < m → bt s ((a + j : Nat) : Int) = x.getD j 0 := by
  have e1 : (s.extract a (a + m)).toList.map (fun b => (b.toNat : Int)) = ((bytesOf s).drop a).take m := by
    rw [ByteArray.toList_eq, ByteArray.data_extract, Array.toList_extract]
    unfold bytesOf
    rw [List.extract_eq_take_drop]
    rw [show a + m - a = m by omega, ← List.map_drop, ← List.map_take]
  have e2 : (strOfNums x).toList.map (fun b => (b.toNat : Int)) = x := by
    rw [ByteArray.toList_eq]
    unfold strOfNums
    exact u8_nums hb
  have e3 : (s.extract a (a + m)).toList = (strOfNums x).toList ↔ ((bytesOf s).drop a).take m = x := by
    constructor
    · intro e
      rw [← e1, e, e2]
    · intro e
      exact u8_inj (by rw [e1, e2, e])
  rw [e3]
  have hl : (bytesOf s).length = s.size := bytesOf_length s
  constructor
  · intro e j hj
    rw [bt_bytes, ← e]
    simp only [List.getD_eq_getElem?_getD, List.getElem?_take, if_pos hj, List.getElem?_drop]
  · intro e
    refine List.ext_getElem? fun j => ?_
    rcases Nat.lt_or_ge j m with hj | hj
    · have := e j hj
      rw [bt_bytes] at this
      rw [List.getElem?_take, if_pos hj, List.getElem?_drop, List.getElem?_eq_getElem (by omega), List.getElem?_eq_getElem (by omega)]
      simp only [List.getD_eq_getElem?_getD] at this
      rw [List.getElem?_eq_getElem (by omega), List.getElem?_eq_getElem (by omega)] at this
      simpa using this
    · rw [List.getElem?_eq_none (by rw [List.length_take]; omega), List.getElem?_eq_none (by omega)]
theorem digs_byte (c : Int) : ∀ (n : Nat), ∀ y ∈ digs c n, 0 ≤ y ∧ y ≤ 255
  | 0, y, h => absurd h (List.not_mem_nil)
  | n + 1, y, h => by
    rw [digs] at h
    rcases List.mem_cons.1 h with h | h
    · omega
    · exact digs_byte c n y h
instance (l : List Int) (s : ByteArray) (i n : Nat) : Decidable (Mt l s i n) := by
  unfold Mt Bits
  infer_instance
def fm (l : List Int) (s : ByteArray) (i : Nat) : Option Nat := (List.range l.length).find? fun n => decide (Mt l s i n)
theorem fm_none {l : List Int} {s : ByteArray} {i : Nat} (h : ∀ n, ¬ Mt l s i n) : fm l s i = none := List.find?_eq_none.2 (fun n _ => by simp [h n])
theorem fm_some {l : List Int} (hV : VL l) {s : ByteArray} {i n : Nat} (h : Mt l s i n) : fm l s i = some n := by
  unfold fm
  cases e : (List.range l.length).find? fun n => decide (Mt l s i n) with
  | none => exact absurd (decide_eq_true h) (List.find?_eq_none.1 e n (List.mem_range.2 h.1))
  | some m =>
    have h2 : Mt l s i m := by
      have h3 := List.find?_some e
      simpa using h3
    rw [Mt.one hV h h2]
theorem fm_mt {l : List Int} {s : ByteArray} {i n : Nat} (e : fm l s i = some n) : Mt l s i n := by
  have h3 := List.find?_some e
  simpa using h3
def fmR (l : List Int) (i : Nat) : Option Nat → Int × Int
  | none => (-1, -1)
  | some n => ((n : Int), (i : Int) + l.getD n 0)
theorem w_symbolAt {l : List Int} (hV : VL l) (s : ByteArray) (hs : s.size ≤ 1000000000000) (i : Nat) (hi : i ≤ s.size) : Wp (fun k => spec_symbolAt.f k s i l (cnOf l)) (fun r => r = fmR l i (fm l s i)) := by
  unfold spec_symbolAt.f
  have key : ∀ d (x : Nat), x + d = l.length → (∀ n, n < x → ¬ Mt l s i n) → Wp (fun k => spec_symbolAt.l0 k s i l (cnOf l) x) (fun r => r = fmR l i (fm l s i)) := by
    intro d
    induction d with
    | zero =>
      intro x hd hno
      refine Wp.step (fun k => spec_symbolAt.l0.eq_2 ..) (Wp.neg (by omega) (Wp.ret ?_))
      rw [fm_none (fun n h => hno n (by have := h.1; omega) h)]
      rfl
    | succ d ih =>
      intro x hd hno
      have hr := all16_get hV.2.1 x
      have hgo : ¬ Mt l s i x → Wp (fun k => spec_symbolAt.l0 k s i l (cnOf l) (wrap64 ((x : Int) + 1))) (fun r => r = fmR l i (fm l s i)) := fun h => by
        have h2 := ih (x + 1) (by omega) (fun n hn => by
          rcases Nat.lt_or_ge n x with h3 | h3
          · exact hno n h3
          · have : n = x := by omega
            subst this
            exact h)
        have hl := hV.1.2
        rw [w64 (x := (x : Int) + 1) (by omega) (by omega)]
        exact h2
      refine Wp.step (fun k => spec_symbolAt.l0.eq_2 ..) (Wp.pos (by omega) (Wp.pos (by omega) ?_))
      rw [bl_rd, bl_rd]
      refine Wp.ite (fun h1 => ?_) (fun h1 => hgo (fun h => h1 h.2.1))
      rw [w64 (x := (s.size : Int) - i) (by omega) (by omega)]
      refine Wp.ite (fun h2 => ?_) (fun h2 => hgo (fun h => by have := h.2.2.1; omega))
      rw [w64 (x := (i : Int) + l.getD x 0) (by omega) (by omega)]
      refine Wp.pos (by omega) (Wp.pos (by omega) (Wp.pos (by omega) (Wp.pos (by rw [cnOf_len]; omega) ?_)))
      have hc := cnOf_get l hV.1.2 x
      have hb := cn_bound hV (show x < l.length by omega) (by omega)
      refine Wp.call (by have h := w_digits ((cnOf l).getD x 0) (l.getD x 0).toNat (by omega) hc.1 hc.2; rw [Int.toNat_of_nonneg (by omega)] at h; exact h) ?_
      rintro _ rfl
      have e0 : ((i : Int) + l.getD x 0).toNat = i + (l.getD x 0).toNat := by omega
      have hcut := cut_eq s i (l.getD x 0).toNat (by omega) (digs ((cnOf l).getD x 0) (l.getD x 0).toNat) (digs_len _ _) (digs_byte _ _)
      have hdb := digs_bits (s := s) (i := i) (l.getD x 0).toNat ((cnOf l).getD x 0) hc.1 hb
      rw [e0, Int.toNat_natCast]
      refine Wp.ite (fun h3 => Wp.ret ?_) (fun h3 => hgo (fun h => h3 (hcut.2 (hdb.2 ⟨h.2.2.2.1, h.2.2.2.2⟩))))
      have h4 := hdb.1 (hcut.1 h3)
      rw [fm_some hV (⟨by omega, h1, by omega, h4.1, h4.2⟩ : Mt l s i x)]
      rfl
  exact key l.length 0 (by omega) (fun n hn => absurd hn (Nat.not_lt_zero _))
end Go.Proofs.Ytcmkijmjafgkfaa.P
namespace Go.Proofs.Ytcmkijmjafgkfaa.P
open Go.RowKit Go.Proofs.YtcmkijmjafgkfaaW.PrintWords Go.Proofs.YtcmkijmjafgkfaaW.PrintLast Go.Proofs.YtcmkijmjafgkfaaW.PrintMore Go.Proofs.Ytcmkijmjafgkfaa.Wp
set_option linter.unusedVariables false
set_option linter.unusedSimpArgs false
def decN (l : List Int) (s : ByteArray) (go : List Int → Nat → List Int × Bool) (out : List Int) (p : Nat) : Option Nat → List Int × Bool
  | none => ([], false)
  | some n => if out.length = 1200 then ([], false) else go (out ++ [(n : Int)]) (p + (l.getD n 0).toNat)
def decM (l : List Int) (s : ByteArray) : Nat → List Int → Nat → List Int × Bool
  | 0, _, _ => ([], false)
  | f + 1, out, p => if p < s.size then decN l s (decM l s f) out p (fm l s p) else (out, true)
def decAll (s : ByteArray) (l : List Int) : List Int × Bool := if VL l then decM l s (s.size + 1) [] 0 else ([], false)
theorem decM_len (l : List Int) (s : ByteArray) : ∀ f out p, out.length ≤ 1200 → (decM l s f out p).1.length ≤ 1200
  | 0, _, _, _ => Nat.zero_le _
  | f + 1, out, p, h => by
    rw [decM]
    split
    · cases fm l s p with
      | none => exact Nat.zero_le _
      | some n =>
        rw [decN]
        by_cases h5 : out.length = 1200
        · rw [if_pos h5]
          exact Nat.zero_le _
        · rw [if_neg h5]
          exact decM_len l s f _ _ (by rw [List.length_append, List.length_singleton]; omega)
    · exact h
theorem decAll_len (s : ByteArray) (l : List Int) : (decAll s l).1.length ≤ 1200 := by
  unfold decAll
  by_cases h : VL l
  · rw [if_pos h]
    exact decM_len l s _ _ _ (Nat.zero_le _)
  · rw [if_neg h]
    exact Nat.zero_le _
theorem w_sDecode (s : ByteArray) (hs : s.size ≤ 1000000000000) (l : List Int) (hl : l.length ≤ 1000000000) : Wp (fun k => spec_DecodeSymbols.f k s l) (fun r => r = decAll s l) := by
  unfold spec_DecodeSymbols.f
  refine Wp.call (w_validLengths l hl) ?_
  rintro _ rfl
  refine Wp.ite (fun h => ?_) (fun h => Wp.ret (if_neg (fun e => h (decide_eq_true e))).symm)
  have hV := of_decide_eq_true h
  refine Wp.call (w_sCanon l hV.1.2) ?_
  rintro _ rfl
  have key : ∀ f out p, s.size + 1 ≤ f + p → p ≤ s.size → out.length ≤ 1200 → Wp (fun k => spec_DecodeSymbols.l0 k s l out (cnOf l) (p : Nat)) (fun r => r = decM l s f out p) := by
    intro f
    induction f with
    | zero => intro out p h1 h2; omega
    | succ f ih =>
      intro out p h1 h2 h3
      refine Wp.step (fun k => spec_DecodeSymbols.l0.eq_2 ..) ?_
      rw [decM]
      by_cases h4 : p < s.size
      · refine Wp.pos (by omega) ?_
        rw [if_pos h4]
        refine Wp.call (w_symbolAt hV s hs p h2) ?_
        rintro _ rfl
        cases e : fm l s p with
        | none => exact Wp.pos (show (-1 : Int) < 0 by decide) (Wp.ret rfl)
        | some n =>
          obtain ⟨m1, m2, m3, m4, m5⟩ := fm_mt e
          refine Wp.neg (by simp only [fmR]; omega) ?_
          rw [decN]
          by_cases h5 : out.length = 1200
          · rw [if_pos h5]
            exact Wp.pos (by omega) (Wp.ret rfl)
          · rw [if_neg h5]
            refine Wp.neg (by omega) (Wp.pos (by omega) ?_)
            have h6 := ih (out ++ [(n : Int)]) (p + (l.getD n 0).toNat) (by omega) (by omega) (by rw [List.length_append, List.length_singleton]; omega)
            rw [show ((p + (l.getD n 0).toNat : Nat) : Int) = (p : Int) + l.getD n 0 by omega] at h6
            exact h6
      · refine Wp.neg (by omega) ?_
        rw [if_neg h4]
        exact Wp.ret rfl
  have h1 := key (s.size + 1) [] 0 (by omega) (by omega) (by simp)
  unfold decAll
  rw [if_pos hV]
  exact h1
theorem dcLook_none {l c : List Int} {len code : Int} : ∀ {m : Nat}, dcLook l c len code m = none → ∀ n, n < m → ¬ (0 < l.getD n 0 ∧ l.getD n 0 = len ∧ c.getD n 0 = code)
  | 0, _, n, h => absurd h (Nat.not_lt_zero _)
  | m + 1, e, n, h => by
    rw [dcLook] at e
    split at e
    · cases e
    · rename_i hn
      rw [bl_rd, bl_rd] at hn
      rcases Nat.lt_or_ge n m with h1 | h1
      · exact dcLook_none e n h1
      · have : n = m := by omega
        subst this
        exact hn
theorem dcLook_some {l c : List Int} {len code v : Int} : ∀ {m : Nat}, dcLook l c len code m = some v → ∃ n : Nat, v = n ∧ n < m ∧ 0 < l.getD n 0 ∧ l.getD n 0 = len ∧ c.getD n 0 = code
  | 0, e => by cases e
  | m + 1, e => by
    rw [dcLook] at e
    split at e
    · rename_i hn
      rw [bl_rd, bl_rd] at hn
      exact ⟨m, (Option.some.inj e).symm, Nat.lt_succ_self _, hn⟩
    · obtain ⟨n, h1, h2, h3⟩ := dcLook_some e
      exact ⟨n, h1, by omega, h3⟩
theorem w64_nat (n : Nat) (h : n ≤ 2000000000000) : wrap64 ((n : Int) + 1) = ((n + 1 : Nat) : Int) := by
  rw [w64 (x := (n : Int) + 1) (by omega) (by omega)]
  omega
theorem wf_small {x : Int} (h0 : 0 ≤ x) (h1 : x ≤ 1048592) : (Lit.int .i64 x).wf = true := by
  have e1 : IntKind.i64.min = -9223372036854775808 := rfl
  have e2 : IntKind.i64.max = 9223372036854775807 := rfl
  simp only [Lit.wf, e1, e2, Bool.and_eq_true, decide_eq_true_eq]
  omega
theorem dcOk_VL {l : List Int} (hV : VL l) : dcOk l (cnOf l) = true := by
  unfold dcOk
  simp only [Bool.and_eq_true, decide_eq_true_eq, List.all_eq_true]
  refine ⟨⟨⟨hV.1.2, cnOf_len l⟩, fun x hx => ?_⟩, fun x hx => ?_⟩
  · have := all16_mem hV.2.1 x hx
    exact wf_small (by omega) (by omega)
  · obtain ⟨i, hi, rfl⟩ := List.getElem_of_mem hx
    have := cnOf_get l hV.1.2 i
    rw [List.getD_eq_getElem?_getD, List.getElem?_eq_getElem hi] at this
    exact wf_small this.1 this.2
theorem w_iDecode (s : ByteArray) (hs : s.size ≤ 1000000000000) (l : List Int) (hl : l.length ≤ 1000000000) : Wp (fun k => impl_DecodeSymbols.f k s l) (fun r => r = decAll s l) := by
  unfold impl_DecodeSymbols.f
  refine Wp.call (w_canonical l hl) ?_
  rintro _ rfl
  unfold decAll
  by_cases hV : VL l
  · rw [if_pos hV, if_pos hV]
    refine Wp.pos rfl (Wp.pos (dcOk_VL hV) ?_)
    have key : ∀ d p j out f, p + j + d = s.size → Bits s p j → j ≤ 16 → (∀ n, Mt l s p n → j < (l.getD n 0).toNat) → out.length ≤ 1200 → s.size + 1 ≤ f + p →
        Wp (fun k => dcGo l (cnOf l) s k out (j : Nat) (cv s p j) ((p + j : Nat) : Int)) (fun r => r = decM l s f out p) := by
      intro d
      induction d with
      | zero =>
        intro p j out f hd hB hj hno ho hf
        obtain ⟨f, rfl⟩ : ∃ g, f = g + 1 := ⟨f - 1, by omega⟩
        refine Wp.step (fun k => dcGo.eq_2 ..) (Wp.neg (by omega) ?_)
        rw [decM]
        by_cases h0 : j = 0
        · subst h0
          rw [if_neg (show ¬ p < s.size by omega)]
          exact Wp.neg (show ¬ (0 : Int) < ((0 : Nat) : Int) by omega) (Wp.ret rfl)
        · rw [if_pos (show p < s.size by omega), fm_none (fun n h => by have h1 := hno n h; have := h.2.2.1; omega)]
          exact Wp.pos (show (0 : Int) < (j : Int) by omega) (Wp.ret rfl)
      | succ d ih =>
        intro p j out f hd hB hj hno ho hf
        obtain ⟨f, rfl⟩ : ∃ g, f = g + 1 := ⟨f - 1, by omega⟩
        refine Wp.step (fun k => dcGo.eq_2 ..) (Wp.pos (by omega) (Wp.pos (by omega) ?_))
        refine Wp.ite (fun h1 => ?_) (fun h1 => Wp.ret ?_)
        · have hB1 := hB.succ h1.1
          have ej : wrap64 ((j : Int) + 1) = ((j + 1 : Nat) : Int) := w64_nat j (by omega)
          have ei : wrap64 (((p + j : Nat) : Int) + 1) = ((p + (j + 1) : Nat) : Int) := w64_nat (p + j) (by clear ej; omega)
          have hr := cv_range j hB
          have hp := p2_mono hj
          rw [p2_16] at hp
          have hbt := h1.1
          have ec : wrap64 (wrap64 (2 * cv s p j) + (bt s ((p + j : Nat) : Int) - 48)) = cv s p (j + 1) := by
            clear ej ei
            rw [w64 (x := 2 * cv s p j) (by omega) (by omega), w64 (x := 2 * cv s p j + (bt s ((p + j : Nat) : Int) - 48)) (by omega) (by omega), cv]
          rw [ec, ej, ei]
          clear ec ej ei
          cases e : dcLook l (cnOf l) ((j + 1 : Nat) : Int) (cv s p (j + 1)) l.length with
          | none =>
            refine ih p (j + 1) out (f + 1) (by omega) hB1 (by have := h1.2; omega) (fun n h => ?_) ho hf
            have h2 := hno n h
            rcases Nat.lt_or_ge (j + 1) (l.getD n 0).toNat with h3 | h3
            · exact h3
            · have e4 : (l.getD n 0).toNat = j + 1 := by omega
              have h5 := h.2.2.2.2
              rw [e4] at h5
              exact absurd ⟨h.2.1, by omega, h5.symm⟩ (dcLook_none e n h.1)
          | some v =>
            obtain ⟨n, rfl, n1, n2, n3, n4⟩ := dcLook_some e
            have e4 : (l.getD n 0).toNat = j + 1 := by omega
            have hM : Mt l s p n := ⟨n1, n2, by omega, by rw [e4]; exact hB1, by rw [e4]; exact n4.symm⟩
            rw [decM, if_pos (show p < s.size by omega), fm_some hV hM, decN]
            by_cases h5 : out.length = 1200
            · rw [if_pos h5]
              exact Wp.pos (by omega) (Wp.ret rfl)
            · rw [if_neg h5]
              refine Wp.neg (by omega) (Wp.pos (by omega) ?_)
              have h6 := ih (p + (j + 1)) 0 (out ++ [(n : Int)]) f (by omega) (fun t ht => absurd ht (Nat.not_lt_zero _)) (by omega) (fun m h => by have := h.2.1; omega) (by rw [List.length_append, List.length_singleton]; omega) (by omega)
              rw [e4]
              exact h6
        · rw [decM, if_pos (show p < s.size by omega), fm_none (fun n h => ?_)]
          · rfl
          · have h2 := hno n h
            have h3 := all16_get hV.2.1 n
            exact h1 ⟨h.2.2.2.1 j h2, by omega⟩
    exact key s.size 0 0 [] (s.size + 1) (by omega) (fun t ht => absurd ht (Nat.not_lt_zero _)) (by omega) (fun n h => by have := h.2.1; omega) (by simp) (by omega)
  · rw [if_neg hV, if_neg hV]
    exact Wp.neg (by simp) (Wp.ret rfl)
end Go.Proofs.Ytcmkijmjafgkfaa.P
namespace Go.Proofs.Ytcmkijmjafgkfaa.Pure
open Go.RowKit Go.Proofs.Ytcmkijmjafgkfaa.P Go.Proofs.YtcmkijmjafgkfaaW.PrintWords Go.Proofs.Ytcmkijmjafgkfaa.Wp
set_option linter.unusedVariables false
theorem FnExactDecodeSymbols : laws_FnExactDecodeSymbols.Pure := by
  intro s l _ _ _ _
  refine Wp.rounds ?_
  unfold laws_FnExactDecodeSymbols.f
  refine Wp.ite (fun _ => Wp.ret rfl) (fun hsz => ?_)
  refine Wp.ite (fun _ => Wp.ret rfl) (fun hl => ?_)
  have hl : l.length ≤ 1000000000 := by omega
  have hs : s.size ≤ 1000000000000 := by omega
  have hd := decAll_len s l
  refine Wp.call (w_toIntS l hl) ?_
  rintro _ rfl
  refine Wp.call (w_sDecode s hs _ hl) ?_
  rintro _ rfl
  refine Wp.call (w_toIntS _ hl) ?_
  rintro _ rfl
  refine Wp.call (w_iDecode s hs _ hl) ?_
  rintro _ rfl
  refine Wp.call (w_eqIntS _ _ (by omega)) ?_
  rintro _ rfl
  refine Wp.pos (by simp) ?_
  rw [show ((decAll s _).2 != (decAll s _).2) = false by simp]
  refine Wp.step (fun k => laws_FnExactDecodeSymbols.j0.eq_2 ..) (Wp.neg (by decide) ?_)
  refine Wp.call (w_toIntS _ hl) ?_
  rintro _ rfl
  refine Wp.call (w_eqIntS _ _ hl) ?_
  rintro _ rfl
  refine Wp.pos (by simp) ?_
  refine Wp.call (w_markIntS _ 1 hl (by decide) (by decide)) ?_
  rintro _ rfl
  refine Wp.neg (by simp only; omega) ?_
  refine Wp.call (w_eqIntS _ _ (by omega)) ?_
  rintro _ rfl
  refine Wp.pos (by simp) ?_
  rw [show ((decAll s _).2 != (decAll s _).2) = false by simp]
  refine Wp.step (fun k => laws_FnExactDecodeSymbols.j1.eq_2 ..) (Wp.neg (by decide) ?_)
  refine Wp.call (w_markIntS _ 1 (by omega) (by decide) (by decide)) ?_
  rintro _ rfl
  refine Wp.call (w_heldIntS _ 1 (by omega) (by decide) (by decide)) ?_
  rintro _ rfl
  refine Wp.neg (by omega) (Wp.pos rfl ?_)
  refine Wp.call (w_toIntS _ hl) ?_
  rintro _ rfl
  refine Wp.call (w_iDecode s hs _ hl) ?_
  rintro _ rfl
  refine Wp.call (w_eqIntS _ _ (by omega)) ?_
  rintro _ rfl
  refine Wp.pos (by simp) ?_
  rw [show ((decAll s _).2 != (decAll s _).2) = false by simp]
  refine Wp.step (fun k => laws_FnExactDecodeSymbols.j2.eq_2 ..) (Wp.neg (by decide) ?_)
  refine Wp.call (w_heldIntS _ 1 (by omega) (by decide) (by decide)) ?_
  rintro _ rfl
  exact Wp.neg (by omega) (Wp.pos rfl (Wp.ret rfl))
end Go.Proofs.Ytcmkijmjafgkfaa.Pure
