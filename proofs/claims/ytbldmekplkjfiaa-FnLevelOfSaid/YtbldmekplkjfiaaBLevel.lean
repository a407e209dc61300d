/- What the small functions answer: tests of ranges, levels. Plain lemmas, for every input; no condition but the sizes that each states. -/
import Derived.Test.YtbldmekplkjfiaaPx1
import Derived.Test.YtbldmekplkjfiaaWp
namespace Go.Proofs.Ytbldmekplkjfiaa.P
open Go.RowKit Go.Proofs.YtbldmekplkjfiaaW.PrintWords Go.Proofs.YtbldmekplkjfiaaW.PrintLast Go.Proofs.YtbldmekplkjfiaaW.PrintMore Go.Proofs.Ytbldmekplkjfiaa.Wp
set_option linter.unusedVariables false

theorem w_inRange (a b c : Int) : Wp (fun _ => spec_inRange.f a b c) (fun r => r = decide (b ≤ a ∧ a ≤ c)) := by
  unfold spec_inRange.f
  refine Wp.ite (fun h => Wp.ret ?_) (fun h => Wp.ret ?_)
  · simp [h]
  · simp [h]
theorem w_validLevels (a : Int) : Wp (fun _ => spec_validLevels.f a) (fun r => r = decide (2 ≤ a ∧ a ≤ 16)) := by
  unfold spec_validLevels.f
  exact Wp.call (w_inRange _ _ _) fun r hr => Wp.ret hr
theorem w_isLevels (a : Int) : Wp (fun _ => impl_isLevels.f a) (fun r => r = decide (2 ≤ a ∧ a ≤ 16)) := by
  unfold impl_isLevels.f
  refine Wp.ite (fun h => Wp.ret ?_) (fun h => Wp.ret ?_)
  · simp [show 2 ≤ a from h]
  · simp [show ¬ 2 ≤ a from h]
theorem w_distance (a : Int) (h0 : -9223372036854775808 < a) (h1 : a ≤ 9223372036854775807) : Wp (fun _ => spec_distance.f a) (fun r => r = (a.natAbs : Int)) := by
  unfold spec_distance.f
  refine Wp.ite (fun h => Wp.ret ?_) (fun h => Wp.ret ?_)
  · rw [w64 (by omega) (by omega)]; omega
  · omega
theorem w_size (a : Int) (h0 : -9223372036854775808 < a) (h1 : a ≤ 9223372036854775807) : Wp (fun _ => impl_size.f a) (fun r => r = (a.natAbs : Int)) := by
  unfold impl_size.f
  refine Wp.ret ?_
  rw [w64 (by omega) (by omega)]
  unfold mx
  split <;> omega
/-- The value of a level. -/
def lv (k L : Int) : Int := 255 * k / (L - 1)
theorem lv_0 (k L : Int) (hk : 0 ≤ k) (hL : 2 ≤ L) : 0 ≤ lv k L := Int.ediv_nonneg (by omega) (by omega)
theorem lv_top (k L : Int) (hk : k < L) (hL : 2 ≤ L) : lv k L ≤ 255 := by
  unfold lv
  have h1 : 255 * k ≤ 255 * (L - 1) := by omega
  calc 255 * k / (L - 1) ≤ 255 * (L - 1) / (L - 1) := Int.ediv_le_ediv (by omega) h1
    _ = 255 := Int.mul_ediv_cancel _ (by omega)
theorem lv_lt (j k L : Int) (hjk : j < k) (hL : 2 ≤ L) (hM : L ≤ 16) : lv j L < lv k L := by
  have h1 : lv (j + 1) L ≤ lv k L := Int.ediv_le_ediv (by omega) (by omega)
  have h2 : lv j L < lv (j + 1) L := by
    unfold lv
    have : 255 * j + 17 * (L - 1) ≤ 255 * (j + 1) := by omega
    have h3 : (255 * j + 17 * (L - 1)) / (L - 1) ≤ 255 * (j + 1) / (L - 1) := Int.ediv_le_ediv (by omega) this
    rw [Int.add_mul_ediv_right _ _ (by omega)] at h3
    omega
  omega
theorem w_levelValue (k L : Int) (hk : 0 ≤ k) (hk2 : k ≤ 1000000) (hL : 2 ≤ L) (hM : L ≤ 16) : Wp (fun _ => spec_levelValue.f k L) (fun r => r = lv k L) := by
  unfold spec_levelValue.f
  rw [w64 (x := L - 1) (by omega) (by omega), w64 (x := 255 * k) (by omega) (by omega)]
  refine Wp.neg (by omega) (Wp.ret ?_)
  have h0 := lv_0 k L hk hL
  have h1 : lv k L ≤ 255 * k := Int.ediv_le_self _ (by omega)
  rw [Int.tdiv_eq_ediv_of_nonneg (by omega)]
  exact w64 (by unfold lv at h0; omega) (by unfold lv at h1; omega)
theorem w_valueOf (k L : Int) (hk : 0 ≤ k) (hk2 : k ≤ 1000000) (hL : 2 ≤ L) (hM : L ≤ 16) : Wp (fun _ => impl_valueOf.f k L) (fun r => r = lv k L) := w_levelValue k L hk hk2 hL hM
/-- How far a level's value is from a number. -/
def ld (n L : Int) (k : Nat) : Nat := (n - lv k L).natAbs
/-- The nearest of the first m levels. -/
def nst (n L : Int) : Nat → Nat
  | 0 => 0
  | m + 1 => if ld n L m < ld n L (nst n L m) then m else nst n L m
theorem nst_lt (n L : Int) (m : Nat) (hm : 0 < m) : nst n L m < m := by
  induction m with
  | zero => omega
  | succ m ih =>
    unfold nst
    split
    · omega
    · rcases Nat.eq_zero_or_pos m with rfl | h
      · simp [nst]
      · have := ih h; omega
theorem nst_le (n L : Int) (m : Nat) : ∀ j, j < m → ld n L (nst n L m) ≤ ld n L j := by
  induction m with
  | zero => intro j h; omega
  | succ m ih =>
    intro j hj
    unfold nst
    split
    · rcases Nat.lt_or_ge j m with h | h
      · have := ih j h; omega
      · have : j = m := by omega
        subst this; omega
    · rcases Nat.lt_or_ge j m with h | h
      · exact ih j h
      · have : j = m := by omega
        subst this; omega
theorem nst_first (n L : Int) (m : Nat) : ∀ j, j < nst n L m → ld n L (nst n L m) < ld n L j := by
  induction m with
  | zero => intro j h; simp [nst] at h
  | succ m ih =>
    intro j hj
    unfold nst at hj ⊢
    split at hj
    · rename_i h
      rw [if_pos h]
      have := nst_le n L m j hj
      omega
    · rename_i h
      rw [if_neg h]
      exact ih j hj
theorem ld_bound (n L : Int) (k : Nat) (hk : (k : Int) < L) (hL : 2 ≤ L) : (ld n L k : Int) = (n - lv k L).natAbs ∧ 0 ≤ lv k L ∧ lv k L ≤ 255 := ⟨rfl, lv_0 _ _ (by omega) hL, lv_top _ _ hk hL⟩
theorem w_nearestLevel (n L : Int) (hn : -100000 ≤ n) (hn2 : n ≤ 100000) (hL : 2 ≤ L) (hM : L ≤ 16) : Wp (fun k => spec_nearestLevel.f k n L) (fun r => r = nst n L L.toNat) := by
  unfold spec_nearestLevel.f
  have key : ∀ d (i : Nat), 1 ≤ i → i + d = L.toNat → Wp (fun k => spec_nearestLevel.l0 k n L (nst n L i) i) (fun r => r = nst n L L.toNat) := by
    intro d
    induction d with
    | zero =>
      intro i hi hd
      refine Wp.step (fun k => spec_nearestLevel.l0.eq_2 ..) ?_
      refine Wp.neg (by omega) (Wp.ret ?_)
      rw [show i = L.toNat by omega]
    | succ d ih =>
      intro i hi hd
      refine Wp.step (fun k => spec_nearestLevel.l0.eq_2 ..) ?_
      refine Wp.pos (by omega) ?_
      have hb := nst_lt n L i (by omega)
      obtain ⟨e1, l1, u1⟩ := ld_bound n L i (by omega) hL
      obtain ⟨e2, l2, u2⟩ := ld_bound n L (nst n L i) (by omega) hL
      refine Wp.call (w_levelValue i L (by omega) (by omega) hL hM) ?_
      rintro _ rfl
      rw [w64 (x := lv i L - n) (by omega) (by omega)]
      refine Wp.call (w_distance _ (by omega) (by omega)) ?_
      rintro _ rfl
      refine Wp.call (w_levelValue (nst n L i) L (by omega) (by omega) hL hM) ?_
      rintro _ rfl
      rw [w64 (x := lv (nst n L i) L - n) (by omega) (by omega)]
      refine Wp.call (w_distance _ (by omega) (by omega)) ?_
      rintro _ rfl
      rw [w64 (x := (i : Int) + 1) (by omega) (by omega)]
      have hs : nst n L (i + 1) = if ld n L i < ld n L (nst n L i) then i else nst n L i := rfl
      have hi := ih (i + 1) (by omega) (by omega)
      refine Wp.ite (fun h => ?_) (fun h => ?_)
      · rw [if_pos (by omega)] at hs
        rw [hs] at hi
        exact hi
      · rw [if_neg (by omega)] at hs
        rw [hs] at hi
        exact hi
  have h1 : nst n L 1 = 0 := by unfold nst; split <;> simp [nst]
  have := key (L.toNat - 1) 1 (by omega) (by omega)
  rw [h1] at this
  exact this
theorem w_levelOf (n L : Int) (hn : -100000 ≤ n) (hn2 : n ≤ 100000) (hL : 2 ≤ L) (hM : L ≤ 16) : Wp (fun k => impl_levelOf.f k n L) (fun r => r = nst n L L.toNat) := by
  unfold impl_levelOf.f
  have key : ∀ d (i : Nat), i + d = L.toNat → Wp (fun k => impl_levelOf.l0 k n L (nst n L i) L i) (fun r => r = nst n L L.toNat) := by
    intro d
    induction d with
    | zero =>
      intro i hd
      refine Wp.step (fun k => impl_levelOf.l0.eq_2 ..) ?_
      refine Wp.neg (by omega) (Wp.ret ?_)
      rw [show i = L.toNat by omega]
    | succ d ih =>
      intro i hd
      refine Wp.step (fun k => impl_levelOf.l0.eq_2 ..) ?_
      refine Wp.pos (by omega) ?_
      have hb : nst n L i < i + 1 := by
        rcases Nat.eq_zero_or_pos i with rfl | h
        · simp [nst]
        · have := nst_lt n L i h; omega
      obtain ⟨e1, l1, u1⟩ := ld_bound n L i (by omega) hL
      obtain ⟨e2, l2, u2⟩ := ld_bound n L (nst n L i) (by omega) hL
      refine Wp.call (w_valueOf i L (by omega) (by omega) hL hM) ?_
      rintro _ rfl
      rw [w64 (x := n - lv i L) (by omega) (by omega)]
      refine Wp.call (w_size _ (by omega) (by omega)) ?_
      rintro _ rfl
      refine Wp.call (w_valueOf (nst n L i) L (by omega) (by omega) hL hM) ?_
      rintro _ rfl
      rw [w64 (x := n - lv (nst n L i) L) (by omega) (by omega)]
      refine Wp.call (w_size _ (by omega) (by omega)) ?_
      rintro _ rfl
      rw [w64 (x := (i : Int) + 1) (by omega) (by omega)]
      have hs : nst n L (i + 1) = if ld n L i < ld n L (nst n L i) then i else nst n L i := rfl
      have hi := ih (i + 1) (by omega)
      refine Wp.ite (fun h => ?_) (fun h => ?_)
      · rw [if_pos (by omega)] at hs
        rw [hs] at hi
        exact hi
      · rw [if_neg (by omega)] at hs
        rw [hs] at hi
        exact hi
  exact key L.toNat 0 (by omega)
/-- LevelOf, the same in both. -/
def lvOf (n L : Int) : Int := if (2 ≤ L ∧ L ≤ 16) ∧ -9999 ≤ n ∧ n ≤ 9999 then nst n L L.toNat else -1
theorem w_sLevelOf (n L : Int) : Wp (fun k => spec_LevelOf.f k n L) (fun r => r = lvOf n L) := by
  unfold spec_LevelOf.f lvOf
  refine Wp.call (w_validLevels _) ?_
  rintro _ rfl
  refine Wp.ite (fun h => ?_) (fun h => ?_)
  · have h := of_decide_eq_true h
    refine Wp.call (w_inRange _ _ _) ?_
    rintro _ rfl
    refine Wp.ite (fun h' => ?_) (fun h' => ?_)
    · have h' := of_decide_eq_true h'
      refine Wp.call (w_nearestLevel n L (by omega) (by omega) h.1 h.2) ?_
      rintro _ rfl
      exact Wp.ret (by rw [if_pos ⟨h, h'⟩])
    · exact Wp.ret (by rw [if_neg (fun e => h' (decide_eq_true e.2))])
  · exact Wp.ret (by rw [if_neg (fun e => h (decide_eq_true e.1))])
theorem w_iLevelOf (n L : Int) : Wp (fun k => impl_LevelOf.f k n L) (fun r => r = lvOf n L) := by
  unfold impl_LevelOf.f lvOf
  refine Wp.ite (fun h => Wp.ret ?_) (fun h => Wp.ite (fun h' => Wp.ret ?_) (fun h' => ?_))
  · rw [if_neg (by omega)]
  · rw [if_neg (by omega)]
  · refine Wp.call (w_isLevels _) ?_
    rintro _ rfl
    refine Wp.ite (fun g => ?_) (fun g => Wp.ret ?_)
    · have g := of_decide_eq_true g
      refine Wp.call (w_levelOf n L (by omega) (by omega) g.1 g.2) ?_
      rintro _ rfl
      exact Wp.ret (by rw [if_pos ⟨g, by omega⟩])
    · rw [if_neg (fun e => g (decide_eq_true e.1))]
end Go.Proofs.Ytbldmekplkjfiaa.P
