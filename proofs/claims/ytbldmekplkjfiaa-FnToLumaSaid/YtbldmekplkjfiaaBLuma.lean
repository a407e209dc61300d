/- Luma and differences, in both, and back. Plain lemmas under bounds. -/
import Derived.Test.YtbldmekplkjfiaaPx5
import Derived.Test.YtbldmekplkjfiaaPx6
import Derived.Test.YtbldmekplkjfiaaPx7
import Derived.Test.YtbldmekplkjfiaaPx10
import Derived.Test.YtbldmekplkjfiaaBDiv
import Derived.Test.YtbldmekplkjfiaaBList
namespace Go.Proofs.Ytbldmekplkjfiaa.P
open Go.RowKit Go.Proofs.YtbldmekplkjfiaaW.PrintWords Go.Proofs.YtbldmekplkjfiaaW.PrintLast Go.Proofs.YtbldmekplkjfiaaW.PrintMore Go.Proofs.Ytbldmekplkjfiaa.Wp
set_option linter.unusedVariables false
set_option linter.unusedSimpArgs false

theorem three {l : List Int} (h : (l.length : Int) = 3) : ∃ a b c, l = [a, b, c] := by
  match l, h with
  | [a, b, c], _ => exact ⟨a, b, c, rfl⟩
/-- The luma and the two differences of a pixel. -/
def lumaOf (a b c : Int) : List Int := [c + (a - c) / 2 + (b - (c + (a - c) / 2)) / 2, a - c, b - (c + (a - c) / 2)]
theorem w_toLumaBody (a b c : Int) (ha : 0 ≤ a ∧ a ≤ 255) (hb : 0 ≤ b ∧ b ≤ 255) (hc : 0 ≤ c ∧ c ≤ 255) : Wp (fun _ => impl_toLuma.f [a, b, c]) (fun r => r = lumaOf a b c) := by
  unfold impl_toLuma.f
  refine Wp.pos (by simp) (Wp.pos (by simp) ?_)
  rw [show rd [a, b, c] 0 = a from rfl, show rd [a, b, c] 1 = b from rfl, show rd [a, b, c] 2 = c from rfl]
  rw [w64 (x := a - c) (by omega) (by omega)]
  refine Wp.call (w_iFloorDiv (a - c) 2 (by omega) (by omega) (by omega)) ?_
  rintro _ rfl
  refine Wp.pos (by simp) ?_
  rw [w64 (x := c + (a - c) / 2) (by omega) (by omega), w64 (x := b - (c + (a - c) / 2)) (by omega) (by omega)]
  refine Wp.call (w_iFloorDiv (b - (c + (a - c) / 2)) 2 (by omega) (by omega) (by omega)) ?_
  rintro _ rfl
  refine Wp.ret ?_
  rw [w64 (by omega) (by omega)]
  rfl
/-- ToLuma, the same in both. -/
def luAll (l : List Int) : List Int := if l.length = 3 ∧ allB l = true then lumaOf (rd l 0) (rd l 1) (rd l 2) else []
theorem luAll_len (l : List Int) : (luAll l).length ≤ 1000000000 := by
  unfold luAll
  split <;> simp [lumaOf]
theorem allB3 {a b c : Int} (h : allB [a, b, c] = true) : (0 ≤ a ∧ a ≤ 255) ∧ (0 ≤ b ∧ b ≤ 255) ∧ (0 ≤ c ∧ c ≤ 255) :=
  ⟨allB_mem h a (by simp), allB_mem h b (by simp), allB_mem h c (by simp)⟩
theorem w_iToLuma (l : List Int) : Wp (fun _ => impl_ToLuma.f l) (fun r => r = luAll l) := by
  unfold impl_ToLuma.f luAll
  refine Wp.ite (fun h => ?_) (fun h => Wp.ret (by rw [if_neg (by omega)]))
  refine Wp.call (w_areBytes l) ?_
  rintro _ rfl
  refine Wp.ite (fun hb => ?_) (fun hb => Wp.ret (by rw [if_neg (fun e => hb e.2)]))
  rw [if_pos ⟨by omega, hb⟩]
  obtain ⟨a, b, c, rfl⟩ := three h
  obtain ⟨ha, hb', hc⟩ := allB3 hb
  refine Wp.call (w_toLumaBody a b c ha hb' hc) ?_
  rintro _ rfl
  exact Wp.ret rfl
theorem w_validPixel (l : List Int) (hl : l.length ≤ 1000000000) : Wp (fun k => spec_validPixel.f k l) (fun r => r = decide (l.length = 3 ∧ allB l = true)) := by
  unfold spec_validPixel.f
  refine Wp.ite (fun h => ?_) (fun h => Wp.ret ?_)
  · refine Wp.call (w_allB l hl) ?_
    rintro _ rfl
    exact Wp.ret (by have : l.length = 3 := by omega
                     simp [this])
  · exact (decide_eq_false (by omega)).symm
theorem w_sToLuma (l : List Int) (hl : l.length ≤ 1000000000) : Wp (fun k => spec_ToLuma.f k l) (fun r => r = luAll l) := by
  unfold spec_ToLuma.f luAll
  refine Wp.call (w_validPixel l hl) ?_
  rintro _ rfl
  refine Wp.ite (fun h => ?_) (fun h => Wp.ret (by rw [if_neg (fun e => h (decide_eq_true e))]))
  have h := of_decide_eq_true h
  rw [if_pos h]
  obtain ⟨a, b, c, rfl⟩ := three (l := l) (by omega)
  obtain ⟨ha, hb', hc⟩ := allB3 h.2
  refine Wp.pos (by simp) (Wp.pos (by simp) ?_)
  rw [show rd [a, b, c] 0 = a from rfl, show rd [a, b, c] 1 = b from rfl, show rd [a, b, c] 2 = c from rfl]
  rw [w64 (x := a - c) (by omega) (by omega)]
  refine Wp.call (w_sFloorDiv (a - c) 2 (by omega) (by omega) (by omega)) ?_
  rintro _ rfl
  refine Wp.pos (by simp) ?_
  rw [w64 (x := c + (a - c) / 2) (by omega) (by omega), w64 (x := b - (c + (a - c) / 2)) (by omega) (by omega)]
  refine Wp.call (w_sFloorDiv (b - (c + (a - c) / 2)) 2 (by omega) (by omega) (by omega)) ?_
  rintro _ rfl
  refine Wp.ret ?_
  rw [w64 (by omega) (by omega)]
  rfl
theorem w_slEqual (a b : List Int) (hl : a.length ≤ 1000000000) : Wp (fun k => slices_Equal_int_int.f k a b) (fun r => r = decide (a = b)) := by
  unfold slices_Equal_int_int.f
  refine Wp.ite (fun he => ?_) (fun he => Wp.ret ?_)
  · have key : ∀ d (i : Nat), i + d = a.length → (∀ j, j < i → a.getD j 0 = b.getD j 0) → Wp (fun k => slices_Equal_int_int.l0 k a b a.length i) (fun r => r = decide (a = b)) := by
      intro d
      induction d with
      | zero =>
        intro i hd h
        refine Wp.step (fun k => slices_Equal_int_int.l0.eq_2 ..) (Wp.neg (by omega) (Wp.ret ?_))
        exact (decide_eq_true (bl_ext (by omega) fun j hj => h j (by omega))).symm
      | succ d ih =>
        intro i hd h
        refine Wp.step (fun k => slices_Equal_int_int.l0.eq_2 ..) (Wp.pos (by omega) (Wp.pos (by omega) (Wp.pos (by omega) (Wp.pos (by omega) ?_))))
        rw [bl_rd, bl_rd]
        refine Wp.ite (fun h1 => ?_) (fun h1 => Wp.ret ?_)
        · rw [w64 (x := (i : Int) + 1) (by omega) (by omega)]
          refine ih (i + 1) (by omega) fun j hj => ?_
          by_cases e : j = i
          · rw [e]; exact h1
          · exact h j (by omega)
        · exact (decide_eq_false fun e => h1 (by rw [e])).symm
    exact key a.length 0 (by omega) (fun j hj => by omega)
  · exact (decide_eq_false fun e => he (by rw [e])).symm
/-- The pixel of a luma and two differences. -/
def unluma (y o g : Int) : List Int := [o + (y - g / 2 - o / 2), g + (y - g / 2), y - g / 2 - o / 2]
theorem luma_unluma (y o g : Int) : lumaOf (o + (y - g / 2 - o / 2)) (g + (y - g / 2)) (y - g / 2 - o / 2) = [y, o, g] := by
  unfold lumaOf
  have e1 : o + (y - g / 2 - o / 2) - (y - g / 2 - o / 2) = o := by omega
  rw [e1]
  have e2 : y - g / 2 - o / 2 + o / 2 = y - g / 2 := by omega
  rw [e2]
  have e3 : g + (y - g / 2) - (y - g / 2) = g := by omega
  rw [e3]
  have e4 : y - g / 2 + g / 2 = y := by omega
  rw [e4]
theorem unluma_luma (a b c : Int) : unluma (c + (a - c) / 2 + (b - (c + (a - c) / 2)) / 2) (a - c) (b - (c + (a - c) / 2)) = [a, b, c] := by
  unfold unluma
  simp only [List.cons.injEq, and_true]
  omega
/-- FromLuma, the same in both. -/
def unAll (l : List Int) : List Int × Bool := if l.length = 3 ∧ allB (unluma (rd l 0) (rd l 1) (rd l 2)) = true then (unluma (rd l 0) (rd l 1) (rd l 2), true) else ([], false)
theorem unAll_len (l : List Int) : (unAll l).1.length ≤ 1000000000 := by
  unfold unAll
  split <;> simp [unluma]
theorem un_small {y o g : Int} (h : allB (unluma y o g) = true) : -255 ≤ y ∧ y ≤ 255 ∧ -255 ≤ o ∧ o ≤ 255 ∧ -255 ≤ g ∧ g ≤ 255 := by
  obtain ⟨h1, h2, h3⟩ := allB3 h
  omega
theorem w_iFromLuma (l : List Int) : Wp (fun k => impl_FromLuma.f k l) (fun r => r = unAll l) := by
  unfold impl_FromLuma.f unAll
  refine Wp.ite (fun h => ?_) (fun h => Wp.ret (by rw [if_neg (by omega)]))
  obtain ⟨y, o, g, rfl⟩ := three h
  rw [show rd [y, o, g] 0 = y from rfl, show rd [y, o, g] 1 = o from rfl, show rd [y, o, g] 2 = g from rfl]
  have stop : ¬ (-9999 ≤ y ∧ y ≤ 9999 ∧ -9999 ≤ o ∧ o ≤ 9999 ∧ -9999 ≤ g ∧ g ≤ 9999) → (if [y, o, g].length = 3 ∧ allB (unluma y o g) = true then (unluma y o g, true) else ([], false)) = (([] : List Int), false) := by
    intro hn
    rw [if_neg]
    intro e
    have := un_small e.2
    omega
  have l3 : (([y, o, g] : List Int).length : Int) = 3 := rfl
  rw [l3]
  refine Wp.step (fun k => impl_FromLuma.l0.eq_2 ..) (Wp.pos (by omega) (Wp.pos (by omega) (Wp.pos (by omega) ?_)))
  rw [show rd [y, o, g] 0 = y from rfl]
  refine Wp.ite (fun c => Wp.ret (stop (by omega)).symm) (fun c1 => Wp.ite (fun c => Wp.ret (stop (by omega)).symm) (fun c2 => ?_))
  rw [show wrap64 (0 + 1) = 1 from w64 (by omega) (by omega)]
  refine Wp.step (fun k => impl_FromLuma.l0.eq_2 ..) (Wp.pos (by omega) (Wp.pos (by omega) (Wp.pos (by omega) ?_)))
  rw [show rd [y, o, g] 1 = o from rfl]
  refine Wp.ite (fun c => Wp.ret (stop (by omega)).symm) (fun c3 => Wp.ite (fun c => Wp.ret (stop (by omega)).symm) (fun c4 => ?_))
  rw [show wrap64 (1 + 1) = 2 from w64 (by omega) (by omega)]
  refine Wp.step (fun k => impl_FromLuma.l0.eq_2 ..) (Wp.pos (by omega) (Wp.pos (by omega) (Wp.pos (by omega) ?_)))
  rw [show rd [y, o, g] 2 = g from rfl]
  refine Wp.ite (fun c => Wp.ret (stop (by omega)).symm) (fun c5 => Wp.ite (fun c => Wp.ret (stop (by omega)).symm) (fun c6 => ?_))
  rw [show wrap64 (2 + 1) = 3 from w64 (by omega) (by omega)]
  refine Wp.step (fun k => impl_FromLuma.l0.eq_2 ..) (Wp.neg (by omega) (Wp.pos (by rw [l3]; decide) (Wp.pos (by rw [l3]; decide) ?_)))
  rw [show rd [y, o, g] 0 = y from rfl, show rd [y, o, g] 1 = o from rfl, show rd [y, o, g] 2 = g from rfl]
  refine Wp.call (w_iFloorDiv g 2 (by omega) (by omega) (by omega)) ?_
  rintro _ rfl
  refine Wp.pos (by rw [l3]; decide) ?_
  refine Wp.call (w_iFloorDiv o 2 (by omega) (by omega) (by omega)) ?_
  rintro _ rfl
  rw [w64 (x := y - g / 2) (by omega) (by omega), w64 (x := y - g / 2 - o / 2) (by omega) (by omega), w64 (x := o + (y - g / 2 - o / 2)) (by omega) (by omega), w64 (x := g + (y - g / 2)) (by omega) (by omega)]
  refine Wp.call (Q := fun r => r = unluma y o g) (Wp.ret rfl) ?_
  rintro _ rfl
  refine Wp.call (w_areBytes _) ?_
  rintro _ rfl
  refine Wp.ite (fun hb => ?_) (fun hb => Wp.ret (by rw [if_neg (fun e => hb e.2)]))
  rw [if_pos ⟨rfl, hb⟩]
  obtain ⟨ha, hb', hc⟩ := allB3 hb
  refine Wp.call (w_toLumaBody _ _ _ ha hb' hc) ?_
  rintro _ rfl
  rw [luma_unluma]
  refine Wp.call (w_slEqual _ _ (by simp)) ?_
  rintro _ rfl
  exact Wp.pos (by simp) (Wp.ret rfl)
theorem w_sFromLuma (l : List Int) (hl : l.length ≤ 1000000000) : Wp (fun k => spec_FromLuma.f k l) (fun r => r = unAll l) := by
  unfold spec_FromLuma.f unAll
  refine Wp.ite (fun h => ?_) (fun h => Wp.step (fun k => spec_FromLuma.j0.eq_2 ..) (Wp.pos rfl (Wp.ret (by rw [if_neg (by omega)]))))
  obtain ⟨y, o, g, rfl⟩ := three h
  rw [show rd [y, o, g] 0 = y from rfl, show rd [y, o, g] 1 = o from rfl, show rd [y, o, g] 2 = g from rfl]
  refine Wp.call (w_allIn _ (-255) 255 (by simp)) ?_
  rintro _ rfl
  refine Wp.step (fun k => spec_FromLuma.j0.eq_2 ..) ?_
  refine Wp.ite (fun hn => Wp.ret ?_) (fun hn => ?_)
  · rw [if_neg]
    intro e
    have := un_small e.2
    simp only [List.all_cons, List.all_nil, Bool.and_true, Bool.not_eq_true', Bool.and_eq_false_iff, decide_eq_false_iff_not] at hn
    omega
  · have hs : (-255 ≤ y ∧ y ≤ 255) ∧ (-255 ≤ o ∧ o ≤ 255) ∧ (-255 ≤ g ∧ g ≤ 255) := by
      simpa only [List.all_cons, List.all_nil, Bool.and_true, Bool.not_eq_true, Bool.not_eq_false', Bool.and_eq_true, decide_eq_true_eq] using hn
    refine Wp.pos (by simp) (Wp.pos (by simp) ?_)
    rw [show rd [y, o, g] 0 = y from rfl, show rd [y, o, g] 1 = o from rfl, show rd [y, o, g] 2 = g from rfl]
    refine Wp.call (w_sFloorDiv g 2 (by omega) (by omega) (by omega)) ?_
    rintro _ rfl
    refine Wp.pos (by simp) ?_
    refine Wp.call (w_sFloorDiv o 2 (by omega) (by omega) (by omega)) ?_
    rintro _ rfl
    rw [w64 (x := y - g / 2) (by omega) (by omega), w64 (x := y - g / 2 - o / 2) (by omega) (by omega), w64 (x := o + (y - g / 2 - o / 2)) (by omega) (by omega), w64 (x := g + (y - g / 2)) (by omega) (by omega)]
    refine Wp.call (Q := fun r => r = unluma y o g) (Wp.ret rfl) ?_
    rintro _ rfl
    refine Wp.call (w_validPixel _ (by simp [unluma])) ?_
    rintro _ rfl
    refine Wp.ite (fun hb => Wp.ret ?_) (fun hb => Wp.ret ?_)
    · have hb := of_decide_eq_true hb
      rw [if_pos ⟨rfl, hb.2⟩]
    · rw [if_neg (fun e => hb (decide_eq_true ⟨rfl, e.2⟩))]
end Go.Proofs.Ytbldmekplkjfiaa.P
