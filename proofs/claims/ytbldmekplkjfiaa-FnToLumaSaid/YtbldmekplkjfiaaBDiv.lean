/- Division rounded down, in both: Lean's own division. Plain lemmas under bounds. -/
import Derived.Test.YtbldmekplkjfiaaPx5
import Derived.Test.YtbldmekplkjfiaaWp
namespace Go.Proofs.Ytbldmekplkjfiaa.P
open Go.RowKit Go.Proofs.YtbldmekplkjfiaaW.PrintWords Go.Proofs.YtbldmekplkjfiaaW.PrintLast Go.Proofs.YtbldmekplkjfiaaW.PrintMore Go.Proofs.Ytbldmekplkjfiaa.Wp
set_option linter.unusedVariables false
set_option linter.unusedSimpArgs false

theorem fd_emod_le (a b : Int) (ha : 0 ≤ a) (hb : 0 < b) : a % b ≤ a := by
  obtain ⟨m, rfl⟩ := Int.eq_ofNat_of_zero_le ha
  obtain ⟨n, rfl⟩ := Int.eq_ofNat_of_zero_le (Int.le_of_lt hb)
  have := Nat.mod_le m n
  omega
theorem fd_parts (a b : Int) (hb : 0 < b) : (0 ≤ Int.tmod a b ∧ a / b = Int.tdiv a b) ∨ (Int.tmod a b < 0 ∧ a / b = Int.tdiv a b - 1) := by
  have h1 : Int.tmod a b + b * Int.tdiv a b = a := Int.tmod_add_mul_tdiv a b
  have h2 : Int.tmod a b < b := Int.tmod_lt_of_pos a hb
  rcases Int.lt_or_le a 0 with ha | ha
  · have h3 : 0 ≤ Int.tmod (-a) b := Int.tmod_nonneg b (by omega)
    have h4 : Int.tmod (-a) b < b := Int.tmod_lt_of_pos (-a) hb
    rw [Int.neg_tmod] at h3 h4
    by_cases hz : Int.tmod a b = 0
    · left
      refine ⟨by omega, ?_⟩
      exact ((Int.ediv_emod_unique (r := Int.tmod a b) (q := Int.tdiv a b) hb).2 ⟨h1, by omega, h2⟩).1
    · right
      refine ⟨by omega, ?_⟩
      refine ((Int.ediv_emod_unique (r := Int.tmod a b + b) (q := Int.tdiv a b - 1) hb).2 ⟨?_, by omega, by omega⟩).1
      rw [Int.mul_sub]
      omega
  · left
    refine ⟨Int.tmod_nonneg b ha, ?_⟩
    exact (Int.tdiv_eq_ediv_of_nonneg ha).symm
theorem fd_bound (a b : Int) (hb : 0 < b) : -(a.natAbs : Int) ≤ Int.tdiv a b ∧ Int.tdiv a b ≤ a.natAbs := by
  have := Int.natAbs_tdiv_le_natAbs a b
  omega
theorem fd_mul (a b : Int) (hb : 0 < b) : Int.tdiv a b * b = a - Int.tmod a b := by
  have h1 : Int.tmod a b + b * Int.tdiv a b = a := Int.tmod_add_mul_tdiv a b
  rw [Int.mul_comm]
  omega
theorem fd_tmod_bound (a b : Int) (hb : 0 < b) : -(a.natAbs : Int) ≤ Int.tmod a b ∧ Int.tmod a b ≤ a.natAbs := by
  rcases Int.lt_or_le a 0 with ha | ha
  · have h3 : 0 ≤ Int.tmod (-a) b := Int.tmod_nonneg b (by omega)
    have h5 : Int.tmod (-a) b ≤ -a := by
      rw [Int.tmod_eq_emod_of_nonneg (by omega)]
      exact fd_emod_le _ b (by omega) hb
    rw [Int.neg_tmod] at h3 h5
    omega
  · have h3 : 0 ≤ Int.tmod a b := Int.tmod_nonneg b ha
    have h5 : Int.tmod a b ≤ a := by
      rw [Int.tmod_eq_emod_of_nonneg ha]
      exact fd_emod_le _ b ha hb
    omega
theorem w_sFloorDiv (a b : Int) (ha : -1000000000000000 ≤ a) (ha2 : a ≤ 1000000000000000) (hb : 0 < b) : Wp (fun _ => spec_floorDiv.f a b) (fun r => r = a / b) := by
  have h := fd_parts a b hb
  have q := fd_bound a b hb
  unfold spec_floorDiv.f
  rw [w64 (x := Int.tdiv a b) (by omega) (by omega)]
  refine Wp.neg (by omega) (Wp.ite (fun h1 => Wp.ret ?_) (fun h1 => Wp.ret ?_))
  · rw [w64 (by omega) (by omega)]
    omega
  · omega
theorem w_iFloorDiv (a b : Int) (ha : -1000000000000000 ≤ a) (ha2 : a ≤ 1000000000000000) (hb : 0 < b) : Wp (fun _ => impl_floorDiv.f a b) (fun r => r = a / b) := by
  have h := fd_parts a b hb
  have q := fd_bound a b hb
  have m := fd_mul a b hb
  have t := fd_tmod_bound a b hb
  unfold impl_floorDiv.f
  rw [w64 (x := Int.tdiv a b) (by omega) (by omega), m, w64 (x := a - Int.tmod a b) (by omega) (by omega)]
  refine Wp.neg (by omega) (Wp.ite (fun h1 => Wp.ret ?_) (fun h1 => Wp.ret ?_))
  · rw [w64 (by omega) (by omega)]
    omega
  · omega
end Go.Proofs.Ytbldmekplkjfiaa.P
