/- Rules for functions that are told with a number of rounds: what they answer once the rounds are enough. Plain lemmas, for every input; no condition. -/
import Derived.Test.YtbldmekplkjfiaaWWords
namespace Go.Proofs.Ytbldmekplkjfiaa.Wp
open Go.RowKit Go.Proofs.YtbldmekplkjfiaaW.PrintWords
set_option linter.unusedVariables false

/-- With enough rounds g answers, and the answer is as P says. -/
def Wp {α : Type} (g : Nat → Option α) (P : α → Prop) : Prop := ∃ r, P r ∧ ∃ K, ∀ k, K ≤ k → g k = some r

theorem Wp.mono {α : Type} {g : Nat → Option α} {P Q : α → Prop} (h : Wp g P) (hi : ∀ a, P a → Q a) : Wp g Q := by
  obtain ⟨r, hp, K, hk⟩ := h
  exact ⟨r, hi r hp, K, hk⟩
theorem Wp.ret {α : Type} {P : α → Prop} {r : α} (h : P r) : Wp (fun _ => some r) P := ⟨r, h, 0, fun _ _ => rfl⟩
theorem Wp.bind {α β : Type} {g : Nat → Option α} {f : Nat → α → Option β} {P : β → Prop} (h : Wp g (fun a => Wp (fun k => f k a) P)) : Wp (fun k => (g k).bind (f k)) P := by
  obtain ⟨a, ⟨r, hp, K, hk⟩, K', hk'⟩ := h
  refine ⟨r, hp, max K K', fun k hkk => ?_⟩
  show (g k).bind (f k) = some r
  rw [hk' k (by omega)]
  exact hk k (by omega)
/-- A call, and what follows. -/
theorem Wp.call {α β : Type} {g : Nat → Option α} {f : Nat → α → Option β} {Q : α → Prop} {P : β → Prop} (h : Wp g Q) (hf : ∀ a, Q a → Wp (fun k => f k a) P) : Wp (fun k => (g k).bind (f k)) P :=
  Wp.bind (h.mono hf)
theorem Wp.ite {α : Type} {c : Prop} [Decidable c] {g h : Nat → Option α} {P : α → Prop} (h1 : c → Wp g P) (h2 : ¬ c → Wp h P) : Wp (fun k => if c then g k else h k) P := by
  by_cases hc : c
  · simpa only [if_pos hc] using h1 hc
  · simpa only [if_neg hc] using h2 hc
theorem Wp.pos {α : Type} {c : Prop} [Decidable c] {g h : Nat → Option α} {P : α → Prop} (hc : c) (h1 : Wp g P) : Wp (fun k => if c then g k else h k) P := Wp.ite (fun _ => h1) (fun h => absurd hc h)
theorem Wp.neg {α : Type} {c : Prop} [Decidable c] {g h : Nat → Option α} {P : α → Prop} (hc : ¬ c) (h1 : Wp h P) : Wp (fun k => if c then g k else h k) P := Wp.ite (fun h => absurd h hc) (fun _ => h1)
/-- A round. -/
theorem Wp.step {α : Type} {g f : Nat → Option α} {P : α → Prop} (h : ∀ k, g (k + 1) = f k) (hf : Wp f P) : Wp g P := by
  obtain ⟨r, hp, K, hk⟩ := hf
  refine ⟨r, hp, K + 1, fun k hkk => ?_⟩
  obtain ⟨k, rfl⟩ : ∃ m, k = m + 1 := ⟨k - 1, by omega⟩
  rw [h k]
  exact hk k (by omega)
theorem Wp.of {α : Type} {g : Nat → Option α} {P : α → Prop} {r : α} (h : ∀ k, g k = some r) (hp : P r) : Wp g P := ⟨r, hp, 0, fun k _ => h k⟩
theorem Wp.rounds {α : Type} {g : Nat → Option α} {r : α} (h : Wp g (fun a => a = r)) : ∃ k, g k = some r := by
  obtain ⟨r', rfl, K, hk⟩ := h
  exact ⟨K, hk K (Nat.le_refl K)⟩
/-- The same answer by two ways. -/
theorem Wp.eq_of {α : Type} {g : Nat → Option α} {P : α → Prop} {r : α} {Q : α → Prop} (h : Wp g P) (k : Wp g Q) : Wp g (fun a => P a ∧ Q a) := by
  obtain ⟨a, hp, K, hk⟩ := h
  obtain ⟨b, hq, K', hk'⟩ := k
  have e : a = b := by
    have h1 := hk (max K K') (by omega)
    have h2 := hk' (max K K') (by omega)
    rw [h1] at h2
    exact Option.some.inj h2
  subst e
  exact ⟨a, ⟨hp, hq⟩, K, hk⟩
/-- A loop over a number that counts down. -/
theorem Wp.loop {σ α : Type} {g : σ → Nat → Option α} {P : α → Prop} (m : σ → Nat) (I : σ → Prop) (h : ∀ s, I s → (∀ s', I s' → m s' < m s → Wp (g s') P) → Wp (g s) P) (s : σ) (hs : I s) : Wp (g s) P := by
  generalize hn : m s = n
  induction n using Nat.strongRecOn generalizing s with
  | _ n ih => exact h s hs fun s' hs' hlt => ih (m s') (by omega) s' hs' rfl

theorem w64 {x : Int} (h0 : -9223372036854775808 ≤ x) (h1 : x ≤ 9223372036854775807) : wrap64 x = x := by
  unfold wrap64
  omega
end Go.Proofs.Ytbldmekplkjfiaa.Wp
