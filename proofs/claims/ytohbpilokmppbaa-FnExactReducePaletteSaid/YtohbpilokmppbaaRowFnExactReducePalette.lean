/- Contracts and row, written by a program of this place out of the translation: the call answers true and its argument reads as before, for every input; no condition. -/
import Derived.Test.YtohbpilokmppbaaRows
import Derived.Test.YtohbpilokmppbaaK1
import Derived.Test.YtohbpilokmppbaaK2
import Derived.Test.YtohbpilokmppbaaK3
import Derived.Test.YtohbpilokmppbaaK4
import Derived.Test.YtohbpilokmppbaaK5
import Derived.Test.YtohbpilokmppbaaK6
import Derived.Test.YtohbpilokmppbaaK7
import Derived.Test.YtohbpilokmppbaaKp1
import Derived.WalkKit
import Derived.ProofKit
import Derived.OpenShut
import Derived.ShutString
import Derived.ChangeOld
import Derived.Below
import Derived.SizedLaws
import Derived.Lib.SmallJoins
import Derived.Deep.Matrix
namespace Go.Proofs.Ytohbpilokmppbaa.fnExactReducePalette
open Go.ChangeShapes Go.WideShapes Go.ChangeAt Go.RowKit
open Go.ChangeMaps (open_string shut_string)
set_option linter.unusedVariables false
theorem own : ownKnob Try.prog.godebug = none := by kernel_rfl
theorem laidOut : laidOutB Try.prog = true := by kernel_rfl
def IsRow (k : IntKind) (w : World) (a : Option Addr) (len cap : Nat) (zs : List Int) : Prop :=
 (a = none ∧ len = 0 ∧ cap = 0 ∧ zs = []) ∨
 ∃ x, a = some x ∧ len ≤ cap ∧ cap ≤ maxLen ∧ zs.length = cap ∧ (∀ i, i < zs.length → w.cell? (x.add i) = some (.int k (zs.getD i 0))) ∧ ∀ n ∈ zs, (Lit.int k n).wf = true
theorem isRow_of {H : Type} {enc : TypeId × Value → H} {P : Program} {w : World} {base : Nat} {spare : Nat → Bool} {held : Bool} {t e : TypeId} {k : IntKind} {fuel : Nat} {v : Value} {x : DataW H × List MemPlace} (ht : P.underlying t = some (.slice e)) (he : P.underlying e = some (.int k)) (hc : P.cellsOf e = 1)
  (hsp : ∀ b, spare b = true) (h : DataW.trod enc P w base spare held fuel t [v] = some x) : ∃ a len cap zs, v = .slice a len cap ∧ IsRow k w a len cap zs := by
 rcases open_ints ht he hc h with ⟨hcs, _⟩ | ⟨x, l, c, zs, hcs, _, hl, hm, hz, _, hcell, hwz⟩
 ·
  exact ⟨none, 0, 0, [], by simpa using hcs, .inl ⟨rfl, rfl, rfl, rfl⟩⟩
 ·
  exact ⟨some x, l, c, zs, by simpa using hcs, .inr ⟨_, rfl, hl, hm, by simpa [hsp] using hz, hcell, hwz⟩⟩
open Go.Proofs.YtohbpilokmppbaaW.PrintWords in
theorem rows_of {H : Type} {enc : TypeId × Value → H} {P : Program} {w : World} {base : Nat} {held : Bool} {t e q : TypeId} {k : IntKind} {fuel : Nat} {A : Option Addr} {len cap : Nat} {x : DataW H × List MemPlace}
  (ht : P.underlying t = some (.slice e)) (he : P.underlying e = some (.slice q)) (hq : P.underlying q = some (.int k)) (ce : P.cellsOf e = 1) (cq : P.cellsOf q = 1)
  (h : DataW.trod enc P w base (fun _ => true) held fuel t [.slice A len cap] = some x) :
  ∃ l : List (List Int), len = l.length ∧ Kd.C (Kd.slice q (Kd.int k)) w A l.length l ∧ l.length ≤ cap ∧ l.length ≤ maxLen ∧ ∀ y ∈ l, y.length ≤ maxLen := by
 rcases Go.Deep.open_int_rows ht he hq ce cq h with ⟨hcs, _⟩ | ⟨a, n, c, A', L, C, Z, hcs, _, hl, hm, _, hr⟩
 ·
  simp only [List.cons.injEq, Value.slice.injEq, and_true] at hcs
  obtain ⟨rfl, rfl, rfl⟩ := hcs
  exact ⟨[], rfl, ⟨rfl, Nat.zero_le _, fun h => absurd h (Nat.lt_irrefl 0)⟩, Nat.le_refl _, Nat.zero_le _, fun y hy => by cases hy⟩
 ·
  simp only [List.cons.injEq, Value.slice.injEq, and_true] at hcs
  obtain ⟨rfl, rfl, rfl⟩ := hcs
  have hm9 : maxLen ≤ 9223372036854775807 := by unfold maxLen; omega
  have hlen : ∀ r, r < len → ((Z r).take (L r)).length = L r := fun r hrl => by
   obtain ⟨_, h1, _, h3, _⟩ := hr r (by omega)
   rw [List.length_take]
   omega
  refine ⟨(List.range len).map fun r => (Z r).take (L r), by simp, ⟨rfl, by simp; omega, fun _ => ⟨a, rfl, fun j p hj => ?_⟩⟩, by simpa using hl, by simp; omega, fun y hy => ?_⟩
  ·
   rw [List.getElem?_map] at hj
   have hjl : j < len := by
    rcases Nat.lt_or_ge j len with h0 | h0
    ·
     exact h0
    ·
     rw [List.getElem?_eq_none (by simpa using h0)] at hj
     cases hj
   rw [List.getElem?_range hjl] at hj
   simp only [Option.map_some, Option.some.injEq] at hj
   subst hj
   obtain ⟨hcell, h1, h2, h3, _, h5, h6⟩ := hr j (by omega)
   have hL := hlen j hjl
   refine ⟨[.slice (A' j) (L j) (C j)], rfl, ⟨A' j, C j, by rw [hL], by omega, ⟨rfl, by omega, fun h0 => ?_⟩⟩, fun i u hu => ?_⟩
   ·
    cases hA : A' j with
    | none => have := h5 hA; omega
    | some ad =>
     obtain ⟨_, h7⟩ := h6 ad hA
     refine ⟨ad, rfl, fun i v hi => ⟨[.int k v], rfl, rfl, fun i' u hu => ?_⟩⟩
     obtain ⟨hil, hiv⟩ := List.getElem?_eq_some_iff.1 hi
     obtain ⟨rfl, rfl⟩ : i' = 0 ∧ Value.int k v = u := by
      cases i' with
      | zero => exact ⟨rfl, by simpa using hu⟩
      | succ i' => simp at hu
     have h8 := h7 i (by omega)
     rw [List.getElem?_take_of_lt (by omega)] at hi
     rw [List.getD_eq_getElem?_getD, hi] at h8
     simpa [Kd.int, Kd.scalar] using h8
   ·
    obtain ⟨rfl, rfl⟩ : i = 0 ∧ Value.slice (A' j) (L j) (C j) = u := by
     cases i with
     | zero => exact ⟨rfl, by simpa using hu⟩
     | succ i => simp at hu
    simpa [Kd.slice] using hcell
  ·
   obtain ⟨r, hrl, rfl⟩ := List.mem_map.1 hy
   rw [List.mem_range] at hrl
   obtain ⟨_, h1, h2, _⟩ := hr r (by omega)
   rw [hlen r hrl]
   omega
set_option maxRecDepth 100000 in
theorem lifted (os : Os) (started : os.Started) (H : Type) (enc : TypeId × Value → H) :
  ReturnsInHanded {} Try.checked os 9 .any (Rows.fnExactReducePaletteSpec.pre6 enc Try.prog Try.f9 Rows.fnExactReducePaletteRow.domain false) (Rows.fnExactReducePaletteSpec.post enc Try.prog Try.f9 false true false false) := by
 refine returnsInHanded_of_change_sized (C := Try.checked) own started (by kernel_rfl) Try.func9
  (ChangeSpec.witness6 (enc := enc) (C := Try.checked) false ⟨#[], #[.slice none 0 0, .int .i64 0], []⟩ 8 (by kernel_rfl) (by kernel_rfl) (by kernel_rfl) (by kernel_rfl)) ?_
 intro W base args ds gs before hval0 hW hcnd hsz0 _
 have hval : ∀ (j : Nat) t v, Try.f9.params[j]? = some t → args[j]? = some v → Value.okWide Try.prog W .any base t v := hval0
 have hW' := hW
 obtain ⟨p, q, hA0, hV, rfl, hfz, hnd⟩ := hW
 have hA : DataW.TrodAll enc Try.prog W 0 (fun _ => true) true Try.f9.params.toList args.toList ds p := hA0
 rw [Try.params9] at hA hval
 obtain ⟨v0, vs0, d0, ds0, p0, q0, hargs, rfl, rfl, h0, r0⟩ := trodAll_cons hA
 obtain ⟨v1, vs1, d1, ds1, p1, q1, rfl, rfl, rfl, h1, r1⟩ := trodAll_cons r0
 obtain ⟨rfl, rfl, rfl⟩ := trodAll_nil r1
 obtain rfl : args = #[v0, v1] := by cases args; simp_all
 obtain ⟨rfl, rfl⟩ := trodVars_none hV
 have k0 := h0
 have lt0 : ∀ x ∈ p0, x.block < W.heap.size := by obtain ⟨m, hm⟩ := k0; exact DataW.trod_lt m _ _ _ hm
 obtain ⟨A0, len0, cap0, rfl⟩ := okWide_slice Try.underlying26 (hval 0 26 v0 rfl rfl)
 obtain ⟨fu0, hf0⟩ := h0
 obtain ⟨l0, e0, hr0, hc0, hm0, hw0⟩ := Go.Proofs.Ytohbpilokmppbaa.fnExactReducePalette.rows_of Try.underlying26 Try.underlying22 Try.underlying3 (by kernel_rfl) (by kernel_rfl) (A := A0) (len := len0) (cap := cap0) (by simpa [Value.cells] using hf0)
 subst e0
 obtain ⟨a1, rfl, rfl, rfl, w1⟩ := open_int Try.underlying3 (hval 1 3 v1 rfl rfl) h1
 clear hA0 hval0
 refine (P.laws_FnExactReducePalette.walk Pure.FnExactReducePalette A0 cap0 l0 a1 W hr0 hc0 hm0 hw0 w1).mono fun e W' ⟨he, bel⟩ => ?_
 subst he
 exact ⟨_, rfl, _, _, _, [], _, [], hW', trodAll_mk1 (shut_bool Try.underlying4 _), (trodAll_cons_mk (Below.trod laidOut (by kernel_rfl) (of_decide_eq_true (by kernel_rfl)) k0 bel lt0) (trodAll_cons_mk (shut_int Try.underlying3 w1) trodAll_mk0)), rfl, bel.frame _, fun h => by cases h⟩
theorem over : Rows.fnExactReducePaletteRow.holds Try.pinned (OpenSpec.ofChange Rows.fnExactReducePaletteSpec) :=
 OpenClaim.holds_of_wide 9 Try.f9 rfl rfl rfl rfl rfl rfl rfl ⟨rfl, rfl, rfl, rfl, rfl⟩ rfl rfl rfl rfl rfl (by kernel_rfl) Try.func9 (by kernel_rfl)
  (of_decide_eq_true (by kernel_rfl)) (by unfold Func.isWrapper; first | (rw [if_pos (by decide +kernel)]; kernel_rfl) | (rw [if_neg (by decide +kernel)]; exact ⟨rfl, rfl⟩))
  (fun os started H enc _ => lifted os started H enc)
theorem proved : Rows.FnExactReducePaletteSaid := over
#print axioms proved
end Go.Proofs.Ytohbpilokmppbaa.fnExactReducePalette
namespace Go.Proofs.Ytohbpilokmppbaa
/-- The row, under a short name, for the claim. -/
theorem fnExactReducePalette_holds : Rows.FnExactReducePaletteSaid := fnExactReducePalette.proved
end Go.Proofs.Ytohbpilokmppbaa
