/- Contracts and row, written by a program of this place out of the translation: the call answers true and its argument reads as before, for every input; no condition. -/
import Derived.Test.YtohbpilokmppbaaK0
import Derived.Test.YtohbpilokmppbaaK1
import Derived.Test.YtohbpilokmppbaaK2
import Derived.Test.YtohbpilokmppbaaK3
namespace Go.Proofs.Ytohbpilokmppbaa.P
open Go.RowKit Go.Proofs.YtohbpilokmppbaaW.PrintWords Go.Proofs.YtohbpilokmppbaaW.PrintLast Go.Proofs.YtohbpilokmppbaaW.PrintMore
attribute [local go_sem] max2_int min2_int max_two min_two max_three min_three max_four min_four   -- for this text's walks alone
set_option linter.unusedVariables false
set_option linter.unusedSimpArgs false
theorem srt_mem (p : Int) (l : List (List Int)) : ∀ x ∈ srt p l, x ∈ l := by
 rcases l with _ | ⟨a, l⟩
 ·intro x hx
  have := srt_length p []
  rw [List.length_nil] at this
  rw [List.eq_nil_of_length_eq_zero this] at hx
  exact hx
 have inst : Inhabited {x // x ∈ a :: l} := ⟨⟨a, List.mem_cons_self⟩⟩
 have h := (srt_map p (fun x y : {x // x ∈ a :: l} => rowLt p x.1 y.1) (fun x => x.1) (fun _ _ => rfl) (a :: l).attach.toArray).1
 rw [List.toList_toArray, List.attach_map_subtype_val] at h
 intro x hx
 rw [h] at hx
 obtain ⟨y, _, rfl⟩ := List.mem_map.1 hx
 exact y.2
theorem srtSeg_mem (p : Int) (L : List (List Int)) (off n : Nat) : ∀ x ∈ srtSeg p L off n, x ∈ L := by
 intro x hx
 unfold srtSeg at hx
 rcases List.mem_append.1 hx with hx | hx
 rotate_left
 ·exact List.mem_of_mem_drop hx
 rcases List.mem_append.1 hx with hx | hx
 ·exact List.mem_of_mem_take hx
 exact List.mem_of_mem_drop (List.mem_of_mem_take (srt_mem p _ x hx))
def segR (L : List (List Int)) (t : Nat × Nat) : List (List Int) := (L.drop t.1).take t.2
def redC (k : Nat) (rows : List (List Int)) (i : Nat) (s : Int × Int × Int) : Nat → Option (Int × Int × Int)
 | 0 => some s
 | q + 1 => (redC k rows i s q).bind fun t => (impl_rangeOf.f k rows (q : Int)).bind fun r => if r > t.2.2 then some ((i : Int), (q : Int), r) else some t
def redB (k : Nat) (L : List (List Int)) (ts : List (Nat × Nat)) (m : Nat) : Nat → Option (Int × Int × Int)
 | 0 => some (0, 0, 0)
 | i + 1 => (redB k L ts m i).bind fun s => redC k (segR L (ts.getD i (0, 0))) i s m
def redOne (k : Nat) (m : Nat) (ts : List (Nat × Nat)) (L : List (List Int)) : Option (Option (List (Nat × Nat) × List (List Int))) := (redB k L ts m ts.length).bind fun s => if s.2.2 = 0 then some none else
 if 1 ≤ (ts.getD s.1.toNat (0, 0)).2 ∧ s.2.1 < m then some (some (ts.set s.1.toNat ((ts.getD s.1.toNat (0, 0)).1, (ts.getD s.1.toNat (0, 0)).2 / 2) ++ [((ts.getD s.1.toNat (0, 0)).1 + (ts.getD s.1.toNat (0, 0)).2 / 2, (ts.getD s.1.toNat (0, 0)).2 - (ts.getD s.1.toNat (0, 0)).2 / 2)], srtSeg s.2.1 L (ts.getD s.1.toNat (0, 0)).1 (ts.getD s.1.toNat (0, 0)).2)) else none
def redGo (k : Nat) (m : Nat) (n : Int) : Nat → List (Nat × Nat) → List (List Int) → Option (List (Nat × Nat) × List (List Int))
 | 0, ts, L => some (ts, L)
 | j + 1, ts, L => if (ts.length : Int) < n then (redOne k m ts L).bind fun o => (match o with | none => some (ts, L) | some s => redGo k m n j s.1 s.2) else some (ts, L)
def sumR (rows : List (List Int)) (q : Nat) : Nat → Int
 | 0 => 0
 | j + 1 => wrap64 (sumR rows q j + rd (rows.getD j []) (q : Int))
def meanR (rows : List (List Int)) : Nat → List Int
 | 0 => []
 | q + 1 => meanR rows q ++ [wrap64 (Int.tdiv (wrap64 (wrap64 (2 * sumR rows q rows.length) + (rows.length : Int))) (wrap64 (2 * (rows.length : Int))))]
def allR (m : Nat) (ts : List (Nat × Nat)) (L : List (List Int)) : Nat → Option (List (List Int))
 | 0 => some []
 | i + 1 => (allR m ts L i).bind fun o => if 1 ≤ (ts.getD i (0, 0)).2 then some (o ++ [meanR (segR L (ts.getD i (0, 0))) m]) else none
def impl_ReducePalette.f (k : Nat) (l : List (List Int)) (n : Int) : Option (List (List Int)) := if n < 1 then some [] else if 16 < n then some [] else if (l.length : Int) = 0 then some [] else (impl_isPalette.f l ((l.getD 0 []).length : Int)).bind fun t => if t = true then (redGo k (l.getD 0 []).length n n.toNat [(0, l.length)] l).bind fun s => allR (l.getD 0 []).length s.1 s.2 s.1.length else some []
theorem redC_mono (k : Nat) (rows : List (List Int)) (i : Nat) (s : Int × Int × Int) : ∀ q, LeO (redC k rows i s q) (redC (k + 1) rows i s q)
 | 0 => LeO.refl _
 | q + 1 => LeO.bind (redC_mono k rows i s q) (fun _ => LeO.bind (impl_rangeOf.mono _ _ _) (fun _ => LeO.refl _))
theorem redB_mono (k : Nat) (L : List (List Int)) (ts : List (Nat × Nat)) (m : Nat) : ∀ i, LeO (redB k L ts m i) (redB (k + 1) L ts m i)
 | 0 => LeO.refl _
 | i + 1 => LeO.bind (redB_mono k L ts m i) (fun _ => redC_mono _ _ _ _ _)
theorem redOne_mono (k m : Nat) (ts : List (Nat × Nat)) (L : List (List Int)) : LeO (redOne k m ts L) (redOne (k + 1) m ts L) := LeO.bind (redB_mono _ _ _ _ _) (fun _ => LeO.refl _)
theorem redGo_mono (k m : Nat) (n : Int) : ∀ j ts L, LeO (redGo k m n j ts L) (redGo (k + 1) m n j ts L)
 | 0, _, _ => LeO.refl _
 | j + 1, ts, L => LeO.ite (LeO.bind (redOne_mono _ _ _ _) (fun o => match o with | none => LeO.refl _ | some s => redGo_mono k m n j s.1 s.2)) (LeO.refl _)
theorem impl_ReducePalette.mono : ∀ a0 a1 k, LeO (impl_ReducePalette.f k a0 a1) (impl_ReducePalette.f (k + 1) a0 a1) := fun a0 a1 k =>
 LeO.ite (LeO.refl _) (LeO.ite (LeO.refl _) (LeO.ite (LeO.refl _) (LeO.bind (LeO.refl _) (fun _ => LeO.ite (LeO.bind (redGo_mono _ _ _ _ _ _) (fun _ => LeO.refl _)) (LeO.refl _)))))
theorem redC_le {k : Nat} {rows : List (List Int)} {i : Nat} {s : Int × Int × Int} : ∀ (n q : Nat) (t : Int × Int × Int), redC k rows i s n = some t → q ≤ n → ∃ u, redC k rows i s q = some u
 | 0, q, t, h, hq => ⟨t, by rw [show q = 0 by omega]; exact h⟩
 | n + 1, q, t, h, hq => by
  by_cases e : q = n + 1
  ·exact ⟨t, by rw [e]; exact h⟩
  ·rw [redC] at h
   obtain ⟨f, hf, _⟩ := Option.bind_eq_some_iff.mp h
   exact redC_le n q f hf (by omega)
theorem redB_le {k : Nat} {L : List (List Int)} {ts : List (Nat × Nat)} {m : Nat} : ∀ (n q : Nat) (t : Int × Int × Int), redB k L ts m n = some t → q ≤ n → ∃ u, redB k L ts m q = some u
 | 0, q, t, h, hq => ⟨t, by rw [show q = 0 by omega]; exact h⟩
 | n + 1, q, t, h, hq => by
  by_cases e : q = n + 1
  ·exact ⟨t, by rw [e]; exact h⟩
  ·rw [redB] at h
   obtain ⟨f, hf, _⟩ := Option.bind_eq_some_iff.mp h
   exact redB_le n q f hf (by omega)
theorem allR_le {m : Nat} {ts : List (Nat × Nat)} {L : List (List Int)} : ∀ (n q : Nat) (t : List (List Int)), allR m ts L n = some t → q ≤ n → ∃ u, allR m ts L q = some u
 | 0, q, t, h, hq => ⟨t, by rw [show q = 0 by omega]; exact h⟩
 | n + 1, q, t, h, hq => by
  by_cases e : q = n + 1
  ·exact ⟨t, by rw [e]; exact h⟩
  ·rw [allR] at h
   obtain ⟨f, hf, _⟩ := Option.bind_eq_some_iff.mp h
   exact allR_le n q f hf (by omega)
theorem redC_in {k : Nat} {rows : List (List Int)} {i : Nat} {s : Int × Int × Int} : ∀ (n : Nat) (t : Int × Int × Int), redC k rows i s n = some t → t = s ∨ (t.1 = i ∧ 0 ≤ t.2.1 ∧ t.2.1 < n ∧ s.2.2 < t.2.2)
 | 0, t, h => .inl (Option.some.inj h).symm
 | n + 1, t, h => by
  rw [redC] at h
  obtain ⟨f, hf, h⟩ := Option.bind_eq_some_iff.mp h
  obtain ⟨r, _, h⟩ := Option.bind_eq_some_iff.mp h
  have ih := redC_in n f hf
  split at h
  ·rename_i hr
   cases h
   refine .inr ⟨rfl, by simp only; omega, by simp only; omega, ?_⟩
   simp only
   rcases ih with rfl | ih
   ·exact hr
   ·omega
  ·cases h
   rcases ih with rfl | ih
   ·exact .inl rfl
   ·exact .inr ⟨ih.1, ih.2.1, by omega, ih.2.2.2⟩
theorem redB_in {k : Nat} {L : List (List Int)} {ts : List (Nat × Nat)} {m : Nat} : ∀ (n : Nat) (t : Int × Int × Int), redB k L ts m n = some t → (0 ≤ t.2.2 ∧ (t.2.2 = 0 → t = (0, 0, 0))) ∧ (t.2.2 ≠ 0 → 0 ≤ t.1 ∧ t.1 < n ∧ 0 ≤ t.2.1 ∧ t.2.1 < m)
 | 0, t, h => by
  cases h
  exact ⟨⟨Int.le_refl _, fun _ => rfl⟩, fun h => absurd rfl h⟩
 | n + 1, t, h => by
  rw [redB] at h
  obtain ⟨f, hf, h⟩ := Option.bind_eq_some_iff.mp h
  have ih := redB_in n f hf
  rcases redC_in m t h with rfl | h1
  ·exact ⟨ih.1, fun hz => by have := ih.2 hz; omega⟩
  ·exact ⟨by omega, fun _ => by omega⟩
def encP (G : Nat) (t : Nat × Nat × Nat) : Value := .slice (some ⟨G, t.1, none⟩) t.2.1 t.2.2
def noCap (t : Nat × Nat × Nat) : Nat × Nat := (t.1, t.2.1)
theorem N_segC {W : World} {base G n cap : Nat} {ok : Nat → Prop} {L : List (List Int)} (h : Kd.N (Kd.slice 3 (Kd.int .i64)) 22 W base ok (.slice (some ⟨G, 0, none⟩) n cap) L) (t : Nat × Nat) (hb : t.1 + t.2 ≤ L.length) : (segR L t).length = t.2 ∧ Kd.C (Kd.slice 3 (Kd.int .i64)) W (some ⟨G, t.1, none⟩) t.2 (segR L t) := by
 have hl : (segR L t).length = t.2 := by
  unfold segR
  rw [List.length_take, List.length_drop]
  omega
 have hmx : L.length ≤ 9223372036854775807 := by have := (Kd.N_reads' h).2.2.2.1; have := (Kd.N_reads' h).1; omega
 refine ⟨hl, hl, by omega, fun _ => ⟨_, rfl, fun j p hj => ?_⟩⟩
 have hj2 : j < t.2 := by have := (List.getElem?_eq_some_iff.1 hj).1; omega
 obtain ⟨A, c, hlc, hF, hx, _⟩ := N_row1 h (t.1 + j) (by omega)
 have hp : L.getD (t.1 + j) [] = p := by
  unfold segR at hj
  rw [List.getElem?_take_of_lt hj2, List.getElem?_drop] at hj
  rw [List.getD_eq_getElem?_getD, hj]
  rfl
 rw [hp] at hlc hF hx
 refine ⟨[.slice A p.length c], rfl, ⟨A, c, rfl, hlc, Kd.F_now hF⟩, fun i u hu => ?_⟩
 match i, hu with
 | 0, hu =>
  simp only [List.getElem?_cons_zero, Option.some.injEq] at hu
  subst hu
  show W.cell? ((⟨G, t.1, none⟩ : Addr).add (j * 1 + 0)) = _
  rw [Nat.mul_one, Nat.add_zero, add_at]
  exact hx
theorem cut_hm {W : World} (A : Option Addr) (n c m : Nat) (hm : m ≤ n) (hc : n ≤ c) : (Instr.slice 26 (.slice A n c) none (some (.int .i64 (m : Int))) (some (.int .i64 (m : Int)))).run Try.prog W = .ok (.slice A m m) W := by
 obtain ⟨i0, hi, hsz⟩ := Option.map_eq_some_iff.1 (show (Try.prog.info? 22).map (·.size) = some 1 by kernel_rfl)
 have hel : Try.prog.elem 26 = 22 := by simp [Program.elem, Try.underlying26]
 have hu : Try.prog.underlying 26 = some (.slice (Try.prog.elem 26)) := by rw [hel]; exact Try.underlying26
 have ha : (A.map fun x => x.add 0) = A := by cases A <;> simp [Addr.add]
 rw [run_slice_hm W 26 A n c hu .i64 .i64 (m : Int) (m : Int) (by omega) (Int.le_refl _) (by omega), hel, Int.toNat_natCast]
 simp [sizeOf, typeInfo, hi, hsz, sliced, Result.andThen, ha]
theorem cut_lo2 {W : World} (G o n c m : Nat) (hm : m < n) (hc : n ≤ c) : (Instr.slice 26 (.slice (some ⟨G, o, none⟩) n c) (some (.int .i64 (m : Int))) none none).run Try.prog W = .ok (.slice (some ⟨G, o + m, none⟩) (n - m) (c - m)) W := by
 rw [cut_lo (some ⟨G, o, none⟩) n c m (Nat.le_of_lt hm) hc, if_neg (by omega), Option.map_some, add_at, Nat.mul_one]
theorem mean_le {n q : Nat} (h : n = q) (h2 : q < 1000000) : (n + 1) * 8 ≤ 140737488355328 := by omega
theorem ne_two {n : Nat} (h : 1 ≤ n) (h2 : n ≤ 16) : wrap64 (2 * (n : Int)) ≠ 0 := by unfold wrap64; omega
theorem meanR_len (rows : List (List Int)) : ∀ q, (meanR rows q).length = q
 | 0 => rfl
 | q + 1 => by rw [meanR, List.length_append, meanR_len rows q]; rfl
theorem le_app16 {n : Nat} (h : n ≤ 16) : (n + 1) * 24 ≤ 140737488355328 := by omega
theorem red_inv {l0 L : List (List Int)} {tcs : List (Nat × Nat × Nat)} {m : Nat} {a1 : Int} {j b o1 n1 c1 hf pn : Nat} (h : L.length = l0.length ∧ 1 ≤ tcs.length ∧ (∀ t ∈ tcs, t.1 + t.2.1 ≤ l0.length ∧ t.2.1 ≤ t.2.2) ∧ (∀ x ∈ L, x.length = m) ∧ a1 ≤ (tcs.length : Int) + ((j + 1 : Nat) : Int) ∧ tcs.length ≤ 16) (ht : o1 + n1 ≤ l0.length ∧ n1 ≤ c1) (hb : b < tcs.length) (hf1 : hf < n1) (hlt : (tcs.length : Int) < a1) (ha : a1 ≤ 16) :
  (srtSeg (pn : Int) L o1 n1).length = l0.length ∧ 1 ≤ (tcs.set b (o1, hf, hf) ++ [(o1 + hf, n1 - hf, c1 - hf)]).length ∧ (∀ t ∈ tcs.set b (o1, hf, hf) ++ [(o1 + hf, n1 - hf, c1 - hf)], t.1 + t.2.1 ≤ l0.length ∧ t.2.1 ≤ t.2.2) ∧ (∀ x ∈ srtSeg (pn : Int) L o1 n1, x.length = m) ∧ a1 ≤ ((tcs.set b (o1, hf, hf) ++ [(o1 + hf, n1 - hf, c1 - hf)]).length : Int) + (j : Int) ∧ (tcs.set b (o1, hf, hf) ++ [(o1 + hf, n1 - hf, c1 - hf)]).length ≤ 16 := by
 obtain ⟨h1, h2, h3, h4, h5, h6⟩ := h
 refine ⟨by rw [srtSeg_length _ _ _ _ (by omega)]; exact h1, by simp, fun t hm => ?_, fun x hx => h4 x (srtSeg_mem _ _ _ _ x hx), ?_, ?_⟩
 rotate_left
 ·rw [List.length_append, List.length_set, List.length_singleton]
  omega
 ·rw [List.length_append, List.length_set, List.length_singleton]
  omega
 rcases List.mem_append.1 hm with hm | hm
 rotate_left
 ·rw [List.mem_singleton] at hm
  subst hm
  exact ⟨by simp only; omega, by simp only; omega⟩
 rcases List.mem_or_eq_of_mem_set hm with hm | rfl
 ·exact h3 t hm
 exact ⟨by simp only; omega, Nat.le_refl _⟩
theorem pk_ne (G : Nat) : ∀ q, q ∈ 26 :: ((Kd.scalar (encP G) (fun _ => rfl)) : Kd (Nat × Nat × Nat)).E → q ≠ 3 := fun q h => by
 rw [show ((Kd.scalar (encP G) (fun _ => rfl)) : Kd (Nat × Nat × Nat)).E = [] from rfl, List.mem_singleton] at h
 rw [h]
 decide
theorem P_cell {W : World} {base G P n cP : Nat} {ok : Nat → Prop} {tcs : List (Nat × Nat × Nat)} (h : Kd.R (Kd.scalar (encP G) (fun _ => rfl)) 26 W base ok (.slice (some ⟨P, 0, none⟩) n cP) tcs) (i : Nat) (hi : i < tcs.length) : W.cell? ⟨P, i, none⟩ = some (encP G (tcs.getD i (0, 0, 0))) ∧ W.frozen? ⟨P, i, none⟩ = false := by
 have hn := (Kd.R_reads' h).1
 have h1 := Kd.R_celln (0, 0, 0) h (i : Int) (by omega) (by omega)
 rw [Int.toNat_natCast] at h1
 exact h1
theorem getD_mem (tcs : List (Nat × Nat × Nat)) {i : Nat} (h : i < tcs.length) : tcs.getD i (0, 0, 0) ∈ tcs := by
 rw [List.getD_eq_getElem?_getD, List.getElem?_eq_getElem h]
 exact List.getElem_mem _
theorem le_16 {n : Nat} (h : n ≤ 16) : (0 + n) * 24 ≤ 140737488355328 := by omega
theorem pal_ok {l : List (List Int)} {m : Nat} (h : impl_isPalette.f l (m : Int) = some true) : 1 ≤ l.length ∧ l.length ≤ 16 ∧ (∀ x ∈ l, x.length = m) ∧ m ≤ 4 := by
 unfold impl_isPalette.f at h
 have h := Option.some.inj h
 split at h
 ·cases h
 split at h
 ·cases h
 split at h
 ·cases h
 split at h
 ·cases h
 refine ⟨by omega, by omega, fun x hx => ?_, by omega⟩
 rw [Bool.not_eq_true', List.any_eq_false] at h
 have h1 := h x hx
 unfold badColor at h1
 simp only [Bool.or_eq_true, bne_iff_ne, ne_eq, not_or, Decidable.not_not] at h1
 omega
set_option maxHeartbeats 16000000 in
set_option maxRecDepth 100000 in
theorem impl_ReducePalette.calls (k : Nat) (A0 : Option Addr) (c0 : Nat) (l0 : List (List Int)) (a1 : Int) (r : List (List Int)) (w : World) (hr0 : Kd.C (Kd.slice 3 (Kd.int .i64)) w A0 l0.length l0) (hc0 : l0.length ≤ c0) (h : impl_ReducePalette.f k l0 a1 = some r) :
  Calls Try.prog 37 #[.slice A0 l0.length c0, .int .i64 a1] w fun e w' => ∃ v0_ : Value, e = .returned v0_ ∧ Kd.S (Kd.slice 3 (Kd.int .i64)) 22 w' w.heap.size (fun _ => True) v0_ r ∧ Below w.heap.size w w' := by
 have hu26 := Try.underlying26
 have hu74 := Try.underlying74
 have HR0 := aM hr0
 have HC0 := aM hc0
 clear hr0 hc0
 have HB := aM (Below.refl w.heap.size w)
 unfold impl_ReducePalette.f at h
 by_cases g1 : a1 < 1
 case pos =>
  rw [if_pos g1] at h
  obtain rfl := Option.some.inj h
  have g1d := decide_eq_true g1
  clear h
  go_enter Try.func37, Try.ntmps37
  go_wp2
  go_ret
  exact ⟨_, by first | rfl | (simp; done), Kd.S_nil _ _ _ _ _, (qW HB.out)⟩
 case neg =>
 rw [if_neg g1] at h
 have g1d := decide_eq_false g1
 by_cases g2 : 16 < a1
 case pos =>
  rw [if_pos g2] at h
  obtain rfl := Option.some.inj h
  have g2d := decide_eq_true g2
  clear h
  go_enter Try.func37, Try.ntmps37
  go_wp2
  go_ret
  exact ⟨_, by first | rfl | (simp; done), Kd.S_nil _ _ _ _ _, (qW HB.out)⟩
 case neg =>
 rw [if_neg g2] at h
 have g2d := decide_eq_false g2
 by_cases hz : (l0.length : Int) = 0
 case pos =>
  rw [if_pos hz] at h
  obtain rfl := Option.some.inj h
  have hzd : ((l0.length : Int) == 0) = true := beq_iff_eq.mpr hz
  clear h
  go_enter Try.func37, Try.ntmps37
  go_wp2
  go_ret
  exact ⟨_, by first | rfl | (simp; done), Kd.S_nil _ _ _ _ _, (qW HB.out)⟩
 case neg =>
 rw [if_neg hz] at h
 have hzd : ((l0.length : Int) == 0) = false := beq_eq_false_iff_ne.mpr hz
 have hp0 : 0 < l0.length := by omega
 obtain ⟨ad, A', c', eA, hlc, hCi, hx0⟩ := C_row HR0.out 0 hp0
 subst eA
 rw [Addr.add_zero'] at hx0
 have hp0z : 0 < (l0.length : Int) := by omega
 have hp0e := eq_true hp0
 have hmem : l0.getD 0 [] ∈ l0 := by
  rw [List.getD_eq_getElem?_getD, List.getElem?_eq_getElem hp0]
  exact List.getElem_mem _
 generalize l0.getD 0 [] = x0 at h hlc hCi hx0 hmem
 obtain ⟨t1, q1, h⟩ := Option.bind_eq_some_iff.mp h
 have Q1 := aM q1
 have HXM := aM hCi.2.1
 clear hz hCi hmem
 cases t1 with
 | false =>
  rw [if_neg (show ¬ (false = true) by decide)] at h
  obtain rfl := Option.some.inj h
  clear h q1
  go_enter Try.func37, Try.ntmps37
  go_wp2_with (first | (go_at_call 53; (with_reducible refine (impl_isPalette.calls _ _ l0 (x0.length : Int) false _ ?side1 HC0.out Q1.out).mono ?_); (case side1 => exact qC (Kd.C_below HR0.out HB.out)); rintro e w7 ⟨rfl, hb⟩; have hx7 := (hb.cell (World.block_lt_of_cell? _ _ hx0)).trans hx0; clear hx0; have n2_ := bS HB hb; clear HB hb; have HB := n2_; clear n2_))
  go_ret
  exact ⟨_, by first | rfl | (simp; done), Kd.S_nil _ _ _ _ _, (qW HB.out)⟩
 | true =>
  rw [if_pos rfl] at h
  obtain ⟨⟨tsE, LE⟩, hgo, h⟩ := Option.bind_eq_some_iff.mp h
  have hpal := pal_ok q1
  have HP0 := aM hp0
  have HL16 := aM hpal.2.1
  have HMM := aM hpal.2.2.1
  have HX4 := aM hpal.2.2.2
  have HX0 := aM hx0
  have HGO := aM hgo
  have HALL := aM h
  clear hgo h hpal q1
  go_enter Try.func37, Try.ntmps37
  go_wp2_with (first | (go_at_call 53; (with_reducible refine (impl_isPalette.calls _ _ l0 (x0.length : Int) true _ ?side1 HC0.out Q1.out).mono ?_); (case side1 => exact qC (Kd.C_below HR0.out HB.out)); rintro e w7 ⟨rfl, hb⟩; have hx7 := (hb.cell (World.block_lt_of_cell? _ _ hx0)).trans hx0; clear hx0; have n2_ := bS HB hb; clear HB hb; have HB := n2_; clear n2_) | ((with_reducible refine gate_dst (N := 43) rfl ?_); refine Kd.N_lit (Kd.slice 3 (Kd.int .i64)) _ 22 ?hg (N' := 43) ?hd (xs := ([] : List (List Int))) (inner := []) (ok := fun _ => True) (okp := fun _ => True) ?hr ?hp (fun _ hk => hk) trivial (Below.refl _ _) (Nat.le_refl _) (by simp) ?_; (case hd => rfl); (case hg => rfl); (case hr => first | (go_simp; done) | (go_simp; rfl)); (case hp => exact (Reps.none _ _)); intro v43 w8 ho hb hg_ hnew_; clear hg_ hnew_; obtain ⟨A43, c43, e43⟩ := Kd.N_slice ho; subst e43; have hx8 := (hb.cell (World.block_lt_of_cell? _ _ hx7)).trans hx7; clear hx7; have n1_ := aM (Kd.N_lower ho (below_size (qW HB.out))); have n2_ := bS HB hb; clear HB ho hb; have HN := n1_; have HB := n2_; clear n1_ n2_) | ((with_reducible refine gate_builtin (b := .append) (xs := #[.tmp 43, .tmp 44]) rfl ?_); at_builtin; refine Kd.N_append_rows (Kd.slice 3 (Kd.int .i64)) (w0 := w) w.heap.size rfl (.tmp 43) (.tmp 44) 26 22 (.slice none 0 0) 24 rfl Try.underlying26 (show (Try.prog.info? 22).map (fun i => (i.zero, i.size, i.bytes)) = some (some (.slice none 0 0), 1, 24) from by kernel_rfl) rfl (by decide) (by omega) (.slice A43 0 c43) [] l0 _ _ _ (fun _ => True) (fun k_ => True ∧ some k_ ≠ (.slice A43 0 c43 : Value).ownBlock) rfl rfl ?aO ?aR (fun _ hk => hk) ?aF ?aB ?aS ?aL ?_; (case aO => exact HN.out); (case aR => exact Kd.F_mono (Kd.F_below (Kd.C_F (Kd.heap_slice _ (Kd.heap_int _)) HR0.out) HB.out) (fun k_ hk_ => ⟨trivial, fun e_ => absurd hk_ (Nat.not_lt.mpr (Kd.N_base HN.out k_ e_.symm))⟩)); (case aF => exact fun _ _ => trivial); (case aB => exact HB.out); (case aS => exact below_size HB.out); (case aL => exact le_16 HL16.out); intro v1 w9 ho hb hgr hat; clear hgr hat; rw [List.nil_append] at ho; have h0_ := Kd.N_form ho HP0.out; obtain ⟨G, cG, ev, hGb, hGl, _⟩ := h0_; subst ev; obtain ⟨NB, hNB⟩ : ∃ n_, n_ = w9.heap.size := ⟨_, rfl⟩; have n1_ := aM (Kd.N_mono (ok' := fun k_ => k_ < NB) (Kd.N_bound ho) (fun k_ hk_ => by rw [hNB]; exact hk_.2)); have HGN := aM (show w.heap.size ≤ G ∧ G < NB ∧ NB = w9.heap.size from ⟨hGb, by rw [hNB]; exact hGl, hNB⟩); have HCG := aM (Kd.N_reads' ho).2.1; have n2_ := aM hb; clear HN HB ho hb hGb hGl hNB hx8; have HN := n1_; have HB := n2_; clear n1_ n2_) | ((with_reducible refine gate_dst (N := 46) rfl ?_); refine Kd.R_lit (Kd.scalar (encP G) (fun _ => rfl)) _ 26 ?hg (N := 46) ?hd (xs := [(0, l0.length, cG)]) (inner := [.slice (some ⟨G, 0, none⟩) l0.length cG]) (ok := fun k_ => NB ≤ k_) (okp := fun _ => False) ?hr ?hp (fun _ hk => hk.elim) (Nat.le_of_eq HGN.out.2.2) (Below.refl _ _) (Nat.le_refl _) (by simp) ?_; (case hd => rfl); (case hg => rfl); (case hr => first | (go_simp; done) | (go_simp; rfl)); (case hp => exact Reps.one rfl (Reps.none _ _)); intro v46 w10 ho hb hg_ hnew_; clear hg_ hnew_; have h0_ := Kd.R_form ho (by simp); obtain ⟨P, cP, ev, _⟩ := h0_; subst ev; have n1_ := aM (Kd.R_lower ho (below_size (qW HB.out))); have n3_ := aM (Kd.N_below HN.out hb); have n2_ := bS HB hb; clear HN HB ho hb; have HP := n1_; have HB := n2_; have HN := n3_; clear n1_ n2_ n3_))
  have HNB := aM (Nat.le_trans HGN.out.1 (Nat.le_of_lt HGN.out.2.1))
  have hn0 : 0 < a1 := by omega
  have HA1 := aM (show 1 ≤ a1 ∧ a1 ≤ 16 by omega)
  go_loopg [5] a1.toNat (fun gg s5 w' => ∃ (tcs : List (Nat × Nat × Nat)) (L : List (List Int)) (P cP : Nat), s5 = .slice (some ⟨P, 0, none⟩) tcs.length cP ∧ Aside0 (redGo k x0.length a1 gg (tcs.map noCap) L = some (tsE, LE)) ∧ Aside0 (L.length = l0.length ∧ 1 ≤ tcs.length ∧ (∀ t ∈ tcs, t.1 + t.2.1 ≤ l0.length ∧ t.2.1 ≤ t.2.2) ∧ (∀ x ∈ L, x.length = x0.length) ∧ a1 ≤ (tcs.length : Int) + gg ∧ tcs.length ≤ 16) ∧ Aside0 (Kd.R (Kd.scalar (encP G) (fun _ => rfl)) 26 w' w.heap.size (fun k_ => NB ≤ k_) (.slice (some ⟨P, 0, none⟩) tcs.length cP) tcs) ∧ Aside0 (Kd.N (Kd.slice 3 (Kd.int .i64)) 22 w' w.heap.size (fun k_ => k_ < NB) (.slice (some ⟨G, 0, none⟩) l0.length cG) L) ∧ Aside0 (Below w.heap.size w w'))
  case atStart => exact ⟨[(0, l0.length, cG)], l0, P, cP, rfl, HGO, ⟨rfl, by simp, fun t ht => by rw [List.mem_singleton] at ht; subst ht; exact ⟨by simp, HCG.out⟩, HMM.out, by have := HA1.out; simp only [List.length_singleton]; omega, by simp⟩, ⟨by refine qR ?_; exact HP.out⟩, ⟨by (with_reducible repeat (first | apply Kd.N_alloc | apply Kd.N_drewN | apply Kd.N_drew)); exact HN.out⟩, ⟨(qW HB.out)⟩⟩
  case round =>
   clear HP HN HB HGO HMM
   obtain ⟨tcs, L, P, cP, rfl, HGO, HT, HP, HN, HB⟩ := hrel
   by_cases hlt : (tcs.length : Int) < a1
   case neg =>
    have hlt2 := hlt
    have hd := decide_eq_false hlt
    have he : some (tcs.map noCap, L) = some (tsE, LE) := by
     rw [← HGO.out]
     cases gk with
     | zero => rfl
     | succ j => rw [redGo, if_neg (by rw [List.length_map]; exact hlt2)]
    have HE := aM (Prod.mk.inj (Option.some.inj he))
    clear he hlt2 HGO
    obtain ⟨cellsP, hcp⟩ := Kd.R_typed HP.out P (by simp [Value.ownBlock])
    have HPC := aM (fun (W : World) (h : W.heap[P]? = some (.cells cellsP 26 (0, 0))) (i : Nat) (hi : i < tcs.length) => (World.cell?_of_block (a := ⟨P, i, none⟩) (h.trans hcp.symm)).trans (P_cell HP.out i hi).1)
    have BKP := aM hcp
    have HNP := aM (HP.out.1 P (by simp [Value.ownBlock]))
    obtain ⟨e1, e2⟩ := HE.out
    subst e1
    subst e2
    have HALL2 := aM (show allR x0.length (tcs.map noCap) L tcs.length = some r by have h1 := HALL.out; rw [List.length_map] at h1; exact h1)
    clear hcp HE HP
    go_wp2_with (first | ((with_reducible refine gate_dst (N := 101) rfl ?_); refine Kd.S_lit (Kd.slice 3 (Kd.int .i64)) _ 22 ?hg (N := 101) ?hd (xs := ([] : List (List Int))) (inner := []) (ok := fun k_ => NB ≤ k_) (okp := fun k_ => NB ≤ k_) ?hr ?hp (fun _ hk => hk) (Nat.le_trans HNP.out (Nat.le_of_lt (blk_lt (g := P) (o := (.cells cellsP 26 (0, 0))) (qB BKP.out)))) (Below.refl _ _) (Nat.le_refl _) (by simp) ?_; (case hd => rfl); (case hg => rfl); (case hr => first | (go_simp; done) | (go_simp; rfl)); (case hp => exact (Reps.none _ _)); intro v15 w19 ho hb hg_ hnew_; clear hg_ hnew_; obtain ⟨Au, cu, eu⟩ := Kd.S_slice ho; subst eu; have HO := aM (Kd.S_lower ho (below_size (qW HB.out))); replace BKP := bB BKP hb; replace HN := aM (Kd.N_below (by (with_reducible repeat (first | apply Kd.N_alloc | apply Kd.N_drewN | apply Kd.N_drew)); exact HN.out) hb); replace HB := bS HB hb; clear ho hb))
    go_loopg [15, 104] tcs.length (fun g4 s15 s104 w' => ∃ (i : Nat) (o : List (List Int)) (Au : Option Addr) (cu : Nat), i ≤ tcs.length ∧ tcs.length - i ≤ g4 ∧ s15 = .slice Au o.length cu ∧ s104 = .int .i64 i ∧ Aside0 (allR x0.length (tcs.map noCap) L i = some o) ∧ Aside0 (o.length = i) ∧ Aside0 (Kd.S (Kd.slice 3 (Kd.int .i64)) 22 w' w.heap.size (fun k_ => NB ≤ k_) (.slice Au o.length cu) o) ∧ Aside0 (w'.heap[P]? = some (.cells cellsP 26 (0, 0))) ∧ Aside0 (Kd.N (Kd.slice 3 (Kd.int .i64)) 22 w' w.heap.size (fun k_ => k_ < NB) (.slice (some ⟨G, 0, none⟩) l0.length cG) L) ∧ Aside0 (Below w.heap.size w w'))
    case atStart => exact ⟨0, [], Au, cu, Nat.zero_le _, by omega, rfl, rfl, ⟨rfl⟩, ⟨rfl⟩, ⟨by (with_reducible repeat (first | apply Kd.S_alloc | apply Kd.S_drewN | apply Kd.S_drew)); exact HO.out⟩, ⟨by refine qB ?_; exact BKP.out⟩, ⟨by (with_reducible repeat (first | apply Kd.N_alloc | apply Kd.N_drewN | apply Kd.N_drew)); exact HN.out⟩, ⟨(qW HB.out)⟩⟩
    case round =>
     clear HO BKP HN HB
     obtain ⟨i, o, Au, cu, hi, hg4, rfl, rfl, HI, HOL, HO, BKP, HN, HB⟩ := hrel
     by_cases hil : i < tcs.length
     case neg =>
      have ei : i = tcs.length := by omega
      have he := HI.out
      rw [ei, HALL2.out] at he
      have ER := aM (Option.some.inj he)
      have hild := decide_eq_false (show ¬ (i : Int) < (tcs.length : Int) by omega)
      clear he hg4 hi ei
      go_wp2
      go_ret
      exact ⟨_, by first | rfl | (simp; done), by (with_reducible repeat (first | apply Kd.S_alloc | apply Kd.S_drewN | apply Kd.S_drew)); rw [ER.out]; exact Kd.S_mono HO.out (fun _ _ => trivial), (qW HB.out)⟩
     case pos =>
      have hi16 : i < 16 := by have := HT.out.2.2.2.2.2; omega
      have HO16 := aM (show o.length ≤ 16 by have := HOL.out; omega)
      have hil0 : 0 ≤ (i : Int) := by omega
      have hilz : (i : Int) < (tcs.length : Int) := by omega
      have hild := decide_eq_true hilz
      obtain ⟨o2, hw2⟩ := allR_le _ (i + 1) _ HALL2.out hil
      have HI2 := aM hw2
      rw [allR, HI.out, Option.bind_some] at hw2
      have hxP := HPC.out wr BKP.out i hil
      have htm := HT.out.2.2.1 _ (getD_mem tcs hil)
      have htn : (tcs.map noCap).getD i (0, 0) = noCap (tcs.getD i (0, 0, 0)) := by
       rw [List.getD_eq_getElem?_getD, List.getElem?_map, List.getElem?_eq_getElem hil, List.getD_eq_getElem?_getD, List.getElem?_eq_getElem hil]
       rfl
      rw [htn] at hw2
      generalize tcs.getD i (0, 0, 0) = t at hw2 hxP htm
      obtain ⟨o1, n1, c1⟩ := t
      simp only at htm
      replace hw2 : (if 1 ≤ n1 then some (o ++ [meanR (segR L (o1, n1)) x0.length]) else none) = some o2 := hw2
      by_cases hn1 : 1 ≤ n1
      case neg => rw [if_neg hn1] at hw2; cases hw2
      rw [if_pos hn1] at hw2
      obtain ⟨rows, hrows⟩ : ∃ z, z = segR L (o1, n1) := ⟨_, rfl⟩
      rw [← hrows] at hw2
      have hsl : n1 = rows.length := by rw [hrows]; exact (N_segC HN.out (o1, n1) (by have h1_ := htm.1; have h2_ := HT.out.1; omega)).1.symm
      subst hsl
      have HR := aM hrows
      have HTM := aM htm
      have HO2 := aM (Option.some.inj hw2)
      have hxP1 : wr.cell? ⟨P, i, none⟩ = some (.slice (some ⟨G, o1, none⟩) rows.length c1) := hxP
      have hrl : rows.length ≤ 16 := by have h1_ := htm.1; have h2_ := HL16.out; omega
      have HRL := aM hrl
      have hz2 : ((wrap64 (2 * (rows.length : Int))) == 0) = false := beq_eq_false_iff_ne.mpr (ne_two hn1 hrl)
      have hz3 : wrap64 (2 * (rows.length : Int)) ≠ 0 := ne_two hn1 hrl
      clear hxP hrows htm hw2 htn hn1 hrl
      go_wp2_with (first | ((with_reducible refine gate_dst (N := 108) rfl ?_); refine Kd.R_lit (Kd.int .i64) _ 3 ?hg (N := 108) ?hd (xs := ([] : List Int)) (inner := []) (ok := fun k_ => NB ≤ k_) (okp := fun _ => False) ?hr ?hp (fun _ hk => hk.elim) (Nat.le_trans HNP.out (Nat.le_of_lt (blk_lt (g := P) (o := (.cells cellsP 26 (0, 0))) (qB BKP.out)))) (Below.refl _ _) (Nat.le_refl _) (by simp) ?_; (case hd => rfl); (case hg => rfl); (case hr => first | (go_simp; done) | (go_simp; rfl)); (case hp => exact (Reps.none _ _)); intro v18 w20 ho hb hg_ hnew_; clear hg_ hnew_; obtain ⟨Am, cm, em⟩ := Kd.R_slice ho; subst em; have HM := aM (Kd.R_lower ho (below_size (qW HB.out))); replace HO := aM (Kd.S_elder' (by (with_reducible repeat (first | apply Kd.S_alloc | apply Kd.S_drewN | apply Kd.S_drew)); exact HO.out) (Kd.R_base ho) hb); replace BKP := bB BKP hb; replace HN := aM (Kd.N_below (by (with_reducible repeat (first | apply Kd.N_alloc | apply Kd.N_drewN | apply Kd.N_drew)); exact HN.out) hb); replace HB := bS HB hb; clear ho hb hxP1; have hxL := (HB.out.cell (World.block_lt_of_cell? _ _ HX0.out)).trans HX0.out))
      go_loopg [18, 113] x0.length (fun g5 s18 s113 w' => ∃ (q : Nat) (mr : List Int) (Am : Option Addr) (cm : Nat), q ≤ x0.length ∧ x0.length - q ≤ g5 ∧ s18 = .slice Am mr.length cm ∧ s113 = .int .i64 q ∧ Aside0 (mr = meanR rows q) ∧ Aside0 (Kd.R (Kd.int .i64) 3 w' w.heap.size (fun k_ => NB ≤ k_) (.slice Am mr.length cm) mr) ∧ Aside0 (Kd.S (Kd.slice 3 (Kd.int .i64)) 22 w' w.heap.size (fun k_ => NB ≤ k_ ∧ some k_ ≠ (.slice Am mr.length cm : Value).ownBlock) (.slice Au o.length cu) o) ∧ Aside0 (w'.heap[P]? = some (.cells cellsP 26 (0, 0))) ∧ Aside0 (Kd.N (Kd.slice 3 (Kd.int .i64)) 22 w' w.heap.size (fun k_ => k_ < NB) (.slice (some ⟨G, 0, none⟩) l0.length cG) L) ∧ Aside0 (Below w.heap.size w w'))
      case atStart => exact ⟨0, [], Am, cm, Nat.zero_le _, by omega, rfl, rfl, ⟨rfl⟩, ⟨by refine qR ?_; exact HM.out⟩, ⟨by (with_reducible repeat (first | apply Kd.S_alloc | apply Kd.S_drewN | apply Kd.S_drew)); exact HO.out⟩, ⟨by refine qB ?_; exact BKP.out⟩, ⟨by (with_reducible repeat (first | apply Kd.N_alloc | apply Kd.N_drewN | apply Kd.N_drew)); exact HN.out⟩, ⟨(qW HB.out)⟩⟩
      case round =>
       clear HO BKP HN HB HM hxL
       obtain ⟨q, mr, Am, cm, hq, hg5, rfl, rfl, HME, HM, HO, BKP, HN, HB⟩ := hrel
       by_cases hql : q < x0.length
       case neg =>
        have eq_ : q = x0.length := by omega
        have hqld := decide_eq_false (show ¬ (q : Int) < (x0.length : Int) by omega)
        have HME2 := aM (show o ++ [mr] = o2 by rw [HME.out, eq_]; exact HO2.out)
        clear eq_ hg5 hq
        go_wp2_with (first | ((with_reducible refine gate_builtin (b := .append) (xs := #[.tmp 142, .tmp 144]) rfl ?_); at_builtin; refine Kd.S_append (Kd.slice 3 (Kd.int .i64)) (w0 := w) w.heap.size rfl (.tmp 142) (.tmp 144) 26 22 (.slice none 0 0) 24 rfl Try.underlying26 (show (Try.prog.info? 22).map (fun i => (i.zero, i.size, i.bytes)) = some (some (.slice none 0 0), 1, 24) from by kernel_rfl) rfl (by decide) (by omega) (.slice Au o.length cu) o mr [.slice Am mr.length cm] (fun k_ => NB ≤ k_) (fun k_ => some k_ = (.slice Am mr.length cm : Value).ownBlock) rfl rfl ?aP (fun k_ hk_ => (Kd.R_mono (ok' := fun k_ => NB ≤ k_ ∧ some k_ ≠ (.slice Au o.length cu : Value).ownBlock) (Kd.R_apart' (HM.out) (Kd.S_typed HO.out) (by decide)) (fun k_ hk => ⟨hk.1, hk.2⟩)).1 k_ hk_.symm) ?aF ?aO ?aB ?aS ?aL ?_; (case aP => exact Kd.M_row (Kd.R_mono (Kd.R_tight rfl (Kd.R_mono (ok' := fun k_ => NB ≤ k_ ∧ some k_ ≠ (.slice Au o.length cu : Value).ownBlock) (Kd.R_apart' (HM.out) (Kd.S_typed HO.out) (by decide)) (fun k_ hk => ⟨hk.1, hk.2⟩))) (fun _ h_ => h_))); (case aB => exact HB.out); (case aF => exact fun k_ hk_ => Nat.le_trans (Nat.le_trans HNP.out (Nat.le_of_lt (blk_lt (g := P) (o := (.cells cellsP 26 (0, 0))) (qB BKP.out)))) hk_); (case aO => exact Kd.S_mono HO.out (fun k_ hk => ⟨hk.1, fun e_ => hk.2 e_⟩)); (case aS => exact below_size HB.out); (case aL => exact le_app16 HO16.out); intro v22 w22 ho hb hg hat; obtain ⟨Au2, cu2, eu2⟩ := Kd.S_slice ho; subst eu2; replace BKP := aM (blk_grown (g := P) (o := (.cells cellsP 26 (0, 0))) BKP.out hg (Kd.S_ne HO.out BKP.out (by decide))); replace HN := aM (Kd.N_grown HN.out hg (fun k_ hk_ e_ => absurd hk_ (Nat.not_lt.mpr ((Kd.S_R HO.out).1 k_ e_.symm).1))); replace HO := aM (ho); replace HB := aM (hb); clear ho hb hg hat HM))
        go_roundg (tcs.length - (i + 1))
        case measure => omega
        case rel => exact ⟨i + 1, o ++ [mr], Au2, cu2, by omega, by omega, by first | rfl | (simp; done), by go_num, ⟨HI2.out.trans (congrArg some HME2.out.symm)⟩, ⟨by rw [List.length_append, HOL.out]; rfl⟩, ⟨by (with_reducible repeat (first | apply Kd.S_alloc | apply Kd.S_drewN | apply Kd.S_drew)); exact HO.out⟩, ⟨by refine qB ?_; exact BKP.out⟩, ⟨by (with_reducible repeat (first | apply Kd.N_alloc | apply Kd.N_drewN | apply Kd.N_drew)); exact HN.out⟩, ⟨(qW HB.out)⟩⟩
       case pos =>
        have hql0 : 0 ≤ (q : Int) := by omega
        have hqlz : (q : Int) < (x0.length : Int) := by omega
        have hqld := decide_eq_true hqlz
        have hxm := HXM.out
        have HML := aM (show mr.length = q by rw [HME.out, meanR_len])
        have HXM2 := aM (show q < 1000000 by have := HX4.out; omega)
        go_wp2
        obtain ⟨we, ewe⟩ : ∃ we : World, we = wr := ⟨_, rfl⟩
        go_loopg [20, 118] rows.length (fun g6 s20 s118 w' => ∃ (j : Nat), j ≤ rows.length ∧ rows.length - j ≤ g6 ∧ s20 = .int .i64 (sumR rows q j) ∧ s118 = .int .i64 j ∧ w' = we)
        case atStart => exact ⟨0, Nat.zero_le _, by omega, rfl, rfl, ewe.symm⟩
        case round =>
         obtain ⟨j, hj, hg6, rfl, rfl, rfl⟩ := hrel
         by_cases hjl : j < rows.length
         case neg =>
          have ej : j = rows.length := by omega
          have hjld := decide_eq_false (show ¬ (j : Int) < (rows.length : Int) by omega)
          subst ej
          have HME3 := aM (show mr ++ [(wrap64 (Int.tdiv (wrap64 (wrap64 (2 * sumR rows q rows.length) + (rows.length : Int))) (wrap64 (2 * (rows.length : Int)))))] = meanR rows (q + 1) by rw [HME.out]; rfl)
          clear hg6 hj
          go_wp2_with (first | ((with_reducible refine gate_builtin (b := .append) (xs := #[.tmp 129, .tmp 139]) rfl ?_); at_builtin; refine Kd.R_append (Kd.int .i64) (w0 := w) w.heap.size rfl (.tmp 129) (.tmp 139) 22 3 (.int .i64 0) 8 rfl Try.underlying22 (show (Try.prog.info? 3).map (fun i => (i.zero, i.size, i.bytes)) = some (some (.int .i64 0), 1, 8) by kernel_rfl) rfl (by decide) (by omega) (.slice Am mr.length cm) mr (wrap64 (Int.tdiv (wrap64 (wrap64 (2 * sumR rows q rows.length) + (rows.length : Int))) (wrap64 (2 * (rows.length : Int))))) [.int .i64 (wrap64 (Int.tdiv (wrap64 (wrap64 (2 * sumR rows q rows.length) + (rows.length : Int))) (wrap64 (2 * (rows.length : Int)))))] (fun k_ => NB ≤ k_) (fun _ => False) rfl rfl ?aP (fun _ hk => hk.elim) ?aF ?aO ?aB ?aS ?aL ?_; (case aP => exact rfl); (case aF => exact fun k_ hk_ => Nat.le_trans (Nat.le_trans HNP.out (Nat.le_of_lt (blk_lt (g := P) (o := (.cells cellsP 26 (0, 0))) (qB BKP.out)))) hk_); (case aO => exact HM.out); (case aB => exact HB.out); (case aS => exact below_size HB.out); (case aL => exact mean_le HML.out HXM2.out); intro v21 w21 ho hb hg hat; obtain ⟨Am2, cm2, em2⟩ := Kd.R_slice ho; subst em2; replace HO := aM (Kd.S_after (ok := fun k_ => NB ≤ k_) HO.out hg hat); replace BKP := aM (blk_grown (g := P) (o := (.cells cellsP 26 (0, 0))) BKP.out hg (Kd.R_ne HM.out BKP.out (by decide))); replace HN := aM (Kd.N_grown HN.out hg (fun k_ hk_ e_ => absurd hk_ (Nat.not_lt.mpr (HM.out.1 k_ e_.symm)))); replace HM := aM (ho); replace HB := aM (hb); clear ho hb hg hat))
          go_roundg (x0.length - (q + 1))
          case measure => omega
          case rel => exact ⟨q + 1, mr ++ [(wrap64 (Int.tdiv (wrap64 (wrap64 (2 * sumR rows q rows.length) + (rows.length : Int))) (wrap64 (2 * (rows.length : Int)))))], Am2, cm2, by omega, by omega, by first | rfl | (simp; done), by go_num, HME3, ⟨by refine qR ?_; exact HM.out⟩, ⟨by (with_reducible repeat (first | apply Kd.S_alloc | apply Kd.S_drewN | apply Kd.S_drew)); exact HO.out⟩, ⟨by refine qB ?_; exact BKP.out⟩, ⟨by (with_reducible repeat (first | apply Kd.N_alloc | apply Kd.N_drewN | apply Kd.N_drew)); exact HN.out⟩, ⟨(qW HB.out)⟩⟩
         case pos =>
          have hj16 : rows.length ≤ 16 := HRL.out
          have hj0 : 0 ≤ (j : Int) := by omega
          have hjz : (j : Int) < (rows.length : Int) := by omega
          have hjld := decide_eq_true hjz
          obtain ⟨Ax, cx, hlx, hFx, hxG, _⟩ := N_row1 HN.out (o1 + j) (by have h1_ := HTM.out.1; have h2_ := HT.out.1; omega)
          have hrx : L.getD (o1 + j) [] = rows.getD j [] := by
           have h1 := HR.out
           have h2 : j < rows.length := hjl
           rw [h1]
           unfold segR
           rw [List.getD_eq_getElem?_getD, List.getD_eq_getElem?_getD, List.getElem?_take_of_lt (by exact hjl), List.getElem?_drop]
          have hlen : (rows.getD j []).length = x0.length := by
           rw [← hrx]
           refine HT.out.2.2.2.1 _ ?_
           rw [List.getD_eq_getElem?_getD, List.getElem?_eq_getElem (by have h1_ := HTM.out.1; have h2_ := HT.out.1; omega)]
           exact List.getElem_mem _
          rw [hrx] at hxG hFx hlx
          have HSJ := aM (show wrap64 (sumR rows q j + rd (rows.getD j []) (q : Int)) = sumR rows q (j + 1) from rfl)
          generalize rows.getD j [] = xr at hxG hFx hlx hlen HSJ
          obtain ⟨ax, eax, hcx⟩ := Kd.at_int (Kd.F_now hFx) (q : Int) hql0 (by omega)
          subst eax
          rw [hlen] at hxG
          rw [Int.toNat_natCast] at hcx
          have hcx2 := hcx
          rw [← Int.toNat_natCast q] at hcx2
          have hqrn : q < x0.length := hql
          clear hrx hFx hlx hj hlen
          go_wp2
          go_roundg (rows.length - (j + 1))
          case measure => omega
          case rel => exact ⟨j + 1, by omega, by omega, by rw [← HSJ.out], by go_num, by first | rfl | exact ewe.symm⟩
   case pos =>
    have hd := decide_eq_true hlt
    obtain ⟨j, rfl⟩ : ∃ j, gk = j + 1 := ⟨gk - 1, by have := HT.out.2.2.2.2.1; omega⟩
    have H1 := HGO.out
    rw [redGo, if_pos (by rw [List.length_map]; exact hlt)] at H1
    obtain ⟨o, HO1, H2⟩ := Option.bind_eq_some_iff.mp H1
    unfold redOne at HO1
    obtain ⟨⟨bw, pw, mw⟩, HW, HO1⟩ := Option.bind_eq_some_iff.mp HO1
    rw [List.length_map] at HW
    replace HW := aM HW
    replace HO1 := aM HO1
    replace H2 := aM H2
    have HLT := aM hlt
    clear H1 HGO hlt
    go_wp2_with (first | ((with_reducible refine gate_dst (N := 7) rfl ?_); refine bxE (N := 7) (cs := #[.int .i64 0]) (t := 3) ?_; intro pl hg w12 hbox hb; have HPL := aM (show NB ≤ pl by rw [hg]; exact Nat.le_of_lt (Nat.lt_of_le_of_lt (HP.out.1 P (by simp [Value.ownBlock])) (Kd.R_lt (qR HP.out) P (by simp [Value.ownBlock])))); replace HP := aM (Kd.R_below (qR HP.out) hb); replace HN := aM (Kd.N_below (by (with_reducible repeat (first | apply Kd.N_alloc | apply Kd.N_drewN | apply Kd.N_drew)); exact HN.out) hb); replace HB := bS HB hb; have BK := aM hbox; have hcz := (blk_cell BK.out 0).trans rfl; have hfz := blk_frozen BK.out 0; clear hb hbox hg))
    generalize hw_ : World.setCell w12 ⟨pl, 0, none⟩ (.int .i64 0) = w13
    have hw := hw_.symm
    clear hw_ hcz hfz
    replace HP := aM (show Kd.R (Kd.scalar (encP G) (fun _ => rfl)) 26 w13 w.heap.size (fun k_ => NB ≤ k_) (.slice (some ⟨P, 0, none⟩) tcs.length cP) tcs by rw [hw]; exact Kd.R_set HP.out BK.out (pk_ne G) 0 _); replace BK := aM (show w13.heap[pl]? = some (.cells #[.int .i64 0] 3 (0, 0)) by rw [hw]; exact blk_put (cs := #[.int .i64 0]) BK.out 0 _ rfl); replace HN := aM (show Kd.N (Kd.slice 3 (Kd.int .i64)) 22 w13 w.heap.size (fun k_ => k_ < NB) (.slice (some ⟨G, 0, none⟩) l0.length cG) L by rw [hw]; exact Kd.N_far (p := ⟨pl, 0, none⟩) HN.out (fun k_ hk_ => Nat.ne_of_lt (Nat.lt_of_lt_of_le hk_ HPL.out)) _); replace HB := aM (show Below w.heap.size w w13 by rw [hw]; exact below_set HB.out (Nat.le_trans HNB.out HPL.out)); clear hw
    go_loopg [6, 8, 53] tcs.length (fun g2 s6 s8 s53 w' => ∃ (i : Nat) (bi pi mi : Int), i ≤ tcs.length ∧ tcs.length - i ≤ g2 ∧ s6 = .int .i64 bi ∧ s8 = .int .i64 mi ∧ s53 = .int .i64 i ∧ Aside0 (redB k L (tcs.map noCap) x0.length i = some (bi, pi, mi)) ∧ Aside0 (w'.heap[pl]? = some (.cells #[.int .i64 pi] 3 (0, 0))) ∧ Aside0 (Kd.R (Kd.scalar (encP G) (fun _ => rfl)) 26 w' w.heap.size (fun k_ => NB ≤ k_) (.slice (some ⟨P, 0, none⟩) tcs.length cP) tcs) ∧ Aside0 (Kd.N (Kd.slice 3 (Kd.int .i64)) 22 w' w.heap.size (fun k_ => k_ < NB) (.slice (some ⟨G, 0, none⟩) l0.length cG) L) ∧ Aside0 (Below w.heap.size w w'))
    case atStart => exact ⟨0, 0, 0, 0, Nat.zero_le _, by omega, rfl, rfl, rfl, ⟨rfl⟩, ⟨by refine qB ?_; exact BK.out⟩, ⟨by refine qR ?_; exact HP.out⟩, ⟨by (with_reducible repeat (first | apply Kd.N_alloc | apply Kd.N_drewN | apply Kd.N_drew)); exact HN.out⟩, ⟨(qW HB.out)⟩⟩
    case round =>
     clear HP HN HB BK
     obtain ⟨i, bi, pi, mi, hi, hg2, rfl, rfl, rfl, HI, BK, HP, HN, HB⟩ := hrel
     have hi16 : i ≤ 16 := by have := HT.out.2.2.2.2.2; omega
     by_cases hil : i < tcs.length
     case pos =>
      have hil0 : 0 ≤ (i : Int) := by omega
      have hilz : (i : Int) < (tcs.length : Int) := by omega
      have hild := decide_eq_true hilz
      obtain ⟨s2, hw2⟩ := redB_le _ (i + 1) _ HW.out hil
      have HI2 := aM hw2
      rw [redB, HI.out, Option.bind_some] at hw2
      have hxP := P_cell HP.out i hil
      have htm := HT.out.2.2.1 _ (getD_mem tcs hil)
      have htn : (tcs.map noCap).getD i (0, 0) = noCap (tcs.getD i (0, 0, 0)) := by
       rw [List.getD_eq_getElem?_getD, List.getElem?_map, List.getElem?_eq_getElem hil, List.getD_eq_getElem?_getD, List.getElem?_eq_getElem hil]
       rfl
      rw [htn] at hw2
      generalize tcs.getD i (0, 0, 0) = t at hw2 hxP htm
      obtain ⟨o1, n1, c1⟩ := t
      simp only [noCap] at hw2 htm
      have hxP1 : wr.cell? ⟨P, i, none⟩ = some (.slice (some ⟨G, o1, none⟩) n1 c1) := hxP.1
      have hxL := (HB.out.cell (World.block_lt_of_cell? _ _ HX0.out)).trans HX0.out
      obtain ⟨rows, hrows⟩ : ∃ z, z = segR L (o1, n1) := ⟨_, rfl⟩
      rw [← hrows] at hw2
      have hsl : n1 = rows.length := by rw [hrows]; exact (N_segC HN.out (o1, n1) (by have h1_ := htm.1; have h2_ := HT.out.1; omega)).1.symm
      subst hsl
      have HR := aM hrows
      have HTM := aM htm
      have HC2 := aM hw2
      clear hxP hrows htm hw2 htn
      go_wp2
      go_loopg [6, 8, 62] x0.length (fun g3 s6 s8 s62 w' => ∃ (q : Nat) (bj pj mj : Int), q ≤ x0.length ∧ x0.length - q ≤ g3 ∧ s6 = .int .i64 bj ∧ s8 = .int .i64 mj ∧ s62 = .int .i64 q ∧ Aside0 (redC k rows i (bi, pi, mi) q = some (bj, pj, mj)) ∧ Aside0 (w'.heap[pl]? = some (.cells #[.int .i64 pj] 3 (0, 0))) ∧ Aside0 (Kd.R (Kd.scalar (encP G) (fun _ => rfl)) 26 w' w.heap.size (fun k_ => NB ≤ k_) (.slice (some ⟨P, 0, none⟩) tcs.length cP) tcs) ∧ Aside0 (Kd.N (Kd.slice 3 (Kd.int .i64)) 22 w' w.heap.size (fun k_ => k_ < NB) (.slice (some ⟨G, 0, none⟩) l0.length cG) L) ∧ Aside0 (Below w.heap.size w w'))
      case atStart => exact ⟨0, bi, pi, mi, Nat.zero_le _, by omega, rfl, rfl, rfl, ⟨rfl⟩, ⟨by refine qB ?_; exact BK.out⟩, ⟨by refine qR ?_; exact HP.out⟩, ⟨by (with_reducible repeat (first | apply Kd.N_alloc | apply Kd.N_drewN | apply Kd.N_drew)); exact HN.out⟩, ⟨(qW HB.out)⟩⟩
      case round =>
       clear HP HN HB BK hxP1 hxL
       obtain ⟨q, bj, pj, mj, hq, hg3, rfl, rfl, rfl, HJ, BK, HP, HN, HB⟩ := hrel
       by_cases hql : q < x0.length
       case neg =>
        have eq_ : q = x0.length := by omega
        have hqld := decide_eq_false (show ¬ (q : Int) < (x0.length : Int) by omega)
        have hj := HJ.out
        rw [eq_, HC2.out] at hj
        have HS2 := aM (Option.some.inj hj)
        clear hj eq_ hg3 hq
        go_wp2
        go_roundg (tcs.length - (i + 1))
        case measure => omega
        case rel => exact ⟨i + 1, bj, pj, mj, by omega, by omega, rfl, rfl, by go_num, ⟨HI2.out.trans (congrArg some HS2.out)⟩, ⟨by refine qB ?_; exact BK.out⟩, ⟨by refine qR ?_; exact HP.out⟩, ⟨by (with_reducible repeat (first | apply Kd.N_alloc | apply Kd.N_drewN | apply Kd.N_drew)); exact HN.out⟩, ⟨(qW HB.out)⟩⟩
       case pos =>
        have hq16 : x0.length ≤ 9223372036854775807 := HXM.out
        have hql0 : 0 ≤ (q : Int) := by omega
        have hqlz : (q : Int) < (x0.length : Int) := by omega
        have hqld := decide_eq_true hqlz
        obtain ⟨s3, hw3⟩ := redC_le _ (q + 1) _ HC2.out hql
        have HJ2 := aM hw3
        rw [redC, HJ.out, Option.bind_some] at hw3
        obtain ⟨rg, hrg, hw3⟩ := Option.bind_eq_some_iff.mp hw3
        have HRG := aM hrg
        have hsg := (N_segC HN.out (o1, rows.length) (by have h1_ := HTM.out.1; have h2_ := HT.out.1; omega)).2
        rw [← HR.out] at hsg
        have HSC := aM hsg
        have hcn : rows.length ≤ c1 := HTM.out.2
        have HCN := aM hcn
        clear hsg hrg hcn
        have hcz := (blk_cell BK.out 0).trans rfl
        have hfz := blk_frozen BK.out 0
        by_cases hgt : rg > mj
        case pos =>
         have hgd : decide (mj < rg) = true := decide_eq_true hgt
         rw [if_pos hgt] at hw3
         have HS3 := aM (Option.some.inj hw3)
         clear hw3 hgt
         go_wp2_with (first | (go_at_call 71; (with_reducible refine (impl_rangeOf.calls k _ c1 rows (q : Int) rg _ ?side1 ?side2 HRG.out).mono ?_); (case side1 => exact HSC.out); (case side2 => exact HCN.out); rintro e w14 ⟨rfl, hb⟩; replace BK := bB BK hb; replace HP := aM (Kd.R_below (qR HP.out) hb); replace HN := aM (Kd.N_below (by (with_reducible repeat (first | apply Kd.N_alloc | apply Kd.N_drewN | apply Kd.N_drew)); exact HN.out) hb); replace HB := bS HB hb; clear hb; clear hcz hfz; have hcz := (blk_cell BK.out 0).trans rfl; have hfz := blk_frozen BK.out 0) | ((with_reducible refine gate_store (t := 3) (p := 7) rfl ?_); refine store_event (t := 3) (p := 7) (v := ?vo_pq) (w1 := (w14.setCell ⟨pl, 0, none⟩ (.int .i64 (q : Int)))) ?hg ?ho ?hn ?hr ?_; (case ho => rfl); (case hg => rfl); (case hn => rfl); (case hr => first | (go_simp; done) | (go_simp; rfl)); intro w15 hw; replace HP := aM (show Kd.R (Kd.scalar (encP G) (fun _ => rfl)) 26 w15 w.heap.size (fun k_ => NB ≤ k_) (.slice (some ⟨P, 0, none⟩) tcs.length cP) tcs by rw [hw]; exact Kd.R_set HP.out BK.out (pk_ne G) 0 _); replace BK := aM (show w15.heap[pl]? = some (.cells #[.int .i64 (q : Int)] 3 (0, 0)) by rw [hw]; exact blk_put (cs := #[.int .i64 pj]) BK.out 0 _ rfl); replace HN := aM (show Kd.N (Kd.slice 3 (Kd.int .i64)) 22 w15 w.heap.size (fun k_ => k_ < NB) (.slice (some ⟨G, 0, none⟩) l0.length cG) L by rw [hw]; exact Kd.N_far (p := ⟨pl, 0, none⟩) HN.out (fun k_ hk_ => Nat.ne_of_lt (Nat.lt_of_lt_of_le hk_ HPL.out)) _); replace HB := aM (show Below w.heap.size w w15 by rw [hw]; exact below_set HB.out (Nat.le_trans HNB.out HPL.out)); clear hw))
         go_roundg (x0.length - (q + 1))
         case measure => omega
         case rel => exact ⟨q + 1, (i : Int), (q : Int), rg, by omega, by omega, rfl, rfl, by go_num, ⟨HJ2.out.trans (congrArg some HS3.out.symm)⟩, ⟨by refine qB ?_; exact BK.out⟩, ⟨by refine qR ?_; exact HP.out⟩, ⟨by (with_reducible repeat (first | apply Kd.N_alloc | apply Kd.N_drewN | apply Kd.N_drew)); exact HN.out⟩, ⟨(qW HB.out)⟩⟩
        case neg =>
         have hgd : decide (mj < rg) = false := decide_eq_false hgt
         rw [if_neg hgt] at hw3
         have HS3 := aM (Option.some.inj hw3)
         clear hw3 hgt
         go_wp2_with (first | (go_at_call 71; (with_reducible refine (impl_rangeOf.calls k _ c1 rows (q : Int) rg _ ?side1 ?side2 HRG.out).mono ?_); (case side1 => exact HSC.out); (case side2 => exact HCN.out); rintro e w14 ⟨rfl, hb⟩; replace BK := bB BK hb; replace HP := aM (Kd.R_below (qR HP.out) hb); replace HN := aM (Kd.N_below (by (with_reducible repeat (first | apply Kd.N_alloc | apply Kd.N_drewN | apply Kd.N_drew)); exact HN.out) hb); replace HB := bS HB hb; clear hb; clear hcz hfz; have hcz := (blk_cell BK.out 0).trans rfl; have hfz := blk_frozen BK.out 0))
         go_roundg (x0.length - (q + 1))
         case measure => omega
         case rel => exact ⟨q + 1, bj, pj, mj, by omega, by omega, rfl, rfl, by go_num, ⟨HJ2.out.trans (congrArg some HS3.out.symm)⟩, ⟨by refine qB ?_; exact BK.out⟩, ⟨by refine qR ?_; exact HP.out⟩, ⟨by (with_reducible repeat (first | apply Kd.N_alloc | apply Kd.N_drewN | apply Kd.N_drew)); exact HN.out⟩, ⟨(qW HB.out)⟩⟩
     case neg =>
      have ei : i = tcs.length := by omega
      have he := HI.out
      rw [ei, HW.out] at he
      obtain ⟨e1, e2, e3⟩ : bw = bi ∧ pw = pi ∧ mw = mi := by
       have h1 := Option.some.inj he
       simp only [Prod.mk.injEq] at h1
       exact h1
      subst e1
      subst e2
      subst e3
      have hild := decide_eq_false (show ¬ (i : Int) < (tcs.length : Int) by omega)
      clear he hg2 HI hi hi16 ei
      have hHO := HO1.out
      by_cases hm0 : mw = 0
      case pos =>
       rw [if_pos hm0] at hHO
       have ho := Option.some.inj hHO
       subst ho
       have hH2 : some (tcs.map noCap, L) = some (tsE, LE) := H2.out
       have HE := aM (Prod.mk.inj (Option.some.inj hH2))
       have hmd : (mw == 0) = true := beq_iff_eq.mpr hm0
       clear hm0 hHO HO1 H2 hH2 BK
       obtain ⟨cellsP, hcp⟩ := Kd.R_typed HP.out P (by simp [Value.ownBlock])
       have HPC := aM (fun (W : World) (h : W.heap[P]? = some (.cells cellsP 26 (0, 0))) (i : Nat) (hi : i < tcs.length) => (World.cell?_of_block (a := ⟨P, i, none⟩) (h.trans hcp.symm)).trans (P_cell HP.out i hi).1)
       have BKP := aM hcp
       have HNP := aM (HP.out.1 P (by simp [Value.ownBlock]))
       obtain ⟨e1, e2⟩ := HE.out
       subst e1
       subst e2
       have HALL2 := aM (show allR x0.length (tcs.map noCap) L tcs.length = some r by have h1 := HALL.out; rw [List.length_map] at h1; exact h1)
       clear hcp HE HP
       go_wp2_with (first | ((with_reducible refine gate_dst (N := 101) rfl ?_); refine Kd.S_lit (Kd.slice 3 (Kd.int .i64)) _ 22 ?hg (N := 101) ?hd (xs := ([] : List (List Int))) (inner := []) (ok := fun k_ => NB ≤ k_) (okp := fun k_ => NB ≤ k_) ?hr ?hp (fun _ hk => hk) (Nat.le_trans HNP.out (Nat.le_of_lt (blk_lt (g := P) (o := (.cells cellsP 26 (0, 0))) (qB BKP.out)))) (Below.refl _ _) (Nat.le_refl _) (by simp) ?_; (case hd => rfl); (case hg => rfl); (case hr => first | (go_simp; done) | (go_simp; rfl)); (case hp => exact (Reps.none _ _)); intro v15 w19 ho hb hg_ hnew_; clear hg_ hnew_; obtain ⟨Au, cu, eu⟩ := Kd.S_slice ho; subst eu; have HO := aM (Kd.S_lower ho (below_size (qW HB.out))); replace BKP := bB BKP hb; replace HN := aM (Kd.N_below (by (with_reducible repeat (first | apply Kd.N_alloc | apply Kd.N_drewN | apply Kd.N_drew)); exact HN.out) hb); replace HB := bS HB hb; clear ho hb))
       go_loopg [15, 104] tcs.length (fun g4 s15 s104 w' => ∃ (i : Nat) (o : List (List Int)) (Au : Option Addr) (cu : Nat), i ≤ tcs.length ∧ tcs.length - i ≤ g4 ∧ s15 = .slice Au o.length cu ∧ s104 = .int .i64 i ∧ Aside0 (allR x0.length (tcs.map noCap) L i = some o) ∧ Aside0 (o.length = i) ∧ Aside0 (Kd.S (Kd.slice 3 (Kd.int .i64)) 22 w' w.heap.size (fun k_ => NB ≤ k_) (.slice Au o.length cu) o) ∧ Aside0 (w'.heap[P]? = some (.cells cellsP 26 (0, 0))) ∧ Aside0 (Kd.N (Kd.slice 3 (Kd.int .i64)) 22 w' w.heap.size (fun k_ => k_ < NB) (.slice (some ⟨G, 0, none⟩) l0.length cG) L) ∧ Aside0 (Below w.heap.size w w'))
       case atStart => exact ⟨0, [], Au, cu, Nat.zero_le _, by omega, rfl, rfl, ⟨rfl⟩, ⟨rfl⟩, ⟨by (with_reducible repeat (first | apply Kd.S_alloc | apply Kd.S_drewN | apply Kd.S_drew)); exact HO.out⟩, ⟨by refine qB ?_; exact BKP.out⟩, ⟨by (with_reducible repeat (first | apply Kd.N_alloc | apply Kd.N_drewN | apply Kd.N_drew)); exact HN.out⟩, ⟨(qW HB.out)⟩⟩
       case round =>
        clear HO BKP HN HB
        obtain ⟨i, o, Au, cu, hi, hg4, rfl, rfl, HI, HOL, HO, BKP, HN, HB⟩ := hrel
        by_cases hil : i < tcs.length
        case neg =>
         have ei : i = tcs.length := by omega
         have he := HI.out
         rw [ei, HALL2.out] at he
         have ER := aM (Option.some.inj he)
         have hild := decide_eq_false (show ¬ (i : Int) < (tcs.length : Int) by omega)
         clear he hg4 hi ei
         go_wp2
         go_ret
         exact ⟨_, by first | rfl | (simp; done), by (with_reducible repeat (first | apply Kd.S_alloc | apply Kd.S_drewN | apply Kd.S_drew)); rw [ER.out]; exact Kd.S_mono HO.out (fun _ _ => trivial), (qW HB.out)⟩
        case pos =>
         have hi16 : i < 16 := by have := HT.out.2.2.2.2.2; omega
         have HO16 := aM (show o.length ≤ 16 by have := HOL.out; omega)
         have hil0 : 0 ≤ (i : Int) := by omega
         have hilz : (i : Int) < (tcs.length : Int) := by omega
         have hild := decide_eq_true hilz
         obtain ⟨o2, hw2⟩ := allR_le _ (i + 1) _ HALL2.out hil
         have HI2 := aM hw2
         rw [allR, HI.out, Option.bind_some] at hw2
         have hxP := HPC.out wr BKP.out i hil
         have htm := HT.out.2.2.1 _ (getD_mem tcs hil)
         have htn : (tcs.map noCap).getD i (0, 0) = noCap (tcs.getD i (0, 0, 0)) := by
          rw [List.getD_eq_getElem?_getD, List.getElem?_map, List.getElem?_eq_getElem hil, List.getD_eq_getElem?_getD, List.getElem?_eq_getElem hil]
          rfl
         rw [htn] at hw2
         generalize tcs.getD i (0, 0, 0) = t at hw2 hxP htm
         obtain ⟨o1, n1, c1⟩ := t
         simp only at htm
         replace hw2 : (if 1 ≤ n1 then some (o ++ [meanR (segR L (o1, n1)) x0.length]) else none) = some o2 := hw2
         by_cases hn1 : 1 ≤ n1
         case neg => rw [if_neg hn1] at hw2; cases hw2
         rw [if_pos hn1] at hw2
         obtain ⟨rows, hrows⟩ : ∃ z, z = segR L (o1, n1) := ⟨_, rfl⟩
         rw [← hrows] at hw2
         have hsl : n1 = rows.length := by rw [hrows]; exact (N_segC HN.out (o1, n1) (by have h1_ := htm.1; have h2_ := HT.out.1; omega)).1.symm
         subst hsl
         have HR := aM hrows
         have HTM := aM htm
         have HO2 := aM (Option.some.inj hw2)
         have hxP1 : wr.cell? ⟨P, i, none⟩ = some (.slice (some ⟨G, o1, none⟩) rows.length c1) := hxP
         have hrl : rows.length ≤ 16 := by have h1_ := htm.1; have h2_ := HL16.out; omega
         have HRL := aM hrl
         have hz2 : ((wrap64 (2 * (rows.length : Int))) == 0) = false := beq_eq_false_iff_ne.mpr (ne_two hn1 hrl)
         have hz3 : wrap64 (2 * (rows.length : Int)) ≠ 0 := ne_two hn1 hrl
         clear hxP hrows htm hw2 htn hn1 hrl
         go_wp2_with (first | ((with_reducible refine gate_dst (N := 108) rfl ?_); refine Kd.R_lit (Kd.int .i64) _ 3 ?hg (N := 108) ?hd (xs := ([] : List Int)) (inner := []) (ok := fun k_ => NB ≤ k_) (okp := fun _ => False) ?hr ?hp (fun _ hk => hk.elim) (Nat.le_trans HNP.out (Nat.le_of_lt (blk_lt (g := P) (o := (.cells cellsP 26 (0, 0))) (qB BKP.out)))) (Below.refl _ _) (Nat.le_refl _) (by simp) ?_; (case hd => rfl); (case hg => rfl); (case hr => first | (go_simp; done) | (go_simp; rfl)); (case hp => exact (Reps.none _ _)); intro v18 w20 ho hb hg_ hnew_; clear hg_ hnew_; obtain ⟨Am, cm, em⟩ := Kd.R_slice ho; subst em; have HM := aM (Kd.R_lower ho (below_size (qW HB.out))); replace HO := aM (Kd.S_elder' (by (with_reducible repeat (first | apply Kd.S_alloc | apply Kd.S_drewN | apply Kd.S_drew)); exact HO.out) (Kd.R_base ho) hb); replace BKP := bB BKP hb; replace HN := aM (Kd.N_below (by (with_reducible repeat (first | apply Kd.N_alloc | apply Kd.N_drewN | apply Kd.N_drew)); exact HN.out) hb); replace HB := bS HB hb; clear ho hb hxP1; have hxL := (HB.out.cell (World.block_lt_of_cell? _ _ HX0.out)).trans HX0.out))
         go_loopg [18, 113] x0.length (fun g5 s18 s113 w' => ∃ (q : Nat) (mr : List Int) (Am : Option Addr) (cm : Nat), q ≤ x0.length ∧ x0.length - q ≤ g5 ∧ s18 = .slice Am mr.length cm ∧ s113 = .int .i64 q ∧ Aside0 (mr = meanR rows q) ∧ Aside0 (Kd.R (Kd.int .i64) 3 w' w.heap.size (fun k_ => NB ≤ k_) (.slice Am mr.length cm) mr) ∧ Aside0 (Kd.S (Kd.slice 3 (Kd.int .i64)) 22 w' w.heap.size (fun k_ => NB ≤ k_ ∧ some k_ ≠ (.slice Am mr.length cm : Value).ownBlock) (.slice Au o.length cu) o) ∧ Aside0 (w'.heap[P]? = some (.cells cellsP 26 (0, 0))) ∧ Aside0 (Kd.N (Kd.slice 3 (Kd.int .i64)) 22 w' w.heap.size (fun k_ => k_ < NB) (.slice (some ⟨G, 0, none⟩) l0.length cG) L) ∧ Aside0 (Below w.heap.size w w'))
         case atStart => exact ⟨0, [], Am, cm, Nat.zero_le _, by omega, rfl, rfl, ⟨rfl⟩, ⟨by refine qR ?_; exact HM.out⟩, ⟨by (with_reducible repeat (first | apply Kd.S_alloc | apply Kd.S_drewN | apply Kd.S_drew)); exact HO.out⟩, ⟨by refine qB ?_; exact BKP.out⟩, ⟨by (with_reducible repeat (first | apply Kd.N_alloc | apply Kd.N_drewN | apply Kd.N_drew)); exact HN.out⟩, ⟨(qW HB.out)⟩⟩
         case round =>
          clear HO BKP HN HB HM hxL
          obtain ⟨q, mr, Am, cm, hq, hg5, rfl, rfl, HME, HM, HO, BKP, HN, HB⟩ := hrel
          by_cases hql : q < x0.length
          case neg =>
           have eq_ : q = x0.length := by omega
           have hqld := decide_eq_false (show ¬ (q : Int) < (x0.length : Int) by omega)
           have HME2 := aM (show o ++ [mr] = o2 by rw [HME.out, eq_]; exact HO2.out)
           clear eq_ hg5 hq
           go_wp2_with (first | ((with_reducible refine gate_builtin (b := .append) (xs := #[.tmp 142, .tmp 144]) rfl ?_); at_builtin; refine Kd.S_append (Kd.slice 3 (Kd.int .i64)) (w0 := w) w.heap.size rfl (.tmp 142) (.tmp 144) 26 22 (.slice none 0 0) 24 rfl Try.underlying26 (show (Try.prog.info? 22).map (fun i => (i.zero, i.size, i.bytes)) = some (some (.slice none 0 0), 1, 24) from by kernel_rfl) rfl (by decide) (by omega) (.slice Au o.length cu) o mr [.slice Am mr.length cm] (fun k_ => NB ≤ k_) (fun k_ => some k_ = (.slice Am mr.length cm : Value).ownBlock) rfl rfl ?aP (fun k_ hk_ => (Kd.R_mono (ok' := fun k_ => NB ≤ k_ ∧ some k_ ≠ (.slice Au o.length cu : Value).ownBlock) (Kd.R_apart' (HM.out) (Kd.S_typed HO.out) (by decide)) (fun k_ hk => ⟨hk.1, hk.2⟩)).1 k_ hk_.symm) ?aF ?aO ?aB ?aS ?aL ?_; (case aP => exact Kd.M_row (Kd.R_mono (Kd.R_tight rfl (Kd.R_mono (ok' := fun k_ => NB ≤ k_ ∧ some k_ ≠ (.slice Au o.length cu : Value).ownBlock) (Kd.R_apart' (HM.out) (Kd.S_typed HO.out) (by decide)) (fun k_ hk => ⟨hk.1, hk.2⟩))) (fun _ h_ => h_))); (case aB => exact HB.out); (case aF => exact fun k_ hk_ => Nat.le_trans (Nat.le_trans HNP.out (Nat.le_of_lt (blk_lt (g := P) (o := (.cells cellsP 26 (0, 0))) (qB BKP.out)))) hk_); (case aO => exact Kd.S_mono HO.out (fun k_ hk => ⟨hk.1, fun e_ => hk.2 e_⟩)); (case aS => exact below_size HB.out); (case aL => exact le_app16 HO16.out); intro v22 w22 ho hb hg hat; obtain ⟨Au2, cu2, eu2⟩ := Kd.S_slice ho; subst eu2; replace BKP := aM (blk_grown (g := P) (o := (.cells cellsP 26 (0, 0))) BKP.out hg (Kd.S_ne HO.out BKP.out (by decide))); replace HN := aM (Kd.N_grown HN.out hg (fun k_ hk_ e_ => absurd hk_ (Nat.not_lt.mpr ((Kd.S_R HO.out).1 k_ e_.symm).1))); replace HO := aM (ho); replace HB := aM (hb); clear ho hb hg hat HM))
           go_roundg (tcs.length - (i + 1))
           case measure => omega
           case rel => exact ⟨i + 1, o ++ [mr], Au2, cu2, by omega, by omega, by first | rfl | (simp; done), by go_num, ⟨HI2.out.trans (congrArg some HME2.out.symm)⟩, ⟨by rw [List.length_append, HOL.out]; rfl⟩, ⟨by (with_reducible repeat (first | apply Kd.S_alloc | apply Kd.S_drewN | apply Kd.S_drew)); exact HO.out⟩, ⟨by refine qB ?_; exact BKP.out⟩, ⟨by (with_reducible repeat (first | apply Kd.N_alloc | apply Kd.N_drewN | apply Kd.N_drew)); exact HN.out⟩, ⟨(qW HB.out)⟩⟩
          case pos =>
           have hql0 : 0 ≤ (q : Int) := by omega
           have hqlz : (q : Int) < (x0.length : Int) := by omega
           have hqld := decide_eq_true hqlz
           have hxm := HXM.out
           have HML := aM (show mr.length = q by rw [HME.out, meanR_len])
           have HXM2 := aM (show q < 1000000 by have := HX4.out; omega)
           go_wp2
           obtain ⟨we, ewe⟩ : ∃ we : World, we = wr := ⟨_, rfl⟩
           go_loopg [20, 118] rows.length (fun g6 s20 s118 w' => ∃ (j : Nat), j ≤ rows.length ∧ rows.length - j ≤ g6 ∧ s20 = .int .i64 (sumR rows q j) ∧ s118 = .int .i64 j ∧ w' = we)
           case atStart => exact ⟨0, Nat.zero_le _, by omega, rfl, rfl, ewe.symm⟩
           case round =>
            obtain ⟨j, hj, hg6, rfl, rfl, rfl⟩ := hrel
            by_cases hjl : j < rows.length
            case neg =>
             have ej : j = rows.length := by omega
             have hjld := decide_eq_false (show ¬ (j : Int) < (rows.length : Int) by omega)
             subst ej
             have HME3 := aM (show mr ++ [(wrap64 (Int.tdiv (wrap64 (wrap64 (2 * sumR rows q rows.length) + (rows.length : Int))) (wrap64 (2 * (rows.length : Int)))))] = meanR rows (q + 1) by rw [HME.out]; rfl)
             clear hg6 hj
             go_wp2_with (first | ((with_reducible refine gate_builtin (b := .append) (xs := #[.tmp 129, .tmp 139]) rfl ?_); at_builtin; refine Kd.R_append (Kd.int .i64) (w0 := w) w.heap.size rfl (.tmp 129) (.tmp 139) 22 3 (.int .i64 0) 8 rfl Try.underlying22 (show (Try.prog.info? 3).map (fun i => (i.zero, i.size, i.bytes)) = some (some (.int .i64 0), 1, 8) by kernel_rfl) rfl (by decide) (by omega) (.slice Am mr.length cm) mr (wrap64 (Int.tdiv (wrap64 (wrap64 (2 * sumR rows q rows.length) + (rows.length : Int))) (wrap64 (2 * (rows.length : Int))))) [.int .i64 (wrap64 (Int.tdiv (wrap64 (wrap64 (2 * sumR rows q rows.length) + (rows.length : Int))) (wrap64 (2 * (rows.length : Int)))))] (fun k_ => NB ≤ k_) (fun _ => False) rfl rfl ?aP (fun _ hk => hk.elim) ?aF ?aO ?aB ?aS ?aL ?_; (case aP => exact rfl); (case aF => exact fun k_ hk_ => Nat.le_trans (Nat.le_trans HNP.out (Nat.le_of_lt (blk_lt (g := P) (o := (.cells cellsP 26 (0, 0))) (qB BKP.out)))) hk_); (case aO => exact HM.out); (case aB => exact HB.out); (case aS => exact below_size HB.out); (case aL => exact mean_le HML.out HXM2.out); intro v21 w21 ho hb hg hat; obtain ⟨Am2, cm2, em2⟩ := Kd.R_slice ho; subst em2; replace HO := aM (Kd.S_after (ok := fun k_ => NB ≤ k_) HO.out hg hat); replace BKP := aM (blk_grown (g := P) (o := (.cells cellsP 26 (0, 0))) BKP.out hg (Kd.R_ne HM.out BKP.out (by decide))); replace HN := aM (Kd.N_grown HN.out hg (fun k_ hk_ e_ => absurd hk_ (Nat.not_lt.mpr (HM.out.1 k_ e_.symm)))); replace HM := aM (ho); replace HB := aM (hb); clear ho hb hg hat))
             go_roundg (x0.length - (q + 1))
             case measure => omega
             case rel => exact ⟨q + 1, mr ++ [(wrap64 (Int.tdiv (wrap64 (wrap64 (2 * sumR rows q rows.length) + (rows.length : Int))) (wrap64 (2 * (rows.length : Int)))))], Am2, cm2, by omega, by omega, by first | rfl | (simp; done), by go_num, HME3, ⟨by refine qR ?_; exact HM.out⟩, ⟨by (with_reducible repeat (first | apply Kd.S_alloc | apply Kd.S_drewN | apply Kd.S_drew)); exact HO.out⟩, ⟨by refine qB ?_; exact BKP.out⟩, ⟨by (with_reducible repeat (first | apply Kd.N_alloc | apply Kd.N_drewN | apply Kd.N_drew)); exact HN.out⟩, ⟨(qW HB.out)⟩⟩
            case pos =>
             have hj16 : rows.length ≤ 16 := HRL.out
             have hj0 : 0 ≤ (j : Int) := by omega
             have hjz : (j : Int) < (rows.length : Int) := by omega
             have hjld := decide_eq_true hjz
             obtain ⟨Ax, cx, hlx, hFx, hxG, _⟩ := N_row1 HN.out (o1 + j) (by have h1_ := HTM.out.1; have h2_ := HT.out.1; omega)
             have hrx : L.getD (o1 + j) [] = rows.getD j [] := by
              have h1 := HR.out
              have h2 : j < rows.length := hjl
              rw [h1]
              unfold segR
              rw [List.getD_eq_getElem?_getD, List.getD_eq_getElem?_getD, List.getElem?_take_of_lt (by exact hjl), List.getElem?_drop]
             have hlen : (rows.getD j []).length = x0.length := by
              rw [← hrx]
              refine HT.out.2.2.2.1 _ ?_
              rw [List.getD_eq_getElem?_getD, List.getElem?_eq_getElem (by have h1_ := HTM.out.1; have h2_ := HT.out.1; omega)]
              exact List.getElem_mem _
             rw [hrx] at hxG hFx hlx
             have HSJ := aM (show wrap64 (sumR rows q j + rd (rows.getD j []) (q : Int)) = sumR rows q (j + 1) from rfl)
             generalize rows.getD j [] = xr at hxG hFx hlx hlen HSJ
             obtain ⟨ax, eax, hcx⟩ := Kd.at_int (Kd.F_now hFx) (q : Int) hql0 (by omega)
             subst eax
             rw [hlen] at hxG
             rw [Int.toNat_natCast] at hcx
             have hcx2 := hcx
             rw [← Int.toNat_natCast q] at hcx2
             have hqrn : q < x0.length := hql
             clear hrx hFx hlx hj hlen
             go_wp2
             go_roundg (rows.length - (j + 1))
             case measure => omega
             case rel => exact ⟨j + 1, by omega, by omega, by rw [← HSJ.out], by go_num, by first | rfl | exact ewe.symm⟩
      case neg =>
       have hmd : (mw == 0) = false := beq_eq_false_iff_ne.mpr hm0
       rw [if_neg hm0] at hHO
       have hin := (redB_in _ _ HW.out).2 hm0
       simp only at hin
       obtain ⟨b, rfl⟩ := Int.eq_ofNat_of_zero_le hin.1
       obtain ⟨pn, rfl⟩ := Int.eq_ofNat_of_zero_le hin.2.2.1
       have hbl : b < tcs.length := by omega
       have hpn : pn < x0.length := by omega
       have hb0 : 0 ≤ (b : Int) := by omega
       have hbz : (b : Int) < (tcs.length : Int) := by omega
       have hbd := decide_eq_true hbz
       have htm := HT.out.2.2.1 _ (getD_mem tcs hbl)
       have htn : (tcs.map noCap).getD b (0, 0) = noCap (tcs.getD b (0, 0, 0)) := by
        rw [List.getD_eq_getElem?_getD, List.getElem?_map, List.getElem?_eq_getElem hbl, List.getD_eq_getElem?_getD, List.getElem?_eq_getElem hbl]
        rfl
       have hxP := P_cell HP.out b hbl
       rw [Int.toNat_natCast, htn] at hHO
       generalize tcs.getD b (0, 0, 0) = t at hHO hxP htm
       obtain ⟨o1, n1, c1⟩ := t
       simp only at htm
       replace hHO : (if 1 ≤ n1 ∧ (pn : Int) < (x0.length : Int) then some (some ((tcs.map noCap).set b (o1, n1 / 2) ++ [(o1 + n1 / 2, n1 - n1 / 2)], srtSeg (pn : Int) L o1 n1)) else none) = some o := hHO
       by_cases hgd : 1 ≤ n1 ∧ (pn : Int) < (x0.length : Int)
       case neg => rw [if_neg hgd] at hHO; cases hHO
       rw [if_pos hgd] at hHO
       have ho := Option.some.inj hHO
       subst ho
       have hH2 : redGo k x0.length a1 j ((tcs.map noCap).set b (o1, n1 / 2) ++ [(o1 + n1 / 2, n1 - n1 / 2)]) (srtSeg (pn : Int) L o1 n1) = some (tsE, LE) := H2.out
       obtain ⟨hf, hhf⟩ : ∃ z, z = n1 / 2 := ⟨_, rfl⟩
       rw [← hhf] at hH2
       have HH2 := aM hH2
       have hfl : hf < n1 := by omega
       have HHF := aM hhf
       have HFL := aM hfl
       have HN1 := aM hgd.1
       have HTM := aM htm
       have HBL := aM hbl
       have HPN := aM hpn
       have hxP1 : wr.cell? ⟨P, b, none⟩ = some (.slice (some ⟨G, o1, none⟩) n1 c1) := hxP.1
       have hwv := half_w (n := n1) (by have h1_ := HTM.out.1; have h2_ := HL16.out; omega)
       rw [← hhf] at hwv
       obtain ⟨hw1, hw2, hw3, hw4⟩ := hwv
       have hcA := fun W => cut_hm (W := W) (some ⟨G, o1, none⟩) n1 c1 hf (Nat.le_of_lt hfl) htm.2
       have hcB := fun W => cut_lo2 (W := W) G o1 n1 c1 hf hfl htm.2
       clear hm0 hHO HO1 H2 hH2 hin htm htn hxP hgd hfl hhf hbl hpn
       go_wp2_with (first | (go_at_call 72; refine (sortRows _ w.heap.size (fun k_ => k_ < NB) L G cG o1 n1 c1 pl (pn : Int) (by rw [HT.out.1]; (with_reducible repeat (first | apply Kd.N_alloc | apply Kd.N_drewN | apply Kd.N_drew)); exact HN.out) (by rw [HT.out.1]; exact HTM.out.1) HN1.out (Nat.lt_of_le_of_lt (Nat.le_trans (Nat.le_trans (Nat.le_add_left _ _) HTM.out.1) HL16.out) (by decide)) (fun x_ hx_ => by rw [HT.out.2.2.2.1 x_ hx_]; exact Int.ofNat_lt.mpr HPN.out) (Int.natCast_nonneg _) (by exact (blk_cell (qB BK.out) 0).trans rfl) (Nat.ne_of_gt (Nat.lt_of_lt_of_le HGN.out.2.1 HPL.out))).mono ?_; rintro e w16 ⟨rfl, hN2, hG2⟩; rw [HT.out.1] at hN2; replace HP := aM (Kd.R_grown (qR HP.out) hG2 (fun k_ hk_ e_ => absurd (Nat.lt_of_lt_of_le HGN.out.2.1 hk_) (by rw [Option.some.inj e_]; exact Nat.lt_irrefl _))); replace HN := aM (hN2); replace HB := aM (Below.grown (qW HB.out) hG2 (below_size (qW HB.out)) (fun k_ hk_ => by rw [← Option.some.inj hk_]; exact HGN.out.1)); clear hN2 hG2 BK hxP1; have hxq := (P_cell HP.out b HBL.out).1; have hzq := (P_cell HP.out b HBL.out).2) | ((with_reducible refine gate_store (t := 26) (p := 94) rfl ?_); refine store_event (t := 26) (p := 94) (v := ?vo_sp) (w1 := (w16.setCell ⟨P, b, none⟩ (.slice (some ⟨G, o1, none⟩) hf hf))) ?hg ?ho ?hn ?hr ?_; (case ho => rfl); (case hg => rfl); (case hn => rfl); (case hr => first | (go_simp; done) | (go_simp; rfl)); intro w17 hw; have hp_ := (Kd.R_putg (enc := encP G) (h1 := fun _ => rfl) HP.out (b : Int) (o1, hf, hf)).1; rw [Int.toNat_natCast] at hp_; have hgp := HP.out.1 P (by simp [Value.ownBlock]); replace HP := aM (show Kd.R (Kd.scalar (encP G) (fun _ => rfl)) 26 w17 w.heap.size (fun k_ => NB ≤ k_) (.slice (some ⟨P, 0, none⟩) tcs.length cP) (tcs.set b (o1, hf, hf)) by rw [hw]; exact hp_); replace HN := aM (show Kd.N (Kd.slice 3 (Kd.int .i64)) 22 w17 w.heap.size (fun k_ => k_ < NB) (.slice (some ⟨G, 0, none⟩) l0.length cG) (srtSeg (pn : Int) L o1 n1) by rw [hw]; exact Kd.N_far (p := ⟨P, b, none⟩) HN.out (fun k_ hk_ => Nat.ne_of_lt (Nat.lt_of_lt_of_le hk_ hgp)) _); replace HB := aM (show Below w.heap.size w w17 by rw [hw]; exact below_set HB.out (Nat.le_trans HNB.out hgp)); clear hw hp_ hgp hxq hzq) | ((with_reducible refine gate_builtin (b := .append) (xs := #[.tmp 95, .tmp 99]) rfl ?_); at_builtin; refine Kd.R_append (Kd.scalar (encP G) (fun _ => rfl)) (w0 := w) w.heap.size rfl (.tmp 95) (.tmp 99) 74 26 (.slice none 0 0) 24 rfl Try.underlying74 (show (Try.prog.info? 26).map (fun i => (i.zero, i.size, i.bytes)) = some (some (.slice none 0 0), 1, 24) by kernel_rfl) rfl Nat.one_pos (by omega) (.slice (some ⟨P, 0, none⟩) tcs.length cP) (tcs.set b (o1, hf, hf)) (o1 + hf, n1 - hf, c1 - hf) [.slice (some ⟨G, o1 + hf, none⟩) (n1 - hf) (c1 - hf)] (fun k_ => NB ≤ k_) (fun _ => False) rfl rfl ?aP (fun _ hk_ => hk_.elim) ?aF ?aO ?aB ?aS ?aL ?_; (case aP => exact rfl); (case aF => exact fun k_ hk_ => Nat.le_trans (Nat.le_of_lt (Nat.lt_of_le_of_lt (HP.out.1 P (by simp [Value.ownBlock])) (Kd.R_lt HP.out P (by simp [Value.ownBlock])))) hk_); (case aO => exact HP.out); (case aB => exact HB.out); (case aS => exact below_size HB.out); (case aL => (rw [List.length_set]; exact le_app16 HT.out.2.2.2.2.2)); intro v1 w18 ho hb hgr hat; have h0_ := Kd.R_form ho (by simp); obtain ⟨P2, cP2, ev2, _⟩ := h0_; subst ev2; replace HN := aM (Kd.N_grown HN.out hgr (fun k_ hk_ e_ => absurd hk_ (Nat.not_lt.mpr (HP.out.1 k_ e_.symm)))); replace HP := aM (ho); replace HB := aM (hb); clear ho hb hgr hat))
       go_roundg j
       case measure => omega
       case rel => exact ⟨tcs.set b (o1, hf, hf) ++ [(o1 + hf, n1 - hf, c1 - hf)], srtSeg (pn : Int) L o1 n1, P2, cP2, by first | rfl | (simp; done), ⟨by rw [List.map_append, List.map_set]; exact HH2.out⟩, ⟨red_inv HT.out HTM.out HBL.out HFL.out HLT.out HA1.out.2⟩, ⟨by refine qR ?_; exact HP.out⟩, ⟨by (with_reducible repeat (first | apply Kd.N_alloc | apply Kd.N_drewN | apply Kd.N_drew)); exact HN.out⟩, ⟨(qW HB.out)⟩⟩
def IsS83 (w0 W : World) (g : Nat) (f0 : List Int) (f1 : Int) : Prop := ∃ A0 c0, W.heap[g]? = some (.cells #[.slice A0 f0.length c0, .int .i64 f1] 83 (0, 0)) ∧ w0.heap.size ≤ g ∧ Kd.C (Kd.int .u8) w0 A0 f0.length f0
theorem IsS83.grown {w0 W : World} {g : Nat} {f0 : List Int} {f1 : Int} {W1 : World} {row : Option Nat} (h : IsS83 w0 W g f0 f1) (hw : W.grownBy W1 row) (hne : some g ≠ row) : IsS83 w0 W1 g f0 f1 := by
 obtain ⟨A0, c0, hb, hg, hr0⟩ := h
 exact ⟨A0, c0, blk_grown hb hw hne, hg, hr0⟩
theorem IsS83.own_neN {w0 W : World} {g : Nat} {f0 : List Int} {f1 : Int} {α : Type} {d : Kd α} {e : Nat} {base : Nat} {ok : Nat → Prop} {v : Value} {xs : List α} (h : IsS83 w0 W g f0 f1) (ho : Kd.N d e W base ok v xs) (ht : e ≠ 83) : some g ≠ v.ownBlock := by
 obtain ⟨A0, c0, hb, hg, hr0⟩ := h
 exact Kd.N_ne ho hb ht
theorem IsS83.fresh {w0 W : World} {g : Nat} {f0 : List Int} {f1 : Int} (h : IsS83 w0 W g f0 f1) : ∀ k, W.heap.size ≤ k → k ≠ g := by
 obtain ⟨A0, c0, hb, hg, hr0⟩ := h
 exact Kd.freshB hb
theorem IsS83.kept {w0 W : World} {g : Nat} {f0 : List Int} {f1 : Int} {W1 : World} {S : Nat → Prop} (h : IsS83 w0 W g f0 f1) (hk : Kept W W1 S) (hne : ¬ S g) : IsS83 w0 W1 g f0 f1 := by
 obtain ⟨A0, c0, hb, hg, hr0⟩ := h
 exact ⟨A0, c0, blk_kept hb hk hne, hg, hr0⟩
theorem IsS83.below {w0 W : World} {g : Nat} {f0 : List Int} {f1 : Int} {W1 : World} (h : IsS83 w0 W g f0 f1) (hw : Below W.heap.size W W1) : IsS83 w0 W1 g f0 f1 := h.grown (grown_of_below hw none) (by simp)
theorem IsS83.alloc {w0 W : World} {g : Nat} {f0 : List Int} {f1 : Int} (h : IsS83 w0 W g f0 f1) (o : Obj) : IsS83 w0 (W.alloc o) g f0 f1 := h.below (below_alloc (Below.refl _ _) o)
theorem IsS83.drewN {w0 W : World} {g : Nat} {f0 : List Int} {f1 : Int} (h : IsS83 w0 W g f0 f1) (m : Nat) : IsS83 w0 (W.drewN m) g f0 f1 := h
theorem IsS83.drew {w0 W : World} {g : Nat} {f0 : List Int} {f1 : Int} (h : IsS83 w0 W g f0 f1) : IsS83 w0 W.drew g f0 f1 := h
theorem IsS83.at_ {w0 W : World} {g : Nat} {f0 : List Int} {f1 : Int} {w' : World} {m : Nat} (hq : W.drewN m = w') (h : IsS83 w0 W g f0 f1) : IsS83 w0 w' g f0 f1 := by subst hq; exact IsS83.drewN h m
theorem IsS83.apart {w0 W : World} {g : Nat} {f0 : List Int} {f1 : Int} {α : Type} {d : Kd α} {e : Nat} {base : Nat} {ok : Nat → Prop} {v : Value} {xs : List α} (h : IsS83 w0 W g f0 f1) (ho : d.R e W base ok v xs) (ht : ∀ q, q ∈ e :: d.E → q ≠ 83) : d.R e W base (fun k => ok k ∧ k ≠ g) v xs := by
 obtain ⟨A0, c0, hb, hg, hr0⟩ := h
 exact Kd.R_types ho hb ht
theorem IsS83.own_ne {w0 W : World} {g : Nat} {f0 : List Int} {f1 : Int} {α : Type} {d : Kd α} {e : Nat} {base : Nat} {ok : Nat → Prop} {v : Value} {xs : List α} (h : IsS83 w0 W g f0 f1) (ho : d.R e W base ok v xs) (ht : e ≠ 83) : some g ≠ v.ownBlock := by
 obtain ⟨A0, c0, hb, hg, hr0⟩ := h
 exact Kd.R_ne ho hb ht
theorem IsS83.apartQ {w0 W : World} {g : Nat} {f0 : List Int} {f1 : Int} {α : Type} {d : Kd α} {e : Nat} {base : Nat} {ok : Nat → Prop} {v : Value} {xs : List α} (h : IsS83 w0 W g f0 f1) (ho : d.Q e W base ok v xs) (ht : ∀ q, q ∈ e :: d.E → q ≠ 83) : d.Q e W base (fun k => ok k ∧ k ≠ g) v xs := by
 obtain ⟨A0, c0, hb, hg, hr0⟩ := h
 exact Kd.Q_types ho hb ht
theorem IsS83.own_neQ {w0 W : World} {g : Nat} {f0 : List Int} {f1 : Int} {α : Type} {d : Kd α} {e : Nat} {base : Nat} {ok : Nat → Prop} {v : Value} {xs : List α} (h : IsS83 w0 W g f0 f1) (ho : d.Q e W base ok v xs) (ht : e ≠ 83) : some g ≠ v.ownBlock := by
 obtain ⟨A0, c0, hb, hg, hr0⟩ := h
 exact Kd.Q_ne ho hb ht
theorem IsS83.apartS {w0 W : World} {g : Nat} {f0 : List Int} {f1 : Int} {α : Type} {d : Kd α} {e : Nat} {base : Nat} {ok : Nat → Prop} {v : Value} {xs : List α} (h : IsS83 w0 W g f0 f1) (ho : d.S e W base ok v xs) (ht : ∀ q, q ∈ e :: d.E → q ≠ 83) : d.S e W base (fun k => ok k ∧ k ≠ g) v xs := by
 obtain ⟨A0, c0, hb, hg, hr0⟩ := h
 exact Kd.S_types ho hb ht
theorem IsS83.own_neS {w0 W : World} {g : Nat} {f0 : List Int} {f1 : Int} {α : Type} {d : Kd α} {e : Nat} {base : Nat} {ok : Nat → Prop} {v : Value} {xs : List α} (h : IsS83 w0 W g f0 f1) (ho : d.S e W base ok v xs) (ht : e ≠ 83) : some g ≠ v.ownBlock := by
 obtain ⟨A0, c0, hb, hg, hr0⟩ := h
 exact Kd.S_ne ho hb ht
theorem IsS83.lt {w0 W : World} {g : Nat} {f0 : List Int} {f1 : Int} (h : IsS83 w0 W g f0 f1) : g < W.heap.size := by
 obtain ⟨A0, c0, hb, hg, hr0⟩ := h
 exact blk_lt hb
theorem IsS83.ge {w0 W : World} {g : Nat} {f0 : List Int} {f1 : Int} (h : IsS83 w0 W g f0 f1) : w0.heap.size ≤ g := by
 obtain ⟨A0, c0, hb, hg, hr0⟩ := h
 exact hg
theorem IsS83.ne_blk {w0 W : World} {g : Nat} {f0 : List Int} {f1 : Int} {a : Nat} {cs : Array Value} {t : TypeId} {fr : Nat × Nat} (h : IsS83 w0 W g f0 f1) (hb2 : W.heap[a]? = some (.cells cs t fr)) (ht : t ≠ 83) : g ≠ a := by
 obtain ⟨A0, c0, hb, hg, hr0⟩ := h
 rintro rfl
 rw [hb] at hb2
 injection hb2 with hb2
 injection hb2 with _ ht2
 exact ht ht2.symm
theorem IsS83.far {w0 W : World} {g : Nat} {f0 : List Int} {f1 : Int} {p : Addr} (h : IsS83 w0 W g f0 f1) (hne : g ≠ p.block) (u : Value) : IsS83 w0 (W.setCell p u) g f0 f1 := by
 obtain ⟨A0, c0, hb, hg, hr0⟩ := h
 exact ⟨A0, c0, blk_far hb hne u, hg, hr0⟩
theorem cellS83_0 {W : World} {g : Nat} {A0 : Option Addr} {c0 : Nat} {f0 : List Int} {f1 : Int} (h : W.heap[g]? = some (.cells #[.slice A0 f0.length c0, .int .i64 f1] 83 (0, 0))) : W.cell? ⟨g, 0, none⟩ = some (.slice A0 f0.length c0) := (blk_cell h 0).trans rfl
theorem cellS83_1 {W : World} {g : Nat} {A0 : Option Addr} {c0 : Nat} {f0 : List Int} {f1 : Int} (h : W.heap[g]? = some (.cells #[.slice A0 f0.length c0, .int .i64 f1] 83 (0, 0))) : W.cell? ⟨g, 1, none⟩ = some (.int .i64 f1) := (blk_cell h 1).trans rfl
theorem IsS83.set_1 {w0 W : World} {g : Nat} {f0 : List Int} {f1 : Int} (h : IsS83 w0 W g f0 f1) (x : Int) : IsS83 w0 (W.setCell ⟨g, 1, none⟩ (.int .i64 x)) g f0 x := by
 obtain ⟨A0, c0, hb, hg, hr0⟩ := h
 exact ⟨A0, c0, by simpa using blk_set hb 1 (.int .i64 x), hg, hr0⟩
theorem IsS83.new (w0 W : World) (A0 : Option Addr) (c0 : Nat) (f0 : List Int) (f1 : Int) (hB : Below w0.heap.size w0 W) (hr0 : Kd.C (Kd.int .u8) w0 A0 f0.length f0) : IsS83 w0 (W.alloc (.cells #[.slice A0 f0.length c0, .int .i64 f1] 83)) W.heap.size f0 f1 := ⟨A0, c0, by simpa using heap_alloc_new W _, hB.size, hr0⟩
theorem farA83 {w0 W : World} {g : Nat} {f0 : List Int} {f1 : Int} {g2 j : Nat} {u : Value} (h : IsS83 w0 W g f0 f1) (hn : Aside0 (g ≠ g2)) : IsS83 w0 (W.setCell ⟨g2, j, none⟩ u) g f0 f1 := IsS83.far h hn.out u
theorem iS83 {w0 W W2 : World} {g : Nat} {f0 : List Int} {f1 : Int} {f0' : List Int} {f1' : Int} (a : IsS83 w0 W g f0 f1) (f : IsS83 w0 W g f0 f1 → IsS83 w0 W2 g f0' f1' := by intro h_; repeat (first | (with_reducible first | exact h_ | apply IsS83.alloc | apply IsS83.drewN | apply IsS83.drew | apply IsS83.set_1 | (refine farA83 ?_ ?_; rotate_left; assumption)) | exact h_)) : IsS83 w0 W2 g f0' f1' := f a
theorem wS83 {n : Nat} {w w' W : World} (a : Below n w w') (f : Below n w w' → Below n w W := by intro h_; repeat (first | (with_reducible first | exact h_ | apply below_alloc | apply pw_below_drewN | apply below_drew1 | (refine below_set ?_ ?_; rotate_left; exact IsS83.ge (Aside0.out (by assumption))) | (refine below_setA ?_ ?_; rotate_left; assumption)) | exact h_)) : Below n w W := f a
def spec_reader_pick.j0 : Nat → Int → Bool → List Int → Int → Option (Int × Int)
 | 0, _, _, _, _ => none
 | k + 1, x1, x24, x1000, x1001 => if x24 = true then (some (0, x1001)) else (if (wrap64 (x1001 - 1)) < (x1000.length : Int) then (if 0 ≤ (wrap64 (x1001 - 1)) then (if x1 = 0 then (none) else (some (Int.tmod (wrap64 (rd x1000 (wrap64 (x1001 - 1)))) x1, x1001))) else (none)) else (if (x1000.length : Int) = 0 then (none) else (if 0 ≤ (Int.tmod (wrap64 (x1001 - 1)) (x1000.length : Int)) then (if (Int.tmod (wrap64 (x1001 - 1)) (x1000.length : Int)) < (x1000.length : Int) then (if 0 ≤ (Int.tmod (wrap64 ((wrap64 ((wrap64 (x1001 - 1)) * 7)) + 3)) (x1000.length : Int)) then (if (Int.tmod (wrap64 ((wrap64 ((wrap64 (x1001 - 1)) * 7)) + 3)) (x1000.length : Int)) < (x1000.length : Int) then (if x1 = 0 then (none) else (some (Int.tmod (Go.bits .xor .i64 (wrap64 ((wrap64 ((wrap64 ((wrap64 ((wrap64 (rd x1000 (Int.tmod (wrap64 (x1001 - 1)) (x1000.length : Int)))) * 131)) + (wrap64 ((wrap64 (rd x1000 (Int.tmod (wrap64 ((wrap64 ((wrap64 (x1001 - 1)) * 7)) + 3)) (x1000.length : Int)))) * 1117)))) + (wrap64 ((wrap64 (x1001 - 1)) * 29)))) + (wrap64 ((wrap64 (Int.tdiv (wrap64 (x1001 - 1)) (x1000.length : Int))) * 53)))) (wrap64 (Int.tdiv (wrap64 ((wrap64 ((wrap64 ((wrap64 ((wrap64 (rd x1000 (Int.tmod (wrap64 (x1001 - 1)) (x1000.length : Int)))) * 131)) + (wrap64 ((wrap64 (rd x1000 (Int.tmod (wrap64 ((wrap64 ((wrap64 (x1001 - 1)) * 7)) + 3)) (x1000.length : Int)))) * 1117)))) + (wrap64 ((wrap64 (x1001 - 1)) * 29)))) + (wrap64 ((wrap64 (Int.tdiv (wrap64 (x1001 - 1)) (x1000.length : Int))) * 53)))) 64))) x1, x1001))) else (none)) else (none)) else (none)) else (none))))
def spec_reader_pick.f (k : Nat) (s0_0 : List Int) (s0_1 : Int) (a1 : Int) : Option (Int × Int) := if a1 < 1 then (spec_reader_pick.j0 k a1 true s0_0 (wrap64 (s0_1 + 1))) else (spec_reader_pick.j0 k a1 ((s0_0.length : Int) == 0) s0_0 (wrap64 (s0_1 + 1)))
theorem spec_reader_pick.mono_l : ∀ k, (∀ y0 y1 y2 y3, LeO (spec_reader_pick.j0 k y0 y1 y2 y3) (spec_reader_pick.j0 (k + 1) y0 y1 y2 y3))
 | 0 => fun _ _ _ _ r h => by simp [spec_reader_pick.j0] at h
 | k + 1 => by
  have ih0 := spec_reader_pick.mono_l k
  ·intro y0 y1 y2 y3
   unfold spec_reader_pick.j0
   repeat' first | (with_reducible first | exact ih0 _ _ _ _ | exact lR | exact lN | refine lI ?_ ?_ | refine lB ?_ fun _ => ?_) | exact ih0 _ _ _ _ | exact lN | refine lI ?_ ?_ | refine lB ?_ fun _ => ?_
theorem spec_reader_pick.mono : ∀ a0 a1 a2 k, LeO (spec_reader_pick.f k a0 a1 a2) (spec_reader_pick.f (k + 1) a0 a1 a2) := by
 intro a0 a1 a2 k
 have ih0 := spec_reader_pick.mono_l k
 unfold spec_reader_pick.f
 repeat' first | (with_reducible first | exact ih0 _ _ _ _ | exact lR | exact lN | refine lI ?_ ?_ | refine lB ?_ fun _ => ?_) | exact ih0 _ _ _ _ | exact lN | refine lI ?_ ?_ | refine lB ?_ fun _ => ?_
set_option maxHeartbeats 8000000 in
set_option maxRecDepth 100000 in
theorem spec_reader_pick.calls (k : Nat) (g : Nat) (s0_0 : List Int) (s0_1 : Int) (a1 : Int) (r1 : Int) (r2 : Int) (w0 w : World) (hI : IsS83 w0 w g s0_0 s0_1) (hB : Below w0.heap.size w0 w) (h : spec_reader_pick.f k s0_0 s0_1 a1 = some (r1, r2)) :
  Calls Try.prog 66 #[.pointer (some ⟨g, 0, none⟩), .int .i64 a1] w fun e w' => e = .returned (.int .i64 r1) ∧ IsS83 w0 w' g s0_0 r2 ∧ Below w0.heap.size w0 w' ∧ KeepBut w w' g none := by
 have HI0 := aM hI
 have HK := aM (KeepBut.refl w g none)
 have HL := aM hB.size
 clear hI
 have HW0 := aM hB.size
 have HB := aM hB
 clear hB
 unfold spec_reader_pick.f at h
 have H := h
 clear h
 have HC3 := aM H
 clear H
 obtain ⟨ASz4_0, cSz4_0, HGz4, hgz4, HSz4_0⟩ := HI0.out
 have hcz4_0 := cellS83_0 HGz4
 have hcz4_1 := cellS83_1 HGz4
 have hfz4_1 := blk_frozen HGz4 1
 clear HGz4 hgz4
 go_enter Try.func66, Try.ntmps66
 go_upto_region 2 with (fail)
 repeat (go_quiet (fail); go_upto_region 2 with (fail))
 go_cut [24] (fun v24 wc => ∃ (kq : Nat) (x24_2 : Bool), v24 = .bool x24_2 ∧ Aside0 (spec_reader_pick.j0 kq a1 x24_2 s0_0 (wrap64 (s0_1 + 1)) = some (r1, r2)) ∧ Aside0 (kq ≤ k) ∧ Aside0 (IsS83 w0 wc g s0_0 (wrap64 (s0_1 + 1))) ∧ Aside0 (KeepBut w wc g none) ∧ Aside0 (Below w0.heap.size w0 wc))
 case first =>
  have H := HC3.out
  clear HC3
  by_cases c5 : a1 < 1
  ·rw [if_pos c5] at H
   have c5b0 : decide (a1 < 1) = true := decide_eq_true c5
   clear c5
   (first | rw [c5b0] | (simp only [i64_w, i32_w]; rw [c5b0]) | skip)
   have H' := aM H
   clear H
   go_wp2
   repeat (go_quiet (fail); try go_wp2)
   go_meet
   case rel => exact ⟨_, (true), qE, H', ⟨by first | omega | exact Nat.le_refl _⟩, ⟨iS83 HI0.out⟩, ⟨kB HK.out⟩, ⟨wS83 HB.out⟩⟩
  rw [if_neg c5] at H
  have c5b0 : decide (a1 < 1) = false := decide_eq_false c5
  clear c5
  (first | rw [c5b0] | (simp only [i64_w, i32_w]; rw [c5b0]) | skip)
  have H' := aM H
  clear H
  obtain ⟨ASz6_0, cSz6_0, HGz6, hgz6, HSz6_0⟩ := HI0.out
  have hcz6_0 := cellS83_0 HGz6
  have hcz6_1 := cellS83_1 HGz6
  have hfz6_1 := blk_frozen HGz6 1
  clear HGz6 hgz6
  go_wp2
  repeat (go_quiet (fail); try go_wp2)
  go_meet
  case rel => exact ⟨_, (((s0_0.length : Int) == 0)), qE, H', ⟨by first | omega | exact Nat.le_refl _⟩, ⟨iS83 HI0.out⟩, ⟨kB HK.out⟩, ⟨wS83 HB.out⟩⟩
 case rest =>
  clear HC3
  try clear c5
  try clear c5b0
  try clear hcz4_0 hcz4_1 hfz4_1
  try clear hcz6_0 hcz6_1 hfz6_1
  obtain ⟨kq, x24_2, rfl, HA, HJ2, HI0, HK, HB⟩ := hcut
  cases kq with
  | zero => exact absurd HA.out (by simp [spec_reader_pick.j0])
  | succ kj2 =>
   have H := HA.out
   clear HA
   simp only [spec_reader_pick.j0] at H
   by_cases c7 : x24_2 = true
   ·subst c7
    have H1 : (some (0, (wrap64 (s0_1 + 1)))) = some (r1, r2) := by rw [if_pos rfl] at H; exact H
    clear H
    have H := H1
    clear H1
    simp only [Option.some.injEq, Prod.mk.injEq] at H
    obtain ⟨rfl, rfl⟩ := H
    go_wp2
    repeat (go_quiet (fail); try go_wp2)
    go_ret
    exact ⟨qX, iS83 HI0.out, wS83 HB.out, kB HK.out⟩
   replace c7 := Bool.eq_false_iff.mpr c7
   subst c7
   have H1 : (if (wrap64 ((wrap64 (s0_1 + 1)) - 1)) < (s0_0.length : Int) then (if 0 ≤ (wrap64 ((wrap64 (s0_1 + 1)) - 1)) then (if a1 = 0 then (none) else (some (Int.tmod (wrap64 (rd s0_0 (wrap64 ((wrap64 (s0_1 + 1)) - 1)))) a1, (wrap64 (s0_1 + 1))))) else (none)) else (if (s0_0.length : Int) = 0 then (none) else (if 0 ≤ (Int.tmod (wrap64 ((wrap64 (s0_1 + 1)) - 1)) (s0_0.length : Int)) then (if (Int.tmod (wrap64 ((wrap64 (s0_1 + 1)) - 1)) (s0_0.length : Int)) < (s0_0.length : Int) then (if 0 ≤ (Int.tmod (wrap64 ((wrap64 ((wrap64 ((wrap64 (s0_1 + 1)) - 1)) * 7)) + 3)) (s0_0.length : Int)) then (if (Int.tmod (wrap64 ((wrap64 ((wrap64 ((wrap64 (s0_1 + 1)) - 1)) * 7)) + 3)) (s0_0.length : Int)) < (s0_0.length : Int) then (if a1 = 0 then (none) else (some (Int.tmod (Go.bits .xor .i64 (wrap64 ((wrap64 ((wrap64 ((wrap64 ((wrap64 (rd s0_0 (Int.tmod (wrap64 ((wrap64 (s0_1 + 1)) - 1)) (s0_0.length : Int)))) * 131)) + (wrap64 ((wrap64 (rd s0_0 (Int.tmod (wrap64 ((wrap64 ((wrap64 ((wrap64 (s0_1 + 1)) - 1)) * 7)) + 3)) (s0_0.length : Int)))) * 1117)))) + (wrap64 ((wrap64 ((wrap64 (s0_1 + 1)) - 1)) * 29)))) + (wrap64 ((wrap64 (Int.tdiv (wrap64 ((wrap64 (s0_1 + 1)) - 1)) (s0_0.length : Int))) * 53)))) (wrap64 (Int.tdiv (wrap64 ((wrap64 ((wrap64 ((wrap64 ((wrap64 (rd s0_0 (Int.tmod (wrap64 ((wrap64 (s0_1 + 1)) - 1)) (s0_0.length : Int)))) * 131)) + (wrap64 ((wrap64 (rd s0_0 (Int.tmod (wrap64 ((wrap64 ((wrap64 ((wrap64 (s0_1 + 1)) - 1)) * 7)) + 3)) (s0_0.length : Int)))) * 1117)))) + (wrap64 ((wrap64 ((wrap64 (s0_1 + 1)) - 1)) * 29)))) + (wrap64 ((wrap64 (Int.tdiv (wrap64 ((wrap64 (s0_1 + 1)) - 1)) (s0_0.length : Int))) * 53)))) 64))) a1, (wrap64 (s0_1 + 1))))) else (none)) else (none)) else (none)) else (none)))) = some (r1, r2) := by rw [if_neg (show ¬ (false = true) by decide)] at H; exact H
   clear H
   have H := H1
   clear H1
   by_cases c8 : (wrap64 ((wrap64 (s0_1 + 1)) - 1)) < (s0_0.length : Int)
   ·rw [if_pos c8] at H
    have c8b0 : decide ((wrap64 ((wrap64 (s0_1 + 1)) - 1)) < (s0_0.length : Int)) = true := decide_eq_true c8
    clear c8
    obtain ⟨ji9, hji9⟩ : ∃ j_ : Int, (wrap64 ((wrap64 (s0_1 + 1)) - 1)) = j_ := ⟨_, rfl⟩
    replace H : (if 0 ≤ (ji9) then (if a1 = 0 then (none) else (some (Int.tmod (wrap64 (rd s0_0 (ji9))) a1, (wrap64 (s0_1 + 1))))) else (none)) = some (r1, r2) := by first | (rw [hji9] at H; exact H) | (simp only [hji9] at H ⊢; exact H)
    (try rw [hji9] at c8b0)
    have hji9w : (IntKind.i64.wrap ((wrap64 (s0_1 + 1)) - 1)) = ji9 := (i64_w _).trans hji9
    replace H := iD H
    obtain ⟨c10b0, H⟩ := H
    by_cases c11 : a1 = 0
    ·rw [if_pos c11] at H
     exact absurd H (by simp)
    rw [if_neg c11] at H
    have c11b0 : (a1 == 0) = false := beq_eq_false_iff_ne.mpr c11
    have c11b1 : (a1 != 0) = true := bne_iff_ne.mpr c11
    simp only [Option.some.injEq, Prod.mk.injEq] at H
    obtain ⟨rfl, rfl⟩ := H
    obtain ⟨ASz12_0, cSz12_0, HGz12, hgz12, HSz12_0⟩ := HI0.out
    have hcz12_0 := cellS83_0 HGz12
    have hcz12_1 := cellS83_1 HGz12
    have hfz12_1 := blk_frozen HGz12 1
    clear HGz12 hgz12
    obtain ⟨ad223, e223, hx223_0⟩ := Kd.at_int HSz12_0 (ji9) oD oD
    cases e223
    replace hx223_0 := pw_cell_below HB.out hx223_0
    have p223 := eq_true (oD : 0 ≤ ((ji9) : Int))
    have q223 := eq_true (oD : (ji9) < (s0_0.length : Int))
    go_wp2
    repeat (go_quiet (fail); try go_wp2)
    go_ret
    exact ⟨by first | rfl | (simp [errW_none, errW_some] <;> rfl) | (simp only [← hji9]; first | rfl | (simp [errW_none, errW_some] <;> rfl)) | (simp [*, errW_none, errW_some] <;> rfl), iS83 HI0.out, wS83 HB.out, kB HK.out⟩
   rw [if_neg c8] at H
   have c8b0 : decide ((wrap64 ((wrap64 (s0_1 + 1)) - 1)) < (s0_0.length : Int)) = false := decide_eq_false c8
   clear c8
   by_cases c13 : (s0_0.length : Int) = 0
   ·rw [if_pos c13] at H
    exact absurd H (by simp)
   rw [if_neg c13] at H
   have c13b0 : ((s0_0.length : Int) == 0) = false := beq_eq_false_iff_ne.mpr c13
   have c13b1 : ((s0_0.length : Int) != 0) = true := bne_iff_ne.mpr c13
   have c13b2 : ¬ (s0_0 = []) := fun h_ => c13 (by rw [h_]; rfl)
   obtain ⟨ji14, hji14⟩ : ∃ j_ : Int, (Int.tmod (wrap64 ((wrap64 (s0_1 + 1)) - 1)) (s0_0.length : Int)) = j_ := ⟨_, rfl⟩
   replace H : (if 0 ≤ (ji14) then (if (ji14) < (s0_0.length : Int) then (if 0 ≤ (Int.tmod (wrap64 ((wrap64 ((wrap64 ((wrap64 (s0_1 + 1)) - 1)) * 7)) + 3)) (s0_0.length : Int)) then (if (Int.tmod (wrap64 ((wrap64 ((wrap64 ((wrap64 (s0_1 + 1)) - 1)) * 7)) + 3)) (s0_0.length : Int)) < (s0_0.length : Int) then (if a1 = 0 then (none) else (some (Int.tmod (Go.bits .xor .i64 (wrap64 ((wrap64 ((wrap64 ((wrap64 ((wrap64 (rd s0_0 (ji14))) * 131)) + (wrap64 ((wrap64 (rd s0_0 (Int.tmod (wrap64 ((wrap64 ((wrap64 ((wrap64 (s0_1 + 1)) - 1)) * 7)) + 3)) (s0_0.length : Int)))) * 1117)))) + (wrap64 ((wrap64 ((wrap64 (s0_1 + 1)) - 1)) * 29)))) + (wrap64 ((wrap64 (Int.tdiv (wrap64 ((wrap64 (s0_1 + 1)) - 1)) (s0_0.length : Int))) * 53)))) (wrap64 (Int.tdiv (wrap64 ((wrap64 ((wrap64 ((wrap64 ((wrap64 (rd s0_0 (ji14))) * 131)) + (wrap64 ((wrap64 (rd s0_0 (Int.tmod (wrap64 ((wrap64 ((wrap64 ((wrap64 (s0_1 + 1)) - 1)) * 7)) + 3)) (s0_0.length : Int)))) * 1117)))) + (wrap64 ((wrap64 ((wrap64 (s0_1 + 1)) - 1)) * 29)))) + (wrap64 ((wrap64 (Int.tdiv (wrap64 ((wrap64 (s0_1 + 1)) - 1)) (s0_0.length : Int))) * 53)))) 64))) a1, (wrap64 (s0_1 + 1))))) else (none)) else (none)) else (none)) else (none)) = some (r1, r2) := by first | (rw [hji14] at H; exact H) | (simp only [hji14] at H ⊢; exact H)
   replace H := iD H
   obtain ⟨c15b0, H⟩ := H
   replace H := iD H
   obtain ⟨c16b0, H⟩ := H
   obtain ⟨ji17, hji17⟩ : ∃ j_ : Int, (Int.tmod (wrap64 ((wrap64 ((wrap64 ((wrap64 (s0_1 + 1)) - 1)) * 7)) + 3)) (s0_0.length : Int)) = j_ := ⟨_, rfl⟩
   replace H : (if 0 ≤ (ji17) then (if (ji17) < (s0_0.length : Int) then (if a1 = 0 then (none) else (some (Int.tmod (Go.bits .xor .i64 (wrap64 ((wrap64 ((wrap64 ((wrap64 ((wrap64 (rd s0_0 (ji14))) * 131)) + (wrap64 ((wrap64 (rd s0_0 (ji17))) * 1117)))) + (wrap64 ((wrap64 ((wrap64 (s0_1 + 1)) - 1)) * 29)))) + (wrap64 ((wrap64 (Int.tdiv (wrap64 ((wrap64 (s0_1 + 1)) - 1)) (s0_0.length : Int))) * 53)))) (wrap64 (Int.tdiv (wrap64 ((wrap64 ((wrap64 ((wrap64 ((wrap64 (rd s0_0 (ji14))) * 131)) + (wrap64 ((wrap64 (rd s0_0 (ji17))) * 1117)))) + (wrap64 ((wrap64 ((wrap64 (s0_1 + 1)) - 1)) * 29)))) + (wrap64 ((wrap64 (Int.tdiv (wrap64 ((wrap64 (s0_1 + 1)) - 1)) (s0_0.length : Int))) * 53)))) 64))) a1, (wrap64 (s0_1 + 1))))) else (none)) else (none)) = some (r1, r2) := by first | (rw [hji17] at H; exact H) | (simp only [hji17] at H ⊢; exact H)
   replace H := iD H
   obtain ⟨c18b0, H⟩ := H
   replace H := iD H
   obtain ⟨c19b0, H⟩ := H
   by_cases c20 : a1 = 0
   ·rw [if_pos c20] at H
    exact absurd H (by simp)
   rw [if_neg c20] at H
   have c20b0 : (a1 == 0) = false := beq_eq_false_iff_ne.mpr c20
   have c20b1 : (a1 != 0) = true := bne_iff_ne.mpr c20
   simp only [Option.some.injEq, Prod.mk.injEq] at H
   obtain ⟨rfl, rfl⟩ := H
   obtain ⟨ASz21_0, cSz21_0, HGz21, hgz21, HSz21_0⟩ := HI0.out
   have hcz21_0 := cellS83_0 HGz21
   have hcz21_1 := cellS83_1 HGz21
   have hfz21_1 := blk_frozen HGz21 1
   clear HGz21 hgz21
   obtain ⟨ad224, e224, hx224_0⟩ := Kd.at_int HSz21_0 (ji14) oD oD
   cases e224
   replace hx224_0 := pw_cell_below HB.out hx224_0
   have p224 := eq_true (oD : 0 ≤ ((ji14) : Int))
   have q224 := eq_true (oD : (ji14) < (s0_0.length : Int))
   obtain ⟨ad225, e225, hx225_0⟩ := Kd.at_int HSz21_0 (ji17) oD oD
   obtain rfl : ad224 = ad225 := (by injection e225)
   replace hx225_0 := pw_cell_below HB.out hx225_0
   have p225 := eq_true (oD : 0 ≤ ((ji17) : Int))
   have q225 := eq_true (oD : (ji17) < (s0_0.length : Int))
   go_wp2
   repeat (go_quiet (fail); try go_wp2)
   go_ret
   exact ⟨by first | rfl | (simp [errW_none, errW_some] <;> rfl) | (simp only [← hji14, ← hji17]; first | rfl | (simp [errW_none, errW_some] <;> rfl)) | (simp [*, errW_none, errW_some] <;> rfl), iS83 HI0.out, wS83 HB.out, kB HK.out⟩
def spec_reader_one.f (k : Nat) (s0_0 : List Int) (s0_1 : Int) (l1 : List Int) : Option (Int × Int) := (spec_reader_pick.f k s0_0 s0_1 (l1.length : Int)).bind fun bt226 => (if 0 ≤ bt226.1 then (if bt226.1 < (l1.length : Int) then (some (rd l1 bt226.1, bt226.2)) else (none)) else (none))
theorem spec_reader_one.mono : ∀ a0 a1 a2 k, LeO (spec_reader_one.f k a0 a1 a2) (spec_reader_one.f (k + 1) a0 a1 a2) := by
 intro a0 a1 a2 k
 unfold spec_reader_one.f
 repeat' first | (with_reducible first | exact spec_reader_pick.mono _ _ _ _ | exact lR | exact lN | refine lI ?_ ?_ | refine lB ?_ fun _ => ?_) | exact spec_reader_pick.mono _ _ _ _ | exact lN | refine lI ?_ ?_ | refine lB ?_ fun _ => ?_
set_option maxHeartbeats 8000000 in
set_option maxRecDepth 100000 in
theorem spec_reader_one.calls (k : Nat) (g : Nat) (s0_0 : List Int) (s0_1 : Int) (A1 : Option Addr) (c1 : Nat) (l1 : List Int) (r1 : Int) (r2 : Int) (w0 w : World) (hI : IsS83 w0 w g s0_0 s0_1) (hB : Below w0.heap.size w0 w) (hr1 : Kd.C (Kd.int .i64) w A1 l1.length l1) (hc1 : l1.length ≤ c1) (hf1 : ∀ ad, A1 = some ad → 0 < l1.length → ad.block ≠ g) (h : spec_reader_one.f k s0_0 s0_1 l1 = some (r1, r2)) :
  Calls Try.prog 74 #[.pointer (some ⟨g, 0, none⟩), .slice A1 l1.length c1] w fun e w' => e = .returned (.int .i64 r1) ∧ IsS83 w0 w' g s0_0 r2 ∧ Below w0.heap.size w0 w' ∧ KeepBut w w' g none := by
 have HR1 := aM hr1
 have HC1 := aM hc1
 clear hr1 hc1
 have HI0 := aM hI
 have HK := aM (KeepBut.refl w g none)
 have HL := aM hB.size
 clear hI
 have HW0 := aM hB.size
 have HB := aM hB
 clear hB
 unfold spec_reader_one.f at h
 have H := h
 clear h
 replace H := Option.bind_eq_some_iff.mp H
 obtain ⟨⟨t226, t227⟩, A30, H⟩ := H
 replace H : (if 0 ≤ t226 then (if t226 < (l1.length : Int) then (some (rd l1 t226, t227)) else (none)) else (none)) = some (r1, r2) := H
 have A3 := aM A30
 clear A30
 replace H := iD H
 obtain ⟨c4b0, H⟩ := H
 replace H := iD H
 obtain ⟨c5b0, H⟩ := H
 simp only [Option.some.injEq, Prod.mk.injEq] at H
 obtain ⟨rfl, rfl⟩ := H
 go_enter Try.func74, Try.ntmps74
 go_wp2_with (first | ((with_reducible refine gate_callee (f := 66) rfl ?_); refine gL (some 9) Try.func66 #[.pointer (some ⟨g, 0, none⟩), .int .i64 (l1.length : Int)] ?_; (with_reducible refine (spec_reader_pick.calls k g s0_0 s0_1 (l1.length : Int) t226 t227 w0 _ ?side1 ?side2 A3.out).mono ?_); (case side1 => exact iS83 HI0.out); (case side2 => exact wS83 HB.out); rintro e w6 ⟨rfl, hi, hb, hk⟩; refine ⟨_, rfl, ?_⟩; replace HK := aM (KeepBut.trans (kB HK.out) hk (.inl rfl)); replace HB := aM (hb); replace HI0 := aM (hi); clear hb hk hi; have p228 : 0 ≤ (t226 : Int) := oD; have q228 : t226 < (l1.length : Int) := oD; obtain ⟨ad228, e228, hx228_0⟩ := Kd.at_int HR1.out t226 p228 q228; cases e228; replace hx228_0 := keep_cell HK.out hx228_0 (by first | (rw [add_block]; exact hf1 _ rfl (by omega)) | exact hf1 _ rfl (by omega) | exact hf1 ad228 rfl (by omega)); replace p228 := eq_true p228; replace q228 := eq_true q228))
 go_ret
 exact ⟨qX, iS83 HI0.out, wS83 HB.out, kB HK.out⟩
def spec_newReader.f (l0 : List Int) : Option (List Int × Int) := if (l0.length : Int) > 2000 then (if 2000 ≤ (l0.length : Int) then (some (l0.take 2000, 0)) else (none)) else (some (l0, 0))
set_option maxHeartbeats 8000000 in
set_option maxRecDepth 100000 in
theorem spec_newReader.calls (A0 : Option Addr) (c0 : Nat) (l0 : List Int) (r1 : List Int) (r2 : Int) (w0 w : World) (hB : Below w0.heap.size w0 w) (hr0 : Kd.C (Kd.int .u8) w0 A0 l0.length l0) (hc0 : l0.length ≤ c0) (h : spec_newReader.f l0 = some (r1, r2)) :
  Calls Try.prog 52 #[.slice A0 l0.length c0] w fun e w' => ∃ g_ : Nat, e = .returned (.pointer (some ⟨g_, 0, none⟩)) ∧ IsS83 w0 w' g_ r1 r2 ∧ Below w0.heap.size w0 w' ∧ Below w.heap.size w w' := by
 have hu83 := Try.underlying83
 have HR0 := aM hr0
 have HC0 := aM hc0
 clear hr0 hc0
 have HBW := aM (Below.refl w.heap.size w)
 have HW0 := aM hB.size
 have HB := aM hB
 clear hB
 unfold spec_newReader.f at h
 have H := h
 clear h
 by_cases c2 : (l0.length : Int) > 2000
 rotate_left
 ·rw [if_neg c2] at H
  have c2b0 : decide (2000 < (l0.length : Int)) = false := decide_eq_false c2
  have c2b1 : decide (2000 < l0.length) = false := decide_eq_false (by omega)
  clear c2
  simp only [Option.some.injEq, Prod.mk.injEq] at H
  obtain ⟨rfl, rfl⟩ := H
  go_enter Try.func52, Try.ntmps52
  go_wp2_with (first | ((with_reducible refine gate_dst (N := 10) rfl ?_); refine bxE (N := 10) (cs := #[.slice A0 l0.length c0, .int .i64 0]) (t := 83) ?_; intro gb312 hg w6 hbox hb; replace HB := bS HB hb; have BK312 := aM (hbox); have GW312 := aM ((by rw [hg]; exact (below_size (qW HBW.out)) : w.heap.size ≤ gb312)); have GE312 := aM ((Nat.le_trans HW0.out (by rw [hg]; exact (below_size (qW HBW.out)) : w.heap.size ≤ gb312) : w0.heap.size ≤ gb312)); replace HBW := aM (below_step HBW.out hb); clear hb hbox hg))
  go_ret
  exact ⟨_, rfl, (show IsS83 w0 _ gb312 l0 0 from ⟨_, _, by refine qB ?_; exact BK312.out, GE312.out, HR0.out⟩), by exact qW HB.out, by exact qW HBW.out⟩
 rw [if_pos c2] at H
 have c2b0 : decide (2000 < (l0.length : Int)) = true := decide_eq_true c2
 have c2b1 : decide (2000 < l0.length) = true := decide_eq_true (by omega)
 clear c2
 replace H := iS H
 obtain ⟨c3, H⟩ := H
 have c3b0 := eq_true c3
 have c3b1 : decide (2000 ≤ (l0.length : Int)) = true := decide_eq_true c3
 clear c3
 simp only [Option.some.injEq, Prod.mk.injEq] at H
 obtain ⟨rfl, rfl⟩ := H
 obtain ⟨i04, hi04, _, hsz4, _⟩ := info_parts info5
 obtain ⟨hcut4, hA4, hC4⟩ := print_take_of (P := Try.prog) (Value.int .u8) 0 36 5 .i64 Try.underlying36 hi04 hsz4 A0 c0 l0 2000 (by omega) oD HC0.out
 have HR310 := aM (Kd.C_of_reads (h1 := fun _ => rfl) (hA4 _ (Kd.reads_of_C HR0.out)))
 have HC310 := aM hC4
 clear hA4 hC4 hi04 hsz4
 go_enter Try.func52, Try.ntmps52
 go_wp2_with (first | ((with_reducible refine gate_dst (N := 10) rfl ?_); refine bxE (N := 10) (cs := #[.slice A0 (l0.take 2000).length c0, .int .i64 0]) (t := 83) ?_; intro gb311 hg w5 hbox hb; replace HB := bS HB hb; have BK311 := aM (hbox); have GW311 := aM ((by rw [hg]; exact (below_size (qW HBW.out)) : w.heap.size ≤ gb311)); have GE311 := aM ((Nat.le_trans HW0.out (by rw [hg]; exact (below_size (qW HBW.out)) : w.heap.size ≤ gb311) : w0.heap.size ≤ gb311)); replace HBW := aM (below_step HBW.out hb); clear hb hbox hg))
 go_ret
 exact ⟨_, rfl, (show IsS83 w0 _ gb311 (l0.take 2000) 0 from ⟨_, _, by refine qB ?_; exact BK311.out, GE311.out, HR310.out⟩), by exact qW HB.out, by exact qW HBW.out⟩
def spec_copyInts.f (l0 : List Int) : Option (List Int) := (some (([] : List Int) : List Int)).bind fun y111 => (if y111.length + l0.length < 17592186044416 then (some (y111 ++ l0)) else (none))
set_option maxHeartbeats 8000000 in
set_option maxRecDepth 100000 in
theorem spec_copyInts.calls (A0 : Option Addr) (c0 : Nat) (l0 : List Int) (r : List Int) (w : World) (hr0 : Kd.C (Kd.int .i64) w A0 l0.length l0) (hc0 : l0.length ≤ c0) (h : spec_copyInts.f l0 = some r) :
  Calls Try.prog 76 #[.slice A0 l0.length c0] w fun e w' => ∃ v0_ : Value, e = .returned (v0_) ∧ Kd.R (Kd.int .i64) 3 w' w.heap.size (fun _ => True) v0_ r ∧ Below w.heap.size w w' := by
 have HR0 := aM hr0
 have HC0 := aM hc0
 clear hr0 hc0
 have HB := aM (Below.refl w.heap.size w)
 unfold spec_copyInts.f at h
 have H := h
 clear h
 obtain ⟨y111, hy111⟩ : ∃ y_ : List Int, y_ = (([] : List Int)) := ⟨_, rfl⟩
 replace H : (if y111.length + l0.length < 17592186044416 then (some (y111 ++ l0)) else (none)) = some r := rY hy111 H
 have Ny111 := aM hy111
 clear hy111
 replace H := iS H
 obtain ⟨c2, H⟩ := H
 have LMc2 := aM c2
 clear c2
 obtain ⟨y114, hy114⟩ : ∃ y_ : List Int, y_ = (y111 ++ l0) := ⟨_, rfl⟩
 replace H : (some y114) = some r := rY hy114 H
 have Ny114 := aM hy114
 clear hy114
 obtain rfl := Option.some.inj H
 go_enter Try.func76, Try.ntmps76
 go_wp2_with (first | ((with_reducible refine gate_dst (N := 3) rfl ?_); refine iL ([] : List Int) [] ?_; intro v112 w3 ho4 hb hg_ hnew_; clear hg_ hnew_; (first | rw [← Ny111.out] at ho4 | (simp only [Int.reduceToNat] at ho4; rw [← Ny111.out] at ho4)); have HO113 := oR ho4 HB; replace HB := bS HB hb; clear hb ho4) | ((with_reducible refine gate_builtin (b := .append) (xs := #[.tmp 3, .tmp 4]) rfl ?_); at_builtin; refine Kd.R_append_rows (Kd.int .i64) (w0 := w) w.heap.size rfl (.tmp 3) (.tmp 4) 22 3 (.int .i64 0) 8 rfl Try.underlying22 info3 rfl (by decide) (by omega) v112 y111 l0 _ _ _ (fun _ => True) (fun _ => False) rfl rfl ?aO ?aR (fun _ _ h => h) (fun _ h => h.elim) ?aF ?aB ?aS ?aL ?_; (case aR => exact qC (Kd.C_below HR0.out HB.out)); (case aB => exact (qW HB.out)); (case aF => exact (fun _ _ => trivial)); (case aO => exact (qR HO113.out)); (case aS => exact (below_size (qW HB.out))); (case aL => have := LMc2.out; omega); intro v115 w5 ho hb hg hat; rw [← Ny114.out] at ho; replace HB := aM (hb); have HO116 := aM (ho); clear HO113; clear ho hb hg hat))
 go_ret
 exact ⟨_, qX, by refine qR ?_; exact HO116.out, by exact qW HB.out⟩
end Go.Proofs.Ytohbpilokmppbaa.P
