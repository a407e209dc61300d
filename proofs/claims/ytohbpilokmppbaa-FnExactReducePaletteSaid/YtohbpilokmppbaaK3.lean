/- Contracts and row, written by a program of this place out of the translation: the call answers true and its argument reads as before, for every input; no condition. -/
import Derived.Test.YtohbpilokmppbaaK0
import Derived.Test.YtohbpilokmppbaaK1
import Derived.Test.YtohbpilokmppbaaK2
namespace Go.Proofs.Ytohbpilokmppbaa.P
open Go.RowKit Go.Proofs.YtohbpilokmppbaaW.PrintWords Go.Proofs.YtohbpilokmppbaaW.PrintLast Go.Proofs.YtohbpilokmppbaaW.PrintMore
attribute [local go_sem] max2_int min2_int max_two min_two max_three min_three max_four min_four   -- for this text's walks alone
set_option linter.unusedVariables false
set_option linter.unusedSimpArgs false
def splWd (k : Nat) (ps : List (List (List Int))) : Nat → Option (Int × Int)
 | 0 => some (-1, 0)
 | i + 1 => (splWd k ps i).bind fun t => (spec_spread.f k (ps.getD i [])).bind fun s => if s.2 > t.2 then some ((i : Int), s.2) else some t
def splOne (k : Nat) (ps : List (List (List Int))) : Option (Option (List (List (List Int)))) := (splWd k ps ps.length).bind fun t => if t.1 < 0 then some none else (spec_spread.f k (ps.getD t.1.toNat [])).bind fun s => (spec_ordered.f k (ps.getD t.1.toNat []) s.1).bind fun z => if ps.length < 1000000 then some (some (ps.set t.1.toNat (z.take (z.length / 2)) ++ [z.drop (z.length / 2)])) else none
def splGo (k : Nat) (n : Int) : Nat → List (List (List Int)) → Option (List (List (List Int)))
 | 0, ps => some ps
 | j + 1, ps => if (ps.length : Int) < n then (splOne k ps).bind fun o => (match o with | none => some ps | some q => splGo k n j q) else some ps
def spec_splitColors.f (k : Nat) (l : List (List Int)) (n : Int) : Option (List (List (List Int))) := splGo k n n.toNat [l]
theorem splWd_mono (k : Nat) (ps : List (List (List Int))) : ∀ i, LeO (splWd k ps i) (splWd (k + 1) ps i)
 | 0 => LeO.refl _
 | i + 1 => LeO.bind (splWd_mono k ps i) (fun _ => LeO.bind (spec_spread.mono _ _) (fun _ => LeO.refl _))
theorem splOne_mono (k : Nat) (ps : List (List (List Int))) : LeO (splOne k ps) (splOne (k + 1) ps) := LeO.bind (splWd_mono k ps _) (fun _ => LeO.ite (LeO.refl _) (LeO.bind (spec_spread.mono _ _) (fun _ => LeO.bind (spec_ordered.mono _ _ _) (fun _ => LeO.refl _))))
theorem splGo_mono (k : Nat) (n : Int) : ∀ j ps, LeO (splGo k n j ps) (splGo (k + 1) n j ps)
 | 0, ps => LeO.refl _
 | j + 1, ps => LeO.ite (LeO.bind (splOne_mono k ps) (fun o => match o with | none => LeO.refl _ | some q => splGo_mono k n j q)) (LeO.refl _)
theorem spec_splitColors.mono (l : List (List Int)) (n : Int) (k : Nat) : LeO (spec_splitColors.f k l n) (spec_splitColors.f (k + 1) l n) := splGo_mono k n _ _
theorem splWd_le {k : Nat} {ps : List (List (List Int))} : ∀ (n i : Nat) (t : Int × Int), splWd k ps n = some t → i ≤ n → ∃ u, splWd k ps i = some u
 | 0, i, t, h, hi => ⟨t, by rw [show i = 0 by omega]; exact h⟩
 | n + 1, i, t, h, hi => by
  by_cases e : i = n + 1
  ·exact ⟨t, by rw [e]; exact h⟩
  ·rw [splWd] at h
   obtain ⟨f, hf, _⟩ := Option.bind_eq_some_iff.mp h
   exact splWd_le n i f hf (by omega)
theorem splWd_lt {k : Nat} {ps : List (List (List Int))} : ∀ (n : Nat) (t : Int × Int), splWd k ps n = some t → -1 ≤ t.1 ∧ t.1 < n
 | 0, t, h => by
  cases h
  exact ⟨by decide, by decide⟩
 | n + 1, t, h => by
  rw [splWd] at h
  obtain ⟨f, hf, h⟩ := Option.bind_eq_some_iff.mp h
  obtain ⟨s, hs, h⟩ := Option.bind_eq_some_iff.mp h
  have ih := splWd_lt n f hf
  split at h
  ·cases h
   exact ⟨by simp only; omega, by simp only; omega⟩
  ·cases h
   omega
theorem N_row {W : World} {base g n cap : Nat} {ok : Nat → Prop} {ps : List (List (List Int))} (h : Kd.N (Kd.slice 22 (Kd.slice 3 (Kd.int .i64))) 26 W base ok (.slice (some ⟨g, 0, none⟩) n cap) ps) (i : Nat) (hi : i < ps.length) :
  ∃ A c, (ps.getD i []).length ≤ c ∧ Kd.F (Kd.slice 3 (Kd.int .i64)) W (fun k => ok k ∧ k ≠ g) A (ps.getD i []).length (ps.getD i []) ∧ W.cell? ⟨g, i, none⟩ = some (.slice A (ps.getD i []).length c) ∧ W.frozen? ⟨g, i, none⟩ = false := by
 have hn := (Kd.N_reads' h).1
 obtain ⟨c, hcl, hM, hcc, hfr⟩ := Kd.N_elem h [] (i : Int) (by omega) (by omega)
 obtain ⟨A, c', rfl, hl, hf⟩ := Kd.FK_slice_open hM
 rw [Int.toNat_natCast] at hl hf hcc hfr
 have h1 := hcc 0 _ rfl
 have h2 := hfr 0
 simp only [show (Kd.slice 22 (Kd.slice 3 (Kd.int .i64))).sz = 1 from rfl, Nat.mul_one, Nat.add_zero] at h1 h2
 exact ⟨A, c', hl, hf, h1, h2⟩
theorem N_free {W : World} {base g n cap : Nat} {ok : Nat → Prop} {ps : List (List (List Int))} (h : Kd.N (Kd.slice 22 (Kd.slice 3 (Kd.int .i64))) 26 W base ok (.slice (some ⟨g, 0, none⟩) n cap) ps) (i : Nat) (hi : i < ps.length) : W.frozen? ⟨g, i, none⟩ = false := by
 obtain ⟨_, _, _, _, _, h4⟩ := N_row h i hi
 exact h4
theorem N_apartF {W w8 w : World} {g cz : Nat} {P0_ : Nat → Prop} {Az : Option Addr} {z : List (List Int)} (h : Kd.N (Kd.slice 3 (Kd.int .i64)) 22 w8 W.heap.size (fun k_ => ((P0_ k_ ∨ w.heap.size ≤ k_) ∧ k_ ≠ g) ∨ W.heap.size ≤ k_) (.slice Az z.length cz) z) (hs : w.heap.size ≤ W.heap.size) (hg : g < W.heap.size) :
  z.length ≤ cz ∧ Kd.F (Kd.slice 3 (Kd.int .i64)) w8 (fun k_ => (P0_ k_ ∨ w.heap.size ≤ k_) ∧ k_ ≠ g) Az z.length z := by
 refine ⟨(Kd.N_reads' h).2.1, Kd.F_mono (Kd.N_F h) fun k hk => ?_⟩
 rcases hk with hk | hk
 ·exact hk
 exact ⟨.inr (by omega), by omega⟩
theorem cut_hi {W : World} (A : Option Addr) (n c m : Nat) (hm : m ≤ n) (hc : n ≤ c) : (Instr.slice 26 (.slice A n c) none (some (.int .i64 (m : Int))) none).run Try.prog W = .ok (.slice A m c) W := by
 obtain ⟨i0, hi, hsz⟩ := Option.map_eq_some_iff.1 (show (Try.prog.info? 22).map (·.size) = some 1 by kernel_rfl)
 have h1 := (print_take_of (Value.int .i64) (0 : Int) 26 22 .i64 Try.underlying26 hi hsz A c (List.replicate n (0 : Int)) (m : Int) (by omega) (by rw [List.length_replicate]; omega) (by rw [List.length_replicate]; omega)).1 W
 rw [List.length_replicate] at h1
 rw [h1, Int.toNat_natCast, List.length_take, List.length_replicate, Nat.min_eq_left hm]
theorem cut_lo {W : World} (A : Option Addr) (n c m : Nat) (hm : m ≤ n) (hc : n ≤ c) : (Instr.slice 26 (.slice A n c) (some (.int .i64 (m : Int))) none none).run Try.prog W = .ok (.slice (if c = m then A else A.map (·.add (m * 1))) (n - m) (c - m)) W := by
 obtain ⟨i0, hi, hsz⟩ := Option.map_eq_some_iff.1 (show (Try.prog.info? 22).map (·.size) = some 1 by kernel_rfl)
 have hel : Try.prog.elem 26 = 22 := by simp [Program.elem, Try.underlying26]
 have hu : Try.prog.underlying 26 = some (.slice (Try.prog.elem 26)) := by rw [hel]; exact Try.underlying26
 rw [run_slice_l W 26 A n c hu .i64 (m : Int) (by omega) (by omega), hel, Int.toNat_natCast]
 simp [sizeOf, typeInfo, hi, hsz, sliced, Result.andThen]
theorem le_cut {n z a c : Nat} (h : n = z - a) (h2 : z ≤ c) : n ≤ c - a := by omega
theorem le_app {n : Nat} (h : n < 1000000) : (n + 1) * 24 ≤ 140737488355328 := by omega
theorem half_w {n : Nat} (h : n ≤ 9223372036854775807) : wrap64 (Int.tdiv (n : Int) 2) = ((n / 2 : Nat) : Int) ∧ IntKind.i64.wrap (Int.tdiv (n : Int) 2) = ((n / 2 : Nat) : Int) ∧ wrap64 ((n : Int) / 2) = ((n / 2 : Nat) : Int) ∧ IntKind.i64.wrap ((n : Int) / 2) = ((n / 2 : Nat) : Int) := by
 have h0 : wrap64 ((n : Int) / 2) = ((n / 2 : Nat) : Int) := by
  unfold wrap64
  omega
 have h1 : wrap64 (Int.tdiv (n : Int) 2) = ((n / 2 : Nat) : Int) := by
  rw [Int.tdiv_eq_ediv_of_nonneg (by omega)]
  exact h0
 exact ⟨h1, (i64_w _).trans h1, h0, (i64_w _).trans h0⟩
theorem N_rowput {W : World} {base g n cap : Nat} {ok : Nat → Prop} {ps : List (List (List Int))} (h : Kd.N (Kd.slice 22 (Kd.slice 3 (Kd.int .i64))) 26 W base ok (.slice (some ⟨g, 0, none⟩) n cap) ps) (i : Nat) (hi : i < ps.length) {A : Option Addr} {c : Nat} {x : List (List Int)} (hl : x.length ≤ c) (hf : Kd.F (Kd.slice 3 (Kd.int .i64)) W (fun k => ok k ∧ k ≠ g) A x.length x) :
  Kd.N (Kd.slice 22 (Kd.slice 3 (Kd.int .i64))) 26 (W.setCell ⟨g, i, none⟩ (.slice A x.length c)) base ok (.slice (some ⟨g, 0, none⟩) n cap) (ps.set i x) ∧ W.grownBy (W.setCell ⟨g, i, none⟩ (.slice A x.length c)) (some g) := by
 have hn := (Kd.N_reads' h).1
 obtain ⟨c1, hcl, hM, hcc, hfr⟩ := Kd.N_elem h [] (i : Int) (by omega) (by omega)
 have h1 := Kd.N_seg h (i : Int) (by omega) (by omega) (seg := [.slice A x.length c]) (j := 0) hcl hcc (show 1 ≤ 1 from by decide) (x' := x) (okp := fun k => ok k ∧ k ≠ g) (by
  have h2 : c1 = [c1.getD 0 undef] := by
   have : c1.length = 1 := hcl
   match c1, this with
   | [a], _ => rfl
  rw [h2]
  exact Kd.FK_slice_mk hl hf) (fun _ hk => hk)
 simp only [show (Kd.slice 22 (Kd.slice 3 (Kd.int .i64))).sz = 1 from rfl, Nat.mul_one, Nat.add_zero, Int.toNat_natCast] at h1
 exact h1
set_option maxHeartbeats 8000000 in
set_option maxRecDepth 100000 in
theorem spec_splitColors.calls (k : Nat) (P0_ : Nat → Prop) (A0 : Option Addr) (c0 : Nat) (l0 : List (List Int)) (a1 : Int) (r : List (List (List Int))) (w : World) (hc0 : l0.length ≤ c0) (hs0 : Kd.F (Kd.slice 3 (Kd.int .i64)) w (fun k_ => P0_ k_) A0 l0.length l0) (h : spec_splitColors.f k l0 a1 = some r) :
  Calls Try.prog 69 #[.slice A0 l0.length c0, .int .i64 a1] w fun e w' => ∃ v0_ : Value, e = .returned v0_ ∧ Kd.N (Kd.slice 22 (Kd.slice 3 (Kd.int .i64))) 26 w' w.heap.size (fun k_ => P0_ k_ ∨ w.heap.size ≤ k_) v0_ r ∧ Below w.heap.size w w' := by
 have hu74 := Try.underlying74
 have hu26 := Try.underlying26
 have HS := aM hs0
 have HC := aM hc0
 clear hs0 hc0
 have HB := aM (Below.refl w.heap.size w)
 unfold spec_splitColors.f at h
 have H0 := aM h
 clear h
 go_enter Try.func69, Try.ntmps69
 go_wp2_with (first | ((with_reducible refine gate_dst (N := 16) rfl ?_); refine Kd.N_lit (Kd.slice 22 (Kd.slice 3 (Kd.int .i64))) _ 26 ?hg (N' := 16) ?hd (xs := [l0]) (inner := [.slice A0 l0.length c0]) (ok := (fun k_ => P0_ k_ ∨ w.heap.size ≤ k_)) (okp := fun k_ => P0_ k_) ?hr ?hp (fun _ hk => .inl hk) (.inr (below_size (qW HB.out))) (Below.refl _ _) (Nat.le_refl _) (by simp) ?_; (case hd => rfl); (case hg => rfl); (case hr => first | (go_simp; done) | (go_simp; rfl)); (case hp => exact Reps.one (Kd.FK_slice_mk HC.out HS.out) (Reps.none _ _)); intro v5 w4 ho hb hg_ hnew_; clear hg_ hnew_; have n1_ := aM (Kd.N_lower ho (below_size (qW HB.out))); have n2_ := bS HB hb; clear HS HC HB ho hb; have HN := n1_; have HB := n2_; clear n1_ n2_))
 obtain ⟨gp, cp, ev, hgp, _⟩ := Kd.N_form HN.out (by simp)
 subst ev
 go_loopg [5] a1.toNat (fun gg s5 w' => ∃ (ps : List (List (List Int))) (gp cp : Nat), s5 = .slice (some ⟨gp, 0, none⟩) ps.length cp ∧ 1 ≤ ps.length ∧ a1 ≤ (ps.length : Int) + gg ∧ Aside0 (splGo k a1 gg ps = some r) ∧ Aside0 (Kd.N (Kd.slice 22 (Kd.slice 3 (Kd.int .i64))) 26 w' w.heap.size (fun k_ => P0_ k_ ∨ w.heap.size ≤ k_) (.slice (some ⟨gp, 0, none⟩) ps.length cp) ps) ∧ Aside0 (Below w.heap.size w w'))
 case atStart => exact ⟨[l0], gp, cp, rfl, by simp, by simp only [List.length_singleton]; omega, H0, ⟨by (with_reducible repeat (first | apply Kd.N_alloc | apply Kd.N_drewN | apply Kd.N_drew)); exact HN.out⟩, ⟨(qW HB.out)⟩⟩
 case round =>
  clear HN HB H0 hgp
  obtain ⟨ps, gp, cp, rfl, hps, hgg, H0, HN, HB⟩ := hrel
  by_cases hlt : (ps.length : Int) < a1
  case neg =>
   have er : ps = r := by
    have h1 := H0.out
    cases gk with
    | zero => exact Option.some.inj h1
    | succ j => rw [splGo, if_neg hlt] at h1; exact Option.some.inj h1
   have ER := aM er
   have hd := decide_eq_false hlt
   clear hlt er
   go_wp2
   go_ret
   exact ⟨_, by first | rfl | (simp; done), by (with_reducible repeat (first | apply Kd.N_alloc | apply Kd.N_drewN | apply Kd.N_drew)); rw [← ER.out]; exact HN.out, (qW HB.out)⟩
  case pos =>
   have hd := decide_eq_true hlt
   obtain ⟨j, rfl⟩ : ∃ j, gk = j + 1 := ⟨gk - 1, by omega⟩
   have H1 := H0.out
   rw [splGo, if_pos hlt] at H1
   obtain ⟨o, HO1, H2⟩ := Option.bind_eq_some_iff.mp H1
   unfold splOne at HO1
   obtain ⟨⟨aw, mw⟩, HW, HO1⟩ := Option.bind_eq_some_iff.mp HO1
   replace HW := aM HW
   replace HO1 := aM HO1
   replace H2 := aM H2
   have HLT := aM hlt
   have HPS := aM hps
   have HGG := aM hgg
   clear H1 H0 hlt hps hgg
   go_wp2
   go_loopg [6, 7, 8] ps.length (fun g2 s6 s7 s8 w' => ∃ (i : Nat) (ai mi : Int), i ≤ ps.length ∧ ps.length - i ≤ g2 ∧ s6 = .int .i64 ai ∧ s7 = .int .i64 mi ∧ s8 = .int .i64 i ∧ Aside0 (splWd k ps i = some (ai, mi)) ∧ Aside0 (Kd.N (Kd.slice 22 (Kd.slice 3 (Kd.int .i64))) 26 w' w.heap.size (fun k_ => P0_ k_ ∨ w.heap.size ≤ k_) (.slice (some ⟨gp, 0, none⟩) ps.length cp) ps) ∧ Aside0 (Below w.heap.size w w'))
   case atStart => exact ⟨0, -1, 0, Nat.zero_le _, by omega, rfl, rfl, rfl, ⟨rfl⟩, ⟨by (with_reducible repeat (first | apply Kd.N_alloc | apply Kd.N_drewN | apply Kd.N_drew)); exact HN.out⟩, ⟨(qW HB.out)⟩⟩
   case round =>
    clear HN HB
    obtain ⟨i, ai, mi, hi, hg2, rfl, rfl, rfl, HI, HN, HB⟩ := hrel
    by_cases hil : i < ps.length
    case pos =>
     have hmx : ps.length ≤ 9223372036854775807 := Kd.F_max (Kd.N_F HN.out)
     have hil0 : 0 ≤ (i : Int) := by omega
     have hilz : (i : Int) < (ps.length : Int) := by omega
     have hild := decide_eq_true hilz
     obtain ⟨⟨a2, m2⟩, hw2⟩ := splWd_le _ (i + 1) _ HW.out hil
     have HI2 := aM hw2
     rw [splWd, HI.out, Option.bind_some] at hw2
     obtain ⟨⟨s1, s2⟩, hsp, hw2⟩ := Option.bind_eq_some_iff.mp hw2
     obtain ⟨Ai, ci, hlc, hFi, hxi, hzi⟩ := N_row HN.out i hil
     generalize ps.getD i [] = x at hsp hlc hFi hxi
     have HSP := aM hsp
     clear hsp
     have HLC := aM hlc
     have HFI := aM hFi
     clear hlc hFi
     by_cases hgt : s2 > mi
     case pos =>
      have hgd : decide (mi < s2) = true := decide_eq_true hgt
      rw [if_pos hgt] at hw2
      obtain ⟨rfl, rfl⟩ := Prod.mk.inj (Option.some.inj hw2)
      clear hw2 hgt
      go_wp2_with (first | (go_at_call 87; (with_reducible refine (spec_spread.calls k Ai ci x s1 s2 _ ?side1 HLC.out HSP.out).mono ?_); (case side1 => exact Kd.F_now HFI.out); rintro e w7 ⟨rfl, hb⟩; have n1_ := aM (Kd.N_below (by (with_reducible repeat (first | apply Kd.N_alloc | apply Kd.N_drewN | apply Kd.N_drew)); exact HN.out) hb); have n2_ := bS HB hb; clear HN HB HFI hb; have HN := n1_; have HB := n2_; clear n1_ n2_))
      go_roundg (ps.length - (i + 1))
      case measure => omega
      case rel => exact ⟨i + 1, (i : Int), s2, by omega, by omega, rfl, rfl, by go_num, HI2, ⟨by (with_reducible repeat (first | apply Kd.N_alloc | apply Kd.N_drewN | apply Kd.N_drew)); exact HN.out⟩, ⟨(qW HB.out)⟩⟩
     case neg =>
      have hgd : decide (mi < s2) = false := decide_eq_false hgt
      rw [if_neg hgt] at hw2
      obtain ⟨rfl, rfl⟩ := Prod.mk.inj (Option.some.inj hw2)
      clear hw2 hgt
      go_wp2_with (first | (go_at_call 87; (with_reducible refine (spec_spread.calls k Ai ci x s1 s2 _ ?side1 HLC.out HSP.out).mono ?_); (case side1 => exact Kd.F_now HFI.out); rintro e w7 ⟨rfl, hb⟩; have n1_ := aM (Kd.N_below (by (with_reducible repeat (first | apply Kd.N_alloc | apply Kd.N_drewN | apply Kd.N_drew)); exact HN.out) hb); have n2_ := bS HB hb; clear HN HB HFI hb; have HN := n1_; have HB := n2_; clear n1_ n2_))
      go_roundg (ps.length - (i + 1))
      case measure => omega
      case rel => exact ⟨i + 1, ai, mi, by omega, by omega, rfl, rfl, by go_num, HI2, ⟨by (with_reducible repeat (first | apply Kd.N_alloc | apply Kd.N_drewN | apply Kd.N_drew)); exact HN.out⟩, ⟨(qW HB.out)⟩⟩
    case neg =>
     have ei : i = ps.length := by omega
     have he := HI.out
     rw [ei, HW.out] at he
     obtain ⟨e1, e2⟩ := Prod.mk.inj (Option.some.inj he)
     subst e1
     subst e2
     clear he hg2 HI hi
     have hild := decide_eq_false (show ¬ (i : Int) < (ps.length : Int) by omega)
     clear hil
     have hHO := HO1.out
     by_cases hneg : aw < 0
     case pos =>
      rw [if_pos hneg] at hHO
      have ho := Option.some.inj hHO
      subst ho
      have ER := aM (Option.some.inj H2.out)
      have hnd := decide_eq_true hneg
      clear hneg hHO HO1 H2
      go_wp2
      go_ret
      exact ⟨_, by first | rfl | (simp; done), by (with_reducible repeat (first | apply Kd.N_alloc | apply Kd.N_drewN | apply Kd.N_drew)); rw [← ER.out]; exact HN.out, (qW HB.out)⟩
     case neg =>
      have hnd := decide_eq_false hneg
      rw [if_neg hneg] at hHO
      obtain ⟨q, rfl⟩ := Int.eq_ofNat_of_zero_le (show 0 ≤ aw by omega)
      rw [Int.toNat_natCast] at hHO
      have hql := splWd_lt _ _ HW.out
      have hq : q < ps.length := by have := hql.2; simp only at this; omega
      have hqd0 := decide_eq_true (show 0 ≤ (q : Int) by omega)
      have hqd := decide_eq_true (show (q : Int) < (ps.length : Int) by omega)
      have hq0 : 0 ≤ (q : Int) := by omega
      have hqz : (q : Int) < (ps.length : Int) := by omega
      obtain ⟨⟨pl, pw⟩, hsp, hHO⟩ := Option.bind_eq_some_iff.mp hHO
      obtain ⟨z, hzo, hHO⟩ := Option.bind_eq_some_iff.mp hHO
      simp only at hzo
      by_cases hbig : ps.length < 1000000
      case neg => rw [if_neg hbig] at hHO; cases hHO
      rw [if_pos hbig] at hHO
      have ho := Option.some.inj hHO
      subst ho
      have H3 : splGo k a1 j (ps.set q (z.take (z.length / 2)) ++ [z.drop (z.length / 2)]) = some r := H2.out
      obtain ⟨Ai, ci, hlc, hFi, hxi, hzi⟩ := N_row HN.out q hq
      generalize ps.getD q [] = x at hsp hzo hlc hFi hxi
      have hh : z.length / 2 ≤ z.length := Nat.div_le_self _ _
      generalize hhe : z.length / 2 = hf at H3 hh
      have hla : (z.take hf).length = hf := by rw [List.length_take]; omega
      have hlb : (z.drop hf).length = z.length - hf := List.length_drop
      have hlc2 := hlc
      have FA := fun (W : World) (ok : Nat → Prop) (A : Option Addr) (c : Nat) (hF : Kd.F (Kd.slice 3 (Kd.int .i64)) W ok A z.length z) (hc : z.length ≤ c) => (show Kd.F (Kd.slice 3 (Kd.int .i64)) W ok A (z.take hf).length (z.take hf) ∧ Kd.F (Kd.slice 3 (Kd.int .i64)) W ok (if c = hf then A else A.map (·.add (hf * 1))) (z.drop hf).length (z.drop hf) from ⟨Kd.F_take hF hh, Kd.F_cut hF hh hc⟩)
      have FA := aM FA
      generalize z.take hf = za at hla H3 FA
      generalize z.drop hf = zb at hlb H3 FA
      subst hla
      have HSP := aM hsp
      have HZO := aM hzo
      have H3 := aM H3
      have HBIG := aM hbig
      have HQ := aM hq
      have HLC := aM hlc
      have HFI := aM hFi
      have HHH := aM hh
      have HLB := aM hlb
      have HHE := aM hhe
      clear hsp hzo H2 HO1 hHO hneg hbig hlc hFi hql hh hlb hhe
      go_wp2_with (first | (go_at_call 87; (with_reducible refine (spec_spread.calls k Ai ci x pl pw _ ?side1 HLC.out HSP.out).mono ?_); (case side1 => exact Kd.F_now HFI.out); rintro e w7 ⟨rfl, hb⟩; have n1_ := aM (Kd.N_below (by (with_reducible repeat (first | apply Kd.N_alloc | apply Kd.N_drewN | apply Kd.N_drew)); exact HN.out) hb); have n2_ := bS HB hb; have n3_ := aM (Kd.F_below HFI.out hb); have hx7 := (hb.cell (World.block_lt_of_cell? _ _ hxi)).trans hxi; clear HN HB HFI hb hxi hzi; have HN := n1_; have HB := n2_; have HFI := n3_; clear n1_ n2_ n3_) | (go_at_call 88; (with_reducible refine (spec_ordered.calls k (fun k_ => (P0_ k_ ∨ w.heap.size ≤ k_) ∧ k_ ≠ gp) Ai ci x pl z _ ?side1 HZO.out).mono ?_); (case side1 => exact Kd.V_mk HLC.out HFI.out); rintro e w8 ⟨vz, rfl, ho, hb⟩; obtain ⟨Az, cz, ez⟩ := Kd.N_slice ho; subst ez; have hz_ := N_apartF ho (below_size (qW HB.out)) (Kd.N_lt HN.out gp (by simp [Value.ownBlock])); have n1_ := aM (Kd.N_below (by (with_reducible repeat (first | apply Kd.N_alloc | apply Kd.N_drewN | apply Kd.N_drew)); exact HN.out) hb); have n2_ := bS HB hb; have HCZ := aM hz_.1; have HFZ := aM hz_.2; have hx8 := (hb.cell (World.block_lt_of_cell? _ _ hx7)).trans hx7; clear HN HB HFI hb hz_ hx7 ho; have HN := n1_; have HB := n2_; clear n1_ n2_; have hzf := N_free HN.out q HQ.out; have hw_ := half_w (Kd.F_max HFZ.out); rw [HHE.out] at hw_; obtain ⟨hw1, hw2, hw3, hw4⟩ := hw_; have hcA := fun W => cut_hi (W := W) Az z.length cz za.length HHH.out HCZ.out; have hcB := fun W => cut_lo (W := W) Az z.length cz za.length HHH.out HCZ.out; rw [← HLB.out] at hcB; generalize hbe : (if cz = za.length then Az else Az.map (·.add (za.length * 1))) = Azb at hcB; have HBE := aM hbe; clear hbe) | ((with_reducible refine gate_store (t := 26) (p := 65) rfl ?_); refine store_event (t := 26) (p := 65) (v := ?vo_sc) (w1 := (w8.setCell ⟨gp, q, none⟩ (.slice Az za.length cz))) ?hg ?ho ?hn ?hr ?_; (case ho => rfl); (case hg => rfl); (case hn => rfl); (case hr => first | (go_simp; done) | (go_simp; rfl)); intro w9 hw; have hp_ := N_rowput HN.out q HQ.out (A := Az) (c := cz) (x := za) (Nat.le_trans HHH.out HCZ.out) (FA.out w8 _ Az cz HFZ.out HCZ.out).1; rw [← hw] at hp_; have n3_ := aM (Kd.F_grown HFZ.out hp_.2 (fun k_ hk_ e_ => hk_.2 (Option.some.inj e_))); have n2_ := aM (show Below w.heap.size w w9 by rw [hw]; exact below_set HB.out (Kd.N_base HN.out gp (by simp [Value.ownBlock]))); have n1_ := aM hp_.1; clear HN HB HFZ hp_ hw hzf; have HN := n1_; have HB := n2_; have HFZ := n3_; clear n1_ n2_ n3_) | ((with_reducible refine gate_builtin (b := .append) (xs := #[.tmp 66, .tmp 70]) rfl ?_); at_builtin; refine Kd.N_append (Kd.slice 22 (Kd.slice 3 (Kd.int .i64))) (w0 := w) w.heap.size rfl (.tmp 66) (.tmp 70) 74 26 (.slice none 0 0) 24 rfl Try.underlying74 (show (Try.prog.info? 26).map (fun i => (i.zero, i.size, i.bytes)) = some (some (.slice none 0 0), 1, 24) by kernel_rfl) rfl (by decide) (by omega) (.slice (some ⟨gp, 0, none⟩) ps.length cp) (ps.set q za) zb [.slice Azb zb.length (cz - za.length)] (fun k_ => P0_ k_ ∨ w.heap.size ≤ k_) (fun k_ => (P0_ k_ ∨ w.heap.size ≤ k_) ∧ k_ ≠ gp) rfl rfl ?aP ?aK ?aF ?aO ?aB ?aS ?aL ?_; (case aP => exact Kd.FK_slice_mk (le_cut HLB.out HCZ.out) (by have h1_ := (FA.out _ _ Az cz HFZ.out HCZ.out).2; rw [HBE.out] at h1_; exact h1_)); (case aK => exact fun k_ hk_ => ⟨hk_.1, fun e_ => hk_.2 (by simpa [Value.ownBlock] using e_)⟩); (case aF => exact fun k_ hk_ => .inr (Nat.le_trans (below_size (qW HB.out)) hk_)); (case aO => exact HN.out); (case aB => exact HB.out); (case aS => exact below_size HB.out); (case aL => (rw [List.length_set]; exact le_app HBIG.out)); intro v1 w10 ho hb hgr hat; clear hgr hat; have h0_ := Kd.N_form ho (by simp); obtain ⟨g2, c2, ev2, _⟩ := h0_; subst ev2; have n1_ := aM ho; have n2_ := aM hb; clear HN HB HFZ ho hb; have HN := n1_; have HB := n2_; clear n1_ n2_))
      go_roundg j
      case measure => omega
      case rel => exact ⟨ps.set q za ++ [zb], g2, c2, by first | rfl | (simp; done), by simp, by have h1_ := HGG.out; have h2_ := HLT.out; rw [List.length_append, List.length_set, List.length_singleton]; omega, H3, ⟨by (with_reducible repeat (first | apply Kd.N_alloc | apply Kd.N_drewN | apply Kd.N_drew)); exact HN.out⟩, ⟨(qW HB.out)⟩⟩
mutual
def spec_meanColor.l0 : Nat → List (List Int) → List Int → Int → Option (List Int)
 | 0, _, _, _ => none
 | k + 1, x0, x3, x4 => if 0 < (x0.length : Int) then (if x4 < ((rd_L1 x0 0).length : Int) then (spec_meanColor.l1 k x0 x3 x4 0 0) else (some x3)) else (none)
def spec_meanColor.l1 : Nat → List (List Int) → List Int → Int → Int → Int → Option (List Int)
 | 0, _, _, _, _, _ => none
 | k + 1, x0, x3, x4, x5, x6 => if x6 < (x0.length : Int) then (if 0 ≤ x6 then (if 0 ≤ x4 then (if x4 < ((rd_L1 x0 x6).length : Int) then (spec_meanColor.l1 k x0 x3 x4 (wrap64 (x5 + (rd (rd_L1 x0 x6) x4))) (wrap64 (x6 + 1))) else (none)) else (none)) else (none)) else (if (wrap64 (2 * (x0.length : Int))) = 0 then (none) else (if x3.length < 17592186044416 then (spec_meanColor.l0 k x0 (x3 ++ [wrap64 (Int.tdiv (wrap64 ((wrap64 (2 * x5)) + (x0.length : Int))) (wrap64 (2 * (x0.length : Int))))]) (wrap64 (x4 + 1))) else (none)))
end
def spec_meanColor.f (k : Nat) (l0 : List (List Int)) : Option (List Int) := spec_meanColor.l0 k l0 (([] : List Int)) 0
theorem spec_meanColor.mono_l : ∀ k, (∀ y0 y1 y2, LeO (spec_meanColor.l0 k y0 y1 y2) (spec_meanColor.l0 (k + 1) y0 y1 y2)) ∧ (∀ y0 y1 y2 y3 y4, LeO (spec_meanColor.l1 k y0 y1 y2 y3 y4) (spec_meanColor.l1 (k + 1) y0 y1 y2 y3 y4))
 | 0 => ⟨fun _ _ _ r h => by simp [spec_meanColor.l0] at h, fun _ _ _ _ _ r h => by simp [spec_meanColor.l1] at h⟩
 | k + 1 => by
  obtain ⟨ih0, ih1⟩ := spec_meanColor.mono_l k
  refine ⟨?_, ?_⟩
  all_goals intros
  all_goals first | unfold spec_meanColor.l0 | unfold spec_meanColor.l1
  all_goals repeat' first | (with_reducible first | exact ih0 _ _ _ | exact ih1 _ _ _ _ _ | exact lR | exact lN | refine lI ?_ ?_ | refine lB ?_ fun _ => ?_) | exact ih0 _ _ _ | exact ih1 _ _ _ _ _ | exact lN | refine lI ?_ ?_ | refine lB ?_ fun _ => ?_
theorem spec_meanColor.mono : ∀ a0 k, LeO (spec_meanColor.f k a0) (spec_meanColor.f (k + 1) a0) := by
 intro a0 k
 obtain ⟨ih0, ih1⟩ := spec_meanColor.mono_l k
 unfold spec_meanColor.f
 repeat' first | (with_reducible first | exact ih0 _ _ _ | exact ih1 _ _ _ _ _ | exact lR | exact lN | refine lI ?_ ?_ | refine lB ?_ fun _ => ?_) | exact ih0 _ _ _ | exact ih1 _ _ _ _ _ | exact lN | refine lI ?_ ?_ | refine lB ?_ fun _ => ?_
set_option maxHeartbeats 8000000 in
set_option maxRecDepth 100000 in
theorem spec_meanColor.calls (k : Nat) (A0 : Option Addr) (c0 : Nat) (l0 : List (List Int)) (r : List Int) (w : World) (hr0 : Kd.C (Kd.slice 3 (Kd.int .i64)) w A0 l0.length l0) (hc0 : l0.length ≤ c0) (h : spec_meanColor.f k l0 = some r) :
  Calls Try.prog 70 #[.slice A0 l0.length c0] w fun e w' => ∃ v0_ : Value, e = .returned (v0_) ∧ Kd.R (Kd.int .i64) 3 w' w.heap.size (fun _ => True) v0_ r ∧ Below w.heap.size w w' := by
 have HR0 := aM hr0
 have HC0 := aM hc0
 clear hr0 hc0
 have HB := aM (Below.refl w.heap.size w)
 unfold spec_meanColor.f at h
 have H := h
 clear h
 obtain ⟨y826, hy826⟩ : ∃ y_ : List Int, y_ = (([] : List Int)) := ⟨_, rfl⟩
 replace H : (spec_meanColor.l0 k l0 y826 0) = some r := rY hy826 H
 have Ny826 := aM hy826
 clear hy826
 have H' := aM H
 clear H
 go_enter Try.func70, Try.ntmps70
 go_wp2_with (first | ((with_reducible refine gate_dst (N := 7) rfl ?_); refine iL ([] : List Int) [] ?_; intro v827 w2 ho3 hb hg_ hnew_; clear hg_ hnew_; (first | rw [← Ny826.out] at ho3 | (simp only [Int.reduceToNat] at ho3; rw [← Ny826.out] at ho3)); have HO828 := oR ho3 HB; replace HB := bS HB hb; clear hb ho3))
 go_loopg [3, 4] k (fun kq v3 v4 w' => ∃ (x3_1 : List Int) (x4_1 : Int), v4 = .int .i64 x4_1 ∧ Aside0 (spec_meanColor.l0 kq l0 x3_1 x4_1 = some r) ∧ Aside0 (kq ≤ k) ∧ Aside0 (Kd.R (Kd.int .i64) 3 w' w.heap.size (fun _ => True) v3 x3_1) ∧ Aside0 (Below w.heap.size w w'))
 case atStart => exact ⟨(y826), (0), qE, H', ⟨Nat.le_refl _⟩, ⟨by refine qR ?_; exact HO828.out⟩, ⟨by exact qW HB.out⟩⟩
 case round =>
  clear H'
  obtain ⟨x3_1, x4_1, rfl, HA, HK1, HO_3, HB⟩ := hrel
  cases gk with
  | zero => exact absurd HA.out (by simp [spec_meanColor.l0])
  | succ k1 =>
   have H := HA.out
   clear HA
   simp only [spec_meanColor.l0] at H
   replace H := iS H
   obtain ⟨c4, H⟩ := H
   have c4b0 : decide (0 < (l0.length : Int)) = true := decide_eq_true c4
   have c4b1 : decide (0 < l0.length) = true := decide_eq_true (by omega)
   clear c4
   by_cases c5 : x4_1 < ((rd_L1 l0 0).length : Int)
   rotate_left
   ·rw [if_neg c5] at H
    have c5b0 : decide (x4_1 < ((rd_L1 l0 0).length : Int)) = false := decide_eq_false c5
    clear c5
    obtain rfl := Option.some.inj H
    have p829 : 0 ≤ (0 : Int) := (by omega)
    have q829 : 0 < (l0.length : Int) := oD
    obtain ⟨ad829, A829_0, c829_0, e829, hx829_0, hl829_0, hi829_0⟩ := at_L1 HR0.out 0 p829 q829
    cases e829
    have qi829 : (0 < l0.length) = True := eq_true (by omega)
    (try rw [show ((0 : Int)).toNat = 0 from rfl] at hx829_0)
    (try rw [Addr.add_zero'] at hx829_0)
    replace hx829_0 := bD HB hx829_0
    have HR829_0 := aM hi829_0
    have HC829_0 := aM hl829_0
    clear hi829_0 hl829_0
    replace p829 := eq_true p829
    replace q829 := eq_true q829
    go_wp2
    go_ret
    exact ⟨_, qX, by refine qR ?_; exact HO_3.out, by exact qW HB.out⟩
   rw [if_pos c5] at H
   have c5b0 : decide (x4_1 < ((rd_L1 l0 0).length : Int)) = true := decide_eq_true c5
   clear c5
   have H' := aM H
   clear H
   have p829 : 0 ≤ (0 : Int) := (by omega)
   have q829 : 0 < (l0.length : Int) := oD
   obtain ⟨ad829, A829_0, c829_0, e829, hx829_0, hl829_0, hi829_0⟩ := at_L1 HR0.out 0 p829 q829
   cases e829
   have qi829 : (0 < l0.length) = True := eq_true (by omega)
   (try rw [show ((0 : Int)).toNat = 0 from rfl] at hx829_0)
   (try rw [Addr.add_zero'] at hx829_0)
   replace hx829_0 := bD HB hx829_0
   have HR829_0 := aM hi829_0
   have HC829_0 := aM hl829_0
   clear hi829_0 hl829_0
   replace p829 := eq_true p829
   replace q829 := eq_true q829
   go_wp2
   go_loopg [5, 6] k1 (fun kq v5 v6 w' => ∃ (x5_2 : Int) (x6_2 : Int), v5 = .int .i64 x5_2 ∧ v6 = .int .i64 x6_2 ∧ Aside0 (spec_meanColor.l1 kq l0 x3_1 x4_1 x5_2 x6_2 = some r) ∧ Aside0 (kq ≤ k1) ∧ Aside0 (Kd.R (Kd.int .i64) 3 w' w.heap.size (fun _ => True) u3 x3_1) ∧ Aside0 (Below w.heap.size w w'))
   case atStart => exact ⟨(0), (0), qE, qE, H', ⟨Nat.le_refl _⟩, ⟨by refine qR ?_; exact HO_3.out⟩, ⟨by exact qW HB.out⟩⟩
   case round =>
    clear H'
    try clear c4
    try clear c4b0
    try clear c4b1
    try clear c5
    try clear c5b0
    try clear hx829_0
    try clear p829
    try clear q829
    obtain ⟨x5_2, x6_2, rfl, rfl, HA, HK2, HO_3, HB⟩ := hrel
    cases gk with
    | zero => exact absurd HA.out (by simp [spec_meanColor.l1])
    | succ k2 =>
     have H := HA.out
     clear HA
     simp only [spec_meanColor.l1] at H
     by_cases c6 : x6_2 < (l0.length : Int)
     rotate_left
     ·rw [if_neg c6] at H
      have c6b0 : decide (x6_2 < (l0.length : Int)) = false := decide_eq_false c6
      clear c6
      by_cases c10 : (wrap64 (2 * (l0.length : Int))) = 0
      ·rw [if_pos c10] at H
       exact absurd H (by simp)
      rw [if_neg c10] at H
      have c10b0 : ((wrap64 (2 * (l0.length : Int))) == 0) = false := beq_eq_false_iff_ne.mpr c10
      have c10b1 : ((wrap64 (2 * (l0.length : Int))) != 0) = true := bne_iff_ne.mpr c10
      replace H := iS H
      obtain ⟨c11, H⟩ := H
      have LMc11 := aM c11
      clear c11
      obtain ⟨y832, hy832⟩ : ∃ y_ : List Int, y_ = (x3_1 ++ [wrap64 (Int.tdiv (wrap64 ((wrap64 (2 * x5_2)) + (l0.length : Int))) (wrap64 (2 * (l0.length : Int))))]) := ⟨_, rfl⟩
      replace H : (spec_meanColor.l0 k2 l0 y832 (wrap64 (x4_1 + 1))) = some r := rY hy832 H
      have Ny832 := aM hy832
      clear hy832
      have H' := aM H
      clear H
      go_wp2_with (first | ((with_reducible refine gate_builtin (b := .append) (xs := #[.tmp 31, .tmp 41]) rfl ?_); at_builtin; refine Kd.R_append (Kd.int .i64) (w0 := w) w.heap.size rfl (.tmp 31) (.tmp 41) 22 3 (.int .i64 0) 8 rfl Try.underlying22 info3 rfl (by decide) (by omega) u3 x3_1 (wrap64 (Int.tdiv (wrap64 ((wrap64 (2 * x5_2)) + (l0.length : Int))) (wrap64 (2 * (l0.length : Int))))) [.int .i64 (wrap64 (Int.tdiv (wrap64 ((wrap64 (2 * x5_2)) + (l0.length : Int))) (wrap64 (2 * (l0.length : Int)))))] (fun _ => True) (fun _ => False) rfl rfl ?aP (fun _ hk => hk.elim) ?aF ?aO ?aB ?aS ?aL ?_; (case aP => exact rfl); (case aB => exact (qW HB.out)); (case aF => exact (fun _ _ => trivial)); (case aO => exact (qR HO_3.out)); (case aS => exact (below_size (qW HB.out))); (case aL => have := LMc11.out; omega); intro v833 w12 ho hb hg hat; rw [← Ny832.out] at ho; replace HB := aM (hb); have HO834 := aM (ho); clear HO_3; clear ho hb hg hat))
      go_roundg k2
      case measure => have := HK1.out; have := HK2.out; omega
      case rel => exact ⟨(y832), (wrap64 (x4_1 + 1)), qE, H', ⟨by have := HK1.out; have := HK2.out; omega⟩, ⟨by refine qR ?_; exact HO834.out⟩, ⟨by exact qW HB.out⟩⟩
     rw [if_pos c6] at H
     have c6b0 : decide (x6_2 < (l0.length : Int)) = true := decide_eq_true c6
     clear c6
     replace H := iD H
     obtain ⟨c7b0, H⟩ := H
     replace H := iD H
     obtain ⟨c8b0, H⟩ := H
     replace H := iD H
     obtain ⟨c9b0, H⟩ := H
     have H' := aM H
     clear H
     have p830 : 0 ≤ (x6_2 : Int) := oD
     have q830 : x6_2 < (l0.length : Int) := oD
     obtain ⟨ad830, A830_0, c830_0, e830, hx830_0, hl830_0, hi830_0⟩ := at_L1 HR0.out x6_2 p830 q830
     obtain rfl : ad829 = ad830 := (by injection e830)
     replace hx830_0 := bD HB hx830_0
     have HR830_0 := aM hi830_0
     have HC830_0 := aM hl830_0
     clear hi830_0 hl830_0
     replace p830 := eq_true p830
     replace q830 := eq_true q830
     obtain ⟨ad831, e831, hx831_0⟩ := Kd.at_int HR830_0.out x4_1 oD oD
     cases e831
     replace hx831_0 := bD HB hx831_0
     have p831 := eq_true (oD : 0 ≤ (x4_1 : Int))
     have q831 := eq_true (oD : x4_1 < ((rd_L1 l0 x6_2).length : Int))
     go_wp2
     go_roundg k2
     case measure => have := HK1.out; have := HK2.out; omega
     case rel => exact ⟨(wrap64 (x5_2 + (rd (rd_L1 l0 x6_2) x4_1))), (wrap64 (x6_2 + 1)), qE, qE, H', ⟨by have := HK1.out; have := HK2.out; omega⟩, ⟨by refine qR ?_; exact HO_3.out⟩, ⟨by exact qW HB.out⟩⟩
def meanAll (k : Nat) (ps : List (List (List Int))) : Nat → Option (List (List Int))
 | 0 => some []
 | i + 1 => (meanAll k ps i).bind fun o => (spec_meanColor.f k (ps.getD i [])).bind fun m => if o.length < 1000000 then some (o ++ [m]) else none
def spec_ReducePalette.f (k : Nat) (l : List (List Int)) (n : Int) : Option (List (List Int)) := if (l.length : Int) = 0 then some [] else (spec_inRange.f ((l.getD 0 []).length : Int) 1 4).bind fun t1 => if t1 = true then (spec_validColors.f k l ((l.getD 0 []).length : Int)).bind fun t2 => (if t2 = true then (spec_inRange.f n 1 16).bind fun t3 => (if t3 = true then (spec_splitColors.f k l n).bind fun ps => meanAll k ps ps.length else some []) else some []) else some []
theorem meanAll_mono (k : Nat) (ps : List (List (List Int))) : ∀ i, LeO (meanAll k ps i) (meanAll (k + 1) ps i)
 | 0 => LeO.refl _
 | i + 1 => LeO.bind (meanAll_mono k ps i) (fun _ => LeO.bind (spec_meanColor.mono _ _) (fun _ => LeO.refl _))
theorem spec_ReducePalette.mono : ∀ a0 a1 k, LeO (spec_ReducePalette.f k a0 a1) (spec_ReducePalette.f (k + 1) a0 a1) := fun a0 a1 k =>
 LeO.ite (LeO.refl _) (LeO.bind (LeO.refl _) (fun _ => LeO.ite (LeO.bind (spec_validColors.mono _ _ _) (fun _ => LeO.ite (LeO.bind (LeO.refl _) (fun _ => LeO.ite (LeO.bind (spec_splitColors.mono _ _ _) (fun ps => meanAll_mono k ps _)) (LeO.refl _))) (LeO.refl _))) (LeO.refl _)))
theorem meanAll_le {k : Nat} {ps : List (List (List Int))} : ∀ (n i : Nat) (t : List (List Int)), meanAll k ps n = some t → i ≤ n → ∃ u, meanAll k ps i = some u
 | 0, i, t, h, hi => ⟨t, by rw [show i = 0 by omega]; exact h⟩
 | n + 1, i, t, h, hi => by
  by_cases e : i = n + 1
  ·exact ⟨t, by rw [e]; exact h⟩
  ·rw [meanAll] at h
   obtain ⟨f, hf, _⟩ := Option.bind_eq_some_iff.mp h
   exact meanAll_le n i f hf (by omega)
theorem C_row {W : World} {A : Option Addr} {n : Nat} {xs : List (List Int)} (h : Kd.C (Kd.slice 3 (Kd.int .i64)) W A n xs) (i : Nat) (hi : i < xs.length) :
  ∃ ad A' c', A = some ad ∧ (xs.getD i []).length ≤ c' ∧ Kd.C (Kd.int .i64) W A' (xs.getD i []).length (xs.getD i []) ∧ W.cell? (ad.add i) = some (.slice A' (xs.getD i []).length c') := by
 have hn := h.1
 obtain ⟨ad, c, rfl, hcl, hK, hcc⟩ := Kd.C_get h [] (i : Int) (by omega) (by omega)
 obtain ⟨A', c', rfl, hl, hC⟩ := hK
 rw [Int.toNat_natCast] at hcc hl hC
 have h1 := hcc 0 _ rfl
 simp only [show (Kd.slice 3 (Kd.int .i64)).sz = 1 from rfl, Nat.mul_one, Nat.add_zero] at h1
 exact ⟨ad, A', c', rfl, hl, hC, h1⟩
theorem F_row {W : World} {ok : Nat → Prop} {A : Option Addr} {n : Nat} {ps : List (List (List Int))} (h : Kd.F (Kd.slice 22 (Kd.slice 3 (Kd.int .i64))) W ok A n ps) (i : Nat) (hi : i < ps.length) :
  ∃ ad A' c', A = some ad ∧ (ps.getD i []).length ≤ c' ∧ Kd.F (Kd.slice 3 (Kd.int .i64)) W ok A' (ps.getD i []).length (ps.getD i []) ∧ W.cell? (ad.add i) = some (.slice A' (ps.getD i []).length c') := by
 have hn := Kd.F_len h
 obtain ⟨ad, c, rfl, hcl, hM, hcc, _⟩ := Kd.F_get h [] (i : Int) (by omega) (by omega)
 obtain ⟨A', c', rfl, hl, hf⟩ := Kd.FK_slice_open hM
 rw [Int.toNat_natCast] at hcc hl hf
 have h1 := hcc 0 _ rfl
 simp only [show (Kd.slice 22 (Kd.slice 3 (Kd.int .i64))).sz = 1 from rfl, Nat.mul_one, Nat.add_zero] at h1
 exact ⟨ad, A', c', rfl, hl, hf, h1⟩
theorem le_app2 {n : Nat} (h : n < 1000000) : (n + 1) * 24 ≤ 140737488355328 := by omega
set_option maxHeartbeats 8000000 in
set_option maxRecDepth 100000 in
theorem spec_ReducePalette.calls (k : Nat) (A0 : Option Addr) (c0 : Nat) (l0 : List (List Int)) (a1 : Int) (r : List (List Int)) (w : World) (hr0 : Kd.C (Kd.slice 3 (Kd.int .i64)) w A0 l0.length l0) (hc0 : l0.length ≤ c0) (h : spec_ReducePalette.f k l0 a1 = some r) :
  Calls Try.prog 36 #[.slice A0 l0.length c0, .int .i64 a1] w fun e w' => ∃ v0_ : Value, e = .returned v0_ ∧ Kd.S (Kd.slice 3 (Kd.int .i64)) 22 w' w.heap.size (fun _ => True) v0_ r ∧ Below w.heap.size w w' := by
 have hu26 := Try.underlying26
 have HR0 := aM hr0
 have HC0 := aM hc0
 clear hr0 hc0
 have HB := aM (Below.refl w.heap.size w)
 unfold spec_ReducePalette.f at h
 by_cases hz : (l0.length : Int) = 0
 case pos =>
  rw [if_pos hz] at h
  obtain rfl := Option.some.inj h
  have hzd : ((l0.length : Int) == 0) = true := beq_iff_eq.mpr hz
  clear h
  go_enter Try.func36, Try.ntmps36
  go_wp2_with (first | ((with_reducible refine gate_dst (N := 8) rfl ?_); refine Kd.S_lit (Kd.slice 3 (Kd.int .i64)) _ 22 ?hg (N := 8) ?hd (xs := ([] : List (List Int))) (inner := []) (ok := fun _ => True) (okp := fun _ => True) ?hr ?hp (fun _ hk => hk) trivial (Below.refl _ _) (Nat.le_refl _) (by simp) ?_; (case hd => rfl); (case hg => rfl); (case hr => first | (go_simp; done) | (go_simp; rfl)); (case hp => exact (Reps.none _ _)); intro v5 w4 ho hb hg_ hnew_; clear hg_ hnew_; obtain ⟨Au, cu, eu⟩ := Kd.S_slice ho; subst eu; have n1_ := aM (Kd.S_lower ho (below_size (qW HB.out))); have n2_ := bS HB hb; clear HB ho hb; have HO := n1_; have HB := n2_; clear n1_ n2_))
  go_ret
  exact ⟨_, by first | rfl | (simp; done), Kd.S_nil _ _ _ _ _, (qW HB.out)⟩
 case neg =>
  rw [if_neg hz] at h
  have hzd : ((l0.length : Int) == 0) = false := beq_eq_false_iff_ne.mpr hz
  have hp0 : 0 < l0.length := by omega
  obtain ⟨ad, A', c', eA, hlc, hCi, hx0⟩ := C_row HR0.out 0 hp0
  subst eA
  rw [Addr.add_zero'] at hx0
  have hp0z : 0 < (l0.length : Int) := by omega
  have hp0e := eq_true hp0
  generalize l0.getD 0 [] = x0 at h hlc hCi hx0
  obtain ⟨t1, q1, h⟩ := Option.bind_eq_some_iff.mp h
  have Q1 := aM q1
  clear q1 hz hCi
  cases t1 with
  | false =>
   rw [if_neg (show ¬ (false = true) by decide)] at h
   obtain rfl := Option.some.inj h
   clear h
   go_enter Try.func36, Try.ntmps36
   go_wp2_with (first | ((with_reducible refine gate_dst (N := 8) rfl ?_); refine Kd.S_lit (Kd.slice 3 (Kd.int .i64)) _ 22 ?hg (N := 8) ?hd (xs := ([] : List (List Int))) (inner := []) (ok := fun _ => True) (okp := fun _ => True) ?hr ?hp (fun _ hk => hk) trivial (Below.refl _ _) (Nat.le_refl _) (by simp) ?_; (case hd => rfl); (case hg => rfl); (case hr => first | (go_simp; done) | (go_simp; rfl)); (case hp => exact (Reps.none _ _)); intro v5 w4 ho hb hg_ hnew_; clear hg_ hnew_; obtain ⟨Au, cu, eu⟩ := Kd.S_slice ho; subst eu; have hx4 := (hb.cell (World.block_lt_of_cell? _ _ hx0)).trans hx0; clear hx0; have n1_ := aM (Kd.S_lower ho (below_size (qW HB.out))); have n2_ := bS HB hb; clear HB ho hb; have HO := n1_; have HB := n2_; clear n1_ n2_) | (go_at_call 59; (with_reducible refine (spec_inRange.calls (x0.length : Int) 1 4 false _ Q1.out).mono ?_); rintro e w' ⟨rfl, ⟨nd, rfl⟩⟩))
   go_ret
   exact ⟨_, by first | rfl | (simp; done), Kd.S_nil _ _ _ _ _, (qW HB.out)⟩
  | true =>
   rw [if_pos rfl] at h
   obtain ⟨t2, q2, h⟩ := Option.bind_eq_some_iff.mp h
   have Q2 := aM q2
   clear q2
   cases t2 with
   | false =>
    rw [if_neg (show ¬ (false = true) by decide)] at h
    obtain rfl := Option.some.inj h
    clear h
    go_enter Try.func36, Try.ntmps36
    go_wp2_with (first | ((with_reducible refine gate_dst (N := 8) rfl ?_); refine Kd.S_lit (Kd.slice 3 (Kd.int .i64)) _ 22 ?hg (N := 8) ?hd (xs := ([] : List (List Int))) (inner := []) (ok := fun _ => True) (okp := fun _ => True) ?hr ?hp (fun _ hk => hk) trivial (Below.refl _ _) (Nat.le_refl _) (by simp) ?_; (case hd => rfl); (case hg => rfl); (case hr => first | (go_simp; done) | (go_simp; rfl)); (case hp => exact (Reps.none _ _)); intro v5 w4 ho hb hg_ hnew_; clear hg_ hnew_; obtain ⟨Au, cu, eu⟩ := Kd.S_slice ho; subst eu; have hx4 := (hb.cell (World.block_lt_of_cell? _ _ hx0)).trans hx0; clear hx0; have n1_ := aM (Kd.S_lower ho (below_size (qW HB.out))); have n2_ := bS HB hb; clear HB ho hb; have HO := n1_; have HB := n2_; clear n1_ n2_) | (go_at_call 59; (with_reducible refine (spec_inRange.calls (x0.length : Int) 1 4 true _ Q1.out).mono ?_); rintro e w' ⟨rfl, ⟨nd, rfl⟩⟩) | (go_at_call 60; (with_reducible refine (spec_validColors.calls k _ _ l0 (x0.length : Int) false _ ?side1 HC0.out Q2.out).mono ?_); (case side1 => exact qC (Kd.C_below HR0.out HB.out)); rintro e w' ⟨rfl, ⟨nd, rfl⟩⟩))
    go_ret
    exact ⟨_, by first | rfl | (simp; done), Kd.S_nil _ _ _ _ _, (qW HB.out)⟩
   | true =>
    rw [if_pos rfl] at h
    obtain ⟨t3, q3, h⟩ := Option.bind_eq_some_iff.mp h
    have Q3 := aM q3
    clear q3
    cases t3 with
    | false =>
     rw [if_neg (show ¬ (false = true) by decide)] at h
     obtain rfl := Option.some.inj h
     clear h
     go_enter Try.func36, Try.ntmps36
     go_wp2_with (first | ((with_reducible refine gate_dst (N := 8) rfl ?_); refine Kd.S_lit (Kd.slice 3 (Kd.int .i64)) _ 22 ?hg (N := 8) ?hd (xs := ([] : List (List Int))) (inner := []) (ok := fun _ => True) (okp := fun _ => True) ?hr ?hp (fun _ hk => hk) trivial (Below.refl _ _) (Nat.le_refl _) (by simp) ?_; (case hd => rfl); (case hg => rfl); (case hr => first | (go_simp; done) | (go_simp; rfl)); (case hp => exact (Reps.none _ _)); intro v5 w4 ho hb hg_ hnew_; clear hg_ hnew_; obtain ⟨Au, cu, eu⟩ := Kd.S_slice ho; subst eu; have hx4 := (hb.cell (World.block_lt_of_cell? _ _ hx0)).trans hx0; clear hx0; have n1_ := aM (Kd.S_lower ho (below_size (qW HB.out))); have n2_ := bS HB hb; clear HB ho hb; have HO := n1_; have HB := n2_; clear n1_ n2_) | (go_at_call 59; (with_reducible refine (spec_inRange.calls (x0.length : Int) 1 4 true _ Q1.out).mono ?_); rintro e w' ⟨rfl, ⟨nd, rfl⟩⟩) | (go_at_call 60; (with_reducible refine (spec_validColors.calls k _ _ l0 (x0.length : Int) true _ ?side1 HC0.out Q2.out).mono ?_); (case side1 => exact qC (Kd.C_below HR0.out HB.out)); rintro e w' ⟨rfl, ⟨nd, rfl⟩⟩) | (go_at_call 59; (with_reducible refine (spec_inRange.calls a1 1 16 false _ Q3.out).mono ?_); rintro e w' ⟨rfl, ⟨nd, rfl⟩⟩))
     go_ret
     exact ⟨_, by first | rfl | (simp; done), Kd.S_nil _ _ _ _ _, (qW HB.out)⟩
    | true =>
     rw [if_pos rfl] at h
     obtain ⟨ps, q4, h⟩ := Option.bind_eq_some_iff.mp h
     have Q4 := aM q4
     have HM := aM h
     clear q4 h
     go_enter Try.func36, Try.ntmps36
     go_wp2_with (first | ((with_reducible refine gate_dst (N := 8) rfl ?_); refine Kd.S_lit (Kd.slice 3 (Kd.int .i64)) _ 22 ?hg (N := 8) ?hd (xs := ([] : List (List Int))) (inner := []) (ok := fun _ => True) (okp := fun _ => True) ?hr ?hp (fun _ hk => hk) trivial (Below.refl _ _) (Nat.le_refl _) (by simp) ?_; (case hd => rfl); (case hg => rfl); (case hr => first | (go_simp; done) | (go_simp; rfl)); (case hp => exact (Reps.none _ _)); intro v5 w4 ho hb hg_ hnew_; clear hg_ hnew_; obtain ⟨Au, cu, eu⟩ := Kd.S_slice ho; subst eu; have hx4 := (hb.cell (World.block_lt_of_cell? _ _ hx0)).trans hx0; clear hx0; have n1_ := aM (Kd.S_lower ho (below_size (qW HB.out))); have n2_ := bS HB hb; clear HB ho hb; have HO := n1_; have HB := n2_; clear n1_ n2_) | (go_at_call 59; (with_reducible refine (spec_inRange.calls (x0.length : Int) 1 4 true _ Q1.out).mono ?_); rintro e w' ⟨rfl, ⟨nd, rfl⟩⟩) | (go_at_call 60; (with_reducible refine (spec_validColors.calls k _ _ l0 (x0.length : Int) true _ ?side1 HC0.out Q2.out).mono ?_); (case side1 => exact qC (Kd.C_below HR0.out HB.out)); rintro e w' ⟨rfl, ⟨nd, rfl⟩⟩) | (go_at_call 59; (with_reducible refine (spec_inRange.calls a1 1 16 true _ Q3.out).mono ?_); rintro e w' ⟨rfl, ⟨nd, rfl⟩⟩) | (go_at_call 69; (with_reducible refine (spec_splitColors.calls k (fun k_ => k_ < w.heap.size) _ _ l0 a1 ps _ HC0.out ?side1 Q4.out).mono ?_); (case side1 => ((with_reducible repeat (first | apply Kd.F_alloc | apply Kd.F_drewN | apply Kd.F_drew)); exact Kd.F_below (Kd.C_F (Kd.heap_slice _ (Kd.heap_int _)) HR0.out) HB.out)); rintro e w9 ⟨v6, rfl, hn, hb⟩; obtain ⟨Ap, cpp, ep⟩ := Kd.N_slice hn; subst ep; have n3_ := aM (Kd.F_mono (ok' := fun k_ => True ∧ some k_ ≠ (.slice Au 0 cu : Value).ownBlock) (Kd.N_F hn) (fun k_ hk_ => ⟨trivial, fun e_ => hk_.elim (fun h1_ => absurd h1_ (Nat.not_lt.mpr (Kd.S_base HO.out k_ e_.symm))) (fun h1_ => absurd (Nat.lt_of_lt_of_le (Kd.S_lt (by (with_reducible repeat (first | apply Kd.S_alloc | apply Kd.S_drewN | apply Kd.S_drew)); exact HO.out) k_ e_.symm) h1_) (Nat.lt_irrefl _))⟩)); have n1_ := aM (Kd.S_below (by (with_reducible repeat (first | apply Kd.S_alloc | apply Kd.S_drewN | apply Kd.S_drew)); exact HO.out) hb); have n2_ := bS HB hb; clear HB HO hb hn; have HO := n1_; have HB := n2_; have HF := n3_; clear n1_ n2_ n3_))
     go_loopg [5, 7] ps.length (fun gg s5 s7 w' => ∃ (i : Nat) (o : List (List Int)) (Au : Option Addr) (cu : Nat), i ≤ ps.length ∧ ps.length - i ≤ gg ∧ s5 = .slice Au o.length cu ∧ s7 = .int .i64 i ∧ Aside0 (meanAll k ps i = some o) ∧ Aside0 (Kd.S (Kd.slice 3 (Kd.int .i64)) 22 w' w.heap.size (fun _ => True) (.slice Au o.length cu) o) ∧ Aside0 (Kd.F (Kd.slice 22 (Kd.slice 3 (Kd.int .i64))) w' (fun k_ => True ∧ some k_ ≠ (.slice Au o.length cu : Value).ownBlock) Ap ps.length ps) ∧ Aside0 (Below w.heap.size w w'))
     case atStart => exact ⟨0, [], Au, cu, Nat.zero_le _, by omega, rfl, rfl, ⟨rfl⟩, ⟨by (with_reducible repeat (first | apply Kd.S_alloc | apply Kd.S_drewN | apply Kd.S_drew)); exact HO.out⟩, ⟨by (with_reducible repeat (first | apply Kd.F_alloc | apply Kd.F_drewN | apply Kd.F_drew)); exact HF.out⟩, ⟨(qW HB.out)⟩⟩
     case round =>
      clear HO HB HF
      obtain ⟨i, o, Au, cu, hi, hg2, rfl, rfl, HI, HO, HF, HB⟩ := hrel
      by_cases hil : i < ps.length
      case neg =>
       have ei : i = ps.length := by omega
       have he := HI.out
       rw [ei, HM.out] at he
       have ER := aM (Option.some.inj he)
       have hild := decide_eq_false (show ¬ (i : Int) < (ps.length : Int) by omega)
       clear he hg2 hi ei
       go_wp2
       go_ret
       exact ⟨_, by first | rfl | (simp; done), by (with_reducible repeat (first | apply Kd.S_alloc | apply Kd.S_drewN | apply Kd.S_drew)); rw [ER.out]; exact HO.out, (qW HB.out)⟩
      case pos =>
       have hmx : ps.length ≤ 9223372036854775807 := Kd.F_max HF.out
       have hil0 : 0 ≤ (i : Int) := by omega
       have hilz : (i : Int) < (ps.length : Int) := by omega
       have hild := decide_eq_true hilz
       obtain ⟨o2, hw2⟩ := meanAll_le _ (i + 1) _ HM.out hil
       have HI2 := aM hw2
       rw [meanAll, HI.out, Option.bind_some] at hw2
       obtain ⟨m, hsp, hw2⟩ := Option.bind_eq_some_iff.mp hw2
       by_cases hbig : o.length < 1000000
       case neg => rw [if_neg hbig] at hw2; cases hw2
       rw [if_pos hbig] at hw2
       obtain rfl := Option.some.inj hw2
       obtain ⟨adp, Ai, ci, eAp, hlc, hFi, hxi⟩ := F_row HF.out i hil
       generalize ps.getD i [] = x at hsp hlc hFi hxi
       have HSP := aM hsp
       have HLC := aM hlc
       have HFI := aM hFi
       have HBIG := aM hbig
       have EAP := aM eAp
       subst eAp
       clear hsp hlc hFi hw2 hbig
       go_wp2_with (first | (go_at_call 70; (with_reducible refine (spec_meanColor.calls k Ai ci x m _ ?side1 HLC.out HSP.out).mono ?_); (case side1 => exact Kd.F_now HFI.out); rintro e w7 ⟨vm, rfl, ho, hb⟩; obtain ⟨Am, cm, em⟩ := Kd.R_slice ho; subst em; have n1_ := aM (Kd.S_elder' (by (with_reducible repeat (first | apply Kd.S_alloc | apply Kd.S_drewN | apply Kd.S_drew)); exact HO.out) (Kd.R_base ho) hb); have n2_ := bS HB hb; have n3_ := aM (Kd.F_below (by (with_reducible repeat (first | apply Kd.F_alloc | apply Kd.F_drewN | apply Kd.F_drew)); exact HF.out) hb); have n4_ := aM (Kd.R_lower ho (below_size (qW HB.out))); clear HO HB HF HFI hb ho; have HO := n1_; have HB := n2_; have HF := n3_; have HV := n4_; clear n1_ n2_ n3_ n4_) | ((with_reducible refine gate_builtin (b := .append) (xs := #[.tmp 43, .tmp 49]) rfl ?_); at_builtin; refine Kd.S_append (Kd.slice 3 (Kd.int .i64)) (w0 := w) w.heap.size rfl (.tmp 43) (.tmp 49) 26 22 (.slice none 0 0) 24 rfl Try.underlying26 (show (Try.prog.info? 22).map (fun i => (i.zero, i.size, i.bytes)) = some (some (.slice none 0 0), 1, 24) from by kernel_rfl) rfl (by decide) (by omega) (.slice Au o.length cu) o m [.slice Am m.length cm] (fun _ => True) (fun k_ => some k_ = (.slice Am m.length cm : Value).ownBlock) rfl rfl ?aP (fun k_ hk_ => (Kd.R_mono (ok' := fun k_ => True ∧ some k_ ≠ (.slice Au o.length cu : Value).ownBlock) (Kd.R_apart' (HV.out) (Kd.S_typed HO.out) (by decide)) (fun k_ hk => ⟨trivial, hk.2⟩)).1 k_ hk_.symm) ?aF ?aO ?aB ?aS ?aL ?_; (case aP => exact Kd.M_row (Kd.R_mono (Kd.R_tight rfl (Kd.R_mono (ok' := fun k_ => True ∧ some k_ ≠ (.slice Au o.length cu : Value).ownBlock) (Kd.R_apart' (HV.out) (Kd.S_typed HO.out) (by decide)) (fun k_ hk => ⟨trivial, hk.2⟩))) (fun _ h_ => h_))); (case aB => exact HB.out); (case aF => exact (fun _ _ => trivial)); (case aO => exact Kd.S_mono HO.out (fun k_ hk => ⟨trivial, fun e_ => hk.2 e_⟩)); (case aS => exact below_size HB.out); (case aL => exact le_app2 HBIG.out); intro v35 w10 ho hb hg hat; obtain ⟨Au2, cu2, eu2⟩ := Kd.S_slice ho; subst eu2; have n3_ := aM (Kd.F_after HF.out hg hat); have n1_ := aM ho; have n2_ := aM hb; clear HO HB HF HV ho hb hg hat; have HO := n1_; have HB := n2_; have HF := n3_; clear n1_ n2_ n3_))
       go_roundg (ps.length - (i + 1))
       case measure => omega
       case rel => exact ⟨i + 1, o ++ [m], Au2, cu2, by omega, by omega, by first | rfl | (simp; done), by go_num, HI2, ⟨by (with_reducible repeat (first | apply Kd.S_alloc | apply Kd.S_drewN | apply Kd.S_drew)); exact HO.out⟩, ⟨by (with_reducible repeat (first | apply Kd.F_alloc | apply Kd.F_drewN | apply Kd.F_drew)); exact HF.out⟩, ⟨(qW HB.out)⟩⟩
def insRen : Go.Shelf.Ren := ⟨fun | 20 => 94 | n => n, fun | 22 => 26 | 24 => 22 | 25 => 78 | n => n, fun n => n⟩
theorem insLays : SlLaysF.n20 Try.prog insRen := { mixed := by kernel_rfl, f20 := ⟨Try.f94.name, by decide, Try.func94⟩, t0 := Try.underlying0, a0 := Try.isAgg0, z0 := Try.sizeOf0, v0 := Try.zeroValue0, t3 := Try.underlying3, a3 := Try.isAgg3, z3 := Try.sizeOf3, v3 := Try.zeroValue3, t4 := Try.underlying4, a4 := Try.isAgg4, z4 := Try.sizeOf4, v4 := Try.zeroValue4, t22 := Try.underlying26, a22 := Try.isAgg26, z22 := Try.sizeOf26, v22 := Try.zeroValue26, a24 := Try.isAgg22, z24 := Try.sizeOf22, t25 := Try.underlying78, a25 := Try.isAgg78, z25 := Try.sizeOf78, v25 := Try.zeroValue78 }
def rowLt (p : Int) (x y : List Int) : Bool := decide (wrap64 (rd x p - rd y p) < 0)
def srt (p : Int) (l : List (List Int)) : List (List Int) := (Go.Sort.insertionSort (rowLt p) l.toArray 0 l.length).toList
section
variable {α β : Type} [Inhabited α] [Inhabited β]
theorem map_at (f : α → β) (d : Array α) (i : Nat) (h : i < d.size) : (d.map f)[i]! = f d[i]! := by
 rw [getElem!_pos _ i (by simpa using h), getElem!_pos d i h, Array.getElem_map]
theorem map_swp (f : α → β) (d : Array α) (i j : Nat) (hi : i < d.size) (hj : j < d.size) : (Go.Sort.swp d i j).map f = Go.Sort.swp (d.map f) i j := by
 unfold Go.Sort.swp
 rw [Array.map_setIfInBounds, Array.map_setIfInBounds, map_at f d i hi, map_at f d j hj]
theorem map_inner (lt : α → α → Bool) (lt' : β → β → Bool) (f : α → β) (h : ∀ x y, lt x y = lt' (f x) (f y)) (a : Nat) : ∀ (j : Nat) (d : Array α), j < d.size → (Go.Sort.insInner lt a j d).map f = Go.Sort.insInner lt' a j (d.map f) ∧ (Go.Sort.insInner lt a j d).size = d.size
 | 0, d, _ => ⟨rfl, rfl⟩
 | j + 1, d, hj => by
  unfold Go.Sort.insInner
  rw [map_at f d (j + 1) hj, map_at f d j (by omega), ← h]
  split
  ·rw [← map_swp f d (j + 1) j hj (by omega)]
   have := map_inner lt lt' f h a j (Go.Sort.swp d (j + 1) j) (by rw [Go.Sort.size_swp]; omega)
   rw [Go.Sort.size_swp] at this
   exact this
  ·exact ⟨rfl, rfl⟩
theorem map_outer (lt : α → α → Bool) (lt' : β → β → Bool) (f : α → β) (h : ∀ x y, lt x y = lt' (f x) (f y)) (a b : Nat) : ∀ (e i : Nat) (d : Array α), b ≤ i + e → b ≤ d.size → (Go.Sort.insOuter lt a b i d).map f = Go.Sort.insOuter lt' a b i (d.map f) ∧ (Go.Sort.insOuter lt a b i d).size = d.size
 | 0, i, d, he, _ => by
  rw [Go.Proofs.insOuter_stop _ _ _ _ _ (by omega), Go.Proofs.insOuter_stop _ _ _ _ _ (by omega)]
  exact ⟨rfl, rfl⟩
 | e + 1, i, d, he, hb => by
  by_cases hi : i < b
  ·obtain ⟨m1, m2⟩ := map_inner lt lt' f h a i d (by omega)
   rw [Go.Proofs.insOuter_go _ _ _ _ _ hi, Go.Proofs.insOuter_go _ _ _ _ _ hi, ← m1]
   have := map_outer lt lt' f h a b e (i + 1) (Go.Sort.insInner lt a i d) (by omega) (by omega)
   rw [m2] at this
   exact this
  ·rw [Go.Proofs.insOuter_stop _ _ _ _ _ hi, Go.Proofs.insOuter_stop _ _ _ _ _ hi]
   exact ⟨rfl, rfl⟩
end
theorem srt_map {α : Type} [Inhabited α] (p : Int) (lt : α → α → Bool) (f : α → List Int) (h : ∀ x y, lt x y = rowLt p (f x) (f y)) (d : Array α) : srt p (d.toList.map f) = (Go.Sort.insertionSort lt d 0 d.size).toList.map f ∧ (Go.Sort.insertionSort lt d 0 d.size).size = d.size := by
 have h1 := map_outer lt (rowLt p) f h 0 d.size d.size 1 d (by omega) (Nat.le_refl _)
 unfold srt Go.Sort.insertionSort
 refine ⟨?_, h1.2⟩
 have e : (d.toList.map f).toArray = d.map f := by rw [← Array.toList_map]
 rw [e, List.length_map, Array.length_toList, ← h1.1, Array.toList_map]
theorem srt_length (p : Int) (l : List (List Int)) : (srt p l).length = l.length := by
 have h := (srt_map p (rowLt p) (fun x => x) (fun _ _ => rfl) l.toArray)
 have h1 := h.1
 simp only [List.map_id'] at h1
 rw [h1, Array.length_toList, h.2, List.size_toArray]
def srtSeg (p : Int) (L : List (List Int)) (off n : Nat) : List (List Int) := L.take off ++ srt p ((L.drop off).take n) ++ L.drop (off + n)
theorem srtSeg_length (p : Int) (L : List (List Int)) (off n : Nat) (h : off + n ≤ L.length) : (srtSeg p L off n).length = L.length := by
 unfold srtSeg
 rw [List.length_append, List.length_append, srt_length, List.length_take, List.length_take, List.length_drop, List.length_drop]
 omega
set_option maxHeartbeats 8000000 in
set_option maxRecDepth 100000 in
theorem reduceCmp (pl : Nat) (p : Int) (A A' : Option Addr) (c c' : Nat) (xs ys : List Int) (w : World) (hx : Kd.C (Kd.int .i64) w A xs.length xs) (hy : Kd.C (Kd.int .i64) w A' ys.length ys) (hp : w.cell? ⟨pl, 0, none⟩ = some (.int .i64 p)) (h0 : 0 ≤ p) (h1 : p < xs.length) (h2 : p < ys.length) :
  Calls Try.prog 73 #[.slice A xs.length c, .slice A' ys.length c', .pointer (some ⟨pl, 0, none⟩)] w fun e w' => e = .returned (.int .i64 (wrap64 (rd xs p - rd ys p))) ∧ ∃ q, w' = w.drewN q := by
 obtain ⟨ax, ex, hcx⟩ := Kd.at_int hx p h0 h1
 obtain ⟨ay, ey, hcy⟩ := Kd.at_int hy p h0 h2
 subst ex
 subst ey
 have d0 := decide_eq_true h0
 have d1 := decide_eq_true h1
 have d2 := decide_eq_true h2
 have q0 := eq_true h0
 have q1 := eq_true h1
 have q2 := eq_true h2
 have HW := aM hx
 clear hx hy h0 h1 h2 HW
 go_enter Try.func73, Try.ntmps73
 go_wp2
 repeat (go_quiet (fail); try go_wp2)
 go_ret
 exact ⟨rfl, _, rfl⟩
def GoodRow (w : World) (ok : Nat → Prop) (p : Int) (x : Value × List Int) : Prop := ∃ A c, x.1 = .slice A x.2.length c ∧ x.2.length ≤ c ∧ Kd.F (Kd.int .i64) w ok A x.2.length x.2 ∧ 0 ≤ p ∧ p < x.2.length
section
variable {α : Type} [Inhabited α]
theorem put_heap (enc : α → Value) (w : World) (G off : Nat) (d : Array α) (k : Nat) (hne : k ≠ G) : (Go.Sort.putRow enc w G off d).heap[k]? = w.heap[k]? := by
 have : G ≠ k := fun e => hne e.symm
 simp [Go.Sort.putRow, Go.Sort.mapBlock, Array.getElem?_modify, this]
theorem sort_heap (enc : α → Value) (w : World) (G off m : Nat) (d : Array α) (os : Array Obj) (k : Nat) (hk : k < w.heap.size) (hne : k ≠ G) : (Go.Proofs.sortWorld enc w G off m d os).heap[k]? = w.heap[k]? := by
 unfold Go.Proofs.sortWorld
 have : G ≠ k := fun e => hne e.symm
 rw [Go.Sort.heap_grow_old _ _ (by simpa [Go.Sort.putRow, Go.Sort.mapBlock, Go.Sort.ahead] using hk)]
 simp [Go.Sort.putRow, Go.Sort.mapBlock, Go.Sort.ahead, Array.getElem?_modify, this]
theorem sort_grown (enc : α → Value) (w : World) (G off n : Nat) (d : Array α) : w.grownBy ((Go.Sort.putRow enc w G off d).drewN n) (some G) := by
 refine ⟨rfl, rfl, rfl, by simp [World.drewN, Go.Sort.putRow, Go.Sort.mapBlock], fun k hk hne => ?_⟩
 exact put_heap enc w G off d k (fun e => hne (by rw [e]))
def stepD (d d' : Array α) : Nat → Array α
 | 0 => d
 | k + 1 => (stepD d d' k).setIfInBounds k d'[k]!
theorem stepD_size (d d' : Array α) : ∀ k, (stepD d d' k).size = d.size
 | 0 => rfl
 | k + 1 => by rw [stepD, Array.size_setIfInBounds, stepD_size d d' k]
theorem stepD_at (d d' : Array α) : ∀ (k j : Nat), j < d.size → (stepD d d' k)[j]! = if j < k then d'[j]! else d[j]!
 | 0, j, _ => by rw [if_neg (Nat.not_lt_zero _)]; rfl
 | k + 1, j, hj => by
  have hs := stepD_size d d' k
  have ih := stepD_at d d' k j hj
  rw [stepD]
  by_cases e : j = k
  ·subst e
   rw [Go.Sort.getElem!_set_same _ _ _ (by omega), if_pos (by omega)]
  ·rw [Go.Sort.getElem!_set_other _ _ _ _ (fun h => e h), ih]
   by_cases h : j < k
   ·rw [if_pos h, if_pos (by omega)]
   ·rw [if_neg h, if_neg (by omega)]
theorem stepD_all (d d' : Array α) (h : d.size = d'.size) : stepD d d' d'.size = d' := by
 refine Array.ext (by rw [stepD_size, h]) fun j h1 h2 => ?_
 have := stepD_at d d' d'.size j (by omega)
 rw [if_pos h2, getElem!_pos _ j h1, getElem!_pos _ j h2] at this
 exact this
end
def stepL (L : List (List Int)) (off : Nat) (f : Nat → List Int) : Nat → List (List Int)
 | 0 => L
 | k + 1 => (stepL L off f k).set (off + k) (f k)
theorem stepL_eq (L : List (List Int)) (off : Nat) (f : Nat → List Int) : ∀ n, off + n ≤ L.length → stepL L off f n = L.take off ++ (List.range n).map f ++ L.drop (off + n)
 | 0, _ => by simp [stepL]
 | n + 1, h => by
  have hl : (L.take off ++ (List.range n).map f).length = off + n := by
   rw [List.length_append, List.length_take, List.length_map, List.length_range]
   omega
  rw [stepL, stepL_eq L off f n (by omega), List.set_append_right _ _ (by omega), hl, Nat.sub_self, List.drop_eq_getElem_cons (by omega), List.set_cons_zero, List.range_succ, List.map_append, List.map_cons, List.map_nil]
  simp [Nat.add_assoc]
theorem N_put1 {W : World} {base g n cap : Nat} {ok : Nat → Prop} {L : List (List Int)} (h : Kd.N (Kd.slice 3 (Kd.int .i64)) 22 W base ok (.slice (some ⟨g, 0, none⟩) n cap) L) (i : Nat) (hi : i < L.length) {A : Option Addr} {c : Nat} {x : List Int} (hl : x.length ≤ c) (hf : Kd.F (Kd.int .i64) W (fun k => ok k ∧ k ≠ g) A x.length x) :
  Kd.N (Kd.slice 3 (Kd.int .i64)) 22 (W.setCell ⟨g, i, none⟩ (.slice A x.length c)) base ok (.slice (some ⟨g, 0, none⟩) n cap) (L.set i x) := by
 have hn := (Kd.N_reads' h).1
 obtain ⟨c1, hcl, hM, hcc, hfr⟩ := Kd.N_elem h [] (i : Int) (by omega) (by omega)
 have h1 := Kd.N_seg h (i : Int) (by omega) (by omega) (seg := [.slice A x.length c]) (j := 0) hcl hcc (show 1 ≤ 1 from by decide) (x' := x) (okp := fun k => ok k ∧ k ≠ g) (by
  have h2 : c1 = [c1.getD 0 undef] := by
   have : c1.length = 1 := hcl
   match c1, this with
   | [a], _ => rfl
  rw [h2]
  exact Kd.FK_slice_mk hl hf) (fun _ hk => hk)
 simp only [show (Kd.slice 3 (Kd.int .i64)).sz = 1 from rfl, Nat.mul_one, Nat.add_zero, Int.toNat_natCast] at h1
 exact h1.1
theorem N_row1 {W : World} {base g n cap : Nat} {ok : Nat → Prop} {L : List (List Int)} (h : Kd.N (Kd.slice 3 (Kd.int .i64)) 22 W base ok (.slice (some ⟨g, 0, none⟩) n cap) L) (i : Nat) (hi : i < L.length) :
  ∃ A c, (L.getD i []).length ≤ c ∧ Kd.F (Kd.int .i64) W (fun k => ok k ∧ k ≠ g) A (L.getD i []).length (L.getD i []) ∧ W.cell? ⟨g, i, none⟩ = some (.slice A (L.getD i []).length c) ∧ W.frozen? ⟨g, i, none⟩ = false := by
 have hn := (Kd.N_reads' h).1
 obtain ⟨c, hcl, hM, hcc, hfr⟩ := Kd.N_elem h [] (i : Int) (by omega) (by omega)
 obtain ⟨A, c', rfl, hl, hf⟩ := Kd.FK_slice_open hM
 rw [Int.toNat_natCast] at hl hf hcc hfr
 have h1 := hcc 0 _ rfl
 have h2 := hfr 0
 simp only [show (Kd.slice 3 (Kd.int .i64)).sz = 1 from rfl, Nat.mul_one, Nat.add_zero] at h1 h2
 exact ⟨A, c', hl, hf, h1, h2⟩
theorem N_steps {α : Type} [Inhabited α] (enc : α → Value) (row : α → List Int) {w : World} {base G n cap : Nat} {ok : Nat → Prop} {L : List (List Int)} (hN : Kd.N (Kd.slice 3 (Kd.int .i64)) 22 w base ok (.slice (some ⟨G, 0, none⟩) n cap) L)
  (hg : ∀ x : α, ∃ A c, enc x = .slice A (row x).length c ∧ (row x).length ≤ c ∧ Kd.F (Kd.int .i64) w (fun k => ok k ∧ k ≠ G) A (row x).length (row x)) (off : Nat) (d d' : Array α) (hs : d.size = d'.size) (hH : Go.Sort.Holds enc w G off d) (hb : off + d'.size ≤ L.length) :
  ∀ k, k ≤ d'.size → Kd.N (Kd.slice 3 (Kd.int .i64)) 22 (Go.Sort.putRow enc w G off (stepD d d' k)) base ok (.slice (some ⟨G, 0, none⟩) n cap) (stepL L off (fun j => row d'[j]!) k)
 | 0, _ => by
  rw [stepD, Go.Sort.putRow_self enc w G off d hH]
  exact hN
 | k + 1, hk => by
  have ih := N_steps enc row hN hg off d d' hs hH hb k (by omega)
  obtain ⟨A, c, he, hl, hF⟩ := hg d'[k]!
  have hlen : (stepL L off (fun j => row d'[j]!) k).length = L.length := by
   rw [stepL_eq _ _ _ k (by omega), List.length_append, List.length_append, List.length_take, List.length_map, List.length_range, List.length_drop]
   omega
  have h1 := N_put1 ih (off + k) (by omega) hl (Kd.F_step hF (fun k' hk' _ => put_heap enc w G off _ k' hk'.2))
  rw [← he, Go.Sort.putRow_set enc w G off _ k _ (by rw [stepD_size]; omega)] at h1
  exact h1
set_option maxHeartbeats 4000000 in
theorem insRows (w : World) (base : Nat) (ok : Nat → Prop) (L : List (List Int)) (G cap off n c pl : Nat) (p : Int) (hN : Kd.N (Kd.slice 3 (Kd.int .i64)) 22 w base ok (.slice (some ⟨G, 0, none⟩) L.length cap) L) (hb : off + n ≤ L.length) (hn : 1 ≤ n) (hn2 : n < 4611686018427387904)
  (hp : ∀ x ∈ L, p < x.length) (hp0 : 0 ≤ p) (hpl : w.cell? ⟨pl, 0, none⟩ = some (.int .i64 p)) (hne : pl ≠ G) :
  Calls Try.prog 94 #[.slice (some ⟨G, off, none⟩) n c, .int .i64 0, .int .i64 n, .func (.func 73) #[] #[.pointer (some ⟨pl, 0, none⟩)]] w fun e w' => e = .returned (.tuple #[]) ∧ Kd.N (Kd.slice 3 (Kd.int .i64)) 22 w' base ok (.slice (some ⟨G, 0, none⟩) L.length cap) (srtSeg p L off n) ∧ w.grownBy w' (some G) := by
 have ex : ∀ j, j < n → ∃ x : {x : Value × List Int // GoodRow w (fun k => ok k ∧ k ≠ G) p x}, x.1.2 = L.getD (off + j) [] ∧ w.cell? ⟨G, off + j, none⟩ = some x.1.1 ∧ w.frozen? ⟨G, off + j, none⟩ = false := by
  intro j hj
  obtain ⟨A, c', hl, hF, hc, hf⟩ := N_row1 hN (off + j) (by omega)
  have hm : L.getD (off + j) [] ∈ L := by
   rw [List.getD_eq_getElem?_getD, List.getElem?_eq_getElem (by omega)]
   exact List.getElem_mem _
  exact ⟨⟨(_, L.getD (off + j) []), A, c', rfl, hl, hF, hp0, hp _ hm⟩, rfl, hc, hf⟩
 have inst : Inhabited {x : Value × List Int // GoodRow w (fun k => ok k ∧ k ≠ G) p x} := ⟨Classical.choose (ex 0 hn)⟩
 obtain ⟨d, hd, hdj⟩ : ∃ d : Array {x : Value × List Int // GoodRow w (fun k => ok k ∧ k ≠ G) p x}, d.size = n ∧ ∀ j (h : j < n), d[j]!.1.2 = L.getD (off + j) [] ∧ w.cell? ⟨G, off + j, none⟩ = some d[j]!.1.1 ∧ w.frozen? ⟨G, off + j, none⟩ = false := by
  refine ⟨Array.ofFn (fun j : Fin n => Classical.choose (ex j.1 j.2)), Array.size_ofFn, fun j h => ?_⟩
  rw [getElem!_pos _ j (by rw [Array.size_ofFn]; exact h), Array.getElem_ofFn]
  exact Classical.choose_spec (ex j h)
 have hH : Go.Sort.Holds (fun x : {x : Value × List Int // GoodRow w (fun k => ok k ∧ k ≠ G) p x} => x.1.1) w G off d := fun j hj => ⟨(hdj j (by omega)).2.1, (hdj j (by omega)).2.2⟩
 have hO : Go.Proofs.OneCell (fun x : {x : Value × List Int // GoodRow w (fun k => ok k ∧ k ≠ G) p x} => x.1.1) := by
  intro x
  obtain ⟨A, c', e, _⟩ := x.2
  dsimp only
  generalize x.1.1 = v at e ⊢
  subst e
  rfl
 have eg : ∀ args w, (callFunc 73 args).run Try.prog w = .ok (.enter 73 args) w := enters_of Try.func73 (by kernel_rfl) rfl
 have hcmp : Go.Proofs.CmpReads Try.prog 73 #[.pointer (some ⟨pl, 0, none⟩)] (fun x : {x : Value × List Int // GoodRow w (fun k => ok k ∧ k ≠ G) p x} => x.1.1) (fun x y => wrap64 (rd x.1.2 p - rd y.1.2 p)) G off d.size w := by
  intro m os dk _ x y
  have hw : ∀ k, k < w.heap.size → k ≠ G → (Go.Proofs.sortWorld (fun x : {x : Value × List Int // GoodRow w (fun k => ok k ∧ k ≠ G) p x} => x.1.1) w G off m dk os).heap[k]? = w.heap[k]? := fun k hk hne => sort_heap _ w G off m dk os k hk hne
  obtain ⟨A, c', e1, _, hF, _, h1⟩ := x.2
  obtain ⟨A2, c2, e2, _, hF2, _, h2⟩ := y.2
  have hcell := (World.cell?_of_block (hw pl (World.block_lt_of_cell? _ _ hpl) hne)).trans hpl
  have hz := reduceCmp pl p A A2 c' c2 x.1.2 y.1.2 _ (hF _ (fun k hk hlt => hw k hlt hk.2)) (hF2 _ (fun k hk hlt => hw k hlt hk.2)) hcell hp0 h1 h2
  rw [← e1, ← e2] at hz
  exact hz
 have call := Go.Proofs.Any.insertionSortCmpFunc_one insLays _ hO _ 73 _ G off c 0 n d w eg hcmp hH (Nat.zero_le _) (by omega) (by omega)
 rw [hd] at call
 refine Calls.mono (show Calls Try.prog 94 _ w _ from call) ?_
 rintro e w' ⟨rfl, m, rfl⟩
 obtain ⟨s1, s2⟩ := srt_map p _ (fun x : {x : Value × List Int // GoodRow w (fun k => ok k ∧ k ≠ G) p x} => x.1.2) (fun x y => (rfl : Go.Proofs.ltOf (fun x y : {x : Value × List Int // GoodRow w (fun k => ok k ∧ k ≠ G) p x} => wrap64 (rd x.1.2 p - rd y.1.2 p)) x y = _)) d
 rw [hd] at s1 s2
 have hL : d.toList.map (fun x => x.1.2) = (L.drop off).take n := by
  refine List.ext_getElem (by rw [List.length_map, Array.length_toList, List.length_take, List.length_drop]; omega) fun j h1 h2 => ?_
  rw [List.length_map, Array.length_toList] at h1
  have := (hdj j (by omega)).1
  rw [getElem!_pos d j h1, List.getD_eq_getElem?_getD, List.getElem?_eq_getElem (by omega)] at this
  rw [List.getElem_map, Array.getElem_toList, this, List.getElem_take, List.getElem_drop]
  rfl
 generalize Go.Sort.insertionSort (Go.Proofs.ltOf (fun x y : {x : Value × List Int // GoodRow w (fun k => ok k ∧ k ≠ G) p x} => wrap64 (rd x.1.2 p - rd y.1.2 p))) d 0 n = d' at s1 s2 ⊢
 refine ⟨rfl, ?_, sort_grown _ w G off m d'⟩
 have h1 := N_steps (fun x : {x : Value × List Int // GoodRow w (fun k => ok k ∧ k ≠ G) p x} => x.1.1) (fun x => x.1.2) hN (fun x => by
  obtain ⟨A, c', e, hl, hF, _⟩ := x.2
  exact ⟨A, c', e, hl, hF⟩) off d d' (by omega) hH (by omega) d'.size (Nat.le_refl _)
 rw [stepD_all d d' (by omega), stepL_eq _ _ _ _ (by omega)] at h1
 have hr : (List.range d'.size).map (fun j => d'[j]!.1.2) = d'.toList.map (fun x => x.1.2) := by
  refine List.ext_getElem (by simp) fun j h1 h2 => ?_
  rw [List.length_map, List.length_range] at h1
  rw [List.getElem_map, List.getElem_map, List.getElem_range, getElem!_pos d' j h1, Array.getElem_toList]
 rw [hr, ← s1, hL, s2] at h1
 exact Kd.N_drewN h1 m
set_option maxHeartbeats 8000000 in
set_option maxRecDepth 100000 in
theorem stableRows (w : World) (base : Nat) (ok : Nat → Prop) (L : List (List Int)) (G cap off n c pl : Nat) (p : Int) (hN : Kd.N (Kd.slice 3 (Kd.int .i64)) 22 w base ok (.slice (some ⟨G, 0, none⟩) L.length cap) L) (hb : off + n ≤ L.length) (hn : 1 ≤ n) (hn2 : n < 20)
  (hp : ∀ x ∈ L, p < x.length) (hp0 : 0 ≤ p) (hpl : w.cell? ⟨pl, 0, none⟩ = some (.int .i64 p)) (hne : pl ≠ G) :
  Calls Try.prog 89 #[.slice (some ⟨G, off, none⟩) n c, .int .i64 n, .func (.func 73) #[] #[.pointer (some ⟨pl, 0, none⟩)]] w fun e w' => e = .returned (.tuple #[]) ∧ Kd.N (Kd.slice 3 (Kd.int .i64)) 22 w' base ok (.slice (some ⟨G, 0, none⟩) L.length cap) (srtSeg p L off n) ∧ w.grownBy w' (some G) := by
 have HC := aM (insRows w base ok L G cap off n c pl p hN hb hn (by omega) hp hp0 hpl hne)
 have l1 : ¬ (20 : Int) ≤ (n : Int) := by omega
 have l2 : ¬ (20 : Int) < (n : Int) := by omega
 have d1 := decide_eq_false l1
 have d2 := decide_eq_false l2
 have H2 := aM hn2
 clear hN hb hn hp hp0 hpl hne hn2
 go_enter Try.func89, Try.ntmps89
 go_wp2
 go_loopg [7, 8] 0 (fun gg s7 s8 w' => s7 = .int .i64 0 ∧ s8 = .int .i64 20 ∧ w' = w)
 case atStart => exact ⟨rfl, rfl, rfl⟩
 case round =>
  obtain ⟨rfl, rfl, rfl⟩ := hrel
  go_wp2_with (first | (go_at_call 94; refine HC.out.mono ?_; rintro e w2 ⟨rfl, hN2, hG2⟩; have HN := aM hN2; have HG := aM hG2; clear hN2 hG2 HC))
  go_loopg [6] 0 (fun gg s6 w' => s6 = .int .i64 20 ∧ w' = w2)
  case atStart => exact ⟨rfl, rfl⟩
  case round =>
   obtain ⟨rfl, rfl⟩ := hrel
   go_wp2
   first | go_end0 | ((try simp only [Exit.inBlock, Exit.then]); refine bodyPost_ret (results_none rfl _ _ _) rfl ?_)
   exact ⟨rfl, HN.out, HG.out⟩
set_option maxHeartbeats 8000000 in
set_option maxRecDepth 100000 in
theorem sortRows (w : World) (base : Nat) (ok : Nat → Prop) (L : List (List Int)) (G cap off n c pl : Nat) (p : Int) (hN : Kd.N (Kd.slice 3 (Kd.int .i64)) 22 w base ok (.slice (some ⟨G, 0, none⟩) L.length cap) L) (hb : off + n ≤ L.length) (hn : 1 ≤ n) (hn2 : n < 20)
  (hp : ∀ x ∈ L, p < x.length) (hp0 : 0 ≤ p) (hpl : w.cell? ⟨pl, 0, none⟩ = some (.int .i64 p)) (hne : pl ≠ G) :
  Calls Try.prog 72 #[.slice (some ⟨G, off, none⟩) n c, .func (.func 73) #[] #[.pointer (some ⟨pl, 0, none⟩)]] w fun e w' => e = .returned (.tuple #[]) ∧ Kd.N (Kd.slice 3 (Kd.int .i64)) 22 w' base ok (.slice (some ⟨G, 0, none⟩) L.length cap) (srtSeg p L off n) ∧ w.grownBy w' (some G) := by
 have HC := aM (stableRows w base ok L G cap off n c pl p hN hb hn hn2 hp hp0 hpl hne)
 clear hN hb hn hp hp0 hpl hne hn2
 go_enter Try.func72, Try.ntmps72
 go_wp2_with (first | (go_at_call 89; refine HC.out.mono ?_; rintro e w2 ⟨rfl, hN2, hG2⟩; have HN := aM hN2; have HG := aM hG2; clear hN2 hG2 HC))
 first | go_end0 | ((try simp only [Exit.inBlock, Exit.then]); refine bodyPost_ret (results_none rfl _ _ _) rfl ?_)
 exact ⟨rfl, HN.out, HG.out⟩
end Go.Proofs.Ytohbpilokmppbaa.P
