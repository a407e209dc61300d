/- Contracts and row, written by a program of this place out of the translation: the call answers true and its argument reads as before, for every input; no condition. -/
import Derived.Test.YtnamhlcdlbjcfaaK0
import Derived.Test.YtnamhlcdlbjcfaaK1
namespace Go.Proofs.Ytnamhlcdlbjcfaa.P
open Go.RowKit Go.Proofs.YtnamhlcdlbjcfaaW.PrintWords Go.Proofs.YtnamhlcdlbjcfaaW.PrintLast Go.Proofs.YtnamhlcdlbjcfaaW.PrintMore
attribute [local go_sem] max2_int min2_int max_two min_two max_three min_three max_four min_four   -- for this text's walks alone
set_option linter.unusedVariables false
set_option linter.unusedSimpArgs false
def IsS72 (w0 W : World) (g : Nat) (f0 : List Int) (f1 : Int) : Prop := ∃ A0 c0, W.heap[g]? = some (.cells #[.slice A0 f0.length c0, .int .i64 f1] 72 (0, 0)) ∧ w0.heap.size ≤ g ∧ Kd.C (Kd.int .u8) w0 A0 f0.length f0
theorem IsS72.grown {w0 W : World} {g : Nat} {f0 : List Int} {f1 : Int} {W1 : World} {row : Option Nat} (h : IsS72 w0 W g f0 f1) (hw : W.grownBy W1 row) (hne : some g ≠ row) : IsS72 w0 W1 g f0 f1 := by
 obtain ⟨A0, c0, hb, hg, hr0⟩ := h
 exact ⟨A0, c0, blk_grown hb hw hne, hg, hr0⟩
theorem IsS72.own_neN {w0 W : World} {g : Nat} {f0 : List Int} {f1 : Int} {α : Type} {d : Kd α} {e : Nat} {base : Nat} {ok : Nat → Prop} {v : Value} {xs : List α} (h : IsS72 w0 W g f0 f1) (ho : Kd.N d e W base ok v xs) (ht : e ≠ 72) : some g ≠ v.ownBlock := by
 obtain ⟨A0, c0, hb, hg, hr0⟩ := h
 exact Kd.N_ne ho hb ht
theorem IsS72.fresh {w0 W : World} {g : Nat} {f0 : List Int} {f1 : Int} (h : IsS72 w0 W g f0 f1) : ∀ k, W.heap.size ≤ k → k ≠ g := by
 obtain ⟨A0, c0, hb, hg, hr0⟩ := h
 exact Kd.freshB hb
theorem IsS72.kept {w0 W : World} {g : Nat} {f0 : List Int} {f1 : Int} {W1 : World} {S : Nat → Prop} (h : IsS72 w0 W g f0 f1) (hk : Kept W W1 S) (hne : ¬ S g) : IsS72 w0 W1 g f0 f1 := by
 obtain ⟨A0, c0, hb, hg, hr0⟩ := h
 exact ⟨A0, c0, blk_kept hb hk hne, hg, hr0⟩
theorem IsS72.below {w0 W : World} {g : Nat} {f0 : List Int} {f1 : Int} {W1 : World} (h : IsS72 w0 W g f0 f1) (hw : Below W.heap.size W W1) : IsS72 w0 W1 g f0 f1 := h.grown (grown_of_below hw none) (by simp)
theorem IsS72.alloc {w0 W : World} {g : Nat} {f0 : List Int} {f1 : Int} (h : IsS72 w0 W g f0 f1) (o : Obj) : IsS72 w0 (W.alloc o) g f0 f1 := h.below (below_alloc (Below.refl _ _) o)
theorem IsS72.drewN {w0 W : World} {g : Nat} {f0 : List Int} {f1 : Int} (h : IsS72 w0 W g f0 f1) (m : Nat) : IsS72 w0 (W.drewN m) g f0 f1 := h
theorem IsS72.drew {w0 W : World} {g : Nat} {f0 : List Int} {f1 : Int} (h : IsS72 w0 W g f0 f1) : IsS72 w0 W.drew g f0 f1 := h
theorem IsS72.at_ {w0 W : World} {g : Nat} {f0 : List Int} {f1 : Int} {w' : World} {m : Nat} (hq : W.drewN m = w') (h : IsS72 w0 W g f0 f1) : IsS72 w0 w' g f0 f1 := by subst hq; exact IsS72.drewN h m
theorem IsS72.apart {w0 W : World} {g : Nat} {f0 : List Int} {f1 : Int} {α : Type} {d : Kd α} {e : Nat} {base : Nat} {ok : Nat → Prop} {v : Value} {xs : List α} (h : IsS72 w0 W g f0 f1) (ho : d.R e W base ok v xs) (ht : ∀ q, q ∈ e :: d.E → q ≠ 72) : d.R e W base (fun k => ok k ∧ k ≠ g) v xs := by
 obtain ⟨A0, c0, hb, hg, hr0⟩ := h
 exact Kd.R_types ho hb ht
theorem IsS72.own_ne {w0 W : World} {g : Nat} {f0 : List Int} {f1 : Int} {α : Type} {d : Kd α} {e : Nat} {base : Nat} {ok : Nat → Prop} {v : Value} {xs : List α} (h : IsS72 w0 W g f0 f1) (ho : d.R e W base ok v xs) (ht : e ≠ 72) : some g ≠ v.ownBlock := by
 obtain ⟨A0, c0, hb, hg, hr0⟩ := h
 exact Kd.R_ne ho hb ht
theorem IsS72.apartQ {w0 W : World} {g : Nat} {f0 : List Int} {f1 : Int} {α : Type} {d : Kd α} {e : Nat} {base : Nat} {ok : Nat → Prop} {v : Value} {xs : List α} (h : IsS72 w0 W g f0 f1) (ho : d.Q e W base ok v xs) (ht : ∀ q, q ∈ e :: d.E → q ≠ 72) : d.Q e W base (fun k => ok k ∧ k ≠ g) v xs := by
 obtain ⟨A0, c0, hb, hg, hr0⟩ := h
 exact Kd.Q_types ho hb ht
theorem IsS72.own_neQ {w0 W : World} {g : Nat} {f0 : List Int} {f1 : Int} {α : Type} {d : Kd α} {e : Nat} {base : Nat} {ok : Nat → Prop} {v : Value} {xs : List α} (h : IsS72 w0 W g f0 f1) (ho : d.Q e W base ok v xs) (ht : e ≠ 72) : some g ≠ v.ownBlock := by
 obtain ⟨A0, c0, hb, hg, hr0⟩ := h
 exact Kd.Q_ne ho hb ht
theorem IsS72.apartS {w0 W : World} {g : Nat} {f0 : List Int} {f1 : Int} {α : Type} {d : Kd α} {e : Nat} {base : Nat} {ok : Nat → Prop} {v : Value} {xs : List α} (h : IsS72 w0 W g f0 f1) (ho : d.S e W base ok v xs) (ht : ∀ q, q ∈ e :: d.E → q ≠ 72) : d.S e W base (fun k => ok k ∧ k ≠ g) v xs := by
 obtain ⟨A0, c0, hb, hg, hr0⟩ := h
 exact Kd.S_types ho hb ht
theorem IsS72.own_neS {w0 W : World} {g : Nat} {f0 : List Int} {f1 : Int} {α : Type} {d : Kd α} {e : Nat} {base : Nat} {ok : Nat → Prop} {v : Value} {xs : List α} (h : IsS72 w0 W g f0 f1) (ho : d.S e W base ok v xs) (ht : e ≠ 72) : some g ≠ v.ownBlock := by
 obtain ⟨A0, c0, hb, hg, hr0⟩ := h
 exact Kd.S_ne ho hb ht
theorem IsS72.lt {w0 W : World} {g : Nat} {f0 : List Int} {f1 : Int} (h : IsS72 w0 W g f0 f1) : g < W.heap.size := by
 obtain ⟨A0, c0, hb, hg, hr0⟩ := h
 exact blk_lt hb
theorem IsS72.ge {w0 W : World} {g : Nat} {f0 : List Int} {f1 : Int} (h : IsS72 w0 W g f0 f1) : w0.heap.size ≤ g := by
 obtain ⟨A0, c0, hb, hg, hr0⟩ := h
 exact hg
theorem IsS72.ne_blk {w0 W : World} {g : Nat} {f0 : List Int} {f1 : Int} {a : Nat} {cs : Array Value} {t : TypeId} {fr : Nat × Nat} (h : IsS72 w0 W g f0 f1) (hb2 : W.heap[a]? = some (.cells cs t fr)) (ht : t ≠ 72) : g ≠ a := by
 obtain ⟨A0, c0, hb, hg, hr0⟩ := h
 rintro rfl
 rw [hb] at hb2
 injection hb2 with hb2
 injection hb2 with _ ht2
 exact ht ht2.symm
theorem IsS72.far {w0 W : World} {g : Nat} {f0 : List Int} {f1 : Int} {p : Addr} (h : IsS72 w0 W g f0 f1) (hne : g ≠ p.block) (u : Value) : IsS72 w0 (W.setCell p u) g f0 f1 := by
 obtain ⟨A0, c0, hb, hg, hr0⟩ := h
 exact ⟨A0, c0, blk_far hb hne u, hg, hr0⟩
theorem cellS72_0 {W : World} {g : Nat} {A0 : Option Addr} {c0 : Nat} {f0 : List Int} {f1 : Int} (h : W.heap[g]? = some (.cells #[.slice A0 f0.length c0, .int .i64 f1] 72 (0, 0))) : W.cell? ⟨g, 0, none⟩ = some (.slice A0 f0.length c0) := (blk_cell h 0).trans rfl
theorem cellS72_1 {W : World} {g : Nat} {A0 : Option Addr} {c0 : Nat} {f0 : List Int} {f1 : Int} (h : W.heap[g]? = some (.cells #[.slice A0 f0.length c0, .int .i64 f1] 72 (0, 0))) : W.cell? ⟨g, 1, none⟩ = some (.int .i64 f1) := (blk_cell h 1).trans rfl
theorem IsS72.set_1 {w0 W : World} {g : Nat} {f0 : List Int} {f1 : Int} (h : IsS72 w0 W g f0 f1) (x : Int) : IsS72 w0 (W.setCell ⟨g, 1, none⟩ (.int .i64 x)) g f0 x := by
 obtain ⟨A0, c0, hb, hg, hr0⟩ := h
 exact ⟨A0, c0, by simpa using blk_set hb 1 (.int .i64 x), hg, hr0⟩
theorem IsS72.new (w0 W : World) (A0 : Option Addr) (c0 : Nat) (f0 : List Int) (f1 : Int) (hB : Below w0.heap.size w0 W) (hr0 : Kd.C (Kd.int .u8) w0 A0 f0.length f0) : IsS72 w0 (W.alloc (.cells #[.slice A0 f0.length c0, .int .i64 f1] 72)) W.heap.size f0 f1 := ⟨A0, c0, by simpa using heap_alloc_new W _, hB.size, hr0⟩
theorem farA72 {w0 W : World} {g : Nat} {f0 : List Int} {f1 : Int} {g2 j : Nat} {u : Value} (h : IsS72 w0 W g f0 f1) (hn : Aside0 (g ≠ g2)) : IsS72 w0 (W.setCell ⟨g2, j, none⟩ u) g f0 f1 := IsS72.far h hn.out u
theorem iS72 {w0 W W2 : World} {g : Nat} {f0 : List Int} {f1 : Int} {f0' : List Int} {f1' : Int} (a : IsS72 w0 W g f0 f1) (f : IsS72 w0 W g f0 f1 → IsS72 w0 W2 g f0' f1' := by intro h_; repeat (first | (with_reducible first | exact h_ | apply IsS72.alloc | apply IsS72.drewN | apply IsS72.drew | apply IsS72.set_1 | (refine farA72 ?_ ?_; rotate_left; assumption)) | exact h_)) : IsS72 w0 W2 g f0' f1' := f a
theorem wS72 {n : Nat} {w w' W : World} (a : Below n w w') (f : Below n w w' → Below n w W := by intro h_; repeat (first | (with_reducible first | exact h_ | apply below_alloc | apply pw_below_drewN | apply below_drew1 | (refine below_set ?_ ?_; rotate_left; exact IsS72.ge (Aside0.out (by assumption))) | (refine below_setA ?_ ?_; rotate_left; assumption)) | exact h_)) : Below n w W := f a
def spec_newReader.f (l0 : List Int) : Option (List Int × Int) := if (l0.length : Int) > 2000 then (if 2000 ≤ (l0.length : Int) then (some (l0.take 2000, 0)) else (none)) else (some (l0, 0))
set_option maxHeartbeats 8000000 in
set_option maxRecDepth 100000 in
theorem spec_newReader.calls (A0 : Option Addr) (c0 : Nat) (l0 : List Int) (r1 : List Int) (r2 : Int) (w0 w : World) (hB : Below w0.heap.size w0 w) (hr0 : Kd.C (Kd.int .u8) w0 A0 l0.length l0) (hc0 : l0.length ≤ c0) (h : spec_newReader.f l0 = some (r1, r2)) :
  Calls Try.prog 56 #[.slice A0 l0.length c0] w fun e w' => ∃ g_ : Nat, e = .returned (.pointer (some ⟨g_, 0, none⟩)) ∧ IsS72 w0 w' g_ r1 r2 ∧ Below w0.heap.size w0 w' ∧ Below w.heap.size w w' := by
 have hu72 := Try.underlying72
 have HR0 := aM hr0
 have HC0 := aM hc0
 clear hr0 hc0
 have HBW := aM (Below.refl w.heap.size w)
 have HW0 := aM hB.size
 have HB := aM hB
 clear hB
 unfold spec_newReader.f at h
 have H := h
 clear h
 by_cases c2 : (l0.length : Int) > 2000
 rotate_left
 ·rw [if_neg c2] at H
  have c2b0 : decide (2000 < (l0.length : Int)) = false := decide_eq_false c2
  have c2b1 : decide (2000 < l0.length) = false := decide_eq_false (by omega)
  clear c2
  simp only [Option.some.injEq, Prod.mk.injEq] at H
  obtain ⟨rfl, rfl⟩ := H
  go_enter Try.func56, Try.ntmps56
  go_wp2_with (first | ((with_reducible refine gate_dst (N := 10) rfl ?_); refine bxE (N := 10) (cs := #[.slice A0 l0.length c0, .int .i64 0]) (t := 72) ?_; intro gb220 hg w6 hbox hb; replace HB := bS HB hb; have BK220 := aM (hbox); have GW220 := aM ((by rw [hg]; exact (below_size (qW HBW.out)) : w.heap.size ≤ gb220)); have GE220 := aM ((Nat.le_trans HW0.out (by rw [hg]; exact (below_size (qW HBW.out)) : w.heap.size ≤ gb220) : w0.heap.size ≤ gb220)); replace HBW := aM (below_step HBW.out hb); clear hb hbox hg))
  go_ret
  exact ⟨_, rfl, (show IsS72 w0 _ gb220 l0 0 from ⟨_, _, by refine qB ?_; exact BK220.out, GE220.out, HR0.out⟩), by exact qW HB.out, by exact qW HBW.out⟩
 rw [if_pos c2] at H
 have c2b0 : decide (2000 < (l0.length : Int)) = true := decide_eq_true c2
 have c2b1 : decide (2000 < l0.length) = true := decide_eq_true (by omega)
 clear c2
 replace H := iS H
 obtain ⟨c3, H⟩ := H
 have c3b0 := eq_true c3
 have c3b1 : decide (2000 ≤ (l0.length : Int)) = true := decide_eq_true c3
 clear c3
 simp only [Option.some.injEq, Prod.mk.injEq] at H
 obtain ⟨rfl, rfl⟩ := H
 obtain ⟨i04, hi04, _, hsz4, _⟩ := info_parts info5
 obtain ⟨hcut4, hA4, hC4⟩ := print_take_of (P := Try.prog) (Value.int .u8) 0 32 5 .i64 Try.underlying32 hi04 hsz4 A0 c0 l0 2000 (by omega) oD HC0.out
 have HR218 := aM (Kd.C_of_reads (h1 := fun _ => rfl) (hA4 _ (Kd.reads_of_C HR0.out)))
 have HC218 := aM hC4
 clear hA4 hC4 hi04 hsz4
 go_enter Try.func56, Try.ntmps56
 go_wp2_with (first | ((with_reducible refine gate_dst (N := 10) rfl ?_); refine bxE (N := 10) (cs := #[.slice A0 (l0.take 2000).length c0, .int .i64 0]) (t := 72) ?_; intro gb219 hg w5 hbox hb; replace HB := bS HB hb; have BK219 := aM (hbox); have GW219 := aM ((by rw [hg]; exact (below_size (qW HBW.out)) : w.heap.size ≤ gb219)); have GE219 := aM ((Nat.le_trans HW0.out (by rw [hg]; exact (below_size (qW HBW.out)) : w.heap.size ≤ gb219) : w0.heap.size ≤ gb219)); replace HBW := aM (below_step HBW.out hb); clear hb hbox hg))
 go_ret
 exact ⟨_, rfl, (show IsS72 w0 _ gb219 (l0.take 2000) 0 from ⟨_, _, by refine qB ?_; exact BK219.out, GE219.out, HR218.out⟩), by exact qW HB.out, by exact qW HBW.out⟩
def spec_reader_pick.j0 : Nat → Int → Bool → List Int → Int → Option (Int × Int)
 | 0, _, _, _, _ => none
 | k + 1, x1, x24, x1000, x1001 => if x24 = true then (some (0, x1001)) else (if (wrap64 (x1001 - 1)) < (x1000.length : Int) then (if 0 ≤ (wrap64 (x1001 - 1)) then (if x1 = 0 then (none) else (some (Int.tmod (wrap64 (rd x1000 (wrap64 (x1001 - 1)))) x1, x1001))) else (none)) else (if (x1000.length : Int) = 0 then (none) else (if 0 ≤ (Int.tmod (wrap64 (x1001 - 1)) (x1000.length : Int)) then (if (Int.tmod (wrap64 (x1001 - 1)) (x1000.length : Int)) < (x1000.length : Int) then (if 0 ≤ (Int.tmod (wrap64 ((wrap64 ((wrap64 (x1001 - 1)) * 7)) + 3)) (x1000.length : Int)) then (if (Int.tmod (wrap64 ((wrap64 ((wrap64 (x1001 - 1)) * 7)) + 3)) (x1000.length : Int)) < (x1000.length : Int) then (if x1 = 0 then (none) else (some (Int.tmod (Go.bits .xor .i64 (wrap64 ((wrap64 ((wrap64 ((wrap64 ((wrap64 (rd x1000 (Int.tmod (wrap64 (x1001 - 1)) (x1000.length : Int)))) * 131)) + (wrap64 ((wrap64 (rd x1000 (Int.tmod (wrap64 ((wrap64 ((wrap64 (x1001 - 1)) * 7)) + 3)) (x1000.length : Int)))) * 1117)))) + (wrap64 ((wrap64 (x1001 - 1)) * 29)))) + (wrap64 ((wrap64 (Int.tdiv (wrap64 (x1001 - 1)) (x1000.length : Int))) * 53)))) (wrap64 (Int.tdiv (wrap64 ((wrap64 ((wrap64 ((wrap64 ((wrap64 (rd x1000 (Int.tmod (wrap64 (x1001 - 1)) (x1000.length : Int)))) * 131)) + (wrap64 ((wrap64 (rd x1000 (Int.tmod (wrap64 ((wrap64 ((wrap64 (x1001 - 1)) * 7)) + 3)) (x1000.length : Int)))) * 1117)))) + (wrap64 ((wrap64 (x1001 - 1)) * 29)))) + (wrap64 ((wrap64 (Int.tdiv (wrap64 (x1001 - 1)) (x1000.length : Int))) * 53)))) 64))) x1, x1001))) else (none)) else (none)) else (none)) else (none))))
def spec_reader_pick.f (k : Nat) (s0_0 : List Int) (s0_1 : Int) (a1 : Int) : Option (Int × Int) := if a1 < 1 then (spec_reader_pick.j0 k a1 true s0_0 (wrap64 (s0_1 + 1))) else (spec_reader_pick.j0 k a1 ((s0_0.length : Int) == 0) s0_0 (wrap64 (s0_1 + 1)))
theorem spec_reader_pick.mono_l : ∀ k, (∀ y0 y1 y2 y3, LeO (spec_reader_pick.j0 k y0 y1 y2 y3) (spec_reader_pick.j0 (k + 1) y0 y1 y2 y3))
 | 0 => fun _ _ _ _ r h => by simp [spec_reader_pick.j0] at h
 | k + 1 => by
  have ih0 := spec_reader_pick.mono_l k
  ·intro y0 y1 y2 y3
   unfold spec_reader_pick.j0
   repeat' first | (with_reducible first | exact ih0 _ _ _ _ | exact lR | exact lN | refine lI ?_ ?_ | refine lB ?_ fun _ => ?_) | exact ih0 _ _ _ _ | exact lN | refine lI ?_ ?_ | refine lB ?_ fun _ => ?_
theorem spec_reader_pick.mono : ∀ a0 a1 a2 k, LeO (spec_reader_pick.f k a0 a1 a2) (spec_reader_pick.f (k + 1) a0 a1 a2) := by
 intro a0 a1 a2 k
 have ih0 := spec_reader_pick.mono_l k
 unfold spec_reader_pick.f
 repeat' first | (with_reducible first | exact ih0 _ _ _ _ | exact lR | exact lN | refine lI ?_ ?_ | refine lB ?_ fun _ => ?_) | exact ih0 _ _ _ _ | exact lN | refine lI ?_ ?_ | refine lB ?_ fun _ => ?_
set_option maxHeartbeats 8000000 in
set_option maxRecDepth 100000 in
theorem spec_reader_pick.calls (k : Nat) (g : Nat) (s0_0 : List Int) (s0_1 : Int) (a1 : Int) (r1 : Int) (r2 : Int) (w0 w : World) (hI : IsS72 w0 w g s0_0 s0_1) (hB : Below w0.heap.size w0 w) (h : spec_reader_pick.f k s0_0 s0_1 a1 = some (r1, r2)) :
  Calls Try.prog 57 #[.pointer (some ⟨g, 0, none⟩), .int .i64 a1] w fun e w' => e = .returned (.int .i64 r1) ∧ IsS72 w0 w' g s0_0 r2 ∧ Below w0.heap.size w0 w' ∧ KeepBut w w' g none := by
 have HI0 := aM hI
 have HK := aM (KeepBut.refl w g none)
 have HL := aM hB.size
 clear hI
 have HW0 := aM hB.size
 have HB := aM hB
 clear hB
 unfold spec_reader_pick.f at h
 have H := h
 clear h
 have HC3 := aM H
 clear H
 obtain ⟨ASz4_0, cSz4_0, HGz4, hgz4, HSz4_0⟩ := HI0.out
 have hcz4_0 := cellS72_0 HGz4
 have hcz4_1 := cellS72_1 HGz4
 have hfz4_1 := blk_frozen HGz4 1
 clear HGz4 hgz4
 go_enter Try.func57, Try.ntmps57
 go_upto_region 2 with (fail)
 repeat (go_quiet (fail); go_upto_region 2 with (fail))
 go_cut [24] (fun v24 wc => ∃ (kq : Nat) (x24_2 : Bool), v24 = .bool x24_2 ∧ Aside0 (spec_reader_pick.j0 kq a1 x24_2 s0_0 (wrap64 (s0_1 + 1)) = some (r1, r2)) ∧ Aside0 (kq ≤ k) ∧ Aside0 (IsS72 w0 wc g s0_0 (wrap64 (s0_1 + 1))) ∧ Aside0 (KeepBut w wc g none) ∧ Aside0 (Below w0.heap.size w0 wc))
 case first =>
  have H := HC3.out
  clear HC3
  by_cases c5 : a1 < 1
  ·rw [if_pos c5] at H
   have c5b0 : decide (a1 < 1) = true := decide_eq_true c5
   clear c5
   (first | rw [c5b0] | (simp only [i64_w, i32_w]; rw [c5b0]) | skip)
   have H' := aM H
   clear H
   go_wp2
   repeat (go_quiet (fail); try go_wp2)
   go_meet
   case rel => exact ⟨_, (true), qE, H', ⟨by first | omega | exact Nat.le_refl _⟩, ⟨iS72 HI0.out⟩, ⟨kB HK.out⟩, ⟨wS72 HB.out⟩⟩
  rw [if_neg c5] at H
  have c5b0 : decide (a1 < 1) = false := decide_eq_false c5
  clear c5
  (first | rw [c5b0] | (simp only [i64_w, i32_w]; rw [c5b0]) | skip)
  have H' := aM H
  clear H
  obtain ⟨ASz6_0, cSz6_0, HGz6, hgz6, HSz6_0⟩ := HI0.out
  have hcz6_0 := cellS72_0 HGz6
  have hcz6_1 := cellS72_1 HGz6
  have hfz6_1 := blk_frozen HGz6 1
  clear HGz6 hgz6
  go_wp2
  repeat (go_quiet (fail); try go_wp2)
  go_meet
  case rel => exact ⟨_, (((s0_0.length : Int) == 0)), qE, H', ⟨by first | omega | exact Nat.le_refl _⟩, ⟨iS72 HI0.out⟩, ⟨kB HK.out⟩, ⟨wS72 HB.out⟩⟩
 case rest =>
  clear HC3
  try clear c5
  try clear c5b0
  try clear hcz4_0 hcz4_1 hfz4_1
  try clear hcz6_0 hcz6_1 hfz6_1
  obtain ⟨kq, x24_2, rfl, HA, HJ2, HI0, HK, HB⟩ := hcut
  cases kq with
  | zero => exact absurd HA.out (by simp [spec_reader_pick.j0])
  | succ kj2 =>
   have H := HA.out
   clear HA
   simp only [spec_reader_pick.j0] at H
   by_cases c7 : x24_2 = true
   ·subst c7
    have H1 : (some (0, (wrap64 (s0_1 + 1)))) = some (r1, r2) := by rw [if_pos rfl] at H; exact H
    clear H
    have H := H1
    clear H1
    simp only [Option.some.injEq, Prod.mk.injEq] at H
    obtain ⟨rfl, rfl⟩ := H
    go_wp2
    repeat (go_quiet (fail); try go_wp2)
    go_ret
    exact ⟨qX, iS72 HI0.out, wS72 HB.out, kB HK.out⟩
   replace c7 := Bool.eq_false_iff.mpr c7
   subst c7
   have H1 : (if (wrap64 ((wrap64 (s0_1 + 1)) - 1)) < (s0_0.length : Int) then (if 0 ≤ (wrap64 ((wrap64 (s0_1 + 1)) - 1)) then (if a1 = 0 then (none) else (some (Int.tmod (wrap64 (rd s0_0 (wrap64 ((wrap64 (s0_1 + 1)) - 1)))) a1, (wrap64 (s0_1 + 1))))) else (none)) else (if (s0_0.length : Int) = 0 then (none) else (if 0 ≤ (Int.tmod (wrap64 ((wrap64 (s0_1 + 1)) - 1)) (s0_0.length : Int)) then (if (Int.tmod (wrap64 ((wrap64 (s0_1 + 1)) - 1)) (s0_0.length : Int)) < (s0_0.length : Int) then (if 0 ≤ (Int.tmod (wrap64 ((wrap64 ((wrap64 ((wrap64 (s0_1 + 1)) - 1)) * 7)) + 3)) (s0_0.length : Int)) then (if (Int.tmod (wrap64 ((wrap64 ((wrap64 ((wrap64 (s0_1 + 1)) - 1)) * 7)) + 3)) (s0_0.length : Int)) < (s0_0.length : Int) then (if a1 = 0 then (none) else (some (Int.tmod (Go.bits .xor .i64 (wrap64 ((wrap64 ((wrap64 ((wrap64 ((wrap64 (rd s0_0 (Int.tmod (wrap64 ((wrap64 (s0_1 + 1)) - 1)) (s0_0.length : Int)))) * 131)) + (wrap64 ((wrap64 (rd s0_0 (Int.tmod (wrap64 ((wrap64 ((wrap64 ((wrap64 (s0_1 + 1)) - 1)) * 7)) + 3)) (s0_0.length : Int)))) * 1117)))) + (wrap64 ((wrap64 ((wrap64 (s0_1 + 1)) - 1)) * 29)))) + (wrap64 ((wrap64 (Int.tdiv (wrap64 ((wrap64 (s0_1 + 1)) - 1)) (s0_0.length : Int))) * 53)))) (wrap64 (Int.tdiv (wrap64 ((wrap64 ((wrap64 ((wrap64 ((wrap64 (rd s0_0 (Int.tmod (wrap64 ((wrap64 (s0_1 + 1)) - 1)) (s0_0.length : Int)))) * 131)) + (wrap64 ((wrap64 (rd s0_0 (Int.tmod (wrap64 ((wrap64 ((wrap64 ((wrap64 (s0_1 + 1)) - 1)) * 7)) + 3)) (s0_0.length : Int)))) * 1117)))) + (wrap64 ((wrap64 ((wrap64 (s0_1 + 1)) - 1)) * 29)))) + (wrap64 ((wrap64 (Int.tdiv (wrap64 ((wrap64 (s0_1 + 1)) - 1)) (s0_0.length : Int))) * 53)))) 64))) a1, (wrap64 (s0_1 + 1))))) else (none)) else (none)) else (none)) else (none)))) = some (r1, r2) := by rw [if_neg (show ¬ (false = true) by decide)] at H; exact H
   clear H
   have H := H1
   clear H1
   by_cases c8 : (wrap64 ((wrap64 (s0_1 + 1)) - 1)) < (s0_0.length : Int)
   ·rw [if_pos c8] at H
    have c8b0 : decide ((wrap64 ((wrap64 (s0_1 + 1)) - 1)) < (s0_0.length : Int)) = true := decide_eq_true c8
    clear c8
    obtain ⟨ji9, hji9⟩ : ∃ j_ : Int, (wrap64 ((wrap64 (s0_1 + 1)) - 1)) = j_ := ⟨_, rfl⟩
    replace H : (if 0 ≤ (ji9) then (if a1 = 0 then (none) else (some (Int.tmod (wrap64 (rd s0_0 (ji9))) a1, (wrap64 (s0_1 + 1))))) else (none)) = some (r1, r2) := by first | (rw [hji9] at H; exact H) | (simp only [hji9] at H ⊢; exact H)
    (try rw [hji9] at c8b0)
    have hji9w : (IntKind.i64.wrap ((wrap64 (s0_1 + 1)) - 1)) = ji9 := (i64_w _).trans hji9
    replace H := iD H
    obtain ⟨c10b0, H⟩ := H
    by_cases c11 : a1 = 0
    ·rw [if_pos c11] at H
     exact absurd H (by simp)
    rw [if_neg c11] at H
    have c11b0 : (a1 == 0) = false := beq_eq_false_iff_ne.mpr c11
    have c11b1 : (a1 != 0) = true := bne_iff_ne.mpr c11
    simp only [Option.some.injEq, Prod.mk.injEq] at H
    obtain ⟨rfl, rfl⟩ := H
    obtain ⟨ASz12_0, cSz12_0, HGz12, hgz12, HSz12_0⟩ := HI0.out
    have hcz12_0 := cellS72_0 HGz12
    have hcz12_1 := cellS72_1 HGz12
    have hfz12_1 := blk_frozen HGz12 1
    clear HGz12 hgz12
    obtain ⟨ad221, e221, hx221_0⟩ := Kd.at_int HSz12_0 (ji9) oD oD
    cases e221
    replace hx221_0 := pw_cell_below HB.out hx221_0
    have p221 := eq_true (oD : 0 ≤ ((ji9) : Int))
    have q221 := eq_true (oD : (ji9) < (s0_0.length : Int))
    go_wp2
    repeat (go_quiet (fail); try go_wp2)
    go_ret
    exact ⟨by first | rfl | (simp [errW_none, errW_some] <;> rfl) | (simp only [← hji9]; first | rfl | (simp [errW_none, errW_some] <;> rfl)) | (simp [*, errW_none, errW_some] <;> rfl), iS72 HI0.out, wS72 HB.out, kB HK.out⟩
   rw [if_neg c8] at H
   have c8b0 : decide ((wrap64 ((wrap64 (s0_1 + 1)) - 1)) < (s0_0.length : Int)) = false := decide_eq_false c8
   clear c8
   by_cases c13 : (s0_0.length : Int) = 0
   ·rw [if_pos c13] at H
    exact absurd H (by simp)
   rw [if_neg c13] at H
   have c13b0 : ((s0_0.length : Int) == 0) = false := beq_eq_false_iff_ne.mpr c13
   have c13b1 : ((s0_0.length : Int) != 0) = true := bne_iff_ne.mpr c13
   have c13b2 : ¬ (s0_0 = []) := fun h_ => c13 (by rw [h_]; rfl)
   obtain ⟨ji14, hji14⟩ : ∃ j_ : Int, (Int.tmod (wrap64 ((wrap64 (s0_1 + 1)) - 1)) (s0_0.length : Int)) = j_ := ⟨_, rfl⟩
   replace H : (if 0 ≤ (ji14) then (if (ji14) < (s0_0.length : Int) then (if 0 ≤ (Int.tmod (wrap64 ((wrap64 ((wrap64 ((wrap64 (s0_1 + 1)) - 1)) * 7)) + 3)) (s0_0.length : Int)) then (if (Int.tmod (wrap64 ((wrap64 ((wrap64 ((wrap64 (s0_1 + 1)) - 1)) * 7)) + 3)) (s0_0.length : Int)) < (s0_0.length : Int) then (if a1 = 0 then (none) else (some (Int.tmod (Go.bits .xor .i64 (wrap64 ((wrap64 ((wrap64 ((wrap64 ((wrap64 (rd s0_0 (ji14))) * 131)) + (wrap64 ((wrap64 (rd s0_0 (Int.tmod (wrap64 ((wrap64 ((wrap64 ((wrap64 (s0_1 + 1)) - 1)) * 7)) + 3)) (s0_0.length : Int)))) * 1117)))) + (wrap64 ((wrap64 ((wrap64 (s0_1 + 1)) - 1)) * 29)))) + (wrap64 ((wrap64 (Int.tdiv (wrap64 ((wrap64 (s0_1 + 1)) - 1)) (s0_0.length : Int))) * 53)))) (wrap64 (Int.tdiv (wrap64 ((wrap64 ((wrap64 ((wrap64 ((wrap64 (rd s0_0 (ji14))) * 131)) + (wrap64 ((wrap64 (rd s0_0 (Int.tmod (wrap64 ((wrap64 ((wrap64 ((wrap64 (s0_1 + 1)) - 1)) * 7)) + 3)) (s0_0.length : Int)))) * 1117)))) + (wrap64 ((wrap64 ((wrap64 (s0_1 + 1)) - 1)) * 29)))) + (wrap64 ((wrap64 (Int.tdiv (wrap64 ((wrap64 (s0_1 + 1)) - 1)) (s0_0.length : Int))) * 53)))) 64))) a1, (wrap64 (s0_1 + 1))))) else (none)) else (none)) else (none)) else (none)) = some (r1, r2) := by first | (rw [hji14] at H; exact H) | (simp only [hji14] at H ⊢; exact H)
   replace H := iD H
   obtain ⟨c15b0, H⟩ := H
   replace H := iD H
   obtain ⟨c16b0, H⟩ := H
   obtain ⟨ji17, hji17⟩ : ∃ j_ : Int, (Int.tmod (wrap64 ((wrap64 ((wrap64 ((wrap64 (s0_1 + 1)) - 1)) * 7)) + 3)) (s0_0.length : Int)) = j_ := ⟨_, rfl⟩
   replace H : (if 0 ≤ (ji17) then (if (ji17) < (s0_0.length : Int) then (if a1 = 0 then (none) else (some (Int.tmod (Go.bits .xor .i64 (wrap64 ((wrap64 ((wrap64 ((wrap64 ((wrap64 (rd s0_0 (ji14))) * 131)) + (wrap64 ((wrap64 (rd s0_0 (ji17))) * 1117)))) + (wrap64 ((wrap64 ((wrap64 (s0_1 + 1)) - 1)) * 29)))) + (wrap64 ((wrap64 (Int.tdiv (wrap64 ((wrap64 (s0_1 + 1)) - 1)) (s0_0.length : Int))) * 53)))) (wrap64 (Int.tdiv (wrap64 ((wrap64 ((wrap64 ((wrap64 ((wrap64 (rd s0_0 (ji14))) * 131)) + (wrap64 ((wrap64 (rd s0_0 (ji17))) * 1117)))) + (wrap64 ((wrap64 ((wrap64 (s0_1 + 1)) - 1)) * 29)))) + (wrap64 ((wrap64 (Int.tdiv (wrap64 ((wrap64 (s0_1 + 1)) - 1)) (s0_0.length : Int))) * 53)))) 64))) a1, (wrap64 (s0_1 + 1))))) else (none)) else (none)) = some (r1, r2) := by first | (rw [hji17] at H; exact H) | (simp only [hji17] at H ⊢; exact H)
   replace H := iD H
   obtain ⟨c18b0, H⟩ := H
   replace H := iD H
   obtain ⟨c19b0, H⟩ := H
   by_cases c20 : a1 = 0
   ·rw [if_pos c20] at H
    exact absurd H (by simp)
   rw [if_neg c20] at H
   have c20b0 : (a1 == 0) = false := beq_eq_false_iff_ne.mpr c20
   have c20b1 : (a1 != 0) = true := bne_iff_ne.mpr c20
   simp only [Option.some.injEq, Prod.mk.injEq] at H
   obtain ⟨rfl, rfl⟩ := H
   obtain ⟨ASz21_0, cSz21_0, HGz21, hgz21, HSz21_0⟩ := HI0.out
   have hcz21_0 := cellS72_0 HGz21
   have hcz21_1 := cellS72_1 HGz21
   have hfz21_1 := blk_frozen HGz21 1
   clear HGz21 hgz21
   obtain ⟨ad222, e222, hx222_0⟩ := Kd.at_int HSz21_0 (ji14) oD oD
   cases e222
   replace hx222_0 := pw_cell_below HB.out hx222_0
   have p222 := eq_true (oD : 0 ≤ ((ji14) : Int))
   have q222 := eq_true (oD : (ji14) < (s0_0.length : Int))
   obtain ⟨ad223, e223, hx223_0⟩ := Kd.at_int HSz21_0 (ji17) oD oD
   obtain rfl : ad222 = ad223 := (by injection e223)
   replace hx223_0 := pw_cell_below HB.out hx223_0
   have p223 := eq_true (oD : 0 ≤ ((ji17) : Int))
   have q223 := eq_true (oD : (ji17) < (s0_0.length : Int))
   go_wp2
   repeat (go_quiet (fail); try go_wp2)
   go_ret
   exact ⟨by first | rfl | (simp [errW_none, errW_some] <;> rfl) | (simp only [← hji14, ← hji17]; first | rfl | (simp [errW_none, errW_some] <;> rfl)) | (simp [*, errW_none, errW_some] <;> rfl), iS72 HI0.out, wS72 HB.out, kB HK.out⟩
def spec_reader_one.f (k : Nat) (s0_0 : List Int) (s0_1 : Int) (l1 : List Int) : Option (Int × Int) := (spec_reader_pick.f k s0_0 s0_1 (l1.length : Int)).bind fun bt224 => (if 0 ≤ bt224.1 then (if bt224.1 < (l1.length : Int) then (some (rd l1 bt224.1, bt224.2)) else (none)) else (none))
theorem spec_reader_one.mono : ∀ a0 a1 a2 k, LeO (spec_reader_one.f k a0 a1 a2) (spec_reader_one.f (k + 1) a0 a1 a2) := by
 intro a0 a1 a2 k
 unfold spec_reader_one.f
 repeat' first | (with_reducible first | exact spec_reader_pick.mono _ _ _ _ | exact lR | exact lN | refine lI ?_ ?_ | refine lB ?_ fun _ => ?_) | exact spec_reader_pick.mono _ _ _ _ | exact lN | refine lI ?_ ?_ | refine lB ?_ fun _ => ?_
set_option maxHeartbeats 8000000 in
set_option maxRecDepth 100000 in
theorem spec_reader_one.calls (k : Nat) (g : Nat) (s0_0 : List Int) (s0_1 : Int) (A1 : Option Addr) (c1 : Nat) (l1 : List Int) (r1 : Int) (r2 : Int) (w0 w : World) (hI : IsS72 w0 w g s0_0 s0_1) (hB : Below w0.heap.size w0 w) (hr1 : Kd.C (Kd.int .i64) w A1 l1.length l1) (hc1 : l1.length ≤ c1) (hf1 : ∀ ad, A1 = some ad → 0 < l1.length → ad.block ≠ g) (h : spec_reader_one.f k s0_0 s0_1 l1 = some (r1, r2)) :
  Calls Try.prog 81 #[.pointer (some ⟨g, 0, none⟩), .slice A1 l1.length c1] w fun e w' => e = .returned (.int .i64 r1) ∧ IsS72 w0 w' g s0_0 r2 ∧ Below w0.heap.size w0 w' ∧ KeepBut w w' g none := by
 have HR1 := aM hr1
 have HC1 := aM hc1
 clear hr1 hc1
 have HI0 := aM hI
 have HK := aM (KeepBut.refl w g none)
 have HL := aM hB.size
 clear hI
 have HW0 := aM hB.size
 have HB := aM hB
 clear hB
 unfold spec_reader_one.f at h
 have H := h
 clear h
 replace H := Option.bind_eq_some_iff.mp H
 obtain ⟨⟨t224, t225⟩, A30, H⟩ := H
 replace H : (if 0 ≤ t224 then (if t224 < (l1.length : Int) then (some (rd l1 t224, t225)) else (none)) else (none)) = some (r1, r2) := H
 have A3 := aM A30
 clear A30
 replace H := iD H
 obtain ⟨c4b0, H⟩ := H
 replace H := iD H
 obtain ⟨c5b0, H⟩ := H
 simp only [Option.some.injEq, Prod.mk.injEq] at H
 obtain ⟨rfl, rfl⟩ := H
 go_enter Try.func81, Try.ntmps81
 go_wp2_with (first | ((with_reducible refine gate_callee (f := 57) rfl ?_); refine gL (some 9) Try.func57 #[.pointer (some ⟨g, 0, none⟩), .int .i64 (l1.length : Int)] ?_; (with_reducible refine (spec_reader_pick.calls k g s0_0 s0_1 (l1.length : Int) t224 t225 w0 _ ?side1 ?side2 A3.out).mono ?_); (case side1 => exact iS72 HI0.out); (case side2 => exact wS72 HB.out); rintro e w6 ⟨rfl, hi, hb, hk⟩; refine ⟨_, rfl, ?_⟩; replace HK := aM (KeepBut.trans (kB HK.out) hk (.inl rfl)); replace HB := aM (hb); replace HI0 := aM (hi); clear hb hk hi; have p226 : 0 ≤ (t224 : Int) := oD; have q226 : t224 < (l1.length : Int) := oD; obtain ⟨ad226, e226, hx226_0⟩ := Kd.at_int HR1.out t224 p226 q226; cases e226; replace hx226_0 := keep_cell HK.out hx226_0 (by first | (rw [add_block]; exact hf1 _ rfl (by omega)) | exact hf1 _ rfl (by omega) | exact hf1 ad226 rfl (by omega)); replace p226 := eq_true p226; replace q226 := eq_true q226))
 go_ret
 exact ⟨qX, iS72 HI0.out, wS72 HB.out, kB HK.out⟩
def spec_spoilImage.f (k : Nat) (s0_0 : List Int) (s0_1 : Int) (a1_0 : Int) (a1_1 : Int) (a1_2 : Int) (l1_3 : List Int) : Option (Int × Int × Int × List Int × Int) := (spec_reader_pick.f k s0_0 s0_1 40).bind fun bt229 => (if bt229.1 = 0 then ((spec_reader_one.f k s0_0 bt229.2 (([0, 17, wrap64 (a1_0 + 1)] : List Int))).bind fun bt234 => (some (bt234.1, a1_1, a1_2, l1_3, bt234.2))) else (if bt229.1 = 1 then (if 1 ≤ (l1_3.length : Int) then (some (a1_0, a1_1, a1_2, (l1_3.drop (1 : Int).toNat), bt229.2)) else (none)) else (if bt229.1 = 2 then ((spec_reader_one.f k s0_0 bt229.2 (([(-1), 256] : List Int))).bind fun bt242 => (if 0 < (l1_3.length : Int) then (some (a1_0, a1_1, a1_2, (l1_3.set (0 : Int).toNat bt242.1), bt242.2)) else (none))) else (if bt229.1 = 3 then ((spec_reader_one.f k s0_0 bt229.2 (([0, 5] : List Int))).bind fun bt248 => (some (a1_0, a1_1, bt248.1, l1_3, bt248.2))) else (some (a1_0, a1_1, a1_2, l1_3, bt229.2))))))
theorem spec_spoilImage.mono : ∀ a0 a1 a2 a3 a4 a5 k, LeO (spec_spoilImage.f k a0 a1 a2 a3 a4 a5) (spec_spoilImage.f (k + 1) a0 a1 a2 a3 a4 a5) := by
 intro a0 a1 a2 a3 a4 a5 k
 unfold spec_spoilImage.f
 repeat' first | (with_reducible first | exact spec_reader_one.mono _ _ _ _ | exact spec_reader_pick.mono _ _ _ _ | exact lR | exact lN | refine lI ?_ ?_ | refine lB ?_ fun _ => ?_) | exact spec_reader_one.mono _ _ _ _ | exact spec_reader_pick.mono _ _ _ _ | exact lN | refine lI ?_ ?_ | refine lB ?_ fun _ => ?_
set_option maxHeartbeats 8000000 in
set_option maxRecDepth 100000 in
theorem spec_spoilImage.calls (k : Nat) (g : Nat) (s0_0 : List Int) (s0_1 : Int) (a1_0 : Int) (a1_1 : Int) (a1_2 : Int) (P1_3_ : Nat → Prop) (u9000_ : Value) (l1_3 : List Int) (r1 : Int) (r2 : Int) (r3 : Int) (r4 : List Int) (r5 : Int) (w0 w : World) (hI : IsS72 w0 w g s0_0 s0_1) (hB : Below w0.heap.size w0 w) (ho1_3 : Kd.R (Kd.int .i64) 3 w w0.heap.size P1_3_ u9000_ l1_3) (h : spec_spoilImage.f k s0_0 s0_1 a1_0 a1_1 a1_2 l1_3 = some (r1, r2, r3, r4, r5)) :
  Calls Try.prog 59 #[.pointer (some ⟨g, 0, none⟩), .agg #[.int .i64 a1_0, .int .i64 a1_1, .int .i64 a1_2, u9000_]] w fun e w' => ∃ v3_ : Value, e = .returned (.agg #[.int .i64 r1, .int .i64 r2, .int .i64 r3, v3_]) ∧ Kd.Q (Kd.int .i64) 3 w' w0.heap.size (fun k_ => (P1_3_ k_ ∨ w.heap.size ≤ k_)) v3_ r4 ∧ IsS72 w0 w' g s0_0 r5 ∧ Below w0.heap.size w0 w' ∧ Kept w w' (fun k_ => (P1_3_ k_) ∨ k_ = g) := by
 have hu26 := Try.underlying26
 have HO1_3 := aM (show Kd.R (Kd.int .i64) 3 w w0.heap.size (fun k_ => (P1_3_ k_ ∨ w.heap.size ≤ k_)) u9000_ l1_3 from Kd.R_mono ho1_3 (fun k_ hk => (.inl hk)))
 have HI0 := aM hI
 have HL := aM hB.size
 clear hI
 have HK := aM (Kept.refl w (fun k_ => (P1_3_ k_) ∨ k_ = g))
 have HW0 := aM hB.size
 have HB := aM hB
 clear hB
 unfold spec_spoilImage.f at h
 have H := h
 clear h
 replace H := Option.bind_eq_some_iff.mp H
 obtain ⟨⟨t229, t230⟩, A30, H⟩ := H
 replace H : (if t229 = 0 then ((spec_reader_one.f k s0_0 t230 (([0, 17, wrap64 (a1_0 + 1)] : List Int))).bind fun bt234 => (some (bt234.1, a1_1, a1_2, l1_3, bt234.2))) else (if t229 = 1 then (if 1 ≤ (l1_3.length : Int) then (some (a1_0, a1_1, a1_2, (l1_3.drop (1 : Int).toNat), t230)) else (none)) else (if t229 = 2 then ((spec_reader_one.f k s0_0 t230 (([(-1), 256] : List Int))).bind fun bt242 => (if 0 < (l1_3.length : Int) then (some (a1_0, a1_1, a1_2, (l1_3.set (0 : Int).toNat bt242.1), bt242.2)) else (none))) else (if t229 = 3 then ((spec_reader_one.f k s0_0 t230 (([0, 5] : List Int))).bind fun bt248 => (some (a1_0, a1_1, bt248.1, l1_3, bt248.2))) else (some (a1_0, a1_1, a1_2, l1_3, t230)))))) = some (r1, r2, r3, r4, r5) := H
 have A3 := aM A30
 clear A30
 by_cases c4 : t229 = 0
 ·rw [if_pos c4] at H
  have c4b0 : (t229 == 0) = true := beq_iff_eq.mpr c4
  have c4b1 : (t229 != 0) = false := bne_eq_false_iff_eq.mpr c4
  clear c4
  obtain ⟨y231, hy231⟩ : ∃ y_ : List Int, y_ = (([0, 17, wrap64 (a1_0 + 1)] : List Int)) := ⟨_, rfl⟩
  replace H : ((spec_reader_one.f k s0_0 t230 y231).bind fun bt234 => (some (bt234.1, a1_1, a1_2, l1_3, bt234.2))) = some (r1, r2, r3, r4, r5) := rY hy231 H
  have Ny231 := aM hy231
  clear hy231
  replace H := Option.bind_eq_some_iff.mp H
  obtain ⟨⟨t234, t235⟩, A50, H⟩ := H
  replace H : (some (t234, a1_1, a1_2, l1_3, t235)) = some (r1, r2, r3, r4, r5) := H
  have A5 := aM A50
  clear A50
  simp only [Option.some.injEq, Prod.mk.injEq] at H
  obtain ⟨rfl, rfl, rfl, rfl, rfl⟩ := H
  obtain ⟨Ao6, co6, rfl⟩ := sL HO1_3
  go_enter Try.func59, Try.ntmps59
  go_wp2_with (first | ((with_reducible refine gate_dst (N := 3) rfl ?_); refine bxE (N := 3) (cs := #[.int .i64 a1_0, .int .i64 a1_1, .int .i64 a1_2, .slice Ao6 l1_3.length co6]) (t := 26) ?_; intro gb227 hg w7 hbox hb; replace HO1_3 := aM (Kd.R_below (qR HO1_3.out) hb); have BK227 := aM (hbox); have GW227 := aM ((by rw [hg]; exact (by first | exact HK.out.1 | exact (show Kept w _ (fun k_ => (P1_3_ k_) ∨ k_ = g) from kP HK.out).1) : w.heap.size ≤ gb227)); replace HK := aM (Kept.below (S := (fun k_ => (P1_3_ k_) ∨ k_ = g)) (kP HK.out) hb); have GE227 := aM ((by rw [hg]; exact (below_size (wS72 HB.out)) : w0.heap.size ≤ gb227)); replace HB := aM (below_step (wS72 HB.out) hb); have NB0_227 := aM ((by rw [hg]; exact Nat.ne_of_lt (IsS72.lt (show IsS72 w0 _ g s0_0 s0_1 from iS72 HI0.out)) : g ≠ gb227)); have NB227_0 := aM ((by rw [hg]; exact Nat.ne_of_gt (IsS72.lt (show IsS72 w0 _ g s0_0 s0_1 from iS72 HI0.out)) : gb227 ≠ g)); replace HI0 := aM (IsS72.below (iS72 HI0.out) hb); clear hb hbox hg) | ((with_reducible refine gate_dst (N := 4) rfl ?_); refine bxE (N := 4) (cs := #[.int .i64 0, .int .i64 0, .int .i64 0, .slice none 0 0]) (t := 26) ?_; intro gb228 hg w8 hbox hb; replace HO1_3 := aM (Kd.R_below (qR HO1_3.out) hb); have BK228 := aM (hbox); have GW228 := aM ((by rw [hg]; exact (by first | exact HK.out.1 | exact (show Kept w _ (fun k_ => (P1_3_ k_) ∨ k_ = g) from kP HK.out).1) : w.heap.size ≤ gb228)); replace HK := aM (Kept.below (S := (fun k_ => (P1_3_ k_) ∨ k_ = g)) (kP HK.out) hb); have GE228 := aM ((by rw [hg]; exact (below_size (wS72 HB.out)) : w0.heap.size ≤ gb228)); replace HB := aM (below_step (wS72 HB.out) hb); have NB227_228 := nL hg BK227; have NB228_227 := nG hg BK227; replace BK227 := bB BK227 hb; have NB0_228 := aM ((by rw [hg]; exact Nat.ne_of_lt (IsS72.lt (show IsS72 w0 _ g s0_0 s0_1 from iS72 HI0.out)) : g ≠ gb228)); have NB228_0 := aM ((by rw [hg]; exact Nat.ne_of_gt (IsS72.lt (show IsS72 w0 _ g s0_0 s0_1 from iS72 HI0.out)) : gb228 ≠ g)); replace HI0 := aM (IsS72.below (iS72 HI0.out) hb); clear hb hbox hg) | ((with_reducible refine gate_callee (f := 57) rfl ?_); refine gL (some 6) Try.func57 #[.pointer (some ⟨g, 0, none⟩), .int .i64 40] ?_; (with_reducible refine (spec_reader_pick.calls k g s0_0 s0_1 40 t229 t230 w0 _ ?side1 ?side2 A3.out).mono ?_); (case side1 => exact iS72 HI0.out); (case side2 => exact wS72 HB.out); rintro e w9 ⟨rfl, hi, hb, hk⟩; refine ⟨_, rfl, ?_⟩; replace HO1_3 := aM (Kd.R_mono (Kd.R_keep (IsS72.apart (show IsS72 w0 _ g s0_0 s0_1 from iS72 HI0.out) (qR HO1_3.out) (by decide)) hk (fun _ h => h.2)) (fun _ h => h.1)); replace BK227 := bK hk BK227 NB227_0; replace BK228 := bK hk BK228 NB228_0; replace HK := aM (Kept.of_keep (S := (fun k_ => (P1_3_ k_) ∨ k_ = g)) (kP HK.out) hk (.inl (.inr rfl))); replace HB := aM (hb); replace HI0 := aM (hi); clear hb hk hi; have hnb10 := NB227_228.out; have hnc10 := NB228_227.out; have hnb11 := NB227_0.out; have hnc11 := NB0_227.out; obtain ⟨⟨hcz12_0, hcz12_1, hcz12_2, hcz12_3⟩, hfz12_0, hfz12_1, hfz12_2, hfz12_3⟩ := cf4 BK227) | ((with_reducible refine gate_dst (N := 13) rfl ?_); refine iL ([0, 17, wrap64 (a1_0 + 1)] : List Int) [.int .i64 0, .int .i64 17, .int .i64 (wrap64 (a1_0 + 1))] ?_; intro v232 w13 ho14 hb hg_ hnew_; clear hg_ hnew_; (first | rw [← Ny231.out] at ho14 | (simp only [Int.reduceToNat] at ho14; rw [← Ny231.out] at ho14)); have HO233 := aM (Kd.R_lower (Kd.R_new' (Kd.R_newM (M := fun k_ => (P1_3_ k_ ∨ w.heap.size ≤ k_)) ho14 (by first | exact HK.out.1 | exact (show Kept w _ (fun k_ => (P1_3_ k_) ∨ k_ = g) from kP HK.out).1) (fun k_ h_ => .inr h_)) (Kd.R_lt (qR HO1_3.out))) (below_size (wS72 HB.out))); replace HO1_3 := aM (Kd.R_elder' (qR HO1_3.out) (Kd.R_base ho14) hb); replace BK227 := bB BK227 hb; replace BK228 := bB BK228 hb; replace HK := aM (Kept.below (S := (fun k_ => (P1_3_ k_) ∨ k_ = g)) (kP HK.out) hb); replace HB := aM (below_step (wS72 HB.out) hb); replace HI0 := aM (IsS72.below (iS72 HI0.out) hb); clear hb ho14; obtain ⟨Ao15, co15, rfl⟩ := sL HO233) | ((with_reducible refine gate_callee (f := 81) rfl ?_); refine gL (some 14) Try.func81 #[.pointer (some ⟨g, 0, none⟩), .slice Ao15 y231.length co15] ?_; (with_reducible refine (spec_reader_one.calls k g s0_0 t230 _ _ y231 t234 t235 w0 _ ?side1 ?side2 ?side3 ?side4 ?side5 A5.out).mono ?_); (case side1 => exact iS72 HI0.out); (case side2 => exact wS72 HB.out); (case side3 => exact qC (Kd.R_reads' HO233.out).2.2); (case side4 => exact (Kd.R_reads' HO233.out).2.1); (case side5 => exact far_slice (IsS72.own_ne HI0.out HO233.out (by decide))); rintro e w16 ⟨rfl, hi, hb, hk⟩; refine ⟨_, rfl, ?_⟩; replace HO1_3 := aM (Kd.R_mono (Kd.R_keep (IsS72.apart (show IsS72 w0 _ g s0_0 t230 from iS72 HI0.out) (qR HO1_3.out) (by decide)) hk (fun _ h => h.2)) (fun _ h => h.1)); replace BK227 := bK hk BK227 NB227_0; replace BK228 := bK hk BK228 NB228_0; replace HO233 := aM (Kd.R_mono (Kd.R_keep (IsS72.apart (show IsS72 w0 _ g s0_0 t230 from iS72 HI0.out) (qR HO233.out) (by decide)) hk (fun _ h => h.2)) (fun _ h => h.1)); replace HK := aM (Kept.of_keep (S := (fun k_ => (P1_3_ k_) ∨ k_ = g)) (kP HK.out) hk (.inl (.inr rfl))); replace HB := aM (hb); replace HI0 := aM (hi); clear hb hk hi; obtain ⟨⟨hcz17_0, hcz17_1, hcz17_2, hcz17_3⟩, hfz17_0, hfz17_1, hfz17_2, hfz17_3⟩ := cf4 BK227; have hnb18 := NB228_0.out; have hnc18 := NB0_228.out; obtain ⟨⟨hcz19_0, hcz19_1, hcz19_2, hcz19_3⟩, hfz19_0, hfz19_1, hfz19_2, hfz19_3⟩ := cf4 BK228))
  refine bodyPost_ret (results_cell_row rfl _ _ gb228 26 #[.int .i64 t234, .int .i64 a1_1, .int .i64 a1_2, .slice Ao6 l1_3.length co6] (0, 0) _ rfl (by refine qB ?_; refine blk_put (cs := #[.int .i64 t234, .int .i64 a1_1, .int .i64 a1_2, .slice none 0 0]) ?_ 3 _ rfl; refine qB ?_; refine blk_put (cs := #[.int .i64 t234, .int .i64 a1_1, .int .i64 0, .slice none 0 0]) ?_ 2 _ rfl; refine qB ?_; refine blk_put (cs := #[.int .i64 t234, .int .i64 0, .int .i64 0, .slice none 0 0]) ?_ 1 _ rfl; refine qB ?_; refine blk_put (cs := #[.int .i64 0, .int .i64 0, .int .i64 0, .slice none 0 0]) ?_ 0 _ rfl; refine qB ?_; refine blk_far ?_ NB228_227.out _; refine qB ?_; exact BK228.out) Try.underlying26 rfl (by kernel_rfl)) rfl ?_
  exact ⟨_, qX, Kd.Q_of_R (by refine qR ?_; exact Kd.R_mono (Kd.R_far (p := ⟨gb228, 3, none⟩) (Kd.R_far (p := ⟨gb228, 2, none⟩) (Kd.R_far (p := ⟨gb228, 1, none⟩) (Kd.R_far (p := ⟨gb228, 0, none⟩) (Kd.R_far (p := ⟨gb227, 0, none⟩) (Kd.R_types (Kd.R_types HO1_3.out BK227.out (by decide)) BK228.out (by decide)) (fun _ hk => hk.1.2) (.int .i64 t234)) (fun _ hk => hk.2) (.int .i64 t234)) (fun _ hk => hk.2) (.int .i64 a1_1)) (fun _ hk => hk.2) (.int .i64 a1_2)) (fun _ hk => hk.2) (.slice Ao6 l1_3.length co6)) (fun _ hk => hk.1.1.1)), iS72 HI0.out, wS72 HB.out, kP HK.out⟩
 rw [if_neg c4] at H
 have c4b0 : (t229 == 0) = false := beq_eq_false_iff_ne.mpr c4
 have c4b1 : (t229 != 0) = true := bne_iff_ne.mpr c4
 by_cases c20 : t229 = 1
 ·rw [if_pos c20] at H
  have c20b0 : (t229 == 1) = true := beq_iff_eq.mpr c20
  have c20b1 : (t229 != 1) = false := bne_eq_false_iff_eq.mpr c20
  clear c20
  replace H := iS H
  obtain ⟨c21, H⟩ := H
  have c21b0 := eq_true c21
  have c21b1 : decide (1 ≤ (l1_3.length : Int)) = true := decide_eq_true c21
  clear c21
  obtain ⟨y236, hy236⟩ : ∃ y_ : List Int, y_ = (l1_3.drop (1 : Int).toNat) := ⟨_, rfl⟩
  replace H : (some (a1_0, a1_1, a1_2, y236, t230)) = some (r1, r2, r3, r4, r5) := rY hy236 H
  have Ny236 := aM hy236
  clear hy236
  simp only [Option.some.injEq, Prod.mk.injEq] at H
  obtain ⟨rfl, rfl, rfl, rfl, rfl⟩ := H
  obtain ⟨Ao22, co22, rfl⟩ := sL HO1_3
  go_enter Try.func59, Try.ntmps59
  go_wp2_with (first | ((with_reducible refine gate_dst (N := 3) rfl ?_); refine bxE (N := 3) (cs := #[.int .i64 a1_0, .int .i64 a1_1, .int .i64 a1_2, .slice Ao22 l1_3.length co22]) (t := 26) ?_; intro gb227 hg w23 hbox hb; replace HO1_3 := aM (Kd.R_below (qR HO1_3.out) hb); have BK227 := aM (hbox); have GW227 := aM ((by rw [hg]; exact (by first | exact HK.out.1 | exact (show Kept w _ (fun k_ => (P1_3_ k_) ∨ k_ = g) from kP HK.out).1) : w.heap.size ≤ gb227)); replace HK := aM (Kept.below (S := (fun k_ => (P1_3_ k_) ∨ k_ = g)) (kP HK.out) hb); have GE227 := aM ((by rw [hg]; exact (below_size (wS72 HB.out)) : w0.heap.size ≤ gb227)); replace HB := aM (below_step (wS72 HB.out) hb); have NB0_227 := aM ((by rw [hg]; exact Nat.ne_of_lt (IsS72.lt (show IsS72 w0 _ g s0_0 s0_1 from iS72 HI0.out)) : g ≠ gb227)); have NB227_0 := aM ((by rw [hg]; exact Nat.ne_of_gt (IsS72.lt (show IsS72 w0 _ g s0_0 s0_1 from iS72 HI0.out)) : gb227 ≠ g)); replace HI0 := aM (IsS72.below (iS72 HI0.out) hb); clear hb hbox hg) | ((with_reducible refine gate_dst (N := 4) rfl ?_); refine bxE (N := 4) (cs := #[.int .i64 0, .int .i64 0, .int .i64 0, .slice none 0 0]) (t := 26) ?_; intro gb228 hg w24 hbox hb; replace HO1_3 := aM (Kd.R_below (qR HO1_3.out) hb); have BK228 := aM (hbox); have GW228 := aM ((by rw [hg]; exact (by first | exact HK.out.1 | exact (show Kept w _ (fun k_ => (P1_3_ k_) ∨ k_ = g) from kP HK.out).1) : w.heap.size ≤ gb228)); replace HK := aM (Kept.below (S := (fun k_ => (P1_3_ k_) ∨ k_ = g)) (kP HK.out) hb); have GE228 := aM ((by rw [hg]; exact (below_size (wS72 HB.out)) : w0.heap.size ≤ gb228)); replace HB := aM (below_step (wS72 HB.out) hb); have NB227_228 := nL hg BK227; have NB228_227 := nG hg BK227; replace BK227 := bB BK227 hb; have NB0_228 := aM ((by rw [hg]; exact Nat.ne_of_lt (IsS72.lt (show IsS72 w0 _ g s0_0 s0_1 from iS72 HI0.out)) : g ≠ gb228)); have NB228_0 := aM ((by rw [hg]; exact Nat.ne_of_gt (IsS72.lt (show IsS72 w0 _ g s0_0 s0_1 from iS72 HI0.out)) : gb228 ≠ g)); replace HI0 := aM (IsS72.below (iS72 HI0.out) hb); clear hb hbox hg) | ((with_reducible refine gate_callee (f := 57) rfl ?_); refine gL (some 6) Try.func57 #[.pointer (some ⟨g, 0, none⟩), .int .i64 40] ?_; (with_reducible refine (spec_reader_pick.calls k g s0_0 s0_1 40 t229 t230 w0 _ ?side1 ?side2 A3.out).mono ?_); (case side1 => exact iS72 HI0.out); (case side2 => exact wS72 HB.out); rintro e w25 ⟨rfl, hi, hb, hk⟩; refine ⟨_, rfl, ?_⟩; replace HO1_3 := aM (Kd.R_mono (Kd.R_keep (IsS72.apart (show IsS72 w0 _ g s0_0 s0_1 from iS72 HI0.out) (qR HO1_3.out) (by decide)) hk (fun _ h => h.2)) (fun _ h => h.1)); replace BK227 := bK hk BK227 NB227_0; replace BK228 := bK hk BK228 NB228_0; replace HK := aM (Kept.of_keep (S := (fun k_ => (P1_3_ k_) ∨ k_ = g)) (kP HK.out) hk (.inl (.inr rfl))); replace HB := aM (hb); replace HI0 := aM (hi); clear hb hk hi; have hnb26 := NB227_228.out; have hnc26 := NB228_227.out; have hnb27 := NB227_0.out; have hnc27 := NB0_227.out; obtain ⟨⟨hcz28_0, hcz28_1, hcz28_2, hcz28_3⟩, hfz28_0, hfz28_1, hfz28_2, hfz28_3⟩ := cf4 BK227; have q29 : (1 : Int) ≤ ((l1_3.length : Int) : Int) := oD; obtain ⟨i029, hi029, _, hsz29, _⟩ := info_parts info3; have hcut29 := cut_from (P := Try.prog) 22 3 .i64 Try.underlying22 hi029 1 hsz29 Ao22 l1_3.length co22 1 (by omega) q29; have hr29 := Kd.Q_drop (k := (1 : Int).toNat) (Kd.Q_of_R HO1_3.out) (by omega); obtain ⟨A29, hA29⟩ : ∃ A1, A1 = (if co22 = (1 : Int).toNat then Ao22 else (Ao22 : Option Addr).map (·.add ((1 : Int).toNat * 1))) := ⟨_, rfl⟩; obtain ⟨c29, hc29⟩ : ∃ c1, c1 = co22 - (1 : Int).toNat := ⟨_, rfl⟩; have hy29 : y236.length = l1_3.length - (1 : Int).toNat := (by rw [Ny236.out, List.length_drop]); rw [← Ny236.out] at hr29; rw [← hy29, ← hA29, ← hc29] at hcut29; replace hr29 : Kd.Q (Kd.int .i64) 3 w25 w0.heap.size (fun k_ => (P1_3_ k_ ∨ w.heap.size ≤ k_)) (.slice A29 y236.length c29) y236 := (by rw [hA29, hc29, hy29]; exact hr29); have HE29 : Aside0 ((Value.slice A29 y236.length c29).ownBlock = (.slice Ao22 l1_3.length co22 : Value).ownBlock) := ⟨by rw [hA29]; split <;> (cases (Ao22 : Option Addr) <;> rfl)⟩; clear hy29 hi029 hsz29 HO1_3 hA29 hc29; have HO238 := aM hr29; clear hr29; replace q29 := eq_true q29; have hnb30 := NB228_0.out; have hnc30 := NB0_228.out; obtain ⟨⟨hcz31_0, hcz31_1, hcz31_2, hcz31_3⟩, hfz31_0, hfz31_1, hfz31_2, hfz31_3⟩ := cf4 BK228))
  refine bodyPost_ret (results_cell_row rfl _ _ gb228 26 #[.int .i64 a1_0, .int .i64 a1_1, .int .i64 a1_2, .slice A29 y236.length c29] (0, 0) _ rfl (by refine qB ?_; refine blk_put (cs := #[.int .i64 a1_0, .int .i64 a1_1, .int .i64 a1_2, .slice none 0 0]) ?_ 3 _ rfl; refine qB ?_; refine blk_put (cs := #[.int .i64 a1_0, .int .i64 a1_1, .int .i64 0, .slice none 0 0]) ?_ 2 _ rfl; refine qB ?_; refine blk_put (cs := #[.int .i64 a1_0, .int .i64 0, .int .i64 0, .slice none 0 0]) ?_ 1 _ rfl; refine qB ?_; refine blk_put (cs := #[.int .i64 0, .int .i64 0, .int .i64 0, .slice none 0 0]) ?_ 0 _ rfl; refine qB ?_; refine blk_far ?_ NB228_227.out _; refine qB ?_; exact BK228.out) Try.underlying26 rfl (by kernel_rfl)) rfl ?_
  exact ⟨_, qX, by (with_reducible repeat (first | apply Kd.Q_alloc | apply Kd.Q_drewN | apply Kd.Q_drew)); exact Kd.Q_mono (Kd.Q_far (p := ⟨gb228, 3, none⟩) (Kd.Q_far (p := ⟨gb228, 2, none⟩) (Kd.Q_far (p := ⟨gb228, 1, none⟩) (Kd.Q_far (p := ⟨gb228, 0, none⟩) (Kd.Q_far (p := ⟨gb227, 3, none⟩) (Kd.Q_types (Kd.Q_types HO238.out BK227.out (by decide)) BK228.out (by decide)) (fun _ hk => hk.1.2) (.slice A29 y236.length c29)) (fun _ hk => hk.2) (.int .i64 a1_0)) (fun _ hk => hk.2) (.int .i64 a1_1)) (fun _ hk => hk.2) (.int .i64 a1_2)) (fun _ hk => hk.2) (.slice A29 y236.length c29)) (fun _ hk => hk.1.1), iS72 HI0.out, wS72 HB.out, kP HK.out⟩
 rw [if_neg c20] at H
 have c20b0 : (t229 == 1) = false := beq_eq_false_iff_ne.mpr c20
 have c20b1 : (t229 != 1) = true := bne_iff_ne.mpr c20
 by_cases c32 : t229 = 2
 rotate_left
 ·rw [if_neg c32] at H
  have c32b0 : (t229 == 2) = false := beq_eq_false_iff_ne.mpr c32
  have c32b1 : (t229 != 2) = true := bne_iff_ne.mpr c32
  by_cases c52 : t229 = 3
  rotate_left
  ·rw [if_neg c52] at H
   have c52b0 : (t229 == 3) = false := beq_eq_false_iff_ne.mpr c52
   have c52b1 : (t229 != 3) = true := bne_iff_ne.mpr c52
   simp only [Option.some.injEq, Prod.mk.injEq] at H
   obtain ⟨rfl, rfl, rfl, rfl, rfl⟩ := H
   obtain ⟨Ao67, co67, rfl⟩ := sL HO1_3
   go_enter Try.func59, Try.ntmps59
   go_wp2_with (first | ((with_reducible refine gate_dst (N := 3) rfl ?_); refine bxE (N := 3) (cs := #[.int .i64 a1_0, .int .i64 a1_1, .int .i64 a1_2, .slice Ao67 l1_3.length co67]) (t := 26) ?_; intro gb227 hg w68 hbox hb; replace HO1_3 := aM (Kd.R_below (qR HO1_3.out) hb); have BK227 := aM (hbox); have GW227 := aM ((by rw [hg]; exact (by first | exact HK.out.1 | exact (show Kept w _ (fun k_ => (P1_3_ k_) ∨ k_ = g) from kP HK.out).1) : w.heap.size ≤ gb227)); replace HK := aM (Kept.below (S := (fun k_ => (P1_3_ k_) ∨ k_ = g)) (kP HK.out) hb); have GE227 := aM ((by rw [hg]; exact (below_size (wS72 HB.out)) : w0.heap.size ≤ gb227)); replace HB := aM (below_step (wS72 HB.out) hb); have NB0_227 := aM ((by rw [hg]; exact Nat.ne_of_lt (IsS72.lt (show IsS72 w0 _ g s0_0 s0_1 from iS72 HI0.out)) : g ≠ gb227)); have NB227_0 := aM ((by rw [hg]; exact Nat.ne_of_gt (IsS72.lt (show IsS72 w0 _ g s0_0 s0_1 from iS72 HI0.out)) : gb227 ≠ g)); replace HI0 := aM (IsS72.below (iS72 HI0.out) hb); clear hb hbox hg) | ((with_reducible refine gate_dst (N := 4) rfl ?_); refine bxE (N := 4) (cs := #[.int .i64 0, .int .i64 0, .int .i64 0, .slice none 0 0]) (t := 26) ?_; intro gb228 hg w69 hbox hb; replace HO1_3 := aM (Kd.R_below (qR HO1_3.out) hb); have BK228 := aM (hbox); have GW228 := aM ((by rw [hg]; exact (by first | exact HK.out.1 | exact (show Kept w _ (fun k_ => (P1_3_ k_) ∨ k_ = g) from kP HK.out).1) : w.heap.size ≤ gb228)); replace HK := aM (Kept.below (S := (fun k_ => (P1_3_ k_) ∨ k_ = g)) (kP HK.out) hb); have GE228 := aM ((by rw [hg]; exact (below_size (wS72 HB.out)) : w0.heap.size ≤ gb228)); replace HB := aM (below_step (wS72 HB.out) hb); have NB227_228 := nL hg BK227; have NB228_227 := nG hg BK227; replace BK227 := bB BK227 hb; have NB0_228 := aM ((by rw [hg]; exact Nat.ne_of_lt (IsS72.lt (show IsS72 w0 _ g s0_0 s0_1 from iS72 HI0.out)) : g ≠ gb228)); have NB228_0 := aM ((by rw [hg]; exact Nat.ne_of_gt (IsS72.lt (show IsS72 w0 _ g s0_0 s0_1 from iS72 HI0.out)) : gb228 ≠ g)); replace HI0 := aM (IsS72.below (iS72 HI0.out) hb); clear hb hbox hg) | ((with_reducible refine gate_callee (f := 57) rfl ?_); refine gL (some 6) Try.func57 #[.pointer (some ⟨g, 0, none⟩), .int .i64 40] ?_; (with_reducible refine (spec_reader_pick.calls k g s0_0 s0_1 40 t229 t230 w0 _ ?side1 ?side2 A3.out).mono ?_); (case side1 => exact iS72 HI0.out); (case side2 => exact wS72 HB.out); rintro e w70 ⟨rfl, hi, hb, hk⟩; refine ⟨_, rfl, ?_⟩; replace HO1_3 := aM (Kd.R_mono (Kd.R_keep (IsS72.apart (show IsS72 w0 _ g s0_0 s0_1 from iS72 HI0.out) (qR HO1_3.out) (by decide)) hk (fun _ h => h.2)) (fun _ h => h.1)); replace BK227 := bK hk BK227 NB227_0; replace BK228 := bK hk BK228 NB228_0; replace HK := aM (Kept.of_keep (S := (fun k_ => (P1_3_ k_) ∨ k_ = g)) (kP HK.out) hk (.inl (.inr rfl))); replace HB := aM (hb); replace HI0 := aM (hi); clear hb hk hi; have hnb71 := NB227_228.out; have hnc71 := NB228_227.out; have hnb72 := NB227_0.out; have hnc72 := NB0_227.out; obtain ⟨⟨hcz73_0, hcz73_1, hcz73_2, hcz73_3⟩, hfz73_0, hfz73_1, hfz73_2, hfz73_3⟩ := cf4 BK227; have hnb74 := NB228_0.out; have hnc74 := NB0_228.out; obtain ⟨⟨hcz75_0, hcz75_1, hcz75_2, hcz75_3⟩, hfz75_0, hfz75_1, hfz75_2, hfz75_3⟩ := cf4 BK228))
   refine bodyPost_ret (results_cell_row rfl _ _ gb228 26 #[.int .i64 a1_0, .int .i64 a1_1, .int .i64 a1_2, .slice Ao67 l1_3.length co67] (0, 0) _ rfl (by exact bP BK228.out) Try.underlying26 rfl (by kernel_rfl)) rfl ?_
   exact ⟨_, qX, Kd.Q_of_R (by refine qR ?_; exact Kd.R_mono (rT HO1_3 BK228) (fun _ hk => hk.1)), iS72 HI0.out, wS72 HB.out, kP HK.out⟩
  rw [if_pos c52] at H
  have c52b0 : (t229 == 3) = true := beq_iff_eq.mpr c52
  have c52b1 : (t229 != 3) = false := bne_eq_false_iff_eq.mpr c52
  clear c52
  obtain ⟨y245, hy245⟩ : ∃ y_ : List Int, y_ = (([0, 5] : List Int)) := ⟨_, rfl⟩
  replace H : ((spec_reader_one.f k s0_0 t230 y245).bind fun bt248 => (some (a1_0, a1_1, bt248.1, l1_3, bt248.2))) = some (r1, r2, r3, r4, r5) := rY hy245 H
  have Ny245 := aM hy245
  clear hy245
  replace H := Option.bind_eq_some_iff.mp H
  obtain ⟨⟨t248, t249⟩, A530, H⟩ := H
  replace H : (some (a1_0, a1_1, t248, l1_3, t249)) = some (r1, r2, r3, r4, r5) := H
  have A53 := aM A530
  clear A530
  simp only [Option.some.injEq, Prod.mk.injEq] at H
  obtain ⟨rfl, rfl, rfl, rfl, rfl⟩ := H
  obtain ⟨Ao54, co54, rfl⟩ := sL HO1_3
  go_enter Try.func59, Try.ntmps59
  go_wp2_with (first | ((with_reducible refine gate_dst (N := 3) rfl ?_); refine bxE (N := 3) (cs := #[.int .i64 a1_0, .int .i64 a1_1, .int .i64 a1_2, .slice Ao54 l1_3.length co54]) (t := 26) ?_; intro gb227 hg w55 hbox hb; replace HO1_3 := aM (Kd.R_below (qR HO1_3.out) hb); have BK227 := aM (hbox); have GW227 := aM ((by rw [hg]; exact (by first | exact HK.out.1 | exact (show Kept w _ (fun k_ => (P1_3_ k_) ∨ k_ = g) from kP HK.out).1) : w.heap.size ≤ gb227)); replace HK := aM (Kept.below (S := (fun k_ => (P1_3_ k_) ∨ k_ = g)) (kP HK.out) hb); have GE227 := aM ((by rw [hg]; exact (below_size (wS72 HB.out)) : w0.heap.size ≤ gb227)); replace HB := aM (below_step (wS72 HB.out) hb); have NB0_227 := aM ((by rw [hg]; exact Nat.ne_of_lt (IsS72.lt (show IsS72 w0 _ g s0_0 s0_1 from iS72 HI0.out)) : g ≠ gb227)); have NB227_0 := aM ((by rw [hg]; exact Nat.ne_of_gt (IsS72.lt (show IsS72 w0 _ g s0_0 s0_1 from iS72 HI0.out)) : gb227 ≠ g)); replace HI0 := aM (IsS72.below (iS72 HI0.out) hb); clear hb hbox hg) | ((with_reducible refine gate_dst (N := 4) rfl ?_); refine bxE (N := 4) (cs := #[.int .i64 0, .int .i64 0, .int .i64 0, .slice none 0 0]) (t := 26) ?_; intro gb228 hg w56 hbox hb; replace HO1_3 := aM (Kd.R_below (qR HO1_3.out) hb); have BK228 := aM (hbox); have GW228 := aM ((by rw [hg]; exact (by first | exact HK.out.1 | exact (show Kept w _ (fun k_ => (P1_3_ k_) ∨ k_ = g) from kP HK.out).1) : w.heap.size ≤ gb228)); replace HK := aM (Kept.below (S := (fun k_ => (P1_3_ k_) ∨ k_ = g)) (kP HK.out) hb); have GE228 := aM ((by rw [hg]; exact (below_size (wS72 HB.out)) : w0.heap.size ≤ gb228)); replace HB := aM (below_step (wS72 HB.out) hb); have NB227_228 := nL hg BK227; have NB228_227 := nG hg BK227; replace BK227 := bB BK227 hb; have NB0_228 := aM ((by rw [hg]; exact Nat.ne_of_lt (IsS72.lt (show IsS72 w0 _ g s0_0 s0_1 from iS72 HI0.out)) : g ≠ gb228)); have NB228_0 := aM ((by rw [hg]; exact Nat.ne_of_gt (IsS72.lt (show IsS72 w0 _ g s0_0 s0_1 from iS72 HI0.out)) : gb228 ≠ g)); replace HI0 := aM (IsS72.below (iS72 HI0.out) hb); clear hb hbox hg) | ((with_reducible refine gate_callee (f := 57) rfl ?_); refine gL (some 6) Try.func57 #[.pointer (some ⟨g, 0, none⟩), .int .i64 40] ?_; (with_reducible refine (spec_reader_pick.calls k g s0_0 s0_1 40 t229 t230 w0 _ ?side1 ?side2 A3.out).mono ?_); (case side1 => exact iS72 HI0.out); (case side2 => exact wS72 HB.out); rintro e w57 ⟨rfl, hi, hb, hk⟩; refine ⟨_, rfl, ?_⟩; replace HO1_3 := aM (Kd.R_mono (Kd.R_keep (IsS72.apart (show IsS72 w0 _ g s0_0 s0_1 from iS72 HI0.out) (qR HO1_3.out) (by decide)) hk (fun _ h => h.2)) (fun _ h => h.1)); replace BK227 := bK hk BK227 NB227_0; replace BK228 := bK hk BK228 NB228_0; replace HK := aM (Kept.of_keep (S := (fun k_ => (P1_3_ k_) ∨ k_ = g)) (kP HK.out) hk (.inl (.inr rfl))); replace HB := aM (hb); replace HI0 := aM (hi); clear hb hk hi) | ((with_reducible refine gate_dst (N := 33) rfl ?_); refine iL ([0, 5] : List Int) [.int .i64 0, .int .i64 5] ?_; intro v246 w58 ho59 hb hg_ hnew_; clear hg_ hnew_; (first | rw [← Ny245.out] at ho59 | (simp only [Int.reduceToNat] at ho59; rw [← Ny245.out] at ho59)); have HO247 := aM (Kd.R_lower (Kd.R_new' (Kd.R_newM (M := fun k_ => (P1_3_ k_ ∨ w.heap.size ≤ k_)) ho59 (by first | exact HK.out.1 | exact (show Kept w _ (fun k_ => (P1_3_ k_) ∨ k_ = g) from kP HK.out).1) (fun k_ h_ => .inr h_)) (Kd.R_lt (qR HO1_3.out))) (below_size (wS72 HB.out))); replace HO1_3 := aM (Kd.R_elder' (qR HO1_3.out) (Kd.R_base ho59) hb); replace BK227 := bB BK227 hb; replace BK228 := bB BK228 hb; replace HK := aM (Kept.below (S := (fun k_ => (P1_3_ k_) ∨ k_ = g)) (kP HK.out) hb); replace HB := aM (below_step (wS72 HB.out) hb); replace HI0 := aM (IsS72.below (iS72 HI0.out) hb); clear hb ho59; obtain ⟨Ao60, co60, rfl⟩ := sL HO247) | ((with_reducible refine gate_callee (f := 81) rfl ?_); refine gL (some 34) Try.func81 #[.pointer (some ⟨g, 0, none⟩), .slice Ao60 y245.length co60] ?_; (with_reducible refine (spec_reader_one.calls k g s0_0 t230 _ _ y245 t248 t249 w0 _ ?side1 ?side2 ?side3 ?side4 ?side5 A53.out).mono ?_); (case side1 => exact iS72 HI0.out); (case side2 => exact wS72 HB.out); (case side3 => exact qC (Kd.R_reads' HO247.out).2.2); (case side4 => exact (Kd.R_reads' HO247.out).2.1); (case side5 => exact far_slice (IsS72.own_ne HI0.out HO247.out (by decide))); rintro e w61 ⟨rfl, hi, hb, hk⟩; refine ⟨_, rfl, ?_⟩; replace HO1_3 := aM (Kd.R_mono (Kd.R_keep (IsS72.apart (show IsS72 w0 _ g s0_0 t230 from iS72 HI0.out) (qR HO1_3.out) (by decide)) hk (fun _ h => h.2)) (fun _ h => h.1)); replace BK227 := bK hk BK227 NB227_0; replace BK228 := bK hk BK228 NB228_0; replace HO247 := aM (Kd.R_mono (Kd.R_keep (IsS72.apart (show IsS72 w0 _ g s0_0 t230 from iS72 HI0.out) (qR HO247.out) (by decide)) hk (fun _ h => h.2)) (fun _ h => h.1)); replace HK := aM (Kept.of_keep (S := (fun k_ => (P1_3_ k_) ∨ k_ = g)) (kP HK.out) hk (.inl (.inr rfl))); replace HB := aM (hb); replace HI0 := aM (hi); clear hb hk hi; have hnb62 := NB227_228.out; have hnc62 := NB228_227.out; have hnb63 := NB227_0.out; have hnc63 := NB0_227.out; obtain ⟨⟨hcz64_0, hcz64_1, hcz64_2, hcz64_3⟩, hfz64_0, hfz64_1, hfz64_2, hfz64_3⟩ := cf4 BK227; have hnb65 := NB228_0.out; have hnc65 := NB0_228.out; obtain ⟨⟨hcz66_0, hcz66_1, hcz66_2, hcz66_3⟩, hfz66_0, hfz66_1, hfz66_2, hfz66_3⟩ := cf4 BK228))
  refine bodyPost_ret (results_cell_row rfl _ _ gb228 26 #[.int .i64 a1_0, .int .i64 a1_1, .int .i64 t248, .slice Ao54 l1_3.length co54] (0, 0) _ rfl (by refine qB ?_; refine blk_put (cs := #[.int .i64 a1_0, .int .i64 a1_1, .int .i64 t248, .slice none 0 0]) ?_ 3 _ rfl; refine qB ?_; refine blk_put (cs := #[.int .i64 a1_0, .int .i64 a1_1, .int .i64 0, .slice none 0 0]) ?_ 2 _ rfl; refine qB ?_; refine blk_put (cs := #[.int .i64 a1_0, .int .i64 0, .int .i64 0, .slice none 0 0]) ?_ 1 _ rfl; refine qB ?_; refine blk_put (cs := #[.int .i64 0, .int .i64 0, .int .i64 0, .slice none 0 0]) ?_ 0 _ rfl; refine qB ?_; refine blk_far ?_ NB228_227.out _; refine qB ?_; exact BK228.out) Try.underlying26 rfl (by kernel_rfl)) rfl ?_
  exact ⟨_, qX, Kd.Q_of_R (by refine qR ?_; exact Kd.R_mono (Kd.R_far (p := ⟨gb228, 3, none⟩) (Kd.R_far (p := ⟨gb228, 2, none⟩) (Kd.R_far (p := ⟨gb228, 1, none⟩) (Kd.R_far (p := ⟨gb228, 0, none⟩) (Kd.R_far (p := ⟨gb227, 2, none⟩) (Kd.R_types (Kd.R_types HO1_3.out BK227.out (by decide)) BK228.out (by decide)) (fun _ hk => hk.1.2) (.int .i64 t248)) (fun _ hk => hk.2) (.int .i64 a1_0)) (fun _ hk => hk.2) (.int .i64 a1_1)) (fun _ hk => hk.2) (.int .i64 t248)) (fun _ hk => hk.2) (.slice Ao54 l1_3.length co54)) (fun _ hk => hk.1.1.1)), iS72 HI0.out, wS72 HB.out, kP HK.out⟩
 rw [if_pos c32] at H
 have c32b0 : (t229 == 2) = true := beq_iff_eq.mpr c32
 have c32b1 : (t229 != 2) = false := bne_eq_false_iff_eq.mpr c32
 clear c32
 obtain ⟨y239, hy239⟩ : ∃ y_ : List Int, y_ = (([(-1), 256] : List Int)) := ⟨_, rfl⟩
 replace H : ((spec_reader_one.f k s0_0 t230 y239).bind fun bt242 => (if 0 < (l1_3.length : Int) then (some (a1_0, a1_1, a1_2, (l1_3.set (0 : Int).toNat bt242.1), bt242.2)) else (none))) = some (r1, r2, r3, r4, r5) := rY hy239 H
 have Ny239 := aM hy239
 clear hy239
 replace H := Option.bind_eq_some_iff.mp H
 obtain ⟨⟨t242, t243⟩, A330, H⟩ := H
 replace H : (if 0 < (l1_3.length : Int) then (some (a1_0, a1_1, a1_2, (l1_3.set (0 : Int).toNat t242), t243)) else (none)) = some (r1, r2, r3, r4, r5) := H
 have A33 := aM A330
 clear A330
 replace H := iS H
 obtain ⟨c34, H⟩ := H
 have c34b0 : decide (0 < (l1_3.length : Int)) = true := decide_eq_true c34
 have c34b1 : decide (0 < l1_3.length) = true := decide_eq_true (by omega)
 clear c34
 obtain ⟨y244, hy244⟩ : ∃ y_ : List Int, y_ = (l1_3.set (0 : Int).toNat t242) := ⟨_, rfl⟩
 replace H : (some (a1_0, a1_1, a1_2, y244, t243)) = some (r1, r2, r3, r4, r5) := rY hy244 H
 have Ny244 := aM hy244
 clear hy244
 simp only [Option.some.injEq, Prod.mk.injEq] at H
 obtain ⟨rfl, rfl, rfl, rfl, rfl⟩ := H
 obtain ⟨Ao36, co36, rfl⟩ := sL HO1_3
 go_enter Try.func59, Try.ntmps59
 try go_wp2_with (first | ((with_reducible refine gate_dst (N := 3) rfl ?_); refine bxE (N := 3) (cs := #[.int .i64 a1_0, .int .i64 a1_1, .int .i64 a1_2, .slice Ao36 l1_3.length co36]) (t := 26) ?_; intro gb227 hg w37 hbox hb; replace HO1_3 := aM (Kd.R_below (qR HO1_3.out) hb); have BK227 := aM (hbox); have GW227 := aM ((by rw [hg]; exact (by first | exact HK.out.1 | exact (show Kept w _ (fun k_ => (P1_3_ k_) ∨ k_ = g) from kP HK.out).1) : w.heap.size ≤ gb227)); replace HK := aM (Kept.below (S := (fun k_ => (P1_3_ k_) ∨ k_ = g)) (kP HK.out) hb); have GE227 := aM ((by rw [hg]; exact (below_size (wS72 HB.out)) : w0.heap.size ≤ gb227)); replace HB := aM (below_step (wS72 HB.out) hb); have NB0_227 := aM ((by rw [hg]; exact Nat.ne_of_lt (IsS72.lt (show IsS72 w0 _ g s0_0 s0_1 from iS72 HI0.out)) : g ≠ gb227)); have NB227_0 := aM ((by rw [hg]; exact Nat.ne_of_gt (IsS72.lt (show IsS72 w0 _ g s0_0 s0_1 from iS72 HI0.out)) : gb227 ≠ g)); replace HI0 := aM (IsS72.below (iS72 HI0.out) hb); clear hb hbox hg) | ((with_reducible refine gate_dst (N := 4) rfl ?_); refine bxE (N := 4) (cs := #[.int .i64 0, .int .i64 0, .int .i64 0, .slice none 0 0]) (t := 26) ?_; intro gb228 hg w38 hbox hb; replace HO1_3 := aM (Kd.R_below (qR HO1_3.out) hb); have BK228 := aM (hbox); have GW228 := aM ((by rw [hg]; exact (by first | exact HK.out.1 | exact (show Kept w _ (fun k_ => (P1_3_ k_) ∨ k_ = g) from kP HK.out).1) : w.heap.size ≤ gb228)); replace HK := aM (Kept.below (S := (fun k_ => (P1_3_ k_) ∨ k_ = g)) (kP HK.out) hb); have GE228 := aM ((by rw [hg]; exact (below_size (wS72 HB.out)) : w0.heap.size ≤ gb228)); replace HB := aM (below_step (wS72 HB.out) hb); have NB227_228 := nL hg BK227; have NB228_227 := nG hg BK227; replace BK227 := bB BK227 hb; have NB0_228 := aM ((by rw [hg]; exact Nat.ne_of_lt (IsS72.lt (show IsS72 w0 _ g s0_0 s0_1 from iS72 HI0.out)) : g ≠ gb228)); have NB228_0 := aM ((by rw [hg]; exact Nat.ne_of_gt (IsS72.lt (show IsS72 w0 _ g s0_0 s0_1 from iS72 HI0.out)) : gb228 ≠ g)); replace HI0 := aM (IsS72.below (iS72 HI0.out) hb); clear hb hbox hg) | ((with_reducible refine gate_callee (f := 57) rfl ?_); refine gL (some 6) Try.func57 #[.pointer (some ⟨g, 0, none⟩), .int .i64 40] ?_; (with_reducible refine (spec_reader_pick.calls k g s0_0 s0_1 40 t229 t230 w0 _ ?side1 ?side2 A3.out).mono ?_); (case side1 => exact iS72 HI0.out); (case side2 => exact wS72 HB.out); rintro e w39 ⟨rfl, hi, hb, hk⟩; refine ⟨_, rfl, ?_⟩; replace HO1_3 := aM (Kd.R_mono (Kd.R_keep (IsS72.apart (show IsS72 w0 _ g s0_0 s0_1 from iS72 HI0.out) (qR HO1_3.out) (by decide)) hk (fun _ h => h.2)) (fun _ h => h.1)); replace BK227 := bK hk BK227 NB227_0; replace BK228 := bK hk BK228 NB228_0; replace HK := aM (Kept.of_keep (S := (fun k_ => (P1_3_ k_) ∨ k_ = g)) (kP HK.out) hk (.inl (.inr rfl))); replace HB := aM (hb); replace HI0 := aM (hi); clear hb hk hi))
 replace HO1_3 := aM (Kd.R_drew HO1_3.out)
 replace BK227 := aM (blk_drew BK227.out)
 replace BK228 := aM (blk_drew BK228.out)
 replace HI0 := aM (IsS72.drew HI0.out)
 replace HK := aM (Kept.drew HK.out)
 replace HB := aM (below_drew1 HB.out)
 refine start_ (n := 7) (S := fun w' => w'.cell? ⟨gb227, 0, none⟩ = some (.int .i64 a1_0) ∧ w'.cell? ⟨gb227, 1, none⟩ = some (.int .i64 a1_1) ∧ w'.cell? ⟨gb227, 2, none⟩ = some (.int .i64 a1_2) ∧ w'.cell? ⟨gb227, 3, none⟩ = some (.slice Ao36 l1_3.length co36)) (ds := [6]) (bA 7 0) (by kernel_rfl) rfl rfl ⟨(blk_cell BK227.out 0).trans rfl, (blk_cell BK227.out 1).trans rfl, (blk_cell BK227.out 2).trans rfl, (blk_cell BK227.out 3).trans rfl⟩ (fun hHeld => ?_)
 generalize w39.drew = w40 at HO1_3 BK227 BK228 HI0 HK HB hHeld ⊢
 refine pure_ (i := 0) (N := some 24) (v := ?_) (a' := ?_) (bA 7 1) rfl rfl (by kernel_rfl) (fun _ _ _ h => h) (Or.inl ⟨by rfl, ?_⟩) ?_ ?_
 rotate_left
 ·intro w'
  go_simp
  with_reducible rfl
 rotate_left
 ·refine pZ ?_
  rfl
 refine pure_ (i := 2) (N := some 26) (v := ?_) (a' := ?_) (bA 7 5) rfl rfl (by kernel_rfl) (fun _ _ _ h => h) (Or.inl ⟨by rfl, ?_⟩) ?_ ?_
 rotate_left
 ·intro w'
  go_simp
  with_reducible rfl
 rotate_left
 ·refine pZ ?_
  rfl
 refine take_ (i := 1) (N := some 25) (v := ?_) (a' := ?_) (bA 7 7) rfl rfl (by kernel_rfl) (fun _ _ _ h => h) (Or.inl ⟨by rfl, ?_⟩) hHeld ?_ ?_
 rotate_left
 ·rintro w' ⟨s0, s1, s2, s3⟩
  go_simp
  with_reducible rfl
 rotate_left
 ·refine pZ ?_
  rfl
 refine one_ (i := 3) (N := some 27) (bA 7 15) rfl rfl (by kernel_rfl) (by decide) (fun K hK => ?_)
 refine Kd.R_lit_step (Kd.int .i64) _ 3 ?hg (N := 27) ?hd (xs := ([(-1), 256] : List Int)) (inner := [.int .i64 (-1), .int .i64 256]) (ok := fun _ => True) (okp := fun _ => True) ?hr ?hp (fun _ hk => hk) trivial (Below.refl _ _) (Nat.le_refl _) (by simp) ?_; (case hd => rfl); (case hg => rfl); (case hr => first | (go_simp; done) | (go_simp; rfl)); (case hp => exact (Reps.one (show Kd.M (Kd.int .i64) _ _ _ (-1) [.int .i64 (-1)] from rfl) (Reps.one (show Kd.M (Kd.int .i64) _ _ _ 256 [.int .i64 256] from rfl) (Reps.none _ _))))
 intro v240 w41 ho42 hb hg_ hnew_
 clear hg_ hnew_
 (first | rw [← Ny239.out] at ho42 | (simp only [Int.reduceToNat] at ho42; rw [← Ny239.out] at ho42))
 have HO241 := aM (Kd.R_lower (Kd.R_new' (Kd.R_newM (M := fun k_ => (P1_3_ k_ ∨ w.heap.size ≤ k_)) ho42 (by first | exact HK.out.1 | exact (show Kept w _ (fun k_ => (P1_3_ k_) ∨ k_ = g) from kP HK.out).1) (fun k_ h_ => .inr h_)) (Kd.R_lt (qR HO1_3.out))) (below_size (wS72 HB.out)))
 replace HO1_3 := aM (Kd.R_elder' (qR HO1_3.out) (Kd.R_base ho42) hb)
 replace BK227 := bB BK227 hb
 replace BK228 := bB BK228 hb
 replace HK := aM (Kept.below (S := (fun k_ => (P1_3_ k_) ∨ k_ = g)) (kP HK.out) hb)
 replace HB := aM (below_step (wS72 HB.out) hb)
 replace HI0 := aM (IsS72.below (iS72 HI0.out) hb)
 clear hb ho42
 obtain ⟨Ao43, co43, eo43⟩ := Kd.R_slice HO241.out
 (first | subst eo43 | (injection eo43 with f1_ f2_ f3_; have f4_ := f1_.symm; have f5_ := f3_.symm; clear f1_ f2_ f3_; subst f4_; subst f5_))
 refine hK.out _ _ ⟨(blk_cell BK227.out 0).trans rfl, (blk_cell BK227.out 1).trans rfl, (blk_cell BK227.out 2).trans rfl, (blk_cell BK227.out 3).trans rfl⟩ (fun hHeld => ?_)
 clear hK K
 refine norm_ (a' := ?_) ?_ ?_
 rotate_left
 ·show Act.put _ (some 27) _ = _
  refine pZ ?_
  rfl
 refine one_ (i := 4) (N := some 28) (bA 7 31) rfl rfl (by kernel_rfl) (by decide) (fun K hK => ?_)
 refine goes_ Try.func81 (by kernel_rfl) rfl #[.pointer (some ⟨g, 0, none⟩), .slice Ao43 y239.length co43] (by rfl) rfl rfl qM ?_
 with_reducible refine (spec_reader_one.calls k g s0_0 t230 _ _ y239 t242 t243 w0 _ ?side1 ?side2 ?side3 ?side4 ?side5 A33.out).mono ?_
 (case side1 => exact iS72 HI0.out)
 (case side2 => exact wS72 HB.out)
 (case side3 => exact qC (Kd.R_reads' HO241.out).2.2)
 (case side4 => exact (Kd.R_reads' HO241.out).2.1)
 (case side5 => exact far_slice (IsS72.own_ne HI0.out HO241.out (by decide)))
 rintro e w44 ⟨rfl, hi, hb, hk⟩
 refine ⟨_, rfl, ?_⟩
 replace HO1_3 := aM (Kd.R_mono (Kd.R_keep (IsS72.apart (show IsS72 w0 _ g s0_0 t230 from iS72 HI0.out) (qR HO1_3.out) (by decide)) hk (fun _ h => h.2)) (fun _ h => h.1))
 replace BK227 := bK hk BK227 NB227_0
 replace BK228 := bK hk BK228 NB228_0
 replace HO241 := aM (Kd.R_mono (Kd.R_keep (IsS72.apart (show IsS72 w0 _ g s0_0 t230 from iS72 HI0.out) (qR HO241.out) (by decide)) hk (fun _ h => h.2)) (fun _ h => h.1))
 replace HK := aM (Kept.of_keep (S := (fun k_ => (P1_3_ k_) ∨ k_ = g)) (kP HK.out) hk (.inl (.inr rfl)))
 replace HB := aM (hb)
 replace HI0 := aM (hi)
 (try clear hb)
 (try clear hb2)
 (try clear hk)
 (try clear hi)
 have p35 : 0 ≤ (0 : Int) := (by omega)
 have q35 : (0 : Int) < ((l1_3.length : Int) : Int) := oD
 have qi35 : (0 < l1_3.length) = True := eq_true (by omega)
 obtain ⟨go35, co35, eo35, gb35, gl35, cl35, HG35⟩ := Kd.R_form HO1_3.out (by omega)
 (first | cases eo35 | (injection eo35 with ea_ en_ ec_; (first | subst ea_ | (injection ea_ with ea_; subst ea_)); subst ec_; clear en_))
 have GB35 := aM gb35
 have GG35 := aM HG35
 clear gb35 gl35 HG35
 have HMgo35 := aM (show (P1_3_ go35 ∨ w.heap.size ≤ go35) from (HO1_3.out.1 _ rfl).1)
 obtain ⟨hx35_0, hf35_0⟩ := Kd.R_celln 0 HO1_3.out (0 : Int) p35 q35
 (try rw [show ((0 : Int)).toNat = 0 from rfl] at hx35_0)
 (try simp only [Nat.reduceMul, Nat.zero_mul, Nat.zero_add, Nat.reduceAdd] at hx35_0)
 (try rw [show ((0 : Int)).toNat = 0 from rfl] at hf35_0)
 (try simp only [Nat.reduceMul, Nat.zero_mul, Nat.zero_add, Nat.reduceAdd] at hf35_0)
 replace p35 := eq_true p35
 replace q35 := eq_true q35
 have HN0_go35 := aM (show g ≠ go35 from by have h_ := IsS72.own_ne HI0.out HO1_3.out (by decide); intro e_; exact h_ (by rw [e_]; rfl))
 have HP45 := Kd.R_putn HO1_3.out (0 : Int) t242
 rw [← Ny244.out] at HP45
 have HQ45 := aM HP45
 clear HP45
 refine hK.out _ _ ⟨(blk_cell BK227.out 0).trans rfl, (blk_cell BK227.out 1).trans rfl, (blk_cell BK227.out 2).trans rfl, (blk_cell BK227.out 3).trans rfl⟩ (fun hHeld => ?_)
 clear hK K
 refine norm_ (a' := ?_) ?_ ?_
 rotate_left
 ·show Act.put _ (some 28) _ = _
  refine pZ ?_
  rfl
 refine pure_ (i := 5) (N := some 29) (v := ?_) (a' := ?_) (bA 7 63) rfl rfl (by kernel_rfl) (fun _ _ _ h => h) (Or.inl ⟨by rfl, ?_⟩) ?_ ?_
 rotate_left
 ·intro w'
  go_simp
  with_reducible rfl
 rotate_left
 ·refine pZ ?_
  rfl
 refine last_ (i := 6) (N := none) (bA 7 127) rfl rfl (by kernel_rfl) (by decide) (fun K hK => ?_)
 refine skip_ (w1 := ?_) (by rfl) rfl ?_ ?_
 rotate_left
 ·go_simp
  rfl
 refine hK.out _ _ ?_
 clear hK K
 refine done_ (by kernel_rfl) ?_
 have n0_ : Aside0 (Kd.R (Kd.int .i64) 3 (w44.setCell ⟨go35, 0, none⟩ (.int .i64 t242)) w0.heap.size (fun k_ => (P1_3_ k_ ∨ w.heap.size ≤ k_) ∧ some k_ ≠ (.slice Ao43 y239.length co43 : Value).ownBlock) (.slice (some ⟨go35, 0, none⟩) l1_3.length co36) y244) := ⟨by refine qR ?_; exact HQ45.out⟩
 have n1_ : Aside0 (Kd.R (Kd.int .i64) 3 (w44.setCell ⟨go35, 0, none⟩ (.int .i64 t242)) w0.heap.size (fun k_ => (P1_3_ k_ ∨ w.heap.size ≤ k_) ∧ some k_ ≠ (.slice (some ⟨go35, 0, none⟩) l1_3.length co36 : Value).ownBlock) (.slice Ao43 y239.length co43) y239) := ⟨by refine qR ?_; exact Kd.R_mono (Kd.R_far (p := ⟨go35, 0, none⟩) (Kd.R_mono HO241.out (fun k_ hk => (⟨hk, fun e_ => hk.2 (by rw [e_]; rfl)⟩ : _ ∧ k_ ≠ go35))) (fun _ hk => hk.2) (.int .i64 t242)) (fun _ hk => by first | exact ⟨hk.1.1.1, hk.1.2⟩ | (revert hk; simp only [and_imp]; intros; and_intros <;> assumption))⟩
 have n2_ : Aside0 ((w44.setCell ⟨go35, 0, none⟩ (.int .i64 t242)).heap[gb227]? = some (.cells #[.int .i64 a1_0, .int .i64 a1_1, .int .i64 a1_2, .slice (some ⟨go35, 0, none⟩) l1_3.length co36] 26 (0, 0))) := ⟨by refine qB ?_; refine blk_far ?_ (by have h_ := Kd.R_ne HO1_3.out BK227.out (by decide); intro e_; exact h_ (by rw [e_]; rfl)) _; refine qB ?_; exact BK227.out⟩
 have n3_ : Aside0 ((w44.setCell ⟨go35, 0, none⟩ (.int .i64 t242)).heap[gb228]? = some (.cells #[.int .i64 0, .int .i64 0, .int .i64 0, .slice none 0 0] 26 (0, 0))) := ⟨by refine qB ?_; refine blk_far ?_ (by have h_ := Kd.R_ne HO1_3.out BK228.out (by decide); intro e_; exact h_ (by rw [e_]; rfl)) _; refine qB ?_; exact BK228.out⟩
 have n4_ : Aside0 (IsS72 w0 (w44.setCell ⟨go35, 0, none⟩ (.int .i64 t242)) g s0_0 t243) := ⟨by repeat (first | (with_reducible first | exact HI0.out | apply IsS72.alloc | apply IsS72.drewN | apply IsS72.drew | apply IsS72.set_1 | refine IsS72.far ?_ HN0_go35.out _ | refine IsS72.far ?_ NB0_227.out _ | refine IsS72.far ?_ NB0_228.out _) | exact HI0.out)⟩
 have n5_ : Aside0 (Kept w (w44.setCell ⟨go35, 0, none⟩ (.int .i64 t242)) (fun k_ => (P1_3_ k_) ∨ k_ = g)) := ⟨by repeat (first | (with_reducible first | exact HK.out | apply Kept.alloc | apply Kept.drewN | apply Kept.drew | refine Kept.setCell ?_ (Or.imp_left Or.inl HMgo35.out) _ | refine Kept.setCell ?_ (.inl (.inr rfl)) _ | refine Kept.setCell ?_ (.inr GW227.out) _ | refine Kept.setCell ?_ (.inr GW228.out) _) | exact HK.out)⟩
 have n6_ : Aside0 (Below w0.heap.size w0 (w44.setCell ⟨go35, 0, none⟩ (.int .i64 t242))) := ⟨wS72 HB.out⟩
 (try clear HO1_3)
 (try clear HO241)
 (try clear BK227)
 (try clear BK228)
 (try clear HI0)
 (try clear HK)
 (try clear HB)
 generalize (w44.setCell ⟨go35, 0, none⟩ (.int .i64 t242)) = w46 at n0_ n1_ n2_ n3_ n4_ n5_ n6_ ⊢
 have HO1_3 := n0_
 have HO241 := n1_
 have BK227 := n2_
 have BK228 := n3_
 have HI0 := n4_
 have HK := n5_
 have HB := n6_
 clear n0_ n1_ n2_ n3_ n4_ n5_ n6_
 have hnb47 := NB227_228.out
 have hnc47 := NB228_227.out
 have hnb48 := NB227_0.out
 have hnc48 := NB0_227.out
 obtain ⟨⟨hcz49_0, hcz49_1, hcz49_2, hcz49_3⟩, hfz49_0, hfz49_1, hfz49_2, hfz49_3⟩ := cf4 BK227
 have hnb50 := NB228_0.out
 have hnc50 := NB0_228.out
 obtain ⟨⟨hcz51_0, hcz51_1, hcz51_2, hcz51_3⟩, hfz51_0, hfz51_1, hfz51_2, hfz51_3⟩ := cf4 BK228
 try go_wp2
 refine bodyPost_ret (results_cell_row rfl _ _ gb228 26 #[.int .i64 a1_0, .int .i64 a1_1, .int .i64 a1_2, .slice (some ⟨go35, 0, none⟩) l1_3.length co36] (0, 0) _ rfl (by exact bP BK228.out) Try.underlying26 rfl (by kernel_rfl)) rfl ?_
 exact ⟨_, qX, Kd.Q_of_R (by refine qR ?_; exact Kd.R_mono (rT HO1_3 BK228) (fun _ hk => hk.1.1)), iS72 HI0.out, wS72 HB.out, kP HK.out⟩
def spec_randomImage.l0 : Nat → Int → Int → Int → List Int → Int → Int → Int → Int → List Int → Option (Int × Int × Int × List Int × Int)
 | 0, _, _, _, _, _, _, _, _, _ => none
 | k + 1, x6, x7, x8, x1000, x1001, x268000, x268001, x268002, x268003 => if x8 < (x268003.length : Int) then (if x6 = 0 then ((spec_reader_pick.f k x1000 x1001 256).bind fun bt272 => (if 0 ≤ x8 then (spec_randomImage.l0 k x6 bt272.1 (wrap64 (x8 + 1)) x1000 bt272.2 x268000 x268001 x268002 (x268003.set (x8 : Int).toNat bt272.1)) else (none))) else (if x6 = 1 then ((spec_reader_pick.f k x1000 x1001 5).bind fun bt275 => (if 0 ≤ x8 then (spec_randomImage.l0 k x6 (Int.tmod (wrap64 ((wrap64 (x7 + bt275.1)) + 254)) 256) (wrap64 (x8 + 1)) x1000 bt275.2 x268000 x268001 x268002 (x268003.set (x8 : Int).toNat (Int.tmod (wrap64 ((wrap64 (x7 + bt275.1)) + 254)) 256))) else (none))) else (if x6 = 2 then ((spec_reader_pick.f k x1000 x1001 4).bind fun bt278 => (if 0 ≤ x8 then (spec_randomImage.l0 k x6 (wrap64 (60 * bt278.1)) (wrap64 (x8 + 1)) x1000 bt278.2 x268000 x268001 x268002 (x268003.set (x8 : Int).toNat (wrap64 (60 * bt278.1)))) else (none))) else (if 0 ≤ x8 then (spec_randomImage.l0 k x6 x7 (wrap64 (x8 + 1)) x1000 x1001 x268000 x268001 x268002 (x268003.set (x8 : Int).toNat x7)) else (none))))) else (some (x268000, x268001, x268002, x268003, x1001))
def spec_randomImage.f (k : Nat) (s0_0 : List Int) (s0_1 : Int) (a1 : Int) : Option (Int × Int × Int × List Int × Int) := (spec_reader_one.f k s0_0 s0_1 (([3, 4, 2, 5, 1, 8, 6] : List Int))).bind fun bt254 => ((spec_reader_one.f k s0_0 bt254.2 (([3, 2, 4, 1, 5, 8] : List Int))).bind fun bt259 => ((spec_newImage.f bt254.1 bt259.1 a1).bind fun bt261 => ((spec_reader_pick.f k s0_0 bt259.2 4).bind fun bt268 => ((spec_reader_pick.f k s0_0 bt268.2 256).bind fun bt270 => (spec_randomImage.l0 k bt268.1 bt270.1 0 s0_0 bt270.2 bt261.1 bt261.2.1 bt261.2.2.1 bt261.2.2.2)))))
theorem spec_randomImage.mono_l : ∀ k, (∀ y0 y1 y2 y3 y4 y5 y6 y7 y8, LeO (spec_randomImage.l0 k y0 y1 y2 y3 y4 y5 y6 y7 y8) (spec_randomImage.l0 (k + 1) y0 y1 y2 y3 y4 y5 y6 y7 y8))
 | 0 => fun _ _ _ _ _ _ _ _ _ r h => by simp [spec_randomImage.l0] at h
 | k + 1 => by
  have ih0 := spec_randomImage.mono_l k
  ·intro y0 y1 y2 y3 y4 y5 y6 y7 y8
   unfold spec_randomImage.l0
   repeat' first | (with_reducible first | exact ih0 _ _ _ _ _ _ _ _ _ | exact spec_reader_one.mono _ _ _ _ | exact spec_reader_pick.mono _ _ _ _ | exact lR | exact lN | refine lI ?_ ?_ | refine lB ?_ fun _ => ?_) | exact ih0 _ _ _ _ _ _ _ _ _ | exact spec_reader_one.mono _ _ _ _ | exact spec_reader_pick.mono _ _ _ _ | exact lN | refine lI ?_ ?_ | refine lB ?_ fun _ => ?_
theorem spec_randomImage.mono : ∀ a0 a1 a2 k, LeO (spec_randomImage.f k a0 a1 a2) (spec_randomImage.f (k + 1) a0 a1 a2) := by
 intro a0 a1 a2 k
 have ih0 := spec_randomImage.mono_l k
 unfold spec_randomImage.f
 repeat' first | (with_reducible first | exact ih0 _ _ _ _ _ _ _ _ _ | exact spec_reader_one.mono _ _ _ _ | exact spec_reader_pick.mono _ _ _ _ | exact lR | exact lN | refine lI ?_ ?_ | refine lB ?_ fun _ => ?_) | exact ih0 _ _ _ _ _ _ _ _ _ | exact spec_reader_one.mono _ _ _ _ | exact spec_reader_pick.mono _ _ _ _ | exact lN | refine lI ?_ ?_ | refine lB ?_ fun _ => ?_
set_option maxHeartbeats 8000000 in
set_option maxRecDepth 100000 in
theorem spec_randomImage.calls (k : Nat) (g : Nat) (s0_0 : List Int) (s0_1 : Int) (a1 : Int) (r1 : Int) (r2 : Int) (r3 : Int) (r4 : List Int) (r5 : Int) (w0 w : World) (hI : IsS72 w0 w g s0_0 s0_1) (hB : Below w0.heap.size w0 w) (h : spec_randomImage.f k s0_0 s0_1 a1 = some (r1, r2, r3, r4, r5)) :
  Calls Try.prog 60 #[.pointer (some ⟨g, 0, none⟩), .int .i64 a1] w fun e w' => ∃ v3_ : Value, e = .returned (.agg #[.int .i64 r1, .int .i64 r2, .int .i64 r3, v3_]) ∧ Kd.R (Kd.int .i64) 3 w' w.heap.size (fun _ => True) v3_ r4 ∧ IsS72 w0 w' g s0_0 r5 ∧ Below w0.heap.size w0 w' ∧ KeepBut w w' g none := by
 have hu26 := Try.underlying26
 have HI0 := aM hI
 have HK := aM (KeepBut.refl w g none)
 have HL := aM hB.size
 clear hI
 have HW0 := aM hB.size
 have HB := aM hB
 clear hB
 unfold spec_randomImage.f at h
 have H := h
 clear h
 obtain ⟨y251, hy251⟩ : ∃ y_ : List Int, y_ = (([3, 4, 2, 5, 1, 8, 6] : List Int)) := ⟨_, rfl⟩
 replace H : ((spec_reader_one.f k s0_0 s0_1 y251).bind fun bt254 => ((spec_reader_one.f k s0_0 bt254.2 (([3, 2, 4, 1, 5, 8] : List Int))).bind fun bt259 => ((spec_newImage.f bt254.1 bt259.1 a1).bind fun bt261 => ((spec_reader_pick.f k s0_0 bt259.2 4).bind fun bt268 => ((spec_reader_pick.f k s0_0 bt268.2 256).bind fun bt270 => (spec_randomImage.l0 k bt268.1 bt270.1 0 s0_0 bt270.2 bt261.1 bt261.2.1 bt261.2.2.1 bt261.2.2.2)))))) = some (r1, r2, r3, r4, r5) := rY hy251 H
 have Ny251 := aM hy251
 clear hy251
 replace H := Option.bind_eq_some_iff.mp H
 obtain ⟨⟨t254, t255⟩, A30, H⟩ := H
 replace H : ((spec_reader_one.f k s0_0 t255 (([3, 2, 4, 1, 5, 8] : List Int))).bind fun bt259 => ((spec_newImage.f t254 bt259.1 a1).bind fun bt261 => ((spec_reader_pick.f k s0_0 bt259.2 4).bind fun bt268 => ((spec_reader_pick.f k s0_0 bt268.2 256).bind fun bt270 => (spec_randomImage.l0 k bt268.1 bt270.1 0 s0_0 bt270.2 bt261.1 bt261.2.1 bt261.2.2.1 bt261.2.2.2))))) = some (r1, r2, r3, r4, r5) := H
 have A3 := aM A30
 clear A30
 obtain ⟨y256, hy256⟩ : ∃ y_ : List Int, y_ = (([3, 2, 4, 1, 5, 8] : List Int)) := ⟨_, rfl⟩
 replace H : ((spec_reader_one.f k s0_0 t255 y256).bind fun bt259 => ((spec_newImage.f t254 bt259.1 a1).bind fun bt261 => ((spec_reader_pick.f k s0_0 bt259.2 4).bind fun bt268 => ((spec_reader_pick.f k s0_0 bt268.2 256).bind fun bt270 => (spec_randomImage.l0 k bt268.1 bt270.1 0 s0_0 bt270.2 bt261.1 bt261.2.1 bt261.2.2.1 bt261.2.2.2))))) = some (r1, r2, r3, r4, r5) := rY hy256 H
 have Ny256 := aM hy256
 clear hy256
 replace H := Option.bind_eq_some_iff.mp H
 obtain ⟨⟨t259, t260⟩, A40, H⟩ := H
 replace H : ((spec_newImage.f t254 t259 a1).bind fun bt261 => ((spec_reader_pick.f k s0_0 t260 4).bind fun bt268 => ((spec_reader_pick.f k s0_0 bt268.2 256).bind fun bt270 => (spec_randomImage.l0 k bt268.1 bt270.1 0 s0_0 bt270.2 bt261.1 bt261.2.1 bt261.2.2.1 bt261.2.2.2)))) = some (r1, r2, r3, r4, r5) := H
 have A4 := aM A40
 clear A40
 replace H := Option.bind_eq_some_iff.mp H
 obtain ⟨⟨t261, t262, t263, t264⟩, A50, H⟩ := H
 replace H : ((spec_reader_pick.f k s0_0 t260 4).bind fun bt268 => ((spec_reader_pick.f k s0_0 bt268.2 256).bind fun bt270 => (spec_randomImage.l0 k bt268.1 bt270.1 0 s0_0 bt270.2 t261 t262 t263 t264))) = some (r1, r2, r3, r4, r5) := H
 have A5 := aM A50
 clear A50
 replace H := Option.bind_eq_some_iff.mp H
 obtain ⟨⟨t268, t269⟩, A60, H⟩ := H
 replace H : ((spec_reader_pick.f k s0_0 t269 256).bind fun bt270 => (spec_randomImage.l0 k t268 bt270.1 0 s0_0 bt270.2 t261 t262 t263 t264)) = some (r1, r2, r3, r4, r5) := H
 have A6 := aM A60
 clear A60
 replace H := Option.bind_eq_some_iff.mp H
 obtain ⟨⟨t270, t271⟩, A70, H⟩ := H
 replace H : (spec_randomImage.l0 k t268 t270 0 s0_0 t271 t261 t262 t263 t264) = some (r1, r2, r3, r4, r5) := H
 have A7 := aM A70
 clear A70
 have H' := aM H
 clear H
 go_enter Try.func60, Try.ntmps60
 go_wp2_with (first | ((with_reducible refine gate_dst (N := 4) rfl ?_); refine bxE (N := 4) (cs := #[.int .i64 0, .int .i64 0, .int .i64 0, .slice none 0 0]) (t := 26) ?_; intro gb250 hg w8 hbox hb; replace HB := aM (below_step (wS72 HB.out) hb); have BK250 := aM (hbox); have GW250 := aM ((by rw [hg]; exact (keep_size (w := w) (g := g) (row := none) (kB HK.out)) : w.heap.size ≤ gb250)); have GE250 := aM ((Nat.le_trans HW0.out (by rw [hg]; exact (keep_size (w := w) (g := g) (row := none) (kB HK.out)) : w.heap.size ≤ gb250) : w0.heap.size ≤ gb250)); replace HK := aM (KeepBut.trans (kB HK.out) (KeepBut.of_below hb g none) (.inl rfl)); have NB0_250 := aM ((by rw [hg]; exact Nat.ne_of_lt (IsS72.lt (show IsS72 w0 _ g s0_0 s0_1 from iS72 HI0.out)) : g ≠ gb250)); have NB250_0 := aM ((by rw [hg]; exact Nat.ne_of_gt (IsS72.lt (show IsS72 w0 _ g s0_0 s0_1 from iS72 HI0.out)) : gb250 ≠ g)); replace HI0 := aM (IsS72.below (iS72 HI0.out) hb); clear hb hbox hg) | ((with_reducible refine gate_dst (N := 10) rfl ?_); refine iL ([3, 4, 2, 5, 1, 8, 6] : List Int) [.int .i64 3, .int .i64 4, .int .i64 2, .int .i64 5, .int .i64 1, .int .i64 8, .int .i64 6] ?_; intro v252 w9 ho10 hb hg_ hnew_; clear hg_ hnew_; (first | rw [← Ny251.out] at ho10 | (simp only [Int.reduceToNat] at ho10; rw [← Ny251.out] at ho10)); have HO253 := lK ho10 HK; replace BK250 := bB BK250 hb; replace HK := aM (KeepBut.trans (kB HK.out) (KeepBut.of_below hb g none) (.inl rfl)); replace HB := aM (below_step (wS72 HB.out) hb); replace HI0 := aM (IsS72.below (iS72 HI0.out) hb); clear hb ho10; obtain ⟨Ao11, co11, rfl⟩ := sL HO253) | ((with_reducible refine gate_callee (f := 81) rfl ?_); refine gL (some 11) Try.func81 #[.pointer (some ⟨g, 0, none⟩), .slice Ao11 y251.length co11] ?_; (with_reducible refine (spec_reader_one.calls k g s0_0 s0_1 _ _ y251 t254 t255 w0 _ ?side1 ?side2 ?side3 ?side4 ?side5 A3.out).mono ?_); (case side1 => exact iS72 HI0.out); (case side2 => exact wS72 HB.out); (case side3 => exact qC (Kd.R_reads' HO253.out).2.2); (case side4 => exact (Kd.R_reads' HO253.out).2.1); (case side5 => exact far_slice (IsS72.own_ne HI0.out HO253.out (by decide))); rintro e w12 ⟨rfl, hi, hb, hk⟩; refine ⟨_, rfl, ?_⟩; replace BK250 := bK hk BK250 NB250_0; replace HO253 := aM (Kd.R_mono (Kd.R_keep (IsS72.apart (show IsS72 w0 _ g s0_0 s0_1 from iS72 HI0.out) (qR HO253.out) (by decide)) hk (fun _ h => h.2)) (fun _ h => h.1)); replace HK := aM (KeepBut.trans (kB HK.out) hk (.inl rfl)); replace HB := aM (hb); replace HI0 := aM (hi); clear hb hk hi) | ((with_reducible refine gate_dst (N := 13) rfl ?_); refine iL ([3, 2, 4, 1, 5, 8] : List Int) [.int .i64 3, .int .i64 2, .int .i64 4, .int .i64 1, .int .i64 5, .int .i64 8] ?_; intro v257 w13 ho14 hb hg_ hnew_; clear hg_ hnew_; (first | rw [← Ny256.out] at ho14 | (simp only [Int.reduceToNat] at ho14; rw [← Ny256.out] at ho14)); have HO258 := aM (Kd.R_lower (Kd.R_new' ho14 (Kd.R_lt (qR HO253.out))) (keep_size (w := w) (g := g) (row := none) (kB HK.out))); replace HO253 := aM (Kd.R_elder' (qR HO253.out) (Kd.R_base ho14) hb); replace BK250 := bB BK250 hb; replace HK := aM (KeepBut.trans (kB HK.out) (KeepBut.of_below hb g none) (.inl rfl)); replace HB := aM (below_step (wS72 HB.out) hb); replace HI0 := aM (IsS72.below (iS72 HI0.out) hb); clear hb ho14; obtain ⟨Ao15, co15, rfl⟩ := sL HO258) | ((with_reducible refine gate_callee (f := 81) rfl ?_); refine gL (some 14) Try.func81 #[.pointer (some ⟨g, 0, none⟩), .slice Ao15 y256.length co15] ?_; (with_reducible refine (spec_reader_one.calls k g s0_0 t255 _ _ y256 t259 t260 w0 _ ?side1 ?side2 ?side3 ?side4 ?side5 A4.out).mono ?_); (case side1 => exact iS72 HI0.out); (case side2 => exact wS72 HB.out); (case side3 => exact qC (Kd.R_reads' HO258.out).2.2); (case side4 => exact (Kd.R_reads' HO258.out).2.1); (case side5 => exact far_slice (IsS72.own_ne HI0.out HO258.out (by decide))); rintro e w16 ⟨rfl, hi, hb, hk⟩; refine ⟨_, rfl, ?_⟩; replace BK250 := bK hk BK250 NB250_0; replace HO253 := aM (Kd.R_mono (Kd.R_keep (IsS72.apart (show IsS72 w0 _ g s0_0 t255 from iS72 HI0.out) (qR HO253.out) (by decide)) hk (fun _ h => h.2)) (fun _ h => h.1)); replace HO258 := aM (Kd.R_mono (Kd.R_keep (IsS72.apart (show IsS72 w0 _ g s0_0 t255 from iS72 HI0.out) (qR HO258.out) (by decide)) hk (fun _ h => h.2)) (fun _ h => h.1)); replace HK := aM (KeepBut.trans (kB HK.out) hk (.inl rfl)); replace HB := aM (hb); replace HI0 := aM (hi); clear hb hk hi) | ((with_reducible refine gate_callee (f := 45) rfl ?_); refine gL (some 16) Try.func45 #[.int .i64 t254, .int .i64 t259, .int .i64 a1] ?_; (with_reducible refine (spec_newImage.calls t254 t259 a1 t261 t262 t263 t264 _ A5.out).mono ?_); rintro e w17 ⟨v265, rfl, ho0, hb⟩; refine ⟨_, rfl, ?_⟩; have HO266 := aM (Kd.R_lower (Kd.R_new' (Kd.R_new' ho0 (Kd.R_lt (qR HO253.out))) (Kd.R_lt (qR HO258.out))) (keep_size (w := w) (g := g) (row := none) (kB HK.out))); replace HO253 := aM (Kd.R_elder' (qR HO253.out) (Kd.R_base ho0) hb); replace HO258 := aM (Kd.R_elder' (qR HO258.out) (Kd.R_base ho0) hb); replace BK250 := bB BK250 hb; replace HK := aM (KeepBut.trans (kB HK.out) (KeepBut.of_below hb g none) (.inl rfl)); replace HB := aM (below_step (wS72 HB.out) hb); replace HI0 := aM (IsS72.below (iS72 HI0.out) hb); clear hb ho0) | ((with_reducible refine gate_dst (N := 5) rfl ?_); refine bxE (N := 5) (cs := #[.int .i64 0, .int .i64 0, .int .i64 0, .slice none 0 0]) (t := 26) ?_; intro gb267 hg w18 hbox hb; replace HO253 := aM (Kd.R_below (qR HO253.out) hb); replace HO258 := aM (Kd.R_below (qR HO258.out) hb); replace HO266 := aM (Kd.R_below (qR HO266.out) hb); replace HB := aM (below_step (wS72 HB.out) hb); have BK267 := aM (hbox); have GW267 := aM ((by rw [hg]; exact (keep_size (w := w) (g := g) (row := none) (kB HK.out)) : w.heap.size ≤ gb267)); have GE267 := aM ((Nat.le_trans HW0.out (by rw [hg]; exact (keep_size (w := w) (g := g) (row := none) (kB HK.out)) : w.heap.size ≤ gb267) : w0.heap.size ≤ gb267)); replace HK := aM (KeepBut.trans (kB HK.out) (KeepBut.of_below hb g none) (.inl rfl)); have NB250_267 := nL hg BK250; have NB267_250 := nG hg BK250; replace BK250 := bB BK250 hb; have NB0_267 := aM ((by rw [hg]; exact Nat.ne_of_lt (IsS72.lt (show IsS72 w0 _ g s0_0 t260 from iS72 HI0.out)) : g ≠ gb267)); have NB267_0 := aM ((by rw [hg]; exact Nat.ne_of_gt (IsS72.lt (show IsS72 w0 _ g s0_0 t260 from iS72 HI0.out)) : gb267 ≠ g)); replace HI0 := aM (IsS72.below (iS72 HI0.out) hb); clear hb hbox hg; have hnb19 := NB267_250.out; have hnc19 := NB250_267.out; have hnb20 := NB267_0.out; have hnc20 := NB0_267.out; obtain ⟨⟨hcz21_0, hcz21_1, hcz21_2, hcz21_3⟩, hfz21_0, hfz21_1, hfz21_2, hfz21_3⟩ := cf4 BK267; obtain ⟨Ao22, co22, rfl⟩ := sL HO266) | ((with_reducible refine gate_callee (f := 57) rfl ?_); refine gL (some 18) Try.func57 #[.pointer (some ⟨g, 0, none⟩), .int .i64 4] ?_; (with_reducible refine (spec_reader_pick.calls k g s0_0 t260 4 t268 t269 w0 _ ?side1 ?side2 A6.out).mono ?_); (case side1 => exact iS72 HI0.out); (case side2 => exact wS72 HB.out); rintro e w23 ⟨rfl, hi, hb, hk⟩; refine ⟨_, rfl, ?_⟩; replace BK250 := aM (KeepBut.blk hk (g' := gb250) (o := .cells #[.int .i64 0, .int .i64 0, .int .i64 0, .slice none 0 0] 26 (0, 0)) (by refine qB ?_; refine blk_far ?_ NB250_267.out _; refine qB ?_; refine blk_far ?_ NB250_267.out _; refine qB ?_; refine blk_far ?_ NB250_267.out _; refine qB ?_; refine blk_far ?_ NB250_267.out _; refine qB ?_; exact BK250.out) NB250_0.out (by simp)); replace HO253 := aM (Kd.R_mono (Kd.R_keep (IsS72.apart (show IsS72 w0 _ g s0_0 t260 from iS72 HI0.out) (by refine qR ?_; exact (fr4 HO253 BK267)) (by decide)) hk (fun _ h => h.2)) (fun _ h => h.1)); replace HO258 := aM (Kd.R_mono (Kd.R_keep (IsS72.apart (show IsS72 w0 _ g s0_0 t260 from iS72 HI0.out) (by refine qR ?_; exact (fr4 HO258 BK267)) (by decide)) hk (fun _ h => h.2)) (fun _ h => h.1)); replace HO266 := aM (Kd.R_mono (Kd.R_keep (IsS72.apart (show IsS72 w0 _ g s0_0 t260 from iS72 HI0.out) (by refine qR ?_; exact (fr4 HO266 BK267)) (by decide)) hk (fun _ h => h.2)) (fun _ h => h.1)); replace BK267 := aM (KeepBut.blk hk (g' := gb267) (o := .cells #[.int .i64 t261, .int .i64 t262, .int .i64 t263, .slice Ao22 t264.length co22] 26 (0, 0)) (by exact bP BK267.out) NB267_0.out (by simp)); replace HK := aM (KeepBut.trans (kB HK.out) hk (.inl rfl)); replace HB := aM (hb); replace HI0 := aM (hi); clear hb hk hi) | ((with_reducible refine gate_callee (f := 57) rfl ?_); refine gL (some 20) Try.func57 #[.pointer (some ⟨g, 0, none⟩), .int .i64 256] ?_; (with_reducible refine (spec_reader_pick.calls k g s0_0 t269 256 t270 t271 w0 _ ?side1 ?side2 A7.out).mono ?_); (case side1 => exact iS72 HI0.out); (case side2 => exact wS72 HB.out); rintro e w24 ⟨rfl, hi, hb, hk⟩; refine ⟨_, rfl, ?_⟩; replace BK250 := bK hk BK250 NB250_0; replace HO253 := aM (Kd.R_mono (Kd.R_keep (IsS72.apart (show IsS72 w0 _ g s0_0 t269 from iS72 HI0.out) (qR HO253.out) (by decide)) hk (fun _ h => h.2)) (fun _ h => h.1)); replace HO258 := aM (Kd.R_mono (Kd.R_keep (IsS72.apart (show IsS72 w0 _ g s0_0 t269 from iS72 HI0.out) (qR HO258.out) (by decide)) hk (fun _ h => h.2)) (fun _ h => h.1)); replace HO266 := aM (Kd.R_mono (Kd.R_keep (IsS72.apart (show IsS72 w0 _ g s0_0 t269 from iS72 HI0.out) (qR HO266.out) (by decide)) hk (fun _ h => h.2)) (fun _ h => h.1)); replace BK267 := bK hk BK267 NB267_0; replace HK := aM (KeepBut.trans (kB HK.out) hk (.inl rfl)); replace HB := aM (hb); replace HI0 := aM (hi); clear hb hk hi))
 go_loopg [7, 8] k (fun kq v7 v8 w' => ∃ (x7_1 : Int) (x8_1 : Int) (x1001_1 : Int) (x268003_1 : List Int) (u268003 : Value), v7 = .int .i64 x7_1 ∧ v8 = .int .i64 x8_1 ∧ Aside0 (spec_randomImage.l0 kq t268 x7_1 x8_1 s0_0 x1001_1 t261 t262 t263 x268003_1 = some (r1, r2, r3, r4, r5)) ∧ Aside0 (kq ≤ k) ∧ Aside0 (Kd.R (Kd.int .i64) 3 w' w.heap.size (fun _ => True) u268003 x268003_1) ∧ Aside0 (w'.heap[gb250]? = some (.cells #[.int .i64 0, .int .i64 0, .int .i64 0, (.slice none 0 0)] 26 (0, 0))) ∧ Aside0 (w'.heap[gb267]? = some (.cells #[.int .i64 t261, .int .i64 t262, .int .i64 t263, u268003] 26 (0, 0))) ∧ Aside0 (IsS72 w0 w' g s0_0 x1001_1) ∧ Aside0 (KeepBut w w' g none) ∧ Aside0 (Below w0.heap.size w0 w'))
 case atStart => exact ⟨(t270), (0), (t271), (t264), (.slice Ao22 t264.length co22), qE, qE, H', ⟨Nat.le_refl _⟩, ⟨by refine qR ?_; exact Kd.R_mono HO266.out (fun _ hk => trivial)⟩, ⟨by refine qB ?_; exact BK250.out⟩, ⟨by refine qB ?_; exact BK267.out⟩, ⟨iS72 HI0.out⟩, ⟨kB HK.out⟩, ⟨wS72 HB.out⟩⟩
 case round =>
  clear H'
  try clear hcz21_0 hcz21_1 hcz21_2 hcz21_3 hfz21_0 hfz21_1 hfz21_2 hfz21_3
  obtain ⟨x7_1, x8_1, x1001_1, x268003_1, u268003, rfl, rfl, HA, HK1, HO_268003, BK250, BK267, HI0, HK, HB⟩ := hrel
  cases gk with
  | zero => exact absurd HA.out (by simp [spec_randomImage.l0])
  | succ k1 =>
   have H := HA.out
   clear HA
   simp only [spec_randomImage.l0] at H
   by_cases c25 : x8_1 < (x268003_1.length : Int)
   rotate_left
   ·rw [if_neg c25] at H
    have c25b0 : decide (x8_1 < (x268003_1.length : Int)) = false := decide_eq_false c25
    clear c25
    simp only [Option.some.injEq, Prod.mk.injEq] at H
    obtain ⟨rfl, rfl, rfl, rfl, rfl⟩ := H
    have hnb70 := NB267_250.out
    have hnc70 := NB250_267.out
    have hnb71 := NB267_0.out
    have hnc71 := NB0_267.out
    obtain ⟨⟨hcz72_0, hcz72_1, hcz72_2, hcz72_3⟩, hfz72_0, hfz72_1, hfz72_2, hfz72_3⟩ := cf4 BK267
    obtain ⟨Ao73, co73, rfl⟩ := sL HO_268003
    have hnb74 := NB250_0.out
    have hnc74 := NB0_250.out
    obtain ⟨⟨hcz75_0, hcz75_1, hcz75_2, hcz75_3⟩, hfz75_0, hfz75_1, hfz75_2, hfz75_3⟩ := cf4 BK250
    go_wp2
    refine bodyPost_ret (results_cell_row rfl _ _ gb250 26 #[.int .i64 t261, .int .i64 t262, .int .i64 t263, .slice Ao73 x268003_1.length co73] (0, 0) _ rfl (by exact bP BK250.out) Try.underlying26 rfl (by kernel_rfl)) rfl ?_
    exact ⟨_, qX, by refine qR ?_; exact Kd.R_mono (rT HO_268003 BK250) (fun _ hk => trivial), iS72 HI0.out, wS72 HB.out, kB HK.out⟩
   rw [if_pos c25] at H
   have c25b0 : decide (x8_1 < (x268003_1.length : Int)) = true := decide_eq_true c25
   clear c25
   by_cases c26 : t268 = 0
   ·rw [if_pos c26] at H
    have c26b0 : (t268 == 0) = true := beq_iff_eq.mpr c26
    have c26b1 : (t268 != 0) = false := bne_eq_false_iff_eq.mpr c26
    clear c26
    replace H := Option.bind_eq_some_iff.mp H
    obtain ⟨⟨t272, t273⟩, A270, H⟩ := H
    replace H : (if 0 ≤ x8_1 then (spec_randomImage.l0 k1 t268 t272 (wrap64 (x8_1 + 1)) s0_0 t273 t261 t262 t263 (x268003_1.set (x8_1 : Int).toNat t272)) else (none)) = some (r1, r2, r3, r4, r5) := H
    have A27 := aM A270
    clear A270
    replace H := iD H
    obtain ⟨c28b0, H⟩ := H
    obtain ⟨y274, hy274⟩ : ∃ y_ : List Int, y_ = (x268003_1.set (x8_1 : Int).toNat t272) := ⟨_, rfl⟩
    replace H : (spec_randomImage.l0 k1 t268 t272 (wrap64 (x8_1 + 1)) s0_0 t273 t261 t262 t263 y274) = some (r1, r2, r3, r4, r5) := rY hy274 H
    have Ny274 := aM hy274
    clear hy274
    have H' := aM H
    clear H
    have hnb30 := NB267_250.out
    have hnc30 := NB250_267.out
    have hnb31 := NB267_0.out
    have hnc31 := NB0_267.out
    obtain ⟨⟨hcz32_0, hcz32_1, hcz32_2, hcz32_3⟩, hfz32_0, hfz32_1, hfz32_2, hfz32_3⟩ := cf4 BK267
    obtain ⟨Ao33, co33, rfl⟩ := sL HO_268003
    go_wp2_with (first | ((with_reducible refine gate_callee (f := 57) rfl ?_); refine gL (some 32) Try.func57 #[.pointer (some ⟨g, 0, none⟩), .int .i64 256] ?_; (with_reducible refine (spec_reader_pick.calls k1 g s0_0 x1001_1 256 t272 t273 w0 _ ?side1 ?side2 A27.out).mono ?_); (case side1 => exact iS72 HI0.out); (case side2 => exact wS72 HB.out); rintro e w34 ⟨rfl, hi, hb, hk⟩; refine ⟨_, rfl, ?_⟩; replace HO_268003 := aM (Kd.R_mono (Kd.R_keep (IsS72.apart (show IsS72 w0 _ g s0_0 x1001_1 from iS72 HI0.out) (qR HO_268003.out) (by decide)) hk (fun _ h => h.2)) (fun _ h => h.1)); replace BK250 := bK hk BK250 NB250_0; replace BK267 := bK hk BK267 NB267_0; replace HK := aM (KeepBut.trans (kB HK.out) hk (.inl rfl)); replace HB := aM (hb); replace HI0 := aM (hi); clear hb hk hi; obtain ⟨⟨hcz35_0, hcz35_1, hcz35_2, hcz35_3⟩, hfz35_0, hfz35_1, hfz35_2, hfz35_3⟩ := cf4 BK267; have p29 : 0 ≤ (x8_1 : Int) := oD; have q29 : (x8_1 : Int) < ((x268003_1.length : Int) : Int) := oD; obtain ⟨go29, co29, eo29, gb29, gl29, cl29, HG29⟩ := Kd.R_form HO_268003.out (by omega); (first | cases eo29 | (injection eo29 with ea_ en_ ec_; (first | subst ea_ | (injection ea_ with ea_; subst ea_)); subst ec_; clear en_)); have GB29 := aM gb29; have GG29 := aM HG29; clear gb29 gl29 HG29; obtain ⟨hx29_0, hf29_0⟩ := Kd.R_celln 0 HO_268003.out (x8_1 : Int) p29 q29; replace p29 := eq_true p29; replace q29 := eq_true q29; obtain ⟨hy36_, hz36_⟩ := Kd.R_celln 0 HO_268003.out (x8_1 : Int) oD oD; have HP36 := Kd.R_putg HO_268003.out (x8_1 : Int) t272) | ((with_reducible refine gate_store (t := 3) (p := 50) rfl ?_); refine store_event (t := 3) (p := 50) (v := ?vo_w37) (w1 := (w34.setCell ⟨go29, (x8_1 : Int).toNat, none⟩ (.int .i64 t272))) ?hg ?ho ?hn ?hr ?_; (case ho => rfl); (case hg => rfl); (case hn => rfl); (case hr => first | (go_simp; done) | (go_simp; rfl)); intro w37 hw; have hg : w34.grownBy w37 (some go29) := (by rw [hw]; exact HP36.2); have hp_ : Kd.R (Kd.int .i64) 3 w37 w.heap.size (fun _ => True) (.slice (some ⟨go29, 0, none⟩) x268003_1.length co33) y274 := (by rw [hw, Ny274.out]; exact HP36.1); clear HP36; replace BK250 := gB BK250 hg (Kd.R_ne HO_268003.out BK250.out (by decide)); replace BK267 := gB BK267 hg (Kd.R_ne HO_268003.out BK267.out (by decide)); replace HI0 := aM (IsS72.grown (iS72 HI0.out) hg (IsS72.own_ne HI0.out HO_268003.out (by decide))); replace HB := aM ((by rw [hw]; exact below_set (HB.out) (Nat.le_trans HL.out GB29.out) : Below w0.heap.size w0 w37)); replace HK := aM (KeepBut.trans (kB HK.out) (KeepBut.of_grown hg g) (Kd.R_base2 HO_268003.out)); replace HO_268003 := aM (hp_); clear hg hw hp_))
    go_roundg k1
    case measure => have := HK1.out; omega
    case rel => exact ⟨(t272), (wrap64 (x8_1 + 1)), (t273), (y274), (.slice (some ⟨go29, 0, none⟩) x268003_1.length co33), qE, qE, H', ⟨by have := HK1.out; omega⟩, ⟨by refine qR ?_; exact HO_268003.out⟩, ⟨by refine qB ?_; exact BK250.out⟩, ⟨by refine qB ?_; exact BK267.out⟩, ⟨iS72 HI0.out⟩, ⟨kB HK.out⟩, ⟨wS72 HB.out⟩⟩
   rw [if_neg c26] at H
   have c26b0 : (t268 == 0) = false := beq_eq_false_iff_ne.mpr c26
   have c26b1 : (t268 != 0) = true := bne_iff_ne.mpr c26
   by_cases c38 : t268 = 1
   ·rw [if_pos c38] at H
    have c38b0 : (t268 == 1) = true := beq_iff_eq.mpr c38
    have c38b1 : (t268 != 1) = false := bne_eq_false_iff_eq.mpr c38
    clear c38
    replace H := Option.bind_eq_some_iff.mp H
    obtain ⟨⟨t275, t276⟩, A390, H⟩ := H
    replace H : (if 0 ≤ x8_1 then (spec_randomImage.l0 k1 t268 (Int.tmod (wrap64 ((wrap64 (x7_1 + t275)) + 254)) 256) (wrap64 (x8_1 + 1)) s0_0 t276 t261 t262 t263 (x268003_1.set (x8_1 : Int).toNat (Int.tmod (wrap64 ((wrap64 (x7_1 + t275)) + 254)) 256))) else (none)) = some (r1, r2, r3, r4, r5) := H
    have A39 := aM A390
    clear A390
    replace H := iD H
    obtain ⟨c40b0, H⟩ := H
    obtain ⟨y277, hy277⟩ : ∃ y_ : List Int, y_ = (x268003_1.set (x8_1 : Int).toNat (Int.tmod (wrap64 ((wrap64 (x7_1 + t275)) + 254)) 256)) := ⟨_, rfl⟩
    replace H : (spec_randomImage.l0 k1 t268 (Int.tmod (wrap64 ((wrap64 (x7_1 + t275)) + 254)) 256) (wrap64 (x8_1 + 1)) s0_0 t276 t261 t262 t263 y277) = some (r1, r2, r3, r4, r5) := rY hy277 H
    have Ny277 := aM hy277
    clear hy277
    have H' := aM H
    clear H
    have hnb42 := NB267_250.out
    have hnc42 := NB250_267.out
    have hnb43 := NB267_0.out
    have hnc43 := NB0_267.out
    obtain ⟨⟨hcz44_0, hcz44_1, hcz44_2, hcz44_3⟩, hfz44_0, hfz44_1, hfz44_2, hfz44_3⟩ := cf4 BK267
    obtain ⟨Ao45, co45, rfl⟩ := sL HO_268003
    go_wp2_with (first | ((with_reducible refine gate_callee (f := 57) rfl ?_); refine gL (some 37) Try.func57 #[.pointer (some ⟨g, 0, none⟩), .int .i64 5] ?_; (with_reducible refine (spec_reader_pick.calls k1 g s0_0 x1001_1 5 t275 t276 w0 _ ?side1 ?side2 A39.out).mono ?_); (case side1 => exact iS72 HI0.out); (case side2 => exact wS72 HB.out); rintro e w46 ⟨rfl, hi, hb, hk⟩; refine ⟨_, rfl, ?_⟩; replace HO_268003 := aM (Kd.R_mono (Kd.R_keep (IsS72.apart (show IsS72 w0 _ g s0_0 x1001_1 from iS72 HI0.out) (qR HO_268003.out) (by decide)) hk (fun _ h => h.2)) (fun _ h => h.1)); replace BK250 := bK hk BK250 NB250_0; replace BK267 := bK hk BK267 NB267_0; replace HK := aM (KeepBut.trans (kB HK.out) hk (.inl rfl)); replace HB := aM (hb); replace HI0 := aM (hi); clear hb hk hi; obtain ⟨⟨hcz47_0, hcz47_1, hcz47_2, hcz47_3⟩, hfz47_0, hfz47_1, hfz47_2, hfz47_3⟩ := cf4 BK267; have p41 : 0 ≤ (x8_1 : Int) := oD; have q41 : (x8_1 : Int) < ((x268003_1.length : Int) : Int) := oD; obtain ⟨go41, co41, eo41, gb41, gl41, cl41, HG41⟩ := Kd.R_form HO_268003.out (by omega); (first | cases eo41 | (injection eo41 with ea_ en_ ec_; (first | subst ea_ | (injection ea_ with ea_; subst ea_)); subst ec_; clear en_)); have GB41 := aM gb41; have GG41 := aM HG41; clear gb41 gl41 HG41; obtain ⟨hx41_0, hf41_0⟩ := Kd.R_celln 0 HO_268003.out (x8_1 : Int) p41 q41; replace p41 := eq_true p41; replace q41 := eq_true q41; obtain ⟨hy48_, hz48_⟩ := Kd.R_celln 0 HO_268003.out (x8_1 : Int) oD oD; have HP48 := Kd.R_putg HO_268003.out (x8_1 : Int) (Int.tmod (wrap64 ((wrap64 (x7_1 + t275)) + 254)) 256)) | ((with_reducible refine gate_store (t := 3) (p := 50) rfl ?_); refine store_event (t := 3) (p := 50) (v := ?vo_w49) (w1 := (w46.setCell ⟨go41, (x8_1 : Int).toNat, none⟩ (.int .i64 (Int.tmod (wrap64 ((wrap64 (x7_1 + t275)) + 254)) 256)))) ?hg ?ho ?hn ?hr ?_; (case ho => rfl); (case hg => rfl); (case hn => rfl); (case hr => first | (go_simp; done) | (go_simp; rfl)); intro w49 hw; have hg : w46.grownBy w49 (some go41) := (by rw [hw]; exact HP48.2); have hp_ : Kd.R (Kd.int .i64) 3 w49 w.heap.size (fun _ => True) (.slice (some ⟨go41, 0, none⟩) x268003_1.length co45) y277 := (by rw [hw, Ny277.out]; exact HP48.1); clear HP48; replace BK250 := gB BK250 hg (Kd.R_ne HO_268003.out BK250.out (by decide)); replace BK267 := gB BK267 hg (Kd.R_ne HO_268003.out BK267.out (by decide)); replace HI0 := aM (IsS72.grown (iS72 HI0.out) hg (IsS72.own_ne HI0.out HO_268003.out (by decide))); replace HB := aM ((by rw [hw]; exact below_set (HB.out) (Nat.le_trans HL.out GB41.out) : Below w0.heap.size w0 w49)); replace HK := aM (KeepBut.trans (kB HK.out) (KeepBut.of_grown hg g) (Kd.R_base2 HO_268003.out)); replace HO_268003 := aM (hp_); clear hg hw hp_))
    go_roundg k1
    case measure => have := HK1.out; omega
    case rel => exact ⟨(Int.tmod (wrap64 ((wrap64 (x7_1 + t275)) + 254)) 256), (wrap64 (x8_1 + 1)), (t276), (y277), (.slice (some ⟨go41, 0, none⟩) x268003_1.length co45), qE, qE, H', ⟨by have := HK1.out; omega⟩, ⟨by refine qR ?_; exact HO_268003.out⟩, ⟨by refine qB ?_; exact BK250.out⟩, ⟨by refine qB ?_; exact BK267.out⟩, ⟨iS72 HI0.out⟩, ⟨kB HK.out⟩, ⟨wS72 HB.out⟩⟩
   rw [if_neg c38] at H
   have c38b0 : (t268 == 1) = false := beq_eq_false_iff_ne.mpr c38
   have c38b1 : (t268 != 1) = true := bne_iff_ne.mpr c38
   by_cases c50 : t268 = 2
   rotate_left
   ·rw [if_neg c50] at H
    have c50b0 : (t268 == 2) = false := beq_eq_false_iff_ne.mpr c50
    have c50b1 : (t268 != 2) = true := bne_iff_ne.mpr c50
    replace H := iD H
    obtain ⟨c62b0, H⟩ := H
    obtain ⟨y281, hy281⟩ : ∃ y_ : List Int, y_ = (x268003_1.set (x8_1 : Int).toNat x7_1) := ⟨_, rfl⟩
    replace H : (spec_randomImage.l0 k1 t268 x7_1 (wrap64 (x8_1 + 1)) s0_0 x1001_1 t261 t262 t263 y281) = some (r1, r2, r3, r4, r5) := rY hy281 H
    have Ny281 := aM hy281
    clear hy281
    have H' := aM H
    clear H
    have hnb64 := NB267_250.out
    have hnc64 := NB250_267.out
    have hnb65 := NB267_0.out
    have hnc65 := NB0_267.out
    obtain ⟨⟨hcz66_0, hcz66_1, hcz66_2, hcz66_3⟩, hfz66_0, hfz66_1, hfz66_2, hfz66_3⟩ := cf4 BK267
    obtain ⟨Ao67, co67, rfl⟩ := sL HO_268003
    have p63 : 0 ≤ (x8_1 : Int) := oD
    have q63 : (x8_1 : Int) < ((x268003_1.length : Int) : Int) := oD
    obtain ⟨go63, co63, eo63, gb63, gl63, cl63, HG63⟩ := Kd.R_form HO_268003.out (by omega)
    (first | cases eo63 | (injection eo63 with ea_ en_ ec_; (first | subst ea_ | (injection ea_ with ea_; subst ea_)); subst ec_; clear en_))
    have GB63 := aM gb63
    have GG63 := aM HG63
    clear gb63 gl63 HG63
    obtain ⟨hx63_0, hf63_0⟩ := Kd.R_celln 0 HO_268003.out (x8_1 : Int) p63 q63
    replace p63 := eq_true p63
    replace q63 := eq_true q63
    have HP68 := Kd.R_putg HO_268003.out (x8_1 : Int) x7_1
    go_wp2_with (first | ((with_reducible refine gate_store (t := 3) (p := 50) rfl ?_); refine store_event (t := 3) (p := 50) (v := ?vo_w69) (w1 := (wr.setCell ⟨go63, (x8_1 : Int).toNat, none⟩ (.int .i64 x7_1))) ?hg ?ho ?hn ?hr ?_; (case ho => rfl); (case hg => rfl); (case hn => rfl); (case hr => first | (go_simp; done) | (go_simp; rfl)); intro w69 hw; have hg : wr.grownBy w69 (some go63) := (by rw [hw]; exact HP68.2); have hp_ : Kd.R (Kd.int .i64) 3 w69 w.heap.size (fun _ => True) (.slice (some ⟨go63, 0, none⟩) x268003_1.length co67) y281 := (by rw [hw, Ny281.out]; exact HP68.1); clear HP68; replace BK250 := gB BK250 hg (Kd.R_ne HO_268003.out BK250.out (by decide)); replace BK267 := gB BK267 hg (Kd.R_ne HO_268003.out BK267.out (by decide)); replace HI0 := aM (IsS72.grown (iS72 HI0.out) hg (IsS72.own_ne HI0.out HO_268003.out (by decide))); replace HB := aM ((by rw [hw]; exact below_set (HB.out) (Nat.le_trans HL.out GB63.out) : Below w0.heap.size w0 w69)); replace HK := aM (KeepBut.trans (kB HK.out) (KeepBut.of_grown hg g) (Kd.R_base2 HO_268003.out)); replace HO_268003 := aM (hp_); clear hg hw hp_))
    go_roundg k1
    case measure => have := HK1.out; omega
    case rel => exact ⟨(x7_1), (wrap64 (x8_1 + 1)), (x1001_1), (y281), (.slice (some ⟨go63, 0, none⟩) x268003_1.length co67), qE, qE, H', ⟨by have := HK1.out; omega⟩, ⟨by refine qR ?_; exact HO_268003.out⟩, ⟨by refine qB ?_; exact BK250.out⟩, ⟨by refine qB ?_; exact BK267.out⟩, ⟨iS72 HI0.out⟩, ⟨kB HK.out⟩, ⟨wS72 HB.out⟩⟩
   rw [if_pos c50] at H
   have c50b0 : (t268 == 2) = true := beq_iff_eq.mpr c50
   have c50b1 : (t268 != 2) = false := bne_eq_false_iff_eq.mpr c50
   clear c50
   replace H := Option.bind_eq_some_iff.mp H
   obtain ⟨⟨t278, t279⟩, A510, H⟩ := H
   replace H : (if 0 ≤ x8_1 then (spec_randomImage.l0 k1 t268 (wrap64 (60 * t278)) (wrap64 (x8_1 + 1)) s0_0 t279 t261 t262 t263 (x268003_1.set (x8_1 : Int).toNat (wrap64 (60 * t278)))) else (none)) = some (r1, r2, r3, r4, r5) := H
   have A51 := aM A510
   clear A510
   replace H := iD H
   obtain ⟨c52b0, H⟩ := H
   obtain ⟨y280, hy280⟩ : ∃ y_ : List Int, y_ = (x268003_1.set (x8_1 : Int).toNat (wrap64 (60 * t278))) := ⟨_, rfl⟩
   replace H : (spec_randomImage.l0 k1 t268 (wrap64 (60 * t278)) (wrap64 (x8_1 + 1)) s0_0 t279 t261 t262 t263 y280) = some (r1, r2, r3, r4, r5) := rY hy280 H
   have Ny280 := aM hy280
   clear hy280
   have H' := aM H
   clear H
   have hnb54 := NB267_250.out
   have hnc54 := NB250_267.out
   have hnb55 := NB267_0.out
   have hnc55 := NB0_267.out
   obtain ⟨⟨hcz56_0, hcz56_1, hcz56_2, hcz56_3⟩, hfz56_0, hfz56_1, hfz56_2, hfz56_3⟩ := cf4 BK267
   obtain ⟨Ao57, co57, rfl⟩ := sL HO_268003
   go_wp2_with (first | ((with_reducible refine gate_callee (f := 57) rfl ?_); refine gL (some 44) Try.func57 #[.pointer (some ⟨g, 0, none⟩), .int .i64 4] ?_; (with_reducible refine (spec_reader_pick.calls k1 g s0_0 x1001_1 4 t278 t279 w0 _ ?side1 ?side2 A51.out).mono ?_); (case side1 => exact iS72 HI0.out); (case side2 => exact wS72 HB.out); rintro e w58 ⟨rfl, hi, hb, hk⟩; refine ⟨_, rfl, ?_⟩; replace HO_268003 := aM (Kd.R_mono (Kd.R_keep (IsS72.apart (show IsS72 w0 _ g s0_0 x1001_1 from iS72 HI0.out) (qR HO_268003.out) (by decide)) hk (fun _ h => h.2)) (fun _ h => h.1)); replace BK250 := bK hk BK250 NB250_0; replace BK267 := bK hk BK267 NB267_0; replace HK := aM (KeepBut.trans (kB HK.out) hk (.inl rfl)); replace HB := aM (hb); replace HI0 := aM (hi); clear hb hk hi; obtain ⟨⟨hcz59_0, hcz59_1, hcz59_2, hcz59_3⟩, hfz59_0, hfz59_1, hfz59_2, hfz59_3⟩ := cf4 BK267; have p53 : 0 ≤ (x8_1 : Int) := oD; have q53 : (x8_1 : Int) < ((x268003_1.length : Int) : Int) := oD; obtain ⟨go53, co53, eo53, gb53, gl53, cl53, HG53⟩ := Kd.R_form HO_268003.out (by omega); (first | cases eo53 | (injection eo53 with ea_ en_ ec_; (first | subst ea_ | (injection ea_ with ea_; subst ea_)); subst ec_; clear en_)); have GB53 := aM gb53; have GG53 := aM HG53; clear gb53 gl53 HG53; obtain ⟨hx53_0, hf53_0⟩ := Kd.R_celln 0 HO_268003.out (x8_1 : Int) p53 q53; replace p53 := eq_true p53; replace q53 := eq_true q53; obtain ⟨hy60_, hz60_⟩ := Kd.R_celln 0 HO_268003.out (x8_1 : Int) oD oD; have HP60 := Kd.R_putg HO_268003.out (x8_1 : Int) (wrap64 (60 * t278))) | ((with_reducible refine gate_store (t := 3) (p := 50) rfl ?_); refine store_event (t := 3) (p := 50) (v := ?vo_w61) (w1 := (w58.setCell ⟨go53, (x8_1 : Int).toNat, none⟩ (.int .i64 (wrap64 (60 * t278))))) ?hg ?ho ?hn ?hr ?_; (case ho => rfl); (case hg => rfl); (case hn => rfl); (case hr => first | (go_simp; done) | (go_simp; rfl)); intro w61 hw; have hg : w58.grownBy w61 (some go53) := (by rw [hw]; exact HP60.2); have hp_ : Kd.R (Kd.int .i64) 3 w61 w.heap.size (fun _ => True) (.slice (some ⟨go53, 0, none⟩) x268003_1.length co57) y280 := (by rw [hw, Ny280.out]; exact HP60.1); clear HP60; replace BK250 := gB BK250 hg (Kd.R_ne HO_268003.out BK250.out (by decide)); replace BK267 := gB BK267 hg (Kd.R_ne HO_268003.out BK267.out (by decide)); replace HI0 := aM (IsS72.grown (iS72 HI0.out) hg (IsS72.own_ne HI0.out HO_268003.out (by decide))); replace HB := aM ((by rw [hw]; exact below_set (HB.out) (Nat.le_trans HL.out GB53.out) : Below w0.heap.size w0 w61)); replace HK := aM (KeepBut.trans (kB HK.out) (KeepBut.of_grown hg g) (Kd.R_base2 HO_268003.out)); replace HO_268003 := aM (hp_); clear hg hw hp_))
   go_roundg k1
   case measure => have := HK1.out; omega
   case rel => exact ⟨(wrap64 (60 * t278)), (wrap64 (x8_1 + 1)), (t279), (y280), (.slice (some ⟨go53, 0, none⟩) x268003_1.length co57), qE, qE, H', ⟨by have := HK1.out; omega⟩, ⟨by refine qR ?_; exact HO_268003.out⟩, ⟨by refine qB ?_; exact BK250.out⟩, ⟨by refine qB ?_; exact BK267.out⟩, ⟨iS72 HI0.out⟩, ⟨kB HK.out⟩, ⟨wS72 HB.out⟩⟩
end Go.Proofs.Ytnamhlcdlbjcfaa.P
