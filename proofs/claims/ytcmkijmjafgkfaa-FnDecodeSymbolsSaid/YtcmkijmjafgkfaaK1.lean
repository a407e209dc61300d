/- Contracts and row, written by a program of this place out of the translation: the call answers true and its argument reads as before, for every input; no condition. -/
import Derived.Test.YtcmkijmjafgkfaaK0
namespace Go.Proofs.Ytcmkijmjafgkfaa.P
open Go.RowKit Go.Proofs.YtcmkijmjafgkfaaW.PrintWords Go.Proofs.YtcmkijmjafgkfaaW.PrintLast Go.Proofs.YtcmkijmjafgkfaaW.PrintMore
attribute [local go_sem] max2_int min2_int max_two min_two max_three min_three max_four min_four   -- for this text's walks alone
set_option linter.unusedVariables false
set_option linter.unusedSimpArgs false
def IsS60 (w0 W : World) (g : Nat) (f0 : List Int) (f1 : Int) : Prop := ∃ A0 c0, W.heap[g]? = some (.cells #[.slice A0 f0.length c0, .int .i64 f1] 60 (0, 0)) ∧ w0.heap.size ≤ g ∧ Kd.C (Kd.int .u8) w0 A0 f0.length f0
theorem IsS60.grown {w0 W : World} {g : Nat} {f0 : List Int} {f1 : Int} {W1 : World} {row : Option Nat} (h : IsS60 w0 W g f0 f1) (hw : W.grownBy W1 row) (hne : some g ≠ row) : IsS60 w0 W1 g f0 f1 := by
 obtain ⟨A0, c0, hb, hg, hr0⟩ := h
 exact ⟨A0, c0, blk_grown hb hw hne, hg, hr0⟩
theorem IsS60.own_neN {w0 W : World} {g : Nat} {f0 : List Int} {f1 : Int} {α : Type} {d : Kd α} {e : Nat} {base : Nat} {ok : Nat → Prop} {v : Value} {xs : List α} (h : IsS60 w0 W g f0 f1) (ho : Kd.N d e W base ok v xs) (ht : e ≠ 60) : some g ≠ v.ownBlock := by
 obtain ⟨A0, c0, hb, hg, hr0⟩ := h
 exact Kd.N_ne ho hb ht
theorem IsS60.fresh {w0 W : World} {g : Nat} {f0 : List Int} {f1 : Int} (h : IsS60 w0 W g f0 f1) : ∀ k, W.heap.size ≤ k → k ≠ g := by
 obtain ⟨A0, c0, hb, hg, hr0⟩ := h
 exact Kd.freshB hb
theorem IsS60.kept {w0 W : World} {g : Nat} {f0 : List Int} {f1 : Int} {W1 : World} {S : Nat → Prop} (h : IsS60 w0 W g f0 f1) (hk : Kept W W1 S) (hne : ¬ S g) : IsS60 w0 W1 g f0 f1 := by
 obtain ⟨A0, c0, hb, hg, hr0⟩ := h
 exact ⟨A0, c0, blk_kept hb hk hne, hg, hr0⟩
theorem IsS60.below {w0 W : World} {g : Nat} {f0 : List Int} {f1 : Int} {W1 : World} (h : IsS60 w0 W g f0 f1) (hw : Below W.heap.size W W1) : IsS60 w0 W1 g f0 f1 := h.grown (grown_of_below hw none) (by simp)
theorem IsS60.alloc {w0 W : World} {g : Nat} {f0 : List Int} {f1 : Int} (h : IsS60 w0 W g f0 f1) (o : Obj) : IsS60 w0 (W.alloc o) g f0 f1 := h.below (below_alloc (Below.refl _ _) o)
theorem IsS60.drewN {w0 W : World} {g : Nat} {f0 : List Int} {f1 : Int} (h : IsS60 w0 W g f0 f1) (m : Nat) : IsS60 w0 (W.drewN m) g f0 f1 := h
theorem IsS60.drew {w0 W : World} {g : Nat} {f0 : List Int} {f1 : Int} (h : IsS60 w0 W g f0 f1) : IsS60 w0 W.drew g f0 f1 := h
theorem IsS60.at_ {w0 W : World} {g : Nat} {f0 : List Int} {f1 : Int} {w' : World} {m : Nat} (hq : W.drewN m = w') (h : IsS60 w0 W g f0 f1) : IsS60 w0 w' g f0 f1 := by subst hq; exact IsS60.drewN h m
theorem IsS60.apart {w0 W : World} {g : Nat} {f0 : List Int} {f1 : Int} {α : Type} {d : Kd α} {e : Nat} {base : Nat} {ok : Nat → Prop} {v : Value} {xs : List α} (h : IsS60 w0 W g f0 f1) (ho : d.R e W base ok v xs) (ht : ∀ q, q ∈ e :: d.E → q ≠ 60) : d.R e W base (fun k => ok k ∧ k ≠ g) v xs := by
 obtain ⟨A0, c0, hb, hg, hr0⟩ := h
 exact Kd.R_types ho hb ht
theorem IsS60.own_ne {w0 W : World} {g : Nat} {f0 : List Int} {f1 : Int} {α : Type} {d : Kd α} {e : Nat} {base : Nat} {ok : Nat → Prop} {v : Value} {xs : List α} (h : IsS60 w0 W g f0 f1) (ho : d.R e W base ok v xs) (ht : e ≠ 60) : some g ≠ v.ownBlock := by
 obtain ⟨A0, c0, hb, hg, hr0⟩ := h
 exact Kd.R_ne ho hb ht
theorem IsS60.apartQ {w0 W : World} {g : Nat} {f0 : List Int} {f1 : Int} {α : Type} {d : Kd α} {e : Nat} {base : Nat} {ok : Nat → Prop} {v : Value} {xs : List α} (h : IsS60 w0 W g f0 f1) (ho : d.Q e W base ok v xs) (ht : ∀ q, q ∈ e :: d.E → q ≠ 60) : d.Q e W base (fun k => ok k ∧ k ≠ g) v xs := by
 obtain ⟨A0, c0, hb, hg, hr0⟩ := h
 exact Kd.Q_types ho hb ht
theorem IsS60.own_neQ {w0 W : World} {g : Nat} {f0 : List Int} {f1 : Int} {α : Type} {d : Kd α} {e : Nat} {base : Nat} {ok : Nat → Prop} {v : Value} {xs : List α} (h : IsS60 w0 W g f0 f1) (ho : d.Q e W base ok v xs) (ht : e ≠ 60) : some g ≠ v.ownBlock := by
 obtain ⟨A0, c0, hb, hg, hr0⟩ := h
 exact Kd.Q_ne ho hb ht
theorem IsS60.apartS {w0 W : World} {g : Nat} {f0 : List Int} {f1 : Int} {α : Type} {d : Kd α} {e : Nat} {base : Nat} {ok : Nat → Prop} {v : Value} {xs : List α} (h : IsS60 w0 W g f0 f1) (ho : d.S e W base ok v xs) (ht : ∀ q, q ∈ e :: d.E → q ≠ 60) : d.S e W base (fun k => ok k ∧ k ≠ g) v xs := by
 obtain ⟨A0, c0, hb, hg, hr0⟩ := h
 exact Kd.S_types ho hb ht
theorem IsS60.own_neS {w0 W : World} {g : Nat} {f0 : List Int} {f1 : Int} {α : Type} {d : Kd α} {e : Nat} {base : Nat} {ok : Nat → Prop} {v : Value} {xs : List α} (h : IsS60 w0 W g f0 f1) (ho : d.S e W base ok v xs) (ht : e ≠ 60) : some g ≠ v.ownBlock := by
 obtain ⟨A0, c0, hb, hg, hr0⟩ := h
 exact Kd.S_ne ho hb ht
theorem IsS60.lt {w0 W : World} {g : Nat} {f0 : List Int} {f1 : Int} (h : IsS60 w0 W g f0 f1) : g < W.heap.size := by
 obtain ⟨A0, c0, hb, hg, hr0⟩ := h
 exact blk_lt hb
theorem IsS60.ge {w0 W : World} {g : Nat} {f0 : List Int} {f1 : Int} (h : IsS60 w0 W g f0 f1) : w0.heap.size ≤ g := by
 obtain ⟨A0, c0, hb, hg, hr0⟩ := h
 exact hg
theorem IsS60.ne_blk {w0 W : World} {g : Nat} {f0 : List Int} {f1 : Int} {a : Nat} {cs : Array Value} {t : TypeId} {fr : Nat × Nat} (h : IsS60 w0 W g f0 f1) (hb2 : W.heap[a]? = some (.cells cs t fr)) (ht : t ≠ 60) : g ≠ a := by
 obtain ⟨A0, c0, hb, hg, hr0⟩ := h
 rintro rfl
 rw [hb] at hb2
 injection hb2 with hb2
 injection hb2 with _ ht2
 exact ht ht2.symm
theorem IsS60.far {w0 W : World} {g : Nat} {f0 : List Int} {f1 : Int} {p : Addr} (h : IsS60 w0 W g f0 f1) (hne : g ≠ p.block) (u : Value) : IsS60 w0 (W.setCell p u) g f0 f1 := by
 obtain ⟨A0, c0, hb, hg, hr0⟩ := h
 exact ⟨A0, c0, blk_far hb hne u, hg, hr0⟩
theorem cellS60_0 {W : World} {g : Nat} {A0 : Option Addr} {c0 : Nat} {f0 : List Int} {f1 : Int} (h : W.heap[g]? = some (.cells #[.slice A0 f0.length c0, .int .i64 f1] 60 (0, 0))) : W.cell? ⟨g, 0, none⟩ = some (.slice A0 f0.length c0) := (blk_cell h 0).trans rfl
theorem cellS60_1 {W : World} {g : Nat} {A0 : Option Addr} {c0 : Nat} {f0 : List Int} {f1 : Int} (h : W.heap[g]? = some (.cells #[.slice A0 f0.length c0, .int .i64 f1] 60 (0, 0))) : W.cell? ⟨g, 1, none⟩ = some (.int .i64 f1) := (blk_cell h 1).trans rfl
theorem IsS60.set_1 {w0 W : World} {g : Nat} {f0 : List Int} {f1 : Int} (h : IsS60 w0 W g f0 f1) (x : Int) : IsS60 w0 (W.setCell ⟨g, 1, none⟩ (.int .i64 x)) g f0 x := by
 obtain ⟨A0, c0, hb, hg, hr0⟩ := h
 exact ⟨A0, c0, by simpa using blk_set hb 1 (.int .i64 x), hg, hr0⟩
theorem IsS60.new (w0 W : World) (A0 : Option Addr) (c0 : Nat) (f0 : List Int) (f1 : Int) (hB : Below w0.heap.size w0 W) (hr0 : Kd.C (Kd.int .u8) w0 A0 f0.length f0) : IsS60 w0 (W.alloc (.cells #[.slice A0 f0.length c0, .int .i64 f1] 60)) W.heap.size f0 f1 := ⟨A0, c0, by simpa using heap_alloc_new W _, hB.size, hr0⟩
theorem farA60 {w0 W : World} {g : Nat} {f0 : List Int} {f1 : Int} {g2 j : Nat} {u : Value} (h : IsS60 w0 W g f0 f1) (hn : Aside0 (g ≠ g2)) : IsS60 w0 (W.setCell ⟨g2, j, none⟩ u) g f0 f1 := IsS60.far h hn.out u
theorem iS60 {w0 W W2 : World} {g : Nat} {f0 : List Int} {f1 : Int} {f0' : List Int} {f1' : Int} (a : IsS60 w0 W g f0 f1) (f : IsS60 w0 W g f0 f1 → IsS60 w0 W2 g f0' f1' := by intro h_; repeat (first | (with_reducible first | exact h_ | apply IsS60.alloc | apply IsS60.drewN | apply IsS60.drew | apply IsS60.set_1 | (refine farA60 ?_ ?_; rotate_left; assumption)) | exact h_)) : IsS60 w0 W2 g f0' f1' := f a
theorem wS60 {n : Nat} {w w' W : World} (a : Below n w w') (f : Below n w w' → Below n w W := by intro h_; repeat (first | (with_reducible first | exact h_ | apply below_alloc | apply pw_below_drewN | apply below_drew1 | (refine below_set ?_ ?_; rotate_left; exact IsS60.ge (Aside0.out (by assumption))) | (refine below_setA ?_ ?_; rotate_left; assumption)) | exact h_)) : Below n w W := f a
def spec_newReader.f (l0 : List Int) : Option (List Int × Int) := if (l0.length : Int) > 2000 then (if 2000 ≤ (l0.length : Int) then (some (l0.take 2000, 0)) else (none)) else (some (l0, 0))
set_option maxHeartbeats 8000000 in
set_option maxRecDepth 100000 in
theorem spec_newReader.calls (A0 : Option Addr) (c0 : Nat) (l0 : List Int) (r1 : List Int) (r2 : Int) (w0 w : World) (hB : Below w0.heap.size w0 w) (hr0 : Kd.C (Kd.int .u8) w0 A0 l0.length l0) (hc0 : l0.length ≤ c0) (h : spec_newReader.f l0 = some (r1, r2)) :
  Calls Try.prog 33 #[.slice A0 l0.length c0] w fun e w' => ∃ g_ : Nat, e = .returned (.pointer (some ⟨g_, 0, none⟩)) ∧ IsS60 w0 w' g_ r1 r2 ∧ Below w0.heap.size w0 w' ∧ Below w.heap.size w w' := by
 have hu60 := Try.underlying60
 have HR0 := aM hr0
 have HC0 := aM hc0
 clear hr0 hc0
 have HBW := aM (Below.refl w.heap.size w)
 have HW0 := aM hB.size
 have HB := aM hB
 clear hB
 unfold spec_newReader.f at h
 have H := h
 clear h
 by_cases c2 : (l0.length : Int) > 2000
 rotate_left
 ·rw [if_neg c2] at H
  have c2b0 : decide (2000 < (l0.length : Int)) = false := decide_eq_false c2
  have c2b1 : decide (2000 < l0.length) = false := decide_eq_false (by omega)
  clear c2
  simp only [Option.some.injEq, Prod.mk.injEq] at H
  obtain ⟨rfl, rfl⟩ := H
  go_enter Try.func33, Try.ntmps33
  go_wp2_with (first | ((with_reducible refine gate_dst (N := 10) rfl ?_); refine bxE (N := 10) (cs := #[.slice A0 l0.length c0, .int .i64 0]) (t := 60) ?_; intro gb193 hg w6 hbox hb; replace HB := bS HB hb; have BK193 := aM (hbox); have GW193 := aM ((by rw [hg]; exact (below_size (qW HBW.out)) : w.heap.size ≤ gb193)); have GE193 := aM ((Nat.le_trans HW0.out (by rw [hg]; exact (below_size (qW HBW.out)) : w.heap.size ≤ gb193) : w0.heap.size ≤ gb193)); replace HBW := aM (below_step HBW.out hb); clear hb hbox hg))
  go_ret
  exact ⟨_, rfl, (show IsS60 w0 _ gb193 l0 0 from ⟨_, _, by refine qB ?_; exact BK193.out, GE193.out, HR0.out⟩), by exact qW HB.out, by exact qW HBW.out⟩
 rw [if_pos c2] at H
 have c2b0 : decide (2000 < (l0.length : Int)) = true := decide_eq_true c2
 have c2b1 : decide (2000 < l0.length) = true := decide_eq_true (by omega)
 clear c2
 replace H := iS H
 obtain ⟨c3, H⟩ := H
 have c3b0 := eq_true c3
 have c3b1 : decide (2000 ≤ (l0.length : Int)) = true := decide_eq_true c3
 clear c3
 simp only [Option.some.injEq, Prod.mk.injEq] at H
 obtain ⟨rfl, rfl⟩ := H
 obtain ⟨i04, hi04, _, hsz4, _⟩ := info_parts info5
 obtain ⟨hcut4, hA4, hC4⟩ := print_take_of (P := Try.prog) (Value.int .u8) 0 27 5 .i64 Try.underlying27 hi04 hsz4 A0 c0 l0 2000 (by omega) oD HC0.out
 have HR191 := aM (Kd.C_of_reads (h1 := fun _ => rfl) (hA4 _ (Kd.reads_of_C HR0.out)))
 have HC191 := aM hC4
 clear hA4 hC4 hi04 hsz4
 go_enter Try.func33, Try.ntmps33
 go_wp2_with (first | ((with_reducible refine gate_dst (N := 10) rfl ?_); refine bxE (N := 10) (cs := #[.slice A0 (l0.take 2000).length c0, .int .i64 0]) (t := 60) ?_; intro gb192 hg w5 hbox hb; replace HB := bS HB hb; have BK192 := aM (hbox); have GW192 := aM ((by rw [hg]; exact (below_size (qW HBW.out)) : w.heap.size ≤ gb192)); have GE192 := aM ((Nat.le_trans HW0.out (by rw [hg]; exact (below_size (qW HBW.out)) : w.heap.size ≤ gb192) : w0.heap.size ≤ gb192)); replace HBW := aM (below_step HBW.out hb); clear hb hbox hg))
 go_ret
 exact ⟨_, rfl, (show IsS60 w0 _ gb192 (l0.take 2000) 0 from ⟨_, _, by refine qB ?_; exact BK192.out, GE192.out, HR191.out⟩), by exact qW HB.out, by exact qW HBW.out⟩
def spec_reader_pick.j0 : Nat → Int → Bool → List Int → Int → Option (Int × Int)
 | 0, _, _, _, _ => none
 | k + 1, x1, x24, x1000, x1001 => if x24 = true then (some (0, x1001)) else (if (wrap64 (x1001 - 1)) < (x1000.length : Int) then (if 0 ≤ (wrap64 (x1001 - 1)) then (if x1 = 0 then (none) else (some (Int.tmod (wrap64 (rd x1000 (wrap64 (x1001 - 1)))) x1, x1001))) else (none)) else (if (x1000.length : Int) = 0 then (none) else (if 0 ≤ (Int.tmod (wrap64 (x1001 - 1)) (x1000.length : Int)) then (if (Int.tmod (wrap64 (x1001 - 1)) (x1000.length : Int)) < (x1000.length : Int) then (if 0 ≤ (Int.tmod (wrap64 ((wrap64 ((wrap64 (x1001 - 1)) * 7)) + 3)) (x1000.length : Int)) then (if (Int.tmod (wrap64 ((wrap64 ((wrap64 (x1001 - 1)) * 7)) + 3)) (x1000.length : Int)) < (x1000.length : Int) then (if x1 = 0 then (none) else (some (Int.tmod (Go.bits .xor .i64 (wrap64 ((wrap64 ((wrap64 ((wrap64 ((wrap64 (rd x1000 (Int.tmod (wrap64 (x1001 - 1)) (x1000.length : Int)))) * 131)) + (wrap64 ((wrap64 (rd x1000 (Int.tmod (wrap64 ((wrap64 ((wrap64 (x1001 - 1)) * 7)) + 3)) (x1000.length : Int)))) * 1117)))) + (wrap64 ((wrap64 (x1001 - 1)) * 29)))) + (wrap64 ((wrap64 (Int.tdiv (wrap64 (x1001 - 1)) (x1000.length : Int))) * 53)))) (wrap64 (Int.tdiv (wrap64 ((wrap64 ((wrap64 ((wrap64 ((wrap64 (rd x1000 (Int.tmod (wrap64 (x1001 - 1)) (x1000.length : Int)))) * 131)) + (wrap64 ((wrap64 (rd x1000 (Int.tmod (wrap64 ((wrap64 ((wrap64 (x1001 - 1)) * 7)) + 3)) (x1000.length : Int)))) * 1117)))) + (wrap64 ((wrap64 (x1001 - 1)) * 29)))) + (wrap64 ((wrap64 (Int.tdiv (wrap64 (x1001 - 1)) (x1000.length : Int))) * 53)))) 64))) x1, x1001))) else (none)) else (none)) else (none)) else (none))))
def spec_reader_pick.f (k : Nat) (s0_0 : List Int) (s0_1 : Int) (a1 : Int) : Option (Int × Int) := if a1 < 1 then (spec_reader_pick.j0 k a1 true s0_0 (wrap64 (s0_1 + 1))) else (spec_reader_pick.j0 k a1 ((s0_0.length : Int) == 0) s0_0 (wrap64 (s0_1 + 1)))
theorem spec_reader_pick.mono_l : ∀ k, (∀ y0 y1 y2 y3, LeO (spec_reader_pick.j0 k y0 y1 y2 y3) (spec_reader_pick.j0 (k + 1) y0 y1 y2 y3))
 | 0 => fun _ _ _ _ r h => by simp [spec_reader_pick.j0] at h
 | k + 1 => by
  have ih0 := spec_reader_pick.mono_l k
  ·intro y0 y1 y2 y3
   unfold spec_reader_pick.j0
   repeat' first | (with_reducible first | exact ih0 _ _ _ _ | exact lR | exact lN | refine lI ?_ ?_ | refine lB ?_ fun _ => ?_) | exact ih0 _ _ _ _ | exact lN | refine lI ?_ ?_ | refine lB ?_ fun _ => ?_
theorem spec_reader_pick.mono : ∀ a0 a1 a2 k, LeO (spec_reader_pick.f k a0 a1 a2) (spec_reader_pick.f (k + 1) a0 a1 a2) := by
 intro a0 a1 a2 k
 have ih0 := spec_reader_pick.mono_l k
 unfold spec_reader_pick.f
 repeat' first | (with_reducible first | exact ih0 _ _ _ _ | exact lR | exact lN | refine lI ?_ ?_ | refine lB ?_ fun _ => ?_) | exact ih0 _ _ _ _ | exact lN | refine lI ?_ ?_ | refine lB ?_ fun _ => ?_
set_option maxHeartbeats 8000000 in
set_option maxRecDepth 100000 in
theorem spec_reader_pick.calls (k : Nat) (g : Nat) (s0_0 : List Int) (s0_1 : Int) (a1 : Int) (r1 : Int) (r2 : Int) (w0 w : World) (hI : IsS60 w0 w g s0_0 s0_1) (hB : Below w0.heap.size w0 w) (h : spec_reader_pick.f k s0_0 s0_1 a1 = some (r1, r2)) :
  Calls Try.prog 36 #[.pointer (some ⟨g, 0, none⟩), .int .i64 a1] w fun e w' => e = .returned (.int .i64 r1) ∧ IsS60 w0 w' g s0_0 r2 ∧ Below w0.heap.size w0 w' ∧ KeepBut w w' g none := by
 have HI0 := aM hI
 have HK := aM (KeepBut.refl w g none)
 have HL := aM hB.size
 clear hI
 have HW0 := aM hB.size
 have HB := aM hB
 clear hB
 unfold spec_reader_pick.f at h
 have H := h
 clear h
 have HC3 := aM H
 clear H
 obtain ⟨ASz4_0, cSz4_0, HGz4, hgz4, HSz4_0⟩ := HI0.out
 have hcz4_0 := cellS60_0 HGz4
 have hcz4_1 := cellS60_1 HGz4
 have hfz4_1 := blk_frozen HGz4 1
 clear HGz4 hgz4
 go_enter Try.func36, Try.ntmps36
 go_upto_region 2 with (fail)
 repeat (go_quiet (fail); go_upto_region 2 with (fail))
 go_cut [24] (fun v24 wc => ∃ (kq : Nat) (x24_2 : Bool), v24 = .bool x24_2 ∧ Aside0 (spec_reader_pick.j0 kq a1 x24_2 s0_0 (wrap64 (s0_1 + 1)) = some (r1, r2)) ∧ Aside0 (kq ≤ k) ∧ Aside0 (IsS60 w0 wc g s0_0 (wrap64 (s0_1 + 1))) ∧ Aside0 (KeepBut w wc g none) ∧ Aside0 (Below w0.heap.size w0 wc))
 case first =>
  have H := HC3.out
  clear HC3
  by_cases c5 : a1 < 1
  ·rw [if_pos c5] at H
   have c5b0 : decide (a1 < 1) = true := decide_eq_true c5
   clear c5
   (first | rw [c5b0] | (simp only [i64_w, i32_w]; rw [c5b0]) | skip)
   have H' := aM H
   clear H
   go_wp2
   repeat (go_quiet (fail); try go_wp2)
   go_meet
   case rel => exact ⟨_, (true), qE, H', ⟨by first | omega | exact Nat.le_refl _⟩, ⟨iS60 HI0.out⟩, ⟨kB HK.out⟩, ⟨wS60 HB.out⟩⟩
  rw [if_neg c5] at H
  have c5b0 : decide (a1 < 1) = false := decide_eq_false c5
  clear c5
  (first | rw [c5b0] | (simp only [i64_w, i32_w]; rw [c5b0]) | skip)
  have H' := aM H
  clear H
  obtain ⟨ASz6_0, cSz6_0, HGz6, hgz6, HSz6_0⟩ := HI0.out
  have hcz6_0 := cellS60_0 HGz6
  have hcz6_1 := cellS60_1 HGz6
  have hfz6_1 := blk_frozen HGz6 1
  clear HGz6 hgz6
  go_wp2
  repeat (go_quiet (fail); try go_wp2)
  go_meet
  case rel => exact ⟨_, (((s0_0.length : Int) == 0)), qE, H', ⟨by first | omega | exact Nat.le_refl _⟩, ⟨iS60 HI0.out⟩, ⟨kB HK.out⟩, ⟨wS60 HB.out⟩⟩
 case rest =>
  clear HC3
  try clear c5
  try clear c5b0
  try clear hcz4_0 hcz4_1 hfz4_1
  try clear hcz6_0 hcz6_1 hfz6_1
  obtain ⟨kq, x24_2, rfl, HA, HJ2, HI0, HK, HB⟩ := hcut
  cases kq with
  | zero => exact absurd HA.out (by simp [spec_reader_pick.j0])
  | succ kj2 =>
   have H := HA.out
   clear HA
   simp only [spec_reader_pick.j0] at H
   by_cases c7 : x24_2 = true
   ·subst c7
    have H1 : (some (0, (wrap64 (s0_1 + 1)))) = some (r1, r2) := by rw [if_pos rfl] at H; exact H
    clear H
    have H := H1
    clear H1
    simp only [Option.some.injEq, Prod.mk.injEq] at H
    obtain ⟨rfl, rfl⟩ := H
    go_wp2
    repeat (go_quiet (fail); try go_wp2)
    go_ret
    exact ⟨qX, iS60 HI0.out, wS60 HB.out, kB HK.out⟩
   replace c7 := Bool.eq_false_iff.mpr c7
   subst c7
   have H1 : (if (wrap64 ((wrap64 (s0_1 + 1)) - 1)) < (s0_0.length : Int) then (if 0 ≤ (wrap64 ((wrap64 (s0_1 + 1)) - 1)) then (if a1 = 0 then (none) else (some (Int.tmod (wrap64 (rd s0_0 (wrap64 ((wrap64 (s0_1 + 1)) - 1)))) a1, (wrap64 (s0_1 + 1))))) else (none)) else (if (s0_0.length : Int) = 0 then (none) else (if 0 ≤ (Int.tmod (wrap64 ((wrap64 (s0_1 + 1)) - 1)) (s0_0.length : Int)) then (if (Int.tmod (wrap64 ((wrap64 (s0_1 + 1)) - 1)) (s0_0.length : Int)) < (s0_0.length : Int) then (if 0 ≤ (Int.tmod (wrap64 ((wrap64 ((wrap64 ((wrap64 (s0_1 + 1)) - 1)) * 7)) + 3)) (s0_0.length : Int)) then (if (Int.tmod (wrap64 ((wrap64 ((wrap64 ((wrap64 (s0_1 + 1)) - 1)) * 7)) + 3)) (s0_0.length : Int)) < (s0_0.length : Int) then (if a1 = 0 then (none) else (some (Int.tmod (Go.bits .xor .i64 (wrap64 ((wrap64 ((wrap64 ((wrap64 ((wrap64 (rd s0_0 (Int.tmod (wrap64 ((wrap64 (s0_1 + 1)) - 1)) (s0_0.length : Int)))) * 131)) + (wrap64 ((wrap64 (rd s0_0 (Int.tmod (wrap64 ((wrap64 ((wrap64 ((wrap64 (s0_1 + 1)) - 1)) * 7)) + 3)) (s0_0.length : Int)))) * 1117)))) + (wrap64 ((wrap64 ((wrap64 (s0_1 + 1)) - 1)) * 29)))) + (wrap64 ((wrap64 (Int.tdiv (wrap64 ((wrap64 (s0_1 + 1)) - 1)) (s0_0.length : Int))) * 53)))) (wrap64 (Int.tdiv (wrap64 ((wrap64 ((wrap64 ((wrap64 ((wrap64 (rd s0_0 (Int.tmod (wrap64 ((wrap64 (s0_1 + 1)) - 1)) (s0_0.length : Int)))) * 131)) + (wrap64 ((wrap64 (rd s0_0 (Int.tmod (wrap64 ((wrap64 ((wrap64 ((wrap64 (s0_1 + 1)) - 1)) * 7)) + 3)) (s0_0.length : Int)))) * 1117)))) + (wrap64 ((wrap64 ((wrap64 (s0_1 + 1)) - 1)) * 29)))) + (wrap64 ((wrap64 (Int.tdiv (wrap64 ((wrap64 (s0_1 + 1)) - 1)) (s0_0.length : Int))) * 53)))) 64))) a1, (wrap64 (s0_1 + 1))))) else (none)) else (none)) else (none)) else (none)))) = some (r1, r2) := by rw [if_neg (show ¬ (false = true) by decide)] at H; exact H
   clear H
   have H := H1
   clear H1
   by_cases c8 : (wrap64 ((wrap64 (s0_1 + 1)) - 1)) < (s0_0.length : Int)
   ·rw [if_pos c8] at H
    have c8b0 : decide ((wrap64 ((wrap64 (s0_1 + 1)) - 1)) < (s0_0.length : Int)) = true := decide_eq_true c8
    clear c8
    obtain ⟨ji9, hji9⟩ : ∃ j_ : Int, (wrap64 ((wrap64 (s0_1 + 1)) - 1)) = j_ := ⟨_, rfl⟩
    replace H : (if 0 ≤ (ji9) then (if a1 = 0 then (none) else (some (Int.tmod (wrap64 (rd s0_0 (ji9))) a1, (wrap64 (s0_1 + 1))))) else (none)) = some (r1, r2) := by first | (rw [hji9] at H; exact H) | (simp only [hji9] at H ⊢; exact H)
    (try rw [hji9] at c8b0)
    have hji9w : (IntKind.i64.wrap ((wrap64 (s0_1 + 1)) - 1)) = ji9 := (i64_w _).trans hji9
    replace H := iD H
    obtain ⟨c10b0, H⟩ := H
    by_cases c11 : a1 = 0
    ·rw [if_pos c11] at H
     exact absurd H (by simp)
    rw [if_neg c11] at H
    have c11b0 : (a1 == 0) = false := beq_eq_false_iff_ne.mpr c11
    have c11b1 : (a1 != 0) = true := bne_iff_ne.mpr c11
    simp only [Option.some.injEq, Prod.mk.injEq] at H
    obtain ⟨rfl, rfl⟩ := H
    obtain ⟨ASz12_0, cSz12_0, HGz12, hgz12, HSz12_0⟩ := HI0.out
    have hcz12_0 := cellS60_0 HGz12
    have hcz12_1 := cellS60_1 HGz12
    have hfz12_1 := blk_frozen HGz12 1
    clear HGz12 hgz12
    obtain ⟨ad194, e194, hx194_0⟩ := Kd.at_int HSz12_0 (ji9) oD oD
    cases e194
    replace hx194_0 := pw_cell_below HB.out hx194_0
    have p194 := eq_true (oD : 0 ≤ ((ji9) : Int))
    have q194 := eq_true (oD : (ji9) < (s0_0.length : Int))
    go_wp2
    repeat (go_quiet (fail); try go_wp2)
    go_ret
    exact ⟨by first | rfl | (simp [errW_none, errW_some] <;> rfl) | (simp only [← hji9]; first | rfl | (simp [errW_none, errW_some] <;> rfl)) | (simp [*, errW_none, errW_some] <;> rfl), iS60 HI0.out, wS60 HB.out, kB HK.out⟩
   rw [if_neg c8] at H
   have c8b0 : decide ((wrap64 ((wrap64 (s0_1 + 1)) - 1)) < (s0_0.length : Int)) = false := decide_eq_false c8
   clear c8
   by_cases c13 : (s0_0.length : Int) = 0
   ·rw [if_pos c13] at H
    exact absurd H (by simp)
   rw [if_neg c13] at H
   have c13b0 : ((s0_0.length : Int) == 0) = false := beq_eq_false_iff_ne.mpr c13
   have c13b1 : ((s0_0.length : Int) != 0) = true := bne_iff_ne.mpr c13
   have c13b2 : ¬ (s0_0 = []) := fun h_ => c13 (by rw [h_]; rfl)
   obtain ⟨ji14, hji14⟩ : ∃ j_ : Int, (Int.tmod (wrap64 ((wrap64 (s0_1 + 1)) - 1)) (s0_0.length : Int)) = j_ := ⟨_, rfl⟩
   replace H : (if 0 ≤ (ji14) then (if (ji14) < (s0_0.length : Int) then (if 0 ≤ (Int.tmod (wrap64 ((wrap64 ((wrap64 ((wrap64 (s0_1 + 1)) - 1)) * 7)) + 3)) (s0_0.length : Int)) then (if (Int.tmod (wrap64 ((wrap64 ((wrap64 ((wrap64 (s0_1 + 1)) - 1)) * 7)) + 3)) (s0_0.length : Int)) < (s0_0.length : Int) then (if a1 = 0 then (none) else (some (Int.tmod (Go.bits .xor .i64 (wrap64 ((wrap64 ((wrap64 ((wrap64 ((wrap64 (rd s0_0 (ji14))) * 131)) + (wrap64 ((wrap64 (rd s0_0 (Int.tmod (wrap64 ((wrap64 ((wrap64 ((wrap64 (s0_1 + 1)) - 1)) * 7)) + 3)) (s0_0.length : Int)))) * 1117)))) + (wrap64 ((wrap64 ((wrap64 (s0_1 + 1)) - 1)) * 29)))) + (wrap64 ((wrap64 (Int.tdiv (wrap64 ((wrap64 (s0_1 + 1)) - 1)) (s0_0.length : Int))) * 53)))) (wrap64 (Int.tdiv (wrap64 ((wrap64 ((wrap64 ((wrap64 ((wrap64 (rd s0_0 (ji14))) * 131)) + (wrap64 ((wrap64 (rd s0_0 (Int.tmod (wrap64 ((wrap64 ((wrap64 ((wrap64 (s0_1 + 1)) - 1)) * 7)) + 3)) (s0_0.length : Int)))) * 1117)))) + (wrap64 ((wrap64 ((wrap64 (s0_1 + 1)) - 1)) * 29)))) + (wrap64 ((wrap64 (Int.tdiv (wrap64 ((wrap64 (s0_1 + 1)) - 1)) (s0_0.length : Int))) * 53)))) 64))) a1, (wrap64 (s0_1 + 1))))) else (none)) else (none)) else (none)) else (none)) = some (r1, r2) := by first | (rw [hji14] at H; exact H) | (simp only [hji14] at H ⊢; exact H)
   replace H := iD H
   obtain ⟨c15b0, H⟩ := H
   replace H := iD H
   obtain ⟨c16b0, H⟩ := H
   obtain ⟨ji17, hji17⟩ : ∃ j_ : Int, (Int.tmod (wrap64 ((wrap64 ((wrap64 ((wrap64 (s0_1 + 1)) - 1)) * 7)) + 3)) (s0_0.length : Int)) = j_ := ⟨_, rfl⟩
   replace H : (if 0 ≤ (ji17) then (if (ji17) < (s0_0.length : Int) then (if a1 = 0 then (none) else (some (Int.tmod (Go.bits .xor .i64 (wrap64 ((wrap64 ((wrap64 ((wrap64 ((wrap64 (rd s0_0 (ji14))) * 131)) + (wrap64 ((wrap64 (rd s0_0 (ji17))) * 1117)))) + (wrap64 ((wrap64 ((wrap64 (s0_1 + 1)) - 1)) * 29)))) + (wrap64 ((wrap64 (Int.tdiv (wrap64 ((wrap64 (s0_1 + 1)) - 1)) (s0_0.length : Int))) * 53)))) (wrap64 (Int.tdiv (wrap64 ((wrap64 ((wrap64 ((wrap64 ((wrap64 (rd s0_0 (ji14))) * 131)) + (wrap64 ((wrap64 (rd s0_0 (ji17))) * 1117)))) + (wrap64 ((wrap64 ((wrap64 (s0_1 + 1)) - 1)) * 29)))) + (wrap64 ((wrap64 (Int.tdiv (wrap64 ((wrap64 (s0_1 + 1)) - 1)) (s0_0.length : Int))) * 53)))) 64))) a1, (wrap64 (s0_1 + 1))))) else (none)) else (none)) = some (r1, r2) := by first | (rw [hji17] at H; exact H) | (simp only [hji17] at H ⊢; exact H)
   replace H := iD H
   obtain ⟨c18b0, H⟩ := H
   replace H := iD H
   obtain ⟨c19b0, H⟩ := H
   by_cases c20 : a1 = 0
   ·rw [if_pos c20] at H
    exact absurd H (by simp)
   rw [if_neg c20] at H
   have c20b0 : (a1 == 0) = false := beq_eq_false_iff_ne.mpr c20
   have c20b1 : (a1 != 0) = true := bne_iff_ne.mpr c20
   simp only [Option.some.injEq, Prod.mk.injEq] at H
   obtain ⟨rfl, rfl⟩ := H
   obtain ⟨ASz21_0, cSz21_0, HGz21, hgz21, HSz21_0⟩ := HI0.out
   have hcz21_0 := cellS60_0 HGz21
   have hcz21_1 := cellS60_1 HGz21
   have hfz21_1 := blk_frozen HGz21 1
   clear HGz21 hgz21
   obtain ⟨ad195, e195, hx195_0⟩ := Kd.at_int HSz21_0 (ji14) oD oD
   cases e195
   replace hx195_0 := pw_cell_below HB.out hx195_0
   have p195 := eq_true (oD : 0 ≤ ((ji14) : Int))
   have q195 := eq_true (oD : (ji14) < (s0_0.length : Int))
   obtain ⟨ad196, e196, hx196_0⟩ := Kd.at_int HSz21_0 (ji17) oD oD
   obtain rfl : ad195 = ad196 := (by injection e196)
   replace hx196_0 := pw_cell_below HB.out hx196_0
   have p196 := eq_true (oD : 0 ≤ ((ji17) : Int))
   have q196 := eq_true (oD : (ji17) < (s0_0.length : Int))
   go_wp2
   repeat (go_quiet (fail); try go_wp2)
   go_ret
   exact ⟨by first | rfl | (simp [errW_none, errW_some] <;> rfl) | (simp only [← hji14, ← hji17]; first | rfl | (simp [errW_none, errW_some] <;> rfl)) | (simp [*, errW_none, errW_some] <;> rfl), iS60 HI0.out, wS60 HB.out, kB HK.out⟩
def spec_reader_one.f (k : Nat) (s0_0 : List Int) (s0_1 : Int) (l1 : List Int) : Option (Int × Int) := (spec_reader_pick.f k s0_0 s0_1 (l1.length : Int)).bind fun bt197 => (if 0 ≤ bt197.1 then (if bt197.1 < (l1.length : Int) then (some (rd l1 bt197.1, bt197.2)) else (none)) else (none))
theorem spec_reader_one.mono : ∀ a0 a1 a2 k, LeO (spec_reader_one.f k a0 a1 a2) (spec_reader_one.f (k + 1) a0 a1 a2) := by
 intro a0 a1 a2 k
 unfold spec_reader_one.f
 repeat' first | (with_reducible first | exact spec_reader_pick.mono _ _ _ _ | exact lR | exact lN | refine lI ?_ ?_ | refine lB ?_ fun _ => ?_) | exact spec_reader_pick.mono _ _ _ _ | exact lN | refine lI ?_ ?_ | refine lB ?_ fun _ => ?_
set_option maxHeartbeats 8000000 in
set_option maxRecDepth 100000 in
theorem spec_reader_one.calls (k : Nat) (g : Nat) (s0_0 : List Int) (s0_1 : Int) (A1 : Option Addr) (c1 : Nat) (l1 : List Int) (r1 : Int) (r2 : Int) (w0 w : World) (hI : IsS60 w0 w g s0_0 s0_1) (hB : Below w0.heap.size w0 w) (hr1 : Kd.C (Kd.int .i64) w A1 l1.length l1) (hc1 : l1.length ≤ c1) (hf1 : ∀ ad, A1 = some ad → 0 < l1.length → ad.block ≠ g) (h : spec_reader_one.f k s0_0 s0_1 l1 = some (r1, r2)) :
  Calls Try.prog 35 #[.pointer (some ⟨g, 0, none⟩), .slice A1 l1.length c1] w fun e w' => e = .returned (.int .i64 r1) ∧ IsS60 w0 w' g s0_0 r2 ∧ Below w0.heap.size w0 w' ∧ KeepBut w w' g none := by
 have HR1 := aM hr1
 have HC1 := aM hc1
 clear hr1 hc1
 have HI0 := aM hI
 have HK := aM (KeepBut.refl w g none)
 have HL := aM hB.size
 clear hI
 have HW0 := aM hB.size
 have HB := aM hB
 clear hB
 unfold spec_reader_one.f at h
 have H := h
 clear h
 replace H := Option.bind_eq_some_iff.mp H
 obtain ⟨⟨t197, t198⟩, A30, H⟩ := H
 replace H : (if 0 ≤ t197 then (if t197 < (l1.length : Int) then (some (rd l1 t197, t198)) else (none)) else (none)) = some (r1, r2) := H
 have A3 := aM A30
 clear A30
 replace H := iD H
 obtain ⟨c4b0, H⟩ := H
 replace H := iD H
 obtain ⟨c5b0, H⟩ := H
 simp only [Option.some.injEq, Prod.mk.injEq] at H
 obtain ⟨rfl, rfl⟩ := H
 go_enter Try.func35, Try.ntmps35
 go_wp2_with (first | ((with_reducible refine gate_callee (f := 36) rfl ?_); refine gL (some 9) Try.func36 #[.pointer (some ⟨g, 0, none⟩), .int .i64 (l1.length : Int)] ?_; (with_reducible refine (spec_reader_pick.calls k g s0_0 s0_1 (l1.length : Int) t197 t198 w0 _ ?side1 ?side2 A3.out).mono ?_); (case side1 => exact iS60 HI0.out); (case side2 => exact wS60 HB.out); rintro e w6 ⟨rfl, hi, hb, hk⟩; refine ⟨_, rfl, ?_⟩; replace HK := aM (KeepBut.trans (kB HK.out) hk (.inl rfl)); replace HB := aM (hb); replace HI0 := aM (hi); clear hb hk hi; have p199 : 0 ≤ (t197 : Int) := oD; have q199 : t197 < (l1.length : Int) := oD; obtain ⟨ad199, e199, hx199_0⟩ := Kd.at_int HR1.out t197 p199 q199; cases e199; replace hx199_0 := keep_cell HK.out hx199_0 (by first | (rw [add_block]; exact hf1 _ rfl (by omega)) | exact hf1 _ rfl (by omega) | exact hf1 ad199 rfl (by omega)); replace p199 := eq_true p199; replace q199 := eq_true q199))
 go_ret
 exact ⟨qX, iS60 HI0.out, wS60 HB.out, kB HK.out⟩
def spec_copyInts.f (l0 : List Int) : Option (List Int) := (some (([] : List Int) : List Int)).bind fun y200 => (if y200.length + l0.length < 17592186044416 then (some (y200 ++ l0)) else (none))
set_option maxHeartbeats 8000000 in
set_option maxRecDepth 100000 in
theorem spec_copyInts.calls (A0 : Option Addr) (c0 : Nat) (l0 : List Int) (r : List Int) (w : World) (hr0 : Kd.C (Kd.int .i64) w A0 l0.length l0) (hc0 : l0.length ≤ c0) (h : spec_copyInts.f l0 = some r) :
  Calls Try.prog 52 #[.slice A0 l0.length c0] w fun e w' => ∃ v0_ : Value, e = .returned (v0_) ∧ Kd.R (Kd.int .i64) 3 w' w.heap.size (fun _ => True) v0_ r ∧ Below w.heap.size w w' := by
 have HR0 := aM hr0
 have HC0 := aM hc0
 clear hr0 hc0
 have HB := aM (Below.refl w.heap.size w)
 unfold spec_copyInts.f at h
 have H := h
 clear h
 obtain ⟨y200, hy200⟩ : ∃ y_ : List Int, y_ = (([] : List Int)) := ⟨_, rfl⟩
 replace H : (if y200.length + l0.length < 17592186044416 then (some (y200 ++ l0)) else (none)) = some r := rY hy200 H
 have Ny200 := aM hy200
 clear hy200
 replace H := iS H
 obtain ⟨c2, H⟩ := H
 have LMc2 := aM c2
 clear c2
 obtain ⟨y203, hy203⟩ : ∃ y_ : List Int, y_ = (y200 ++ l0) := ⟨_, rfl⟩
 replace H : (some y203) = some r := rY hy203 H
 have Ny203 := aM hy203
 clear hy203
 obtain rfl := Option.some.inj H
 go_enter Try.func52, Try.ntmps52
 go_wp2_with (first | ((with_reducible refine gate_dst (N := 3) rfl ?_); refine iL ([] : List Int) [] ?_; intro v201 w3 ho4 hb hg_ hnew_; clear hg_ hnew_; (first | rw [← Ny200.out] at ho4 | (simp only [Int.reduceToNat] at ho4; rw [← Ny200.out] at ho4)); have HO202 := oR ho4 HB; replace HB := bS HB hb; clear hb ho4) | ((with_reducible refine gate_builtin (b := .append) (xs := #[.tmp 3, .tmp 4]) rfl ?_); at_builtin; refine Kd.R_append_rows (Kd.int .i64) (w0 := w) w.heap.size rfl (.tmp 3) (.tmp 4) 22 3 (.int .i64 0) 8 rfl Try.underlying22 info3 rfl (by decide) (by omega) v201 y200 l0 _ _ _ (fun _ => True) (fun _ => False) rfl rfl ?aO ?aR (fun _ _ h => h) (fun _ h => h.elim) ?aF ?aB ?aS ?aL ?_; (case aR => exact qC (Kd.C_below HR0.out HB.out)); (case aB => exact (qW HB.out)); (case aF => exact (fun _ _ => trivial)); (case aO => exact (qR HO202.out)); (case aS => exact (below_size (qW HB.out))); (case aL => have := LMc2.out; omega); intro v204 w5 ho hb hg hat; rw [← Ny203.out] at ho; replace HB := aM (hb); have HO205 := aM (ho); clear HO202; clear ho hb hg hat))
 go_ret
 exact ⟨_, qX, by refine qR ?_; exact HO205.out, by exact qW HB.out⟩
def spec_reader_spoil.f (k : Nat) (s0_0 : List Int) (s0_1 : Int) (l1 : List Int) (a2 : Int) : Option (List Int × Int) := (spec_copyInts.f l1).bind fun t206 => ((spec_reader_pick.f k s0_0 s0_1 20).bind fun bt209 => (if bt209.1 = 0 then (if t206.length < 17592186044416 then (some ((t206 ++ [a2]), bt209.2)) else (none)) else (if bt209.1 = 1 then (if (t206.length : Int) > 0 then (if 1 ≤ (t206.length : Int) then (some ((t206.drop (1 : Int).toNat), bt209.2)) else (none)) else (some (t206, bt209.2))) else (if bt209.1 = 2 then (if (t206.length : Int) > 0 then ((spec_reader_pick.f k s0_0 bt209.2 (t206.length : Int)).bind fun bt217 => ((spec_reader_one.f k s0_0 bt217.2 (([(-1), a2, 0, 1] : List Int))).bind fun bt222 => (if 0 ≤ bt217.1 then (if bt217.1 < (t206.length : Int) then (some ((t206.set (bt217.1 : Int).toNat bt222.1), bt222.2)) else (none)) else (none)))) else (some (t206, bt209.2))) else (some (t206, bt209.2))))))
theorem spec_reader_spoil.mono : ∀ a0 a1 a2 a3 k, LeO (spec_reader_spoil.f k a0 a1 a2 a3) (spec_reader_spoil.f (k + 1) a0 a1 a2 a3) := by
 intro a0 a1 a2 a3 k
 unfold spec_reader_spoil.f
 repeat' first | (with_reducible first | exact spec_reader_one.mono _ _ _ _ | exact spec_reader_pick.mono _ _ _ _ | exact lR | exact lN | refine lI ?_ ?_ | refine lB ?_ fun _ => ?_) | exact spec_reader_one.mono _ _ _ _ | exact spec_reader_pick.mono _ _ _ _ | exact lN | refine lI ?_ ?_ | refine lB ?_ fun _ => ?_
set_option maxHeartbeats 8000000 in
set_option maxRecDepth 100000 in
theorem spec_reader_spoil.calls (k : Nat) (g : Nat) (s0_0 : List Int) (s0_1 : Int) (A1 : Option Addr) (c1 : Nat) (l1 : List Int) (a2 : Int) (r1 : List Int) (r2 : Int) (w0 w : World) (hI : IsS60 w0 w g s0_0 s0_1) (hB : Below w0.heap.size w0 w) (hr1 : Kd.C (Kd.int .i64) w A1 l1.length l1) (hc1 : l1.length ≤ c1) (hf1 : ∀ ad, A1 = some ad → 0 < l1.length → ad.block ≠ g) (h : spec_reader_spoil.f k s0_0 s0_1 l1 a2 = some (r1, r2)) :
  Calls Try.prog 37 #[.pointer (some ⟨g, 0, none⟩), .slice A1 l1.length c1, .int .i64 a2] w fun e w' => ∃ v0_ : Value, e = .returned (v0_) ∧ Kd.Q (Kd.int .i64) 3 w' w.heap.size (fun _ => True) v0_ r1 ∧ IsS60 w0 w' g s0_0 r2 ∧ Below w0.heap.size w0 w' ∧ KeepBut w w' g none := by
 have HR1 := aM hr1
 have HC1 := aM hc1
 clear hr1 hc1
 have HI0 := aM hI
 have HK := aM (KeepBut.refl w g none)
 have HL := aM hB.size
 clear hI
 have HW0 := aM hB.size
 have HB := aM hB
 clear hB
 unfold spec_reader_spoil.f at h
 have H := h
 clear h
 replace H := Option.bind_eq_some_iff.mp H
 obtain ⟨t206, A40, H⟩ := H
 replace H : ((spec_reader_pick.f k s0_0 s0_1 20).bind fun bt209 => (if bt209.1 = 0 then (if t206.length < 17592186044416 then (some ((t206 ++ [a2]), bt209.2)) else (none)) else (if bt209.1 = 1 then (if (t206.length : Int) > 0 then (if 1 ≤ (t206.length : Int) then (some ((t206.drop (1 : Int).toNat), bt209.2)) else (none)) else (some (t206, bt209.2))) else (if bt209.1 = 2 then (if (t206.length : Int) > 0 then ((spec_reader_pick.f k s0_0 bt209.2 (t206.length : Int)).bind fun bt217 => ((spec_reader_one.f k s0_0 bt217.2 (([(-1), a2, 0, 1] : List Int))).bind fun bt222 => (if 0 ≤ bt217.1 then (if bt217.1 < (t206.length : Int) then (some ((t206.set (bt217.1 : Int).toNat bt222.1), bt222.2)) else (none)) else (none)))) else (some (t206, bt209.2))) else (some (t206, bt209.2)))))) = some (r1, r2) := H
 have A4 := aM A40
 clear A40
 replace H := Option.bind_eq_some_iff.mp H
 obtain ⟨⟨t209, t210⟩, A50, H⟩ := H
 replace H : (if t209 = 0 then (if t206.length < 17592186044416 then (some ((t206 ++ [a2]), t210)) else (none)) else (if t209 = 1 then (if (t206.length : Int) > 0 then (if 1 ≤ (t206.length : Int) then (some ((t206.drop (1 : Int).toNat), t210)) else (none)) else (some (t206, t210))) else (if t209 = 2 then (if (t206.length : Int) > 0 then ((spec_reader_pick.f k s0_0 t210 (t206.length : Int)).bind fun bt217 => ((spec_reader_one.f k s0_0 bt217.2 (([(-1), a2, 0, 1] : List Int))).bind fun bt222 => (if 0 ≤ bt217.1 then (if bt217.1 < (t206.length : Int) then (some ((t206.set (bt217.1 : Int).toNat bt222.1), bt222.2)) else (none)) else (none)))) else (some (t206, t210))) else (some (t206, t210))))) = some (r1, r2) := H
 have A5 := aM A50
 clear A50
 by_cases c6 : t209 = 0
 ·rw [if_pos c6] at H
  have c6b0 : (t209 == 0) = true := beq_iff_eq.mpr c6
  have c6b1 : (t209 != 0) = false := bne_eq_false_iff_eq.mpr c6
  clear c6
  replace H := iS H
  obtain ⟨c7, H⟩ := H
  have LMc7 := aM c7
  clear c7
  obtain ⟨y211, hy211⟩ : ∃ y_ : List Int, y_ = (t206 ++ [a2]) := ⟨_, rfl⟩
  replace H : (some (y211, t210)) = some (r1, r2) := rY hy211 H
  have Ny211 := aM hy211
  clear hy211
  simp only [Option.some.injEq, Prod.mk.injEq] at H
  obtain ⟨rfl, rfl⟩ := H
  go_enter Try.func37, Try.ntmps37
  go_wp2_with (first | ((with_reducible refine gate_callee (f := 52) rfl ?_); refine gL (some 9) Try.func52 #[.slice A1 l1.length c1] ?_; (with_reducible refine (spec_copyInts.calls _ _ l1 t206 _ ?side1 ?side2 A4.out).mono ?_); (case side1 => exact Kd.C_keep 0 HR1.out (kB HK.out) hf1); (case side2 => exact HC1.out); rintro e w8 ⟨v207, rfl, ho0, hb⟩; refine ⟨_, rfl, ?_⟩; have HO208 := lK ho0 HK; replace HK := aM (KeepBut.trans (kB HK.out) (KeepBut.of_below hb g none) (.inl rfl)); replace HB := aM (below_step (wS60 HB.out) hb); replace HI0 := aM (IsS60.below (iS60 HI0.out) hb); clear hb ho0) | ((with_reducible refine gate_callee (f := 36) rfl ?_); refine gL (some 11) Try.func36 #[.pointer (some ⟨g, 0, none⟩), .int .i64 20] ?_; (with_reducible refine (spec_reader_pick.calls k g s0_0 s0_1 20 t209 t210 w0 _ ?side1 ?side2 A5.out).mono ?_); (case side1 => exact iS60 HI0.out); (case side2 => exact wS60 HB.out); rintro e w9 ⟨rfl, hi, hb, hk⟩; refine ⟨_, rfl, ?_⟩; replace HO208 := aM (Kd.R_mono (Kd.R_keep (IsS60.apart (show IsS60 w0 _ g s0_0 s0_1 from iS60 HI0.out) (qR HO208.out) (by decide)) hk (fun _ h => h.2)) (fun _ h => h.1)); replace HK := aM (KeepBut.trans (kB HK.out) hk (.inl rfl)); replace HB := aM (hb); replace HI0 := aM (hi); clear hb hk hi) | ((with_reducible refine gate_builtin (b := .append) (xs := #[.tmp 14, .tmp 16]) rfl ?_); at_builtin; refine Kd.R_append (Kd.int .i64) w.heap.size rfl (.tmp 14) (.tmp 16) 22 3 (.int .i64 0) 8 rfl Try.underlying22 info3 rfl (by decide) (by omega) v207 t206 a2 [.int .i64 a2] (fun _ => True) (fun _ => False) rfl rfl ?aP (fun _ hk => hk.elim) ?aF ?aO (Below.refl _ _) ?aS ?aL ?_; (case aP => exact rfl); (case aF => exact (fun _ _ => trivial)); (case aO => exact (qR HO208.out)); (case aS => exact (keep_size (w := w) (g := g) (row := none) (kB HK.out))); (case aL => have := LMc7.out; omega); intro v212 w10 ho hb hg hat; rw [← Ny211.out] at ho; replace HB := aM (below_weaken (wS60 HB.out) HL.out hb); replace HI0 := aM (IsS60.grown (iS60 HI0.out) hg (IsS60.own_ne HI0.out HO208.out (by decide))); replace HK := aM (KeepBut.trans (kB HK.out) (KeepBut.of_grown hg g) (Kd.R_base2 HO208.out)); have HO213 := aM (ho); clear HO208; clear ho hb hg hat))
  go_ret
  exact ⟨_, qX, Kd.Q_of_R (qR HO213.out), iS60 HI0.out, wS60 HB.out, kB HK.out⟩
 rw [if_neg c6] at H
 have c6b0 : (t209 == 0) = false := beq_eq_false_iff_ne.mpr c6
 have c6b1 : (t209 != 0) = true := bne_iff_ne.mpr c6
 by_cases c11 : t209 = 1
 ·rw [if_pos c11] at H
  have c11b0 : (t209 == 1) = true := beq_iff_eq.mpr c11
  have c11b1 : (t209 != 1) = false := bne_eq_false_iff_eq.mpr c11
  clear c11
  by_cases c12 : (t206.length : Int) > 0
  rotate_left
  ·rw [if_neg c12] at H
   have c12b0 : decide (0 < (t206.length : Int)) = false := decide_eq_false c12
   have c12b1 : decide (0 < t206.length) = false := decide_eq_false (by omega)
   clear c12
   simp only [Option.some.injEq, Prod.mk.injEq] at H
   obtain ⟨rfl, rfl⟩ := H
   go_enter Try.func37, Try.ntmps37
   go_wp2_with (first | ((with_reducible refine gate_callee (f := 52) rfl ?_); refine gL (some 9) Try.func52 #[.slice A1 l1.length c1] ?_; (with_reducible refine (spec_copyInts.calls _ _ l1 t206 _ ?side1 ?side2 A4.out).mono ?_); (case side1 => exact Kd.C_keep 0 HR1.out (kB HK.out) hf1); (case side2 => exact HC1.out); rintro e w18 ⟨v207, rfl, ho0, hb⟩; refine ⟨_, rfl, ?_⟩; have HO208 := lK ho0 HK; replace HK := aM (KeepBut.trans (kB HK.out) (KeepBut.of_below hb g none) (.inl rfl)); replace HB := aM (below_step (wS60 HB.out) hb); replace HI0 := aM (IsS60.below (iS60 HI0.out) hb); clear hb ho0) | ((with_reducible refine gate_callee (f := 36) rfl ?_); refine gL (some 11) Try.func36 #[.pointer (some ⟨g, 0, none⟩), .int .i64 20] ?_; (with_reducible refine (spec_reader_pick.calls k g s0_0 s0_1 20 t209 t210 w0 _ ?side1 ?side2 A5.out).mono ?_); (case side1 => exact iS60 HI0.out); (case side2 => exact wS60 HB.out); rintro e w19 ⟨rfl, hi, hb, hk⟩; refine ⟨_, rfl, ?_⟩; replace HO208 := aM (Kd.R_mono (Kd.R_keep (IsS60.apart (show IsS60 w0 _ g s0_0 s0_1 from iS60 HI0.out) (qR HO208.out) (by decide)) hk (fun _ h => h.2)) (fun _ h => h.1)); replace HK := aM (KeepBut.trans (kB HK.out) hk (.inl rfl)); replace HB := aM (hb); replace HI0 := aM (hi); clear hb hk hi; obtain ⟨Ao20, co20, rfl⟩ := sL HO208))
   go_ret
   exact ⟨_, qX, Kd.Q_of_R (qR HO208.out), iS60 HI0.out, wS60 HB.out, kB HK.out⟩
  rw [if_pos c12] at H
  have c12b0 : decide (0 < (t206.length : Int)) = true := decide_eq_true c12
  have c12b1 : decide (0 < t206.length) = true := decide_eq_true (by omega)
  clear c12
  replace H := iS H
  obtain ⟨c13, H⟩ := H
  have c13b0 := eq_true c13
  have c13b1 : decide (1 ≤ (t206.length : Int)) = true := decide_eq_true c13
  clear c13
  obtain ⟨y214, hy214⟩ : ∃ y_ : List Int, y_ = (t206.drop (1 : Int).toNat) := ⟨_, rfl⟩
  replace H : (some (y214, t210)) = some (r1, r2) := rY hy214 H
  have Ny214 := aM hy214
  clear hy214
  simp only [Option.some.injEq, Prod.mk.injEq] at H
  obtain ⟨rfl, rfl⟩ := H
  go_enter Try.func37, Try.ntmps37
  go_wp2_with (first | ((with_reducible refine gate_callee (f := 52) rfl ?_); refine gL (some 9) Try.func52 #[.slice A1 l1.length c1] ?_; (with_reducible refine (spec_copyInts.calls _ _ l1 t206 _ ?side1 ?side2 A4.out).mono ?_); (case side1 => exact Kd.C_keep 0 HR1.out (kB HK.out) hf1); (case side2 => exact HC1.out); rintro e w14 ⟨v207, rfl, ho0, hb⟩; refine ⟨_, rfl, ?_⟩; have HO208 := lK ho0 HK; replace HK := aM (KeepBut.trans (kB HK.out) (KeepBut.of_below hb g none) (.inl rfl)); replace HB := aM (below_step (wS60 HB.out) hb); replace HI0 := aM (IsS60.below (iS60 HI0.out) hb); clear hb ho0) | ((with_reducible refine gate_callee (f := 36) rfl ?_); refine gL (some 11) Try.func36 #[.pointer (some ⟨g, 0, none⟩), .int .i64 20] ?_; (with_reducible refine (spec_reader_pick.calls k g s0_0 s0_1 20 t209 t210 w0 _ ?side1 ?side2 A5.out).mono ?_); (case side1 => exact iS60 HI0.out); (case side2 => exact wS60 HB.out); rintro e w15 ⟨rfl, hi, hb, hk⟩; refine ⟨_, rfl, ?_⟩; replace HO208 := aM (Kd.R_mono (Kd.R_keep (IsS60.apart (show IsS60 w0 _ g s0_0 s0_1 from iS60 HI0.out) (qR HO208.out) (by decide)) hk (fun _ h => h.2)) (fun _ h => h.1)); replace HK := aM (KeepBut.trans (kB HK.out) hk (.inl rfl)); replace HB := aM (hb); replace HI0 := aM (hi); clear hb hk hi; obtain ⟨Ao16, co16, rfl⟩ := sL HO208; have q17 : (1 : Int) ≤ ((t206.length : Int) : Int) := oD; obtain ⟨i017, hi017, _, hsz17, _⟩ := info_parts info3; have hcut17 := cut_from (P := Try.prog) 22 3 .i64 Try.underlying22 hi017 1 hsz17 Ao16 t206.length co16 1 (by omega) q17; have hr17 := Kd.Q_drop (k := (1 : Int).toNat) (Kd.Q_of_R HO208.out) (by omega); obtain ⟨A17, hA17⟩ : ∃ A1, A1 = (if co16 = (1 : Int).toNat then Ao16 else (Ao16 : Option Addr).map (·.add ((1 : Int).toNat * 1))) := ⟨_, rfl⟩; obtain ⟨c17, hc17⟩ : ∃ c1, c1 = co16 - (1 : Int).toNat := ⟨_, rfl⟩; have hy17 : y214.length = t206.length - (1 : Int).toNat := (by rw [Ny214.out, List.length_drop]); rw [← Ny214.out] at hr17; rw [← hy17, ← hA17, ← hc17] at hcut17; replace hr17 : Kd.Q (Kd.int .i64) 3 w15 w.heap.size (fun _ => True) (.slice A17 y214.length c17) y214 := (by rw [hA17, hc17, hy17]; exact hr17); have HE17 : Aside0 ((Value.slice A17 y214.length c17).ownBlock = (.slice Ao16 t206.length co16 : Value).ownBlock) := ⟨by rw [hA17]; split <;> (cases (Ao16 : Option Addr) <;> rfl)⟩; clear hy17 hi017 hsz17 HO208 hA17 hc17; have HO216 := aM hr17; clear hr17; replace q17 := eq_true q17))
  go_ret
  exact ⟨_, qX, by (with_reducible repeat (first | apply Kd.Q_alloc | apply Kd.Q_drewN | apply Kd.Q_drew)); exact HO216.out, iS60 HI0.out, wS60 HB.out, kB HK.out⟩
 rw [if_neg c11] at H
 have c11b0 : (t209 == 1) = false := beq_eq_false_iff_ne.mpr c11
 have c11b1 : (t209 != 1) = true := bne_iff_ne.mpr c11
 by_cases c21 : t209 = 2
 rotate_left
 ·rw [if_neg c21] at H
  have c21b0 : (t209 == 2) = false := beq_eq_false_iff_ne.mpr c21
  have c21b1 : (t209 != 2) = true := bne_iff_ne.mpr c21
  simp only [Option.some.injEq, Prod.mk.injEq] at H
  obtain ⟨rfl, rfl⟩ := H
  go_enter Try.func37, Try.ntmps37
  go_wp2_with (first | ((with_reducible refine gate_callee (f := 52) rfl ?_); refine gL (some 9) Try.func52 #[.slice A1 l1.length c1] ?_; (with_reducible refine (spec_copyInts.calls _ _ l1 t206 _ ?side1 ?side2 A4.out).mono ?_); (case side1 => exact Kd.C_keep 0 HR1.out (kB HK.out) hf1); (case side2 => exact HC1.out); rintro e w41 ⟨v207, rfl, ho0, hb⟩; refine ⟨_, rfl, ?_⟩; have HO208 := lK ho0 HK; replace HK := aM (KeepBut.trans (kB HK.out) (KeepBut.of_below hb g none) (.inl rfl)); replace HB := aM (below_step (wS60 HB.out) hb); replace HI0 := aM (IsS60.below (iS60 HI0.out) hb); clear hb ho0) | ((with_reducible refine gate_callee (f := 36) rfl ?_); refine gL (some 11) Try.func36 #[.pointer (some ⟨g, 0, none⟩), .int .i64 20] ?_; (with_reducible refine (spec_reader_pick.calls k g s0_0 s0_1 20 t209 t210 w0 _ ?side1 ?side2 A5.out).mono ?_); (case side1 => exact iS60 HI0.out); (case side2 => exact wS60 HB.out); rintro e w42 ⟨rfl, hi, hb, hk⟩; refine ⟨_, rfl, ?_⟩; replace HO208 := aM (Kd.R_mono (Kd.R_keep (IsS60.apart (show IsS60 w0 _ g s0_0 s0_1 from iS60 HI0.out) (qR HO208.out) (by decide)) hk (fun _ h => h.2)) (fun _ h => h.1)); replace HK := aM (KeepBut.trans (kB HK.out) hk (.inl rfl)); replace HB := aM (hb); replace HI0 := aM (hi); clear hb hk hi))
  go_ret
  exact ⟨_, qX, Kd.Q_of_R (qR HO208.out), iS60 HI0.out, wS60 HB.out, kB HK.out⟩
 rw [if_pos c21] at H
 have c21b0 : (t209 == 2) = true := beq_iff_eq.mpr c21
 have c21b1 : (t209 != 2) = false := bne_eq_false_iff_eq.mpr c21
 clear c21
 by_cases c22 : (t206.length : Int) > 0
 rotate_left
 ·rw [if_neg c22] at H
  have c22b0 : decide (0 < (t206.length : Int)) = false := decide_eq_false c22
  have c22b1 : decide (0 < t206.length) = false := decide_eq_false (by omega)
  clear c22
  simp only [Option.some.injEq, Prod.mk.injEq] at H
  obtain ⟨rfl, rfl⟩ := H
  go_enter Try.func37, Try.ntmps37
  go_wp2_with (first | ((with_reducible refine gate_callee (f := 52) rfl ?_); refine gL (some 9) Try.func52 #[.slice A1 l1.length c1] ?_; (with_reducible refine (spec_copyInts.calls _ _ l1 t206 _ ?side1 ?side2 A4.out).mono ?_); (case side1 => exact Kd.C_keep 0 HR1.out (kB HK.out) hf1); (case side2 => exact HC1.out); rintro e w38 ⟨v207, rfl, ho0, hb⟩; refine ⟨_, rfl, ?_⟩; have HO208 := lK ho0 HK; replace HK := aM (KeepBut.trans (kB HK.out) (KeepBut.of_below hb g none) (.inl rfl)); replace HB := aM (below_step (wS60 HB.out) hb); replace HI0 := aM (IsS60.below (iS60 HI0.out) hb); clear hb ho0) | ((with_reducible refine gate_callee (f := 36) rfl ?_); refine gL (some 11) Try.func36 #[.pointer (some ⟨g, 0, none⟩), .int .i64 20] ?_; (with_reducible refine (spec_reader_pick.calls k g s0_0 s0_1 20 t209 t210 w0 _ ?side1 ?side2 A5.out).mono ?_); (case side1 => exact iS60 HI0.out); (case side2 => exact wS60 HB.out); rintro e w39 ⟨rfl, hi, hb, hk⟩; refine ⟨_, rfl, ?_⟩; replace HO208 := aM (Kd.R_mono (Kd.R_keep (IsS60.apart (show IsS60 w0 _ g s0_0 s0_1 from iS60 HI0.out) (qR HO208.out) (by decide)) hk (fun _ h => h.2)) (fun _ h => h.1)); replace HK := aM (KeepBut.trans (kB HK.out) hk (.inl rfl)); replace HB := aM (hb); replace HI0 := aM (hi); clear hb hk hi; obtain ⟨Ao40, co40, rfl⟩ := sL HO208))
  go_ret
  exact ⟨_, qX, Kd.Q_of_R (qR HO208.out), iS60 HI0.out, wS60 HB.out, kB HK.out⟩
 rw [if_pos c22] at H
 have c22b0 : decide (0 < (t206.length : Int)) = true := decide_eq_true c22
 have c22b1 : decide (0 < t206.length) = true := decide_eq_true (by omega)
 clear c22
 replace H := Option.bind_eq_some_iff.mp H
 obtain ⟨⟨t217, t218⟩, A230, H⟩ := H
 replace H : ((spec_reader_one.f k s0_0 t218 (([(-1), a2, 0, 1] : List Int))).bind fun bt222 => (if 0 ≤ t217 then (if t217 < (t206.length : Int) then (some ((t206.set (t217 : Int).toNat bt222.1), bt222.2)) else (none)) else (none))) = some (r1, r2) := H
 have A23 := aM A230
 clear A230
 obtain ⟨y219, hy219⟩ : ∃ y_ : List Int, y_ = (([(-1), a2, 0, 1] : List Int)) := ⟨_, rfl⟩
 replace H : ((spec_reader_one.f k s0_0 t218 y219).bind fun bt222 => (if 0 ≤ t217 then (if t217 < (t206.length : Int) then (some ((t206.set (t217 : Int).toNat bt222.1), bt222.2)) else (none)) else (none))) = some (r1, r2) := rY hy219 H
 have Ny219 := aM hy219
 clear hy219
 replace H := Option.bind_eq_some_iff.mp H
 obtain ⟨⟨t222, t223⟩, A240, H⟩ := H
 replace H : (if 0 ≤ t217 then (if t217 < (t206.length : Int) then (some ((t206.set (t217 : Int).toNat t222), t223)) else (none)) else (none)) = some (r1, r2) := H
 have A24 := aM A240
 clear A240
 replace H := iD H
 obtain ⟨c25b0, H⟩ := H
 replace H := iD H
 obtain ⟨c26b0, H⟩ := H
 obtain ⟨y224, hy224⟩ : ∃ y_ : List Int, y_ = (t206.set (t217 : Int).toNat t222) := ⟨_, rfl⟩
 replace H : (some (y224, t223)) = some (r1, r2) := rY hy224 H
 have Ny224 := aM hy224
 clear hy224
 simp only [Option.some.injEq, Prod.mk.injEq] at H
 obtain ⟨rfl, rfl⟩ := H
 go_enter Try.func37, Try.ntmps37
 go_wp2_with (first | ((with_reducible refine gate_callee (f := 52) rfl ?_); refine gL (some 9) Try.func52 #[.slice A1 l1.length c1] ?_; (with_reducible refine (spec_copyInts.calls _ _ l1 t206 _ ?side1 ?side2 A4.out).mono ?_); (case side1 => exact Kd.C_keep 0 HR1.out (kB HK.out) hf1); (case side2 => exact HC1.out); rintro e w28 ⟨v207, rfl, ho0, hb⟩; refine ⟨_, rfl, ?_⟩; have HO208 := lK ho0 HK; replace HK := aM (KeepBut.trans (kB HK.out) (KeepBut.of_below hb g none) (.inl rfl)); replace HB := aM (below_step (wS60 HB.out) hb); replace HI0 := aM (IsS60.below (iS60 HI0.out) hb); clear hb ho0) | ((with_reducible refine gate_callee (f := 36) rfl ?_); refine gL (some 11) Try.func36 #[.pointer (some ⟨g, 0, none⟩), .int .i64 20] ?_; (with_reducible refine (spec_reader_pick.calls k g s0_0 s0_1 20 t209 t210 w0 _ ?side1 ?side2 A5.out).mono ?_); (case side1 => exact iS60 HI0.out); (case side2 => exact wS60 HB.out); rintro e w29 ⟨rfl, hi, hb, hk⟩; refine ⟨_, rfl, ?_⟩; replace HO208 := aM (Kd.R_mono (Kd.R_keep (IsS60.apart (show IsS60 w0 _ g s0_0 s0_1 from iS60 HI0.out) (qR HO208.out) (by decide)) hk (fun _ h => h.2)) (fun _ h => h.1)); replace HK := aM (KeepBut.trans (kB HK.out) hk (.inl rfl)); replace HB := aM (hb); replace HI0 := aM (hi); clear hb hk hi; obtain ⟨Ao30, co30, rfl⟩ := sL HO208) | ((with_reducible refine gate_callee (f := 36) rfl ?_); refine gL (some 34) Try.func36 #[.pointer (some ⟨g, 0, none⟩), .int .i64 (t206.length : Int)] ?_; (with_reducible refine (spec_reader_pick.calls k g s0_0 t210 (t206.length : Int) t217 t218 w0 _ ?side1 ?side2 A23.out).mono ?_); (case side1 => exact iS60 HI0.out); (case side2 => exact wS60 HB.out); rintro e w31 ⟨rfl, hi, hb, hk⟩; refine ⟨_, rfl, ?_⟩; replace HO208 := aM (Kd.R_mono (Kd.R_keep (IsS60.apart (show IsS60 w0 _ g s0_0 t210 from iS60 HI0.out) (qR HO208.out) (by decide)) hk (fun _ h => h.2)) (fun _ h => h.1)); replace HK := aM (KeepBut.trans (kB HK.out) hk (.inl rfl)); replace HB := aM (hb); replace HI0 := aM (hi); clear hb hk hi) | ((with_reducible refine gate_dst (N := 37) rfl ?_); refine iL ([(-1), a2, 0, 1] : List Int) [.int .i64 (-1), .int .i64 a2, .int .i64 0, .int .i64 1] ?_; intro v220 w32 ho33 hb hg_ hnew_; clear hg_ hnew_; (first | rw [← Ny219.out] at ho33 | (simp only [Int.reduceToNat] at ho33; rw [← Ny219.out] at ho33)); have HO221 := aM (Kd.R_lower (Kd.R_new' ho33 (Kd.R_lt (qR HO208.out))) (keep_size (w := w) (g := g) (row := none) (kB HK.out))); replace HO208 := aM (Kd.R_elder' (qR HO208.out) (Kd.R_base ho33) hb); replace HK := aM (KeepBut.trans (kB HK.out) (KeepBut.of_below hb g none) (.inl rfl)); replace HB := aM (below_step (wS60 HB.out) hb); replace HI0 := aM (IsS60.below (iS60 HI0.out) hb); clear hb ho33; obtain ⟨Ao34, co34, rfl⟩ := sL HO221) | ((with_reducible refine gate_callee (f := 35) rfl ?_); refine gL (some 38) Try.func35 #[.pointer (some ⟨g, 0, none⟩), .slice Ao34 y219.length co34] ?_; (with_reducible refine (spec_reader_one.calls k g s0_0 t218 _ _ y219 t222 t223 w0 _ ?side1 ?side2 ?side3 ?side4 ?side5 A24.out).mono ?_); (case side1 => exact iS60 HI0.out); (case side2 => exact wS60 HB.out); (case side3 => exact qC (Kd.R_reads' HO221.out).2.2); (case side4 => exact (Kd.R_reads' HO221.out).2.1); (case side5 => exact far_slice (IsS60.own_ne HI0.out HO221.out (by decide))); rintro e w35 ⟨rfl, hi, hb, hk⟩; refine ⟨_, rfl, ?_⟩; replace HO208 := aM (Kd.R_mono (Kd.R_keep (IsS60.apart (show IsS60 w0 _ g s0_0 t218 from iS60 HI0.out) (qR HO208.out) (by decide)) hk (fun _ h => h.2)) (fun _ h => h.1)); replace HO221 := aM (Kd.R_mono (Kd.R_keep (IsS60.apart (show IsS60 w0 _ g s0_0 t218 from iS60 HI0.out) (qR HO221.out) (by decide)) hk (fun _ h => h.2)) (fun _ h => h.1)); replace HK := aM (KeepBut.trans (kB HK.out) hk (.inl rfl)); replace HB := aM (hb); replace HI0 := aM (hi); clear hb hk hi; have p27 : 0 ≤ (t217 : Int) := oD; have q27 : (t217 : Int) < ((t206.length : Int) : Int) := oD; obtain ⟨go27, co27, eo27, gb27, gl27, cl27, HG27⟩ := Kd.R_form HO208.out (by omega); (first | cases eo27 | (injection eo27 with ea_ en_ ec_; (first | subst ea_ | (injection ea_ with ea_; subst ea_)); subst ec_; clear en_)); have GB27 := aM gb27; have GG27 := aM HG27; clear gb27 gl27 HG27; obtain ⟨hx27_0, hf27_0⟩ := Kd.R_celln 0 HO208.out (t217 : Int) p27 q27; replace p27 := eq_true p27; replace q27 := eq_true q27; have n_ := aM (Kd.R_mono (ok' := (fun k_ => some k_ ≠ (.slice Ao34 y219.length co34 : Value).ownBlock)) HO208.out (fun k_ hk => hk.2)); clear HO208; have HO208 := n_; clear n_; obtain ⟨hy36_, hz36_⟩ := Kd.R_celln 0 HO208.out (t217 : Int) oD oD; have HP36 := Kd.R_putg HO208.out (t217 : Int) t222) | ((with_reducible refine gate_store (t := 3) (p := 39) rfl ?_); refine store_event (t := 3) (p := 39) (v := ?vo_w37) (w1 := (w35.setCell ⟨go27, (t217 : Int).toNat, none⟩ (.int .i64 t222))) ?hg ?ho ?hn ?hr ?_; (case ho => rfl); (case hg => rfl); (case hn => rfl); (case hr => first | (go_simp; done) | (go_simp; rfl)); intro w37 hw; have hg : w35.grownBy w37 (some go27) := (by rw [hw]; exact HP36.2); have hp_ : Kd.R (Kd.int .i64) 3 w37 w.heap.size (fun k_ => some k_ ≠ (.slice Ao34 y219.length co34 : Value).ownBlock) (.slice (some ⟨go27, 0, none⟩) t206.length co30) y224 := (by rw [hw, Ny224.out]; exact HP36.1); clear HP36; replace HI0 := aM (IsS60.grown (iS60 HI0.out) hg (IsS60.own_ne HI0.out HO208.out (by decide))); replace HO221 := aM (Kd.R_after (v := (.slice (some ⟨go27, 0, none⟩) t206.length co30)) (v1 := (.slice (some ⟨go27, 0, none⟩) t206.length co30)) (ok := (fun _ => True)) (qR HO221.out) hg (.inl rfl)); replace HB := aM ((by rw [hw]; exact below_set (HB.out) (Nat.le_trans HL.out GB27.out) : Below w0.heap.size w0 w37)); replace HK := aM (KeepBut.trans (kB HK.out) (KeepBut.of_grown hg g) (Kd.R_base2 HO208.out)); replace HO208 := aM (hp_); clear hg hw hp_))
 go_ret
 exact ⟨_, qX, Kd.Q_of_R (by refine qR ?_; exact Kd.R_mono HO208.out (fun _ hk => trivial)), iS60 HI0.out, wS60 HB.out, kB HK.out⟩
def spec_inRange.f (a0 : Int) (a1 : Int) (a2 : Int) : Option (Bool) := if a1 ≤ a0 then (some (decide (a0 ≤ a2))) else (some false)
set_option maxHeartbeats 8000000 in
set_option maxRecDepth 100000 in
theorem spec_inRange.calls (a0 : Int) (a1 : Int) (a2 : Int) (r : Bool) (w : World) (h : spec_inRange.f a0 a1 a2 = some r) :
  Calls Try.prog 47 #[.int .i64 a0, .int .i64 a1, .int .i64 a2] w fun e w' => e = .returned (.bool r) ∧ Drawn0 w w' := by
 unfold spec_inRange.f at h
 have H := h
 clear h
 by_cases c4 : a1 ≤ a0
 ·rw [if_pos c4] at H
  have c4b0 : decide (a1 ≤ a0) = true := decide_eq_true c4
  clear c4
  obtain rfl := Option.some.inj H
  go_enter Try.func47, Try.ntmps47
  go_wp2
  go_ret
  exact ⟨qE, qD⟩
 rw [if_neg c4] at H
 have c4b0 : decide (a1 ≤ a0) = false := decide_eq_false c4
 clear c4
 obtain rfl := Option.some.inj H
 go_enter Try.func47, Try.ntmps47
 go_wp2
 go_ret
 exact ⟨qE, qD⟩
def spec_allIn.l0 : Nat → List Int → Int → Int → Int → Option (Bool)
 | 0, _, _, _, _ => none
 | k + 1, x0, x1, x2, x7 => if x7 < (x0.length : Int) then (if 0 ≤ x7 then ((spec_inRange.f (rd x0 x7) x1 x2).bind fun t102 => (if t102 = true then (spec_allIn.l0 k x0 x1 x2 (wrap64 (x7 + 1))) else (some false))) else (none)) else (some true)
def spec_allIn.f (k : Nat) (l0 : List Int) (a1 : Int) (a2 : Int) : Option (Bool) := spec_allIn.l0 k l0 a1 a2 0
theorem spec_allIn.mono_l : ∀ k, (∀ y0 y1 y2 y3, LeO (spec_allIn.l0 k y0 y1 y2 y3) (spec_allIn.l0 (k + 1) y0 y1 y2 y3))
 | 0 => fun _ _ _ _ r h => by simp [spec_allIn.l0] at h
 | k + 1 => by
  have ih0 := spec_allIn.mono_l k
  ·intro y0 y1 y2 y3
   unfold spec_allIn.l0
   repeat' first | (with_reducible first | exact ih0 _ _ _ _ | exact lR | exact lN | refine lI ?_ ?_ | refine lB ?_ fun _ => ?_) | exact ih0 _ _ _ _ | exact lN | refine lI ?_ ?_ | refine lB ?_ fun _ => ?_
theorem spec_allIn.mono : ∀ a0 a1 a2 k, LeO (spec_allIn.f k a0 a1 a2) (spec_allIn.f (k + 1) a0 a1 a2) := by
 intro a0 a1 a2 k
 have ih0 := spec_allIn.mono_l k
 unfold spec_allIn.f
 repeat' first | (with_reducible first | exact ih0 _ _ _ _ | exact lR | exact lN | refine lI ?_ ?_ | refine lB ?_ fun _ => ?_) | exact ih0 _ _ _ _ | exact lN | refine lI ?_ ?_ | refine lB ?_ fun _ => ?_
set_option maxHeartbeats 8000000 in
set_option maxRecDepth 100000 in
theorem spec_allIn.calls (k : Nat) (A0 : Option Addr) (c0 : Nat) (l0 : List Int) (a1 : Int) (a2 : Int) (r : Bool) (w : World) (hr0 : Kd.C (Kd.int .i64) w A0 l0.length l0) (hc0 : l0.length ≤ c0) (h : spec_allIn.f k l0 a1 a2 = some r) :
  Calls Try.prog 48 #[.slice A0 l0.length c0, .int .i64 a1, .int .i64 a2] w fun e w' => e = .returned (.bool r) ∧ Drawn0 w w' := by
 have HR0 := aM hr0
 have HC0 := aM hc0
 clear hr0 hc0
 unfold spec_allIn.f at h
 have H := h
 clear h
 have H' := aM H
 clear H
 go_enter Try.func48, Try.ntmps48
 go_wp2
 go_loopg [7] k (fun kq v7 w' => ∃ (x7_1 : Int), v7 = .int .i64 x7_1 ∧ Aside0 (spec_allIn.l0 kq l0 a1 a2 x7_1 = some r) ∧ Aside0 (kq ≤ k) ∧ Drawn0 w w')
 case atStart => exact ⟨(0), qE, H', ⟨Nat.le_refl _⟩, qD⟩
 case round =>
  clear H'
  obtain ⟨x7_1, rfl, HA, HK1, ⟨m1, rfl⟩⟩ := hrel
  cases gk with
  | zero => exact absurd HA.out (by simp [spec_allIn.l0])
  | succ k1 =>
   have H := HA.out
   clear HA
   simp only [spec_allIn.l0] at H
   by_cases c4 : x7_1 < (l0.length : Int)
   rotate_left
   ·rw [if_neg c4] at H
    have c4b0 : decide (x7_1 < (l0.length : Int)) = false := decide_eq_false c4
    clear c4
    obtain rfl := Option.some.inj H
    go_wp2
    go_ret
    exact ⟨qE, qD⟩
   rw [if_pos c4] at H
   have c4b0 : decide (x7_1 < (l0.length : Int)) = true := decide_eq_true c4
   clear c4
   replace H := iD H
   obtain ⟨c5b0, H⟩ := H
   replace H := Option.bind_eq_some_iff.mp H
   obtain ⟨t102, A60, H⟩ := H
   replace H : (if t102 = true then (spec_allIn.l0 k1 l0 a1 a2 (wrap64 (x7_1 + 1))) else (some false)) = some r := H
   have A6 := aM A60
   clear A60
   by_cases c7 : t102 = true
   rotate_left
   ·replace c7 := Bool.eq_false_iff.mpr c7
    subst c7
    have H1 : (some false) = some r := by rw [if_neg (show ¬ (false = true) by decide)] at H; exact H
    clear H
    have H := H1
    clear H1
    obtain rfl := Option.some.inj H
    obtain ⟨ad101, e101, hx101_0⟩ := Kd.at_int HR0.out x7_1 oD oD
    cases e101
    have p101 := eq_true (oD : 0 ≤ (x7_1 : Int))
    have q101 := eq_true (oD : x7_1 < (l0.length : Int))
    go_wp2_with (first | ((with_reducible refine gate_callee (f := 47) rfl ?_); refine gL (some 20) Try.func47 #[.int .i64 (rd l0 x7_1), .int .i64 a1, .int .i64 a2] ?_; (with_reducible refine (spec_inRange.calls (rd l0 x7_1) a1 a2 false _ A6.out).mono ?_); rintro e w' ⟨rfl, ⟨nd, rfl⟩⟩; refine ⟨_, rfl, ?_⟩))
    go_ret
    exact ⟨qE, qD⟩
   subst c7
   have H1 : (spec_allIn.l0 k1 l0 a1 a2 (wrap64 (x7_1 + 1))) = some r := by rw [if_pos rfl] at H; exact H
   clear H
   have H := H1
   clear H1
   have H' := aM H
   clear H
   obtain ⟨ad101, e101, hx101_0⟩ := Kd.at_int HR0.out x7_1 oD oD
   cases e101
   have p101 := eq_true (oD : 0 ≤ (x7_1 : Int))
   have q101 := eq_true (oD : x7_1 < (l0.length : Int))
   go_wp2_with (first | ((with_reducible refine gate_callee (f := 47) rfl ?_); refine gL (some 20) Try.func47 #[.int .i64 (rd l0 x7_1), .int .i64 a1, .int .i64 a2] ?_; (with_reducible refine (spec_inRange.calls (rd l0 x7_1) a1 a2 true _ A6.out).mono ?_); rintro e w' ⟨rfl, ⟨nd, rfl⟩⟩; refine ⟨_, rfl, ?_⟩))
   go_roundg k1
   case measure => have := HK1.out; omega
   case rel => exact ⟨(wrap64 (x7_1 + 1)), qE, H', ⟨by have := HK1.out; omega⟩, qD⟩
def laws_toIntS.l0 : Nat → List Int → List Int → Int → Option (List Int)
 | 0, _, _, _ => none
 | k + 1, x0, x3, x4 => if x4 < (x0.length : Int) then (if 0 ≤ x4 then (if x4 < (x3.length : Int) then (laws_toIntS.l0 k x0 (x3.set (x4 : Int).toNat (rd x0 x4)) (wrap64 (x4 + 1))) else (none)) else (none)) else (some x3)
def laws_toIntS.f (k : Nat) (l0 : List Int) : Option (List Int) := if 0 ≤ (l0.length : Int) then (if ((l0.length : Int) : Int).toNat ≤ 35184372088832 then (laws_toIntS.l0 k l0 (List.replicate ((l0.length : Int) : Int).toNat 0) 0) else (none)) else (none)
theorem laws_toIntS.mono_l : ∀ k, (∀ y0 y1 y2, LeO (laws_toIntS.l0 k y0 y1 y2) (laws_toIntS.l0 (k + 1) y0 y1 y2))
 | 0 => fun _ _ _ r h => by simp [laws_toIntS.l0] at h
 | k + 1 => by
  have ih0 := laws_toIntS.mono_l k
  ·intro y0 y1 y2
   unfold laws_toIntS.l0
   repeat' first | (with_reducible first | exact ih0 _ _ _ | exact lR | exact lN | refine lI ?_ ?_ | refine lB ?_ fun _ => ?_) | exact ih0 _ _ _ | exact lN | refine lI ?_ ?_ | refine lB ?_ fun _ => ?_
theorem laws_toIntS.mono : ∀ a0 k, LeO (laws_toIntS.f k a0) (laws_toIntS.f (k + 1) a0) := by
 intro a0 k
 have ih0 := laws_toIntS.mono_l k
 unfold laws_toIntS.f
 repeat' first | (with_reducible first | exact ih0 _ _ _ | exact lR | exact lN | refine lI ?_ ?_ | refine lB ?_ fun _ => ?_) | exact ih0 _ _ _ | exact lN | refine lI ?_ ?_ | refine lB ?_ fun _ => ?_
set_option maxHeartbeats 8000000 in
set_option maxRecDepth 100000 in
theorem laws_toIntS.calls (k : Nat) (A0 : Option Addr) (c0 : Nat) (l0 : List Int) (r : List Int) (w : World) (hr0 : Kd.C (Kd.int .i64) w A0 l0.length l0) (hc0 : l0.length ≤ c0) (h : laws_toIntS.f k l0 = some r) :
  Calls Try.prog 14 #[.slice A0 l0.length c0] w fun e w' => ∃ v0_ : Value, e = .returned (v0_) ∧ Kd.R (Kd.int .i64) 3 w' w.heap.size (fun _ => True) v0_ r ∧ Below w.heap.size w w' := by
 have HR0 := aM hr0
 have HC0 := aM hc0
 clear hr0 hc0
 have HB := aM (Below.refl w.heap.size w)
 unfold laws_toIntS.f at h
 have H := h
 clear h
 replace H := iS H
 obtain ⟨c2, H⟩ := H
 have c2b0 := eq_true c2
 have c2b1 : decide (0 ≤ (l0.length : Int)) = true := decide_eq_true c2
 clear c2
 replace H := iS H
 obtain ⟨c3, H⟩ := H
 have c3b0 := eq_true c3
 have c3b1 : decide (((l0.length : Int) : Int).toNat ≤ 35184372088832) = true := decide_eq_true c3
 clear c3
 obtain ⟨y134, hy134⟩ : ∃ y_ : List Int, y_ = (List.replicate ((l0.length : Int) : Int).toNat 0) := ⟨_, rfl⟩
 replace H : (laws_toIntS.l0 k l0 y134 0) = some r := rY hy134 H
 have Ny134 := aM hy134
 clear hy134
 have H' := aM H
 clear H
 go_enter Try.func14, Try.ntmps14
 go_wp2_with (first | ((with_reducible refine gate_dst (N := 7) rfl ?_); refine Kd.R_make (Kd.int .i64) _ 3 rfl (N := 7) rfl 22 _ _ rfl (l0.length : Int) rfl rfl Try.underlying22 (.int .i64 0) 8 info3 rfl (by decide) (by omega) 0 (ok := fun _ => True) (okp := fun _ => True) rfl (fun _ hk => hk) trivial oD (Nat.le_trans (Nat.mul_le_mul_right _ (oD : (l0.length : Int).toNat ≤ 35184372088832)) (by omega)) (Below.refl _ _) (Nat.le_refl _) ?_; intro v135 w4 ho5 hb hg_ hnew_; clear hg_ hnew_; (first | rw [← Ny134.out] at ho5 | (simp only [Int.reduceToNat] at ho5; rw [← Ny134.out] at ho5)); have HO136 := oR ho5 HB; replace HB := bS HB hb; clear hb ho5))
 go_loopg [4] k (fun kq v4 w' => ∃ (x3_1 : List Int) (x4_1 : Int), v4 = .int .i64 x4_1 ∧ Aside0 (laws_toIntS.l0 kq l0 x3_1 x4_1 = some r) ∧ Aside0 (kq ≤ k) ∧ Aside0 (Kd.R (Kd.int .i64) 3 w' w.heap.size (fun _ => True) v135 x3_1) ∧ Aside0 (Below w.heap.size w w'))
 case atStart => exact ⟨(y134), (0), qE, H', ⟨Nat.le_refl _⟩, ⟨by refine qR ?_; exact HO136.out⟩, ⟨by exact qW HB.out⟩⟩
 case round =>
  clear H'
  try clear c2
  try clear c2b0
  try clear c2b1
  try clear c3
  try clear c3b0
  try clear c3b1
  obtain ⟨x3_1, x4_1, rfl, HA, HK1, HO_3, HB⟩ := hrel
  cases gk with
  | zero => exact absurd HA.out (by simp [laws_toIntS.l0])
  | succ k1 =>
   have H := HA.out
   clear HA
   simp only [laws_toIntS.l0] at H
   by_cases c6 : x4_1 < (l0.length : Int)
   rotate_left
   ·rw [if_neg c6] at H
    have c6b0 : decide (x4_1 < (l0.length : Int)) = false := decide_eq_false c6
    clear c6
    obtain rfl := Option.some.inj H
    go_wp2
    go_ret
    exact ⟨_, qX, by refine qR ?_; exact HO_3.out, by exact qW HB.out⟩
   rw [if_pos c6] at H
   have c6b0 : decide (x4_1 < (l0.length : Int)) = true := decide_eq_true c6
   clear c6
   replace H := iD H
   obtain ⟨c7b0, H⟩ := H
   replace H := iD H
   obtain ⟨c8b0, H⟩ := H
   obtain ⟨y138, hy138⟩ : ∃ y_ : List Int, y_ = (x3_1.set (x4_1 : Int).toNat (rd l0 x4_1)) := ⟨_, rfl⟩
   replace H : (laws_toIntS.l0 k1 l0 y138 (wrap64 (x4_1 + 1))) = some r := rY hy138 H
   have Ny138 := aM hy138
   clear hy138
   have H' := aM H
   clear H
   obtain ⟨ad137, e137, hx137_0⟩ := Kd.at_int HR0.out x4_1 oD oD
   cases e137
   replace hx137_0 := bD HB hx137_0
   have p137 := eq_true (oD : 0 ≤ (x4_1 : Int))
   have q137 := eq_true (oD : x4_1 < (l0.length : Int))
   have p9 : 0 ≤ (x4_1 : Int) := oD
   have q9 : (x4_1 : Int) < ((x3_1.length : Int) : Int) := oD
   obtain ⟨go9, co9, eo9, gb9, gl9, cl9, HG9⟩ := Kd.R_form HO_3.out (by omega)
   (first | cases eo9 | (injection eo9 with ea_ en_ ec_; (first | subst ea_ | (injection ea_ with ea_; subst ea_)); subst ec_; clear en_))
   have GB9 := aM gb9
   have GG9 := aM HG9
   clear gb9 gl9 HG9
   obtain ⟨hx9_0, hf9_0⟩ := Kd.R_celln 0 HO_3.out (x4_1 : Int) p9 q9
   replace p9 := eq_true p9
   replace q9 := eq_true q9
   have HP10 := Kd.R_putg HO_3.out (x4_1 : Int) (rd l0 x4_1)
   go_wp2_with (first | ((with_reducible refine gate_store (t := 3) (p := 20) rfl ?_); refine store_event (t := 3) (p := 20) (v := ?vo_w11) (w1 := (wr.setCell ⟨go9, (x4_1 : Int).toNat, none⟩ (.int .i64 (rd l0 x4_1)))) ?hg ?ho ?hn ?hr ?_; (case ho => rfl); (case hg => rfl); (case hn => rfl); (case hr => first | (go_simp; done) | (go_simp; rfl)); intro w11 hw; have hg : wr.grownBy w11 (some go9) := (by rw [hw]; exact HP10.2); have hp_ : Kd.R (Kd.int .i64) 3 w11 w.heap.size (fun _ => True) (.slice (some ⟨go9, 0, none⟩) x3_1.length co9) y138 := (by rw [hw, Ny138.out]; exact HP10.1); clear HP10; replace HO_3 := aM (hp_); replace HB := aM ((by rw [hw]; exact below_set (HB.out) GB9.out : Below w.heap.size w w11)); clear hg hw hp_))
   go_roundg k1
   case measure => have := HK1.out; omega
   case rel => exact ⟨(y138), (wrap64 (x4_1 + 1)), qE, H', ⟨by have := HK1.out; omega⟩, ⟨by refine qR ?_; exact HO_3.out⟩, ⟨by exact qW HB.out⟩⟩
def laws_eqIntS.l0 : Nat → List Int → List Int → Int → Option (Bool)
 | 0, _, _, _ => none
 | k + 1, x0, x1, x5 => if x5 < (x0.length : Int) then (if 0 ≤ x5 then (if x5 < (x1.length : Int) then (if (rd x0 x5) = (rd x1 x5) then (laws_eqIntS.l0 k x0 x1 (wrap64 (x5 + 1))) else (some false)) else (none)) else (none)) else (some true)
def laws_eqIntS.f (k : Nat) (l0 : List Int) (l1 : List Int) : Option (Bool) := if (l0.length : Int) = (l1.length : Int) then (laws_eqIntS.l0 k l0 l1 0) else (some false)
theorem laws_eqIntS.mono_l : ∀ k, (∀ y0 y1 y2, LeO (laws_eqIntS.l0 k y0 y1 y2) (laws_eqIntS.l0 (k + 1) y0 y1 y2))
 | 0 => fun _ _ _ r h => by simp [laws_eqIntS.l0] at h
 | k + 1 => by
  have ih0 := laws_eqIntS.mono_l k
  ·intro y0 y1 y2
   unfold laws_eqIntS.l0
   repeat' first | (with_reducible first | exact ih0 _ _ _ | exact lR | exact lN | refine lI ?_ ?_ | refine lB ?_ fun _ => ?_) | exact ih0 _ _ _ | exact lN | refine lI ?_ ?_ | refine lB ?_ fun _ => ?_
theorem laws_eqIntS.mono : ∀ a0 a1 k, LeO (laws_eqIntS.f k a0 a1) (laws_eqIntS.f (k + 1) a0 a1) := by
 intro a0 a1 k
 have ih0 := laws_eqIntS.mono_l k
 unfold laws_eqIntS.f
 repeat' first | (with_reducible first | exact ih0 _ _ _ | exact lR | exact lN | refine lI ?_ ?_ | refine lB ?_ fun _ => ?_) | exact ih0 _ _ _ | exact lN | refine lI ?_ ?_ | refine lB ?_ fun _ => ?_
set_option maxHeartbeats 8000000 in
set_option maxRecDepth 100000 in
theorem laws_eqIntS.calls (k : Nat) (A0 : Option Addr) (c0 : Nat) (l0 : List Int) (A1 : Option Addr) (c1 : Nat) (l1 : List Int) (r : Bool) (w : World) (hr0 : Kd.C (Kd.int .i64) w A0 l0.length l0) (hc0 : l0.length ≤ c0) (hr1 : Kd.C (Kd.int .i64) w A1 l1.length l1) (hc1 : l1.length ≤ c1) (h : laws_eqIntS.f k l0 l1 = some r) :
  Calls Try.prog 16 #[.slice A0 l0.length c0, .slice A1 l1.length c1] w fun e w' => e = .returned (.bool r) ∧ Drawn0 w w' := by
 have HR0 := aM hr0
 have HC0 := aM hc0
 clear hr0 hc0
 have HR1 := aM hr1
 have HC1 := aM hc1
 clear hr1 hc1
 unfold laws_eqIntS.f at h
 have H := h
 clear h
 by_cases c3 : (l0.length : Int) = (l1.length : Int)
 rotate_left
 ·rw [if_neg c3] at H
  have c3b0 : ((l0.length : Int) == (l1.length : Int)) = false := beq_eq_false_iff_ne.mpr c3
  have c3b1 : ((l0.length : Int) != (l1.length : Int)) = true := bne_iff_ne.mpr c3
  have c3b2 : (l0.length == l1.length) = false := by first | simpa using c3 | (simp at c3 ⊢; omega)
  obtain rfl := Option.some.inj H
  go_enter Try.func16, Try.ntmps16
  go_wp2
  repeat (go_quiet (fail); try go_wp2)
  go_ret
  exact ⟨qE, qD⟩
 rw [if_pos c3] at H
 have c3b0 : ((l0.length : Int) == (l1.length : Int)) = true := beq_iff_eq.mpr c3
 have c3b1 : ((l0.length : Int) != (l1.length : Int)) = false := bne_eq_false_iff_eq.mpr c3
 have c3b2 : (l0.length == l1.length) = true := by first | simpa using c3 | (simp at c3 ⊢; omega)
 clear c3
 have H' := aM H
 clear H
 go_enter Try.func16, Try.ntmps16
 go_wp2
 repeat (go_quiet (fail); try go_wp2)
 go_loopg [5] k (fun kq v5 w' => ∃ (x5_1 : Int), v5 = .int .i64 x5_1 ∧ Aside0 (laws_eqIntS.l0 kq l0 l1 x5_1 = some r) ∧ Aside0 (kq ≤ k) ∧ Drawn0 w w')
 case atStart => exact ⟨(0), qE, H', ⟨Nat.le_refl _⟩, qD⟩
 case round =>
  clear H'
  try clear c1
  try clear c3
  try clear c3b0
  try clear c3b1
  try clear c3b2
  obtain ⟨x5_1, rfl, HA, HK1, ⟨m1, rfl⟩⟩ := hrel
  cases gk with
  | zero => exact absurd HA.out (by simp [laws_eqIntS.l0])
  | succ k1 =>
   have H := HA.out
   clear HA
   simp only [laws_eqIntS.l0] at H
   by_cases c4 : x5_1 < (l0.length : Int)
   rotate_left
   ·rw [if_neg c4] at H
    have c4b0 : decide (x5_1 < (l0.length : Int)) = false := decide_eq_false c4
    clear c4
    obtain rfl := Option.some.inj H
    go_wp2
    repeat (go_quiet (fail); try go_wp2)
    go_ret
    exact ⟨qE, qD⟩
   rw [if_pos c4] at H
   have c4b0 : decide (x5_1 < (l0.length : Int)) = true := decide_eq_true c4
   clear c4
   replace H := iD H
   obtain ⟨c5b0, H⟩ := H
   replace H := iD H
   obtain ⟨c6b0, H⟩ := H
   by_cases c7 : (rd l0 x5_1) = (rd l1 x5_1)
   rotate_left
   ·rw [if_neg c7] at H
    have c7b0 : ((rd l0 x5_1) == (rd l1 x5_1)) = false := beq_eq_false_iff_ne.mpr c7
    have c7b1 : ((rd l0 x5_1) != (rd l1 x5_1)) = true := bne_iff_ne.mpr c7
    obtain rfl := Option.some.inj H
    obtain ⟨ad165, e165, hx165_0⟩ := Kd.at_int HR0.out x5_1 oD oD
    cases e165
    have p165 := eq_true (oD : 0 ≤ (x5_1 : Int))
    have q165 := eq_true (oD : x5_1 < (l0.length : Int))
    obtain ⟨ad166, e166, hx166_0⟩ := Kd.at_int HR1.out x5_1 oD oD
    cases e166
    have p166 := eq_true (oD : 0 ≤ (x5_1 : Int))
    have q166 := eq_true (oD : x5_1 < (l1.length : Int))
    go_wp2
    repeat (go_quiet (fail); try go_wp2)
    go_ret
    exact ⟨qE, qD⟩
   rw [if_pos c7] at H
   have c7b0 : ((rd l0 x5_1) == (rd l1 x5_1)) = true := beq_iff_eq.mpr c7
   have c7b1 : ((rd l0 x5_1) != (rd l1 x5_1)) = false := bne_eq_false_iff_eq.mpr c7
   clear c7
   have H' := aM H
   clear H
   obtain ⟨ad165, e165, hx165_0⟩ := Kd.at_int HR0.out x5_1 oD oD
   cases e165
   have p165 := eq_true (oD : 0 ≤ (x5_1 : Int))
   have q165 := eq_true (oD : x5_1 < (l0.length : Int))
   obtain ⟨ad166, e166, hx166_0⟩ := Kd.at_int HR1.out x5_1 oD oD
   cases e166
   have p166 := eq_true (oD : 0 ≤ (x5_1 : Int))
   have q166 := eq_true (oD : x5_1 < (l1.length : Int))
   go_wp2
   repeat (go_quiet (fail); try go_wp2)
   go_roundg k1
   case measure => have := HK1.out; omega
   case rel => exact ⟨(wrap64 (x5_1 + 1)), qE, H', ⟨by have := HK1.out; omega⟩, qD⟩
def laws_equalInts.l0 : Nat → List Int → List Int → Int → Option (Bool)
 | 0, _, _, _ => none
 | k + 1, x0, x1, x5 => if x5 < (x0.length : Int) then (if 0 ≤ x5 then (if x5 < (x1.length : Int) then (if (rd x0 x5) = (rd x1 x5) then (laws_equalInts.l0 k x0 x1 (wrap64 (x5 + 1))) else (some false)) else (none)) else (none)) else (some true)
def laws_equalInts.f (k : Nat) (l0 : List Int) (l1 : List Int) : Option (Bool) := if (l0.length : Int) = (l1.length : Int) then (laws_equalInts.l0 k l0 l1 0) else (some false)
theorem laws_equalInts.mono_l : ∀ k, (∀ y0 y1 y2, LeO (laws_equalInts.l0 k y0 y1 y2) (laws_equalInts.l0 (k + 1) y0 y1 y2))
 | 0 => fun _ _ _ r h => by simp [laws_equalInts.l0] at h
 | k + 1 => by
  have ih0 := laws_equalInts.mono_l k
  ·intro y0 y1 y2
   unfold laws_equalInts.l0
   repeat' first | (with_reducible first | exact ih0 _ _ _ | exact lR | exact lN | refine lI ?_ ?_ | refine lB ?_ fun _ => ?_) | exact ih0 _ _ _ | exact lN | refine lI ?_ ?_ | refine lB ?_ fun _ => ?_
theorem laws_equalInts.mono : ∀ a0 a1 k, LeO (laws_equalInts.f k a0 a1) (laws_equalInts.f (k + 1) a0 a1) := by
 intro a0 a1 k
 have ih0 := laws_equalInts.mono_l k
 unfold laws_equalInts.f
 repeat' first | (with_reducible first | exact ih0 _ _ _ | exact lR | exact lN | refine lI ?_ ?_ | refine lB ?_ fun _ => ?_) | exact ih0 _ _ _ | exact lN | refine lI ?_ ?_ | refine lB ?_ fun _ => ?_
set_option maxHeartbeats 8000000 in
set_option maxRecDepth 100000 in
theorem laws_equalInts.calls (k : Nat) (A0 : Option Addr) (c0 : Nat) (l0 : List Int) (A1 : Option Addr) (c1 : Nat) (l1 : List Int) (r : Bool) (w : World) (hr0 : Kd.C (Kd.int .i64) w A0 l0.length l0) (hc0 : l0.length ≤ c0) (hr1 : Kd.C (Kd.int .i64) w A1 l1.length l1) (hc1 : l1.length ≤ c1) (h : laws_equalInts.f k l0 l1 = some r) :
  Calls Try.prog 19 #[.slice A0 l0.length c0, .slice A1 l1.length c1] w fun e w' => e = .returned (.bool r) ∧ Drawn0 w w' := by
 have HR0 := aM hr0
 have HC0 := aM hc0
 clear hr0 hc0
 have HR1 := aM hr1
 have HC1 := aM hc1
 clear hr1 hc1
 unfold laws_equalInts.f at h
 have H := h
 clear h
 by_cases c3 : (l0.length : Int) = (l1.length : Int)
 rotate_left
 ·rw [if_neg c3] at H
  have c3b0 : ((l0.length : Int) == (l1.length : Int)) = false := beq_eq_false_iff_ne.mpr c3
  have c3b1 : ((l0.length : Int) != (l1.length : Int)) = true := bne_iff_ne.mpr c3
  have c3b2 : (l0.length == l1.length) = false := by first | simpa using c3 | (simp at c3 ⊢; omega)
  obtain rfl := Option.some.inj H
  go_enter Try.func19, Try.ntmps19
  go_wp2
  repeat (go_quiet (fail); try go_wp2)
  go_ret
  exact ⟨qE, qD⟩
 rw [if_pos c3] at H
 have c3b0 : ((l0.length : Int) == (l1.length : Int)) = true := beq_iff_eq.mpr c3
 have c3b1 : ((l0.length : Int) != (l1.length : Int)) = false := bne_eq_false_iff_eq.mpr c3
 have c3b2 : (l0.length == l1.length) = true := by first | simpa using c3 | (simp at c3 ⊢; omega)
 clear c3
 have H' := aM H
 clear H
 go_enter Try.func19, Try.ntmps19
 go_wp2
 repeat (go_quiet (fail); try go_wp2)
 go_loopg [5] k (fun kq v5 w' => ∃ (x5_1 : Int), v5 = .int .i64 x5_1 ∧ Aside0 (laws_equalInts.l0 kq l0 l1 x5_1 = some r) ∧ Aside0 (kq ≤ k) ∧ Drawn0 w w')
 case atStart => exact ⟨(0), qE, H', ⟨Nat.le_refl _⟩, qD⟩
 case round =>
  clear H'
  try clear c1
  try clear c3
  try clear c3b0
  try clear c3b1
  try clear c3b2
  obtain ⟨x5_1, rfl, HA, HK1, ⟨m1, rfl⟩⟩ := hrel
  cases gk with
  | zero => exact absurd HA.out (by simp [laws_equalInts.l0])
  | succ k1 =>
   have H := HA.out
   clear HA
   simp only [laws_equalInts.l0] at H
   by_cases c4 : x5_1 < (l0.length : Int)
   rotate_left
   ·rw [if_neg c4] at H
    have c4b0 : decide (x5_1 < (l0.length : Int)) = false := decide_eq_false c4
    clear c4
    obtain rfl := Option.some.inj H
    go_wp2
    repeat (go_quiet (fail); try go_wp2)
    go_ret
    exact ⟨qE, qD⟩
   rw [if_pos c4] at H
   have c4b0 : decide (x5_1 < (l0.length : Int)) = true := decide_eq_true c4
   clear c4
   replace H := iD H
   obtain ⟨c5b0, H⟩ := H
   replace H := iD H
   obtain ⟨c6b0, H⟩ := H
   by_cases c7 : (rd l0 x5_1) = (rd l1 x5_1)
   rotate_left
   ·rw [if_neg c7] at H
    have c7b0 : ((rd l0 x5_1) == (rd l1 x5_1)) = false := beq_eq_false_iff_ne.mpr c7
    have c7b1 : ((rd l0 x5_1) != (rd l1 x5_1)) = true := bne_iff_ne.mpr c7
    obtain rfl := Option.some.inj H
    obtain ⟨ad357, e357, hx357_0⟩ := Kd.at_int HR0.out x5_1 oD oD
    cases e357
    have p357 := eq_true (oD : 0 ≤ (x5_1 : Int))
    have q357 := eq_true (oD : x5_1 < (l0.length : Int))
    obtain ⟨ad358, e358, hx358_0⟩ := Kd.at_int HR1.out x5_1 oD oD
    cases e358
    have p358 := eq_true (oD : 0 ≤ (x5_1 : Int))
    have q358 := eq_true (oD : x5_1 < (l1.length : Int))
    go_wp2
    repeat (go_quiet (fail); try go_wp2)
    go_ret
    exact ⟨qE, qD⟩
   rw [if_pos c7] at H
   have c7b0 : ((rd l0 x5_1) == (rd l1 x5_1)) = true := beq_iff_eq.mpr c7
   have c7b1 : ((rd l0 x5_1) != (rd l1 x5_1)) = false := bne_eq_false_iff_eq.mpr c7
   clear c7
   have H' := aM H
   clear H
   obtain ⟨ad357, e357, hx357_0⟩ := Kd.at_int HR0.out x5_1 oD oD
   cases e357
   have p357 := eq_true (oD : 0 ≤ (x5_1 : Int))
   have q357 := eq_true (oD : x5_1 < (l0.length : Int))
   obtain ⟨ad358, e358, hx358_0⟩ := Kd.at_int HR1.out x5_1 oD oD
   cases e358
   have p358 := eq_true (oD : 0 ≤ (x5_1 : Int))
   have q358 := eq_true (oD : x5_1 < (l1.length : Int))
   go_wp2
   repeat (go_quiet (fail); try go_wp2)
   go_roundg k1
   case measure => have := HK1.out; omega
   case rel => exact ⟨(wrap64 (x5_1 + 1)), qE, H', ⟨by have := HK1.out; omega⟩, qD⟩
def laws_markIntS.l0 : Nat → List Int → Int → Int → Option (Int × List Int)
 | 0, _, _, _ => none
 | k + 1, x0, x1, x5 => if x5 < (x0.length : Int) then (if 0 ≤ x5 then (laws_markIntS.l0 k (x0.set (x5 : Int).toNat x1) (wrap64 (x1 + 1)) (wrap64 (x5 + 1))) else (none)) else (some (x1, x0))
def laws_markIntS.f (k : Nat) (l0 : List Int) (a1 : Int) : Option (Int × List Int) := laws_markIntS.l0 k l0 a1 0
theorem laws_markIntS.mono_l : ∀ k, (∀ y0 y1 y2, LeO (laws_markIntS.l0 k y0 y1 y2) (laws_markIntS.l0 (k + 1) y0 y1 y2))
 | 0 => fun _ _ _ r h => by simp [laws_markIntS.l0] at h
 | k + 1 => by
  have ih0 := laws_markIntS.mono_l k
  ·intro y0 y1 y2
   unfold laws_markIntS.l0
   repeat' first | (with_reducible first | exact ih0 _ _ _ | exact lR | exact lN | refine lI ?_ ?_ | refine lB ?_ fun _ => ?_) | exact ih0 _ _ _ | exact lN | refine lI ?_ ?_ | refine lB ?_ fun _ => ?_
theorem laws_markIntS.mono : ∀ a0 a1 k, LeO (laws_markIntS.f k a0 a1) (laws_markIntS.f (k + 1) a0 a1) := by
 intro a0 a1 k
 have ih0 := laws_markIntS.mono_l k
 unfold laws_markIntS.f
 repeat' first | (with_reducible first | exact ih0 _ _ _ | exact lR | exact lN | refine lI ?_ ?_ | refine lB ?_ fun _ => ?_) | exact ih0 _ _ _ | exact lN | refine lI ?_ ?_ | refine lB ?_ fun _ => ?_
set_option maxHeartbeats 8000000 in
set_option maxRecDepth 100000 in
theorem laws_markIntS.calls (k : Nat) (P0_ : Nat → Prop) (u9000_ : Value) (l0 : List Int) (a1 : Int) (r1 : Int) (r2 : List Int) (w0 w : World) (hB : Below w0.heap.size w0 w) (ho0 : Kd.R (Kd.int .i64) 3 w w0.heap.size P0_ u9000_ l0) (h : laws_markIntS.f k l0 a1 = some (r1, r2)) :
  Calls Try.prog 21 #[u9000_, .int .i64 a1] w fun e w' => e = .returned (.int .i64 r1) ∧ Kd.R (Kd.int .i64) 3 w' w0.heap.size (fun k_ => (P0_ k_ ∨ w.heap.size ≤ k_)) u9000_ r2 ∧ Below w0.heap.size w0 w' ∧ Kept w w' (fun k_ => P0_ k_) := by
 have HO0 := aM (show Kd.R (Kd.int .i64) 3 w w0.heap.size (fun k_ => (P0_ k_ ∨ w.heap.size ≤ k_)) u9000_ l0 from Kd.R_mono ho0 (fun k_ hk => (.inl hk)))
 have HK := aM (Kept.refl w (fun k_ => P0_ k_))
 have HW0 := aM hB.size
 have HB := aM hB
 clear hB
 unfold laws_markIntS.f at h
 have H := h
 clear h
 have H' := aM H
 clear H
 go_enter Try.func21, Try.ntmps21
 go_wp2
 go_loopg [1, 5] k (fun kq v1 v5 w' => ∃ (x0_1 : List Int) (x1_1 : Int) (x5_1 : Int), v1 = .int .i64 x1_1 ∧ v5 = .int .i64 x5_1 ∧ Aside0 (laws_markIntS.l0 kq x0_1 x1_1 x5_1 = some (r1, r2)) ∧ Aside0 (kq ≤ k) ∧ Aside0 (Kd.R (Kd.int .i64) 3 w' w0.heap.size (fun k_ => (P0_ k_ ∨ w.heap.size ≤ k_)) u9000_ x0_1) ∧ Aside0 (Kept w w' (fun k_ => P0_ k_)) ∧ Aside0 (Below w0.heap.size w0 w'))
 case atStart => exact ⟨(l0), (a1), (0), qE, qE, H', ⟨Nat.le_refl _⟩, ⟨by refine qR ?_; exact HO0.out⟩, ⟨kP HK.out⟩, ⟨by exact qW HB.out⟩⟩
 case round =>
  clear H'
  obtain ⟨x0_1, x1_1, x5_1, rfl, rfl, HA, HK1, HO_0, HK, HB⟩ := hrel
  cases gk with
  | zero => exact absurd HA.out (by simp [laws_markIntS.l0])
  | succ k1 =>
   have H := HA.out
   clear HA
   simp only [laws_markIntS.l0] at H
   by_cases c3 : x5_1 < (x0_1.length : Int)
   rotate_left
   ·rw [if_neg c3] at H
    have c3b0 : decide (x5_1 < (x0_1.length : Int)) = false := decide_eq_false c3
    clear c3
    simp only [Option.some.injEq, Prod.mk.injEq] at H
    obtain ⟨rfl, rfl⟩ := H
    obtain ⟨Ao9, co9, rfl⟩ := sL HO_0
    go_wp2
    go_ret
    exact ⟨qX, by refine qR ?_; exact HO_0.out, by exact qW HB.out, kP HK.out⟩
   rw [if_pos c3] at H
   have c3b0 : decide (x5_1 < (x0_1.length : Int)) = true := decide_eq_true c3
   clear c3
   replace H := iD H
   obtain ⟨c4b0, H⟩ := H
   obtain ⟨y391, hy391⟩ : ∃ y_ : List Int, y_ = (x0_1.set (x5_1 : Int).toNat x1_1) := ⟨_, rfl⟩
   replace H : (laws_markIntS.l0 k1 y391 (wrap64 (x1_1 + 1)) (wrap64 (x5_1 + 1))) = some (r1, r2) := rY hy391 H
   have Ny391 := aM hy391
   clear hy391
   have H' := aM H
   clear H
   obtain ⟨Ao6, co6, rfl⟩ := sL HO_0
   have p5 : 0 ≤ (x5_1 : Int) := oD
   have q5 : (x5_1 : Int) < ((x0_1.length : Int) : Int) := oD
   obtain ⟨go5, co5, eo5, gb5, gl5, cl5, HG5⟩ := Kd.R_form HO_0.out (by omega)
   (first | cases eo5 | (injection eo5 with ea_ en_ ec_; (first | subst ea_ | (injection ea_ with ea_; subst ea_)); subst ec_; clear en_))
   have GB5 := aM gb5
   have GG5 := aM HG5
   clear gb5 gl5 HG5
   have HMgo5 := aM (show (P0_ go5 ∨ w.heap.size ≤ go5) from (HO_0.out.1 _ rfl))
   obtain ⟨hx5_0, hf5_0⟩ := Kd.R_celln 0 HO_0.out (x5_1 : Int) p5 q5
   replace p5 := eq_true p5
   replace q5 := eq_true q5
   have HP7 := Kd.R_putg HO_0.out (x5_1 : Int) x1_1
   go_wp2_with (first | ((with_reducible refine gate_store (t := 3) (p := 15) rfl ?_); refine store_event (t := 3) (p := 15) (v := ?vo_w8) (w1 := (wr.setCell ⟨go5, (x5_1 : Int).toNat, none⟩ (.int .i64 x1_1))) ?hg ?ho ?hn ?hr ?_; (case ho => rfl); (case hg => rfl); (case hn => rfl); (case hr => first | (go_simp; done) | (go_simp; rfl)); intro w8 hw; have hg : wr.grownBy w8 (some go5) := (by rw [hw]; exact HP7.2); have hp_ : Kd.R (Kd.int .i64) 3 w8 w0.heap.size (fun k_ => (P0_ k_ ∨ w.heap.size ≤ k_)) (.slice (some ⟨go5, 0, none⟩) x0_1.length co6) y391 := (by rw [hw, Ny391.out]; exact HP7.1); clear HP7; replace HB := aM ((by rw [hw]; exact below_set (HB.out) GB5.out : Below w0.heap.size w0 w8)); replace HK := aM (Kept.of_grown (S := (fun k_ => P0_ k_)) hg (kP HK.out) (fun k_ e_ => (HO_0.out.1 k_ e_))); replace HO_0 := aM (hp_); clear hg hw hp_))
   go_roundg k1
   case measure => have := HK1.out; omega
   case rel => exact ⟨(y391), (wrap64 (x1_1 + 1)), (wrap64 (x5_1 + 1)), qE, qE, H', ⟨by have := HK1.out; omega⟩, ⟨by refine qR ?_; exact HO_0.out⟩, ⟨kP HK.out⟩, ⟨by exact qW HB.out⟩⟩
def laws_heldIntS.l0 : Nat → List Int → Int → Int → Option (Int)
 | 0, _, _, _ => none
 | k + 1, x0, x1, x5 => if x5 < (x0.length : Int) then (if 0 ≤ x5 then (if (rd x0 x5) = x1 then (laws_heldIntS.l0 k x0 (wrap64 (x1 + 1)) (wrap64 (x5 + 1))) else (some (-1))) else (none)) else (some x1)
def laws_heldIntS.f (k : Nat) (l0 : List Int) (a1 : Int) : Option (Int) := laws_heldIntS.l0 k l0 a1 0
theorem laws_heldIntS.mono_l : ∀ k, (∀ y0 y1 y2, LeO (laws_heldIntS.l0 k y0 y1 y2) (laws_heldIntS.l0 (k + 1) y0 y1 y2))
 | 0 => fun _ _ _ r h => by simp [laws_heldIntS.l0] at h
 | k + 1 => by
  have ih0 := laws_heldIntS.mono_l k
  ·intro y0 y1 y2
   unfold laws_heldIntS.l0
   repeat' first | (with_reducible first | exact ih0 _ _ _ | exact lR | exact lN | refine lI ?_ ?_ | refine lB ?_ fun _ => ?_) | exact ih0 _ _ _ | exact lN | refine lI ?_ ?_ | refine lB ?_ fun _ => ?_
theorem laws_heldIntS.mono : ∀ a0 a1 k, LeO (laws_heldIntS.f k a0 a1) (laws_heldIntS.f (k + 1) a0 a1) := by
 intro a0 a1 k
 have ih0 := laws_heldIntS.mono_l k
 unfold laws_heldIntS.f
 repeat' first | (with_reducible first | exact ih0 _ _ _ | exact lR | exact lN | refine lI ?_ ?_ | refine lB ?_ fun _ => ?_) | exact ih0 _ _ _ | exact lN | refine lI ?_ ?_ | refine lB ?_ fun _ => ?_
set_option maxHeartbeats 8000000 in
set_option maxRecDepth 100000 in
theorem laws_heldIntS.calls (k : Nat) (A0 : Option Addr) (c0 : Nat) (l0 : List Int) (a1 : Int) (r : Int) (w : World) (hr0 : Kd.C (Kd.int .i64) w A0 l0.length l0) (hc0 : l0.length ≤ c0) (h : laws_heldIntS.f k l0 a1 = some r) :
  Calls Try.prog 22 #[.slice A0 l0.length c0, .int .i64 a1] w fun e w' => e = .returned (.int .i64 r) ∧ Drawn0 w w' := by
 have HR0 := aM hr0
 have HC0 := aM hc0
 clear hr0 hc0
 unfold laws_heldIntS.f at h
 have H := h
 clear h
 have H' := aM H
 clear H
 go_enter Try.func22, Try.ntmps22
 go_wp2
 go_loopg [1, 5] k (fun kq v1 v5 w' => ∃ (x1_1 : Int) (x5_1 : Int), v1 = .int .i64 x1_1 ∧ v5 = .int .i64 x5_1 ∧ Aside0 (laws_heldIntS.l0 kq l0 x1_1 x5_1 = some r) ∧ Aside0 (kq ≤ k) ∧ Drawn0 w w')
 case atStart => exact ⟨(a1), (0), qE, qE, H', ⟨Nat.le_refl _⟩, qD⟩
 case round =>
  clear H'
  obtain ⟨x1_1, x5_1, rfl, rfl, HA, HK1, ⟨m1, rfl⟩⟩ := hrel
  cases gk with
  | zero => exact absurd HA.out (by simp [laws_heldIntS.l0])
  | succ k1 =>
   have H := HA.out
   clear HA
   simp only [laws_heldIntS.l0] at H
   by_cases c3 : x5_1 < (l0.length : Int)
   rotate_left
   ·rw [if_neg c3] at H
    have c3b0 : decide (x5_1 < (l0.length : Int)) = false := decide_eq_false c3
    clear c3
    obtain rfl := Option.some.inj H
    go_wp2
    go_ret
    exact ⟨qE, qD⟩
   rw [if_pos c3] at H
   have c3b0 : decide (x5_1 < (l0.length : Int)) = true := decide_eq_true c3
   clear c3
   replace H := iD H
   obtain ⟨c4b0, H⟩ := H
   by_cases c5 : (rd l0 x5_1) = x1_1
   rotate_left
   ·rw [if_neg c5] at H
    have c5b0 : ((rd l0 x5_1) == x1_1) = false := beq_eq_false_iff_ne.mpr c5
    have c5b1 : ((rd l0 x5_1) != x1_1) = true := bne_iff_ne.mpr c5
    obtain rfl := Option.some.inj H
    obtain ⟨ad392, e392, hx392_0⟩ := Kd.at_int HR0.out x5_1 oD oD
    cases e392
    have p392 := eq_true (oD : 0 ≤ (x5_1 : Int))
    have q392 := eq_true (oD : x5_1 < (l0.length : Int))
    go_wp2
    go_ret
    exact ⟨qE, qD⟩
   rw [if_pos c5] at H
   have c5b0 : ((rd l0 x5_1) == x1_1) = true := beq_iff_eq.mpr c5
   have c5b1 : ((rd l0 x5_1) != x1_1) = false := bne_eq_false_iff_eq.mpr c5
   clear c5
   have H' := aM H
   clear H
   obtain ⟨ad392, e392, hx392_0⟩ := Kd.at_int HR0.out x5_1 oD oD
   cases e392
   have p392 := eq_true (oD : 0 ≤ (x5_1 : Int))
   have q392 := eq_true (oD : x5_1 < (l0.length : Int))
   go_wp2
   go_roundg k1
   case measure => have := HK1.out; omega
   case rel => exact ⟨(wrap64 (x1_1 + 1)), (wrap64 (x5_1 + 1)), qE, qE, H', ⟨by have := HK1.out; omega⟩, qD⟩
def spec_validCounts.f (k : Nat) (l0 : List Int) : Option (Bool) := (spec_inRange.f (l0.length : Int) 1 16).bind fun t245 => (if t245 = true then ((spec_allIn.f k l0 0 9999).bind fun t246 => (some t246)) else (some false))
theorem spec_validCounts.mono : ∀ a0 k, LeO (spec_validCounts.f k a0) (spec_validCounts.f (k + 1) a0) := by
 intro a0 k
 unfold spec_validCounts.f
 repeat' first | (with_reducible first | exact spec_allIn.mono _ _ _ _ | exact lR | exact lN | refine lI ?_ ?_ | refine lB ?_ fun _ => ?_) | exact spec_allIn.mono _ _ _ _ | exact lN | refine lI ?_ ?_ | refine lB ?_ fun _ => ?_
set_option maxHeartbeats 8000000 in
set_option maxRecDepth 100000 in
theorem spec_validCounts.calls (k : Nat) (A0 : Option Addr) (c0 : Nat) (l0 : List Int) (r : Bool) (w : World) (hr0 : Kd.C (Kd.int .i64) w A0 l0.length l0) (hc0 : l0.length ≤ c0) (h : spec_validCounts.f k l0 = some r) :
  Calls Try.prog 41 #[.slice A0 l0.length c0] w fun e w' => e = .returned (.bool r) ∧ Drawn0 w w' := by
 have HR0 := aM hr0
 have HC0 := aM hc0
 clear hr0 hc0
 unfold spec_validCounts.f at h
 have H := h
 clear h
 replace H := Option.bind_eq_some_iff.mp H
 obtain ⟨t245, A20, H⟩ := H
 replace H : (if t245 = true then ((spec_allIn.f k l0 0 9999).bind fun t246 => (some t246)) else (some false)) = some r := H
 have A2 := aM A20
 clear A20
 by_cases c3 : t245 = true
 rotate_left
 ·replace c3 := Bool.eq_false_iff.mpr c3
  subst c3
  have H1 : (some false) = some r := by rw [if_neg (show ¬ (false = true) by decide)] at H; exact H
  clear H
  have H := H1
  clear H1
  obtain rfl := Option.some.inj H
  go_enter Try.func41, Try.ntmps41
  go_wp2_with (first | ((with_reducible refine gate_callee (f := 47) rfl ?_); refine gL (some 5) Try.func47 #[.int .i64 (l0.length : Int), .int .i64 1, .int .i64 16] ?_; (with_reducible refine (spec_inRange.calls (l0.length : Int) 1 16 false _ A2.out).mono ?_); rintro e w' ⟨rfl, ⟨nd, rfl⟩⟩; refine ⟨_, rfl, ?_⟩))
  go_ret
  exact ⟨qE, qD⟩
 subst c3
 have H1 : ((spec_allIn.f k l0 0 9999).bind fun t246 => (some t246)) = some r := by rw [if_pos rfl] at H; exact H
 clear H
 have H := H1
 clear H1
 replace H := Option.bind_eq_some_iff.mp H
 obtain ⟨t246, A40, H⟩ := H
 replace H : (some t246) = some r := H
 have A4 := aM A40
 clear A40
 obtain rfl := Option.some.inj H
 go_enter Try.func41, Try.ntmps41
 go_wp2_with (first | ((with_reducible refine gate_callee (f := 47) rfl ?_); refine gL (some 5) Try.func47 #[.int .i64 (l0.length : Int), .int .i64 1, .int .i64 16] ?_; (with_reducible refine (spec_inRange.calls (l0.length : Int) 1 16 true _ A2.out).mono ?_); rintro e w' ⟨rfl, ⟨nd, rfl⟩⟩; refine ⟨_, rfl, ?_⟩) | (go_at_call 48; (with_reducible refine (spec_allIn.calls k _ _ l0 0 9999 t246 _ ?side1 ?side2 A4.out).mono ?_); (case side1 => exact qC HR0.out); (case side2 => exact HC0.out); rintro e w' ⟨rfl, ⟨nd, rfl⟩⟩))
 go_ret
 exact ⟨qE, qD⟩
def spec_lightest.l0 : Nat → List Int → List Bool → Int → Int → Option (Int)
 | 0, _, _, _, _ => none
 | k + 1, x0, x1, x5, x6 => if x6 < (x0.length : Int) then (if 0 ≤ x6 then (if x6 < (x1.length : Int) then (if rdOf false x1 x6 = true then (spec_lightest.l0 k x0 x1 x5 (wrap64 (x6 + 1))) else (if x5 < 0 then (spec_lightest.l0 k x0 x1 x6 (wrap64 (x6 + 1))) else (if 0 ≤ x5 then (if x5 < (x0.length : Int) then (if (rd x0 x6) < (rd x0 x5) then (spec_lightest.l0 k x0 x1 x6 (wrap64 (x6 + 1))) else (spec_lightest.l0 k x0 x1 x5 (wrap64 (x6 + 1)))) else (none)) else (none)))) else (none)) else (none)) else (some x5)
def spec_lightest.f (k : Nat) (l0 : List Int) (l1 : List Bool) : Option (Int) := spec_lightest.l0 k l0 l1 (-1) 0
theorem spec_lightest.mono_l : ∀ k, (∀ y0 y1 y2 y3, LeO (spec_lightest.l0 k y0 y1 y2 y3) (spec_lightest.l0 (k + 1) y0 y1 y2 y3))
 | 0 => fun _ _ _ _ r h => by simp [spec_lightest.l0] at h
 | k + 1 => by
  have ih0 := spec_lightest.mono_l k
  ·intro y0 y1 y2 y3
   unfold spec_lightest.l0
   repeat' first | (with_reducible first | exact ih0 _ _ _ _ | exact lR | exact lN | refine lI ?_ ?_ | refine lB ?_ fun _ => ?_) | exact ih0 _ _ _ _ | exact lN | refine lI ?_ ?_ | refine lB ?_ fun _ => ?_
theorem spec_lightest.mono : ∀ a0 a1 k, LeO (spec_lightest.f k a0 a1) (spec_lightest.f (k + 1) a0 a1) := by
 intro a0 a1 k
 have ih0 := spec_lightest.mono_l k
 unfold spec_lightest.f
 repeat' first | (with_reducible first | exact ih0 _ _ _ _ | exact lR | exact lN | refine lI ?_ ?_ | refine lB ?_ fun _ => ?_) | exact ih0 _ _ _ _ | exact lN | refine lI ?_ ?_ | refine lB ?_ fun _ => ?_
set_option maxHeartbeats 8000000 in
set_option maxRecDepth 100000 in
theorem spec_lightest.calls (k : Nat) (A0 : Option Addr) (c0 : Nat) (l0 : List Int) (A1 : Option Addr) (c1 : Nat) (l1 : List Bool) (r : Int) (w : World) (hr0 : Kd.C (Kd.int .i64) w A0 l0.length l0) (hc0 : l0.length ≤ c0) (hr1 : Kd.C Kd.bool w A1 l1.length l1) (hc1 : l1.length ≤ c1) (h : spec_lightest.f k l0 l1 = some r) :
  Calls Try.prog 54 #[.slice A0 l0.length c0, .slice A1 l1.length c1] w fun e w' => e = .returned (.int .i64 r) ∧ Drawn0 w w' := by
 have HR0 := aM hr0
 have HC0 := aM hc0
 clear hr0 hc0
 have HR1 := aM hr1
 have HC1 := aM hc1
 clear hr1 hc1
 unfold spec_lightest.f at h
 have H := h
 clear h
 have H' := aM H
 clear H
 go_enter Try.func54, Try.ntmps54
 go_wp2
 repeat (go_quiet (fail); try go_wp2)
 go_loopg [5, 6] k (fun kq v5 v6 w' => ∃ (x5_1 : Int) (x6_1 : Int), v5 = .int .i64 x5_1 ∧ v6 = .int .i64 x6_1 ∧ Aside0 (spec_lightest.l0 kq l0 l1 x5_1 x6_1 = some r) ∧ Aside0 (kq ≤ k) ∧ Drawn0 w w')
 case atStart => exact ⟨((-1)), (0), qE, qE, H', ⟨Nat.le_refl _⟩, qD⟩
 case round =>
  clear H'
  try clear c1
  obtain ⟨x5_1, x6_1, rfl, rfl, HA, HK1, ⟨m1, rfl⟩⟩ := hrel
  cases gk with
  | zero => exact absurd HA.out (by simp [spec_lightest.l0])
  | succ k1 =>
   have H := HA.out
   clear HA
   simp only [spec_lightest.l0] at H
   by_cases c3 : x6_1 < (l0.length : Int)
   rotate_left
   ·rw [if_neg c3] at H
    have c3b0 : decide (x6_1 < (l0.length : Int)) = false := decide_eq_false c3
    clear c3
    obtain rfl := Option.some.inj H
    go_wp2
    repeat (go_quiet (fail); try go_wp2)
    go_ret
    exact ⟨qE, qD⟩
   rw [if_pos c3] at H
   have c3b0 : decide (x6_1 < (l0.length : Int)) = true := decide_eq_true c3
   clear c3
   replace H := iD H
   obtain ⟨c4b0, H⟩ := H
   replace H := iD H
   obtain ⟨c5b0, H⟩ := H
   obtain ⟨bq6, hbq6⟩ : ∃ b_ : Bool, b_ = (rdOf false l1 x6_1) := ⟨_, rfl⟩
   replace H : (if bq6 = true then (spec_lightest.l0 k1 l0 l1 x5_1 (wrap64 (x6_1 + 1))) else (if x5_1 < 0 then (spec_lightest.l0 k1 l0 l1 x6_1 (wrap64 (x6_1 + 1))) else (if 0 ≤ x5_1 then (if x5_1 < (l0.length : Int) then (if (rd l0 x6_1) < (rd l0 x5_1) then (spec_lightest.l0 k1 l0 l1 x6_1 (wrap64 (x6_1 + 1))) else (spec_lightest.l0 k1 l0 l1 x5_1 (wrap64 (x6_1 + 1)))) else (none)) else (none)))) = some r := by rw [← hbq6] at H; exact H
   have Nbq6 := aM hbq6
   clear hbq6
   by_cases c7 : bq6 = true
   ·subst c7
    have H1 : (spec_lightest.l0 k1 l0 l1 x5_1 (wrap64 (x6_1 + 1))) = some r := by rw [if_pos rfl] at H; exact H
    clear H
    have H := H1
    clear H1
    have H' := aM H
    clear H
    obtain ⟨ad247, e247, hx247_0⟩ := Kd.at_bool HR1.out x6_1 oD oD
    (try rw [← Nbq6.out] at hx247_0)
    cases e247
    have p247 := eq_true (oD : 0 ≤ (x6_1 : Int))
    have q247 := eq_true (oD : x6_1 < (l1.length : Int))
    go_wp2
    repeat (go_quiet (fail); try go_wp2)
    go_roundg k1
    case measure => have := HK1.out; omega
    case rel => exact ⟨(x5_1), (wrap64 (x6_1 + 1)), qE, qE, H', ⟨by have := HK1.out; omega⟩, qD⟩
   replace c7 := Bool.eq_false_iff.mpr c7
   subst c7
   have H1 : (if x5_1 < 0 then (spec_lightest.l0 k1 l0 l1 x6_1 (wrap64 (x6_1 + 1))) else (if 0 ≤ x5_1 then (if x5_1 < (l0.length : Int) then (if (rd l0 x6_1) < (rd l0 x5_1) then (spec_lightest.l0 k1 l0 l1 x6_1 (wrap64 (x6_1 + 1))) else (spec_lightest.l0 k1 l0 l1 x5_1 (wrap64 (x6_1 + 1)))) else (none)) else (none))) = some r := by rw [if_neg (show ¬ (false = true) by decide)] at H; exact H
   clear H
   have H := H1
   clear H1
   by_cases c8 : x5_1 < 0
   ·rw [if_pos c8] at H
    have c8b0 : decide (x5_1 < 0) = true := decide_eq_true c8
    clear c8
    have H' := aM H
    clear H
    obtain ⟨ad247, e247, hx247_0⟩ := Kd.at_bool HR1.out x6_1 oD oD
    (try rw [← Nbq6.out] at hx247_0)
    cases e247
    have p247 := eq_true (oD : 0 ≤ (x6_1 : Int))
    have q247 := eq_true (oD : x6_1 < (l1.length : Int))
    go_wp2
    repeat (go_quiet (fail); try go_wp2)
    go_roundg k1
    case measure => have := HK1.out; omega
    case rel => exact ⟨(x6_1), (wrap64 (x6_1 + 1)), qE, qE, H', ⟨by have := HK1.out; omega⟩, qD⟩
   rw [if_neg c8] at H
   have c8b0 : decide (x5_1 < 0) = false := decide_eq_false c8
   clear c8
   replace H := iD H
   obtain ⟨c9b0, H⟩ := H
   replace H := iD H
   obtain ⟨c10b0, H⟩ := H
   by_cases c11 : (rd l0 x6_1) < (rd l0 x5_1)
   ·rw [if_pos c11] at H
    have c11b0 : decide ((rd l0 x6_1) < (rd l0 x5_1)) = true := decide_eq_true c11
    clear c11
    have H' := aM H
    clear H
    obtain ⟨ad247, e247, hx247_0⟩ := Kd.at_bool HR1.out x6_1 oD oD
    (try rw [← Nbq6.out] at hx247_0)
    cases e247
    have p247 := eq_true (oD : 0 ≤ (x6_1 : Int))
    have q247 := eq_true (oD : x6_1 < (l1.length : Int))
    obtain ⟨ad248, e248, hx248_0⟩ := Kd.at_int HR0.out x6_1 oD oD
    cases e248
    have p248 := eq_true (oD : 0 ≤ (x6_1 : Int))
    have q248 := eq_true (oD : x6_1 < (l0.length : Int))
    obtain ⟨ad249, e249, hx249_0⟩ := Kd.at_int HR0.out x5_1 oD oD
    obtain rfl : ad248 = ad249 := (by injection e249)
    have p249 := eq_true (oD : 0 ≤ (x5_1 : Int))
    have q249 := eq_true (oD : x5_1 < (l0.length : Int))
    go_wp2
    repeat (go_quiet (fail); try go_wp2)
    go_roundg k1
    case measure => have := HK1.out; omega
    case rel => exact ⟨(x6_1), (wrap64 (x6_1 + 1)), qE, qE, H', ⟨by have := HK1.out; omega⟩, qD⟩
   rw [if_neg c11] at H
   have c11b0 : decide ((rd l0 x6_1) < (rd l0 x5_1)) = false := decide_eq_false c11
   clear c11
   have H' := aM H
   clear H
   obtain ⟨ad247, e247, hx247_0⟩ := Kd.at_bool HR1.out x6_1 oD oD
   (try rw [← Nbq6.out] at hx247_0)
   cases e247
   have p247 := eq_true (oD : 0 ≤ (x6_1 : Int))
   have q247 := eq_true (oD : x6_1 < (l1.length : Int))
   obtain ⟨ad248, e248, hx248_0⟩ := Kd.at_int HR0.out x6_1 oD oD
   cases e248
   have p248 := eq_true (oD : 0 ≤ (x6_1 : Int))
   have q248 := eq_true (oD : x6_1 < (l0.length : Int))
   obtain ⟨ad249, e249, hx249_0⟩ := Kd.at_int HR0.out x5_1 oD oD
   obtain rfl : ad248 = ad249 := (by injection e249)
   have p249 := eq_true (oD : 0 ≤ (x5_1 : Int))
   have q249 := eq_true (oD : x5_1 < (l0.length : Int))
   go_wp2
   repeat (go_quiet (fail); try go_wp2)
   go_roundg k1
   case measure => have := HK1.out; omega
   case rel => exact ⟨(x5_1), (wrap64 (x6_1 + 1)), qE, qE, H', ⟨by have := HK1.out; omega⟩, qD⟩
mutual
def spec_codeLengths.l0 : Nat → List Int → List Int → List Int → List (List Int) → Int → Option (List Int)
 | 0, _, _, _, _, _ => none
 | k + 1, x0, x3, x4, x5, x6 => if x6 < (x0.length : Int) then (if 0 ≤ x6 then (if (rd x0 x6) > 0 then (if x4.length < 17592186044416 then (if x5.length < 5864062014805 then (spec_codeLengths.l0 k x0 x3 (x4 ++ [rd x0 x6]) (x5 ++ [(([x6] : List Int))]) (wrap64 (x6 + 1))) else (none)) else (none)) else (spec_codeLengths.l0 k x0 x3 x4 x5 (wrap64 (x6 + 1)))) else (none)) else (if (x4.length : Int) = 1 then (if 0 < (x5.length : Int) then (if 0 < ((rd_L3 x5 0).length : Int) then (if 0 ≤ (rd (rd_L3 x5 0) 0) then (if (rd (rd_L3 x5 0) 0) < (x3.length : Int) then (some (x3.set ((rd (rd_L3 x5 0) 0) : Int).toNat 1)) else (none)) else (none)) else (none)) else (none)) else (if 0 ≤ (x4.length : Int) then (if ((x4.length : Int) : Int).toNat ≤ 281474976710656 then (spec_codeLengths.l1 k x3 x4 x5 (List.replicate ((x4.length : Int) : Int).toNat false) (x4.length : Int)) else (none)) else (none)))
def spec_codeLengths.l1 : Nat → List Int → List Int → List (List Int) → List Bool → Int → Option (List Int)
 | 0, _, _, _, _, _ => none
 | k + 1, x3, x4, x5, x7, x8 => if x8 > 1 then ((spec_lightest.f k x4 x7).bind fun t276 => (if 0 ≤ t276 then (if t276 < (x7.length : Int) then ((some (x7.set (t276 : Int).toNat true : List Bool)).bind fun y277 => ((spec_lightest.f k x4 y277).bind fun t278 => (if 0 ≤ t278 then (if t278 < (x7.length : Int) then (if t276 < (x5.length : Int) then ((spec_copyInts.f (rd_L3 x5 t276)).bind fun t281 => (if t278 < (x5.length : Int) then (if t281.length + (rd_L3 x5 t278).length < 17592186044416 then (spec_codeLengths.l2 k x3 x4 x5 (y277.set (t278 : Int).toNat true) x8 t276 t278 (t281 ++ (rd_L3 x5 t278)) 0) else (none)) else (none))) else (none)) else (none)) else (none)))) else (none)) else (none))) else (some x3)
def spec_codeLengths.l2 : Nat → List Int → List Int → List (List Int) → List Bool → Int → Int → Int → List Int → Int → Option (List Int)
 | 0, _, _, _, _, _, _, _, _, _ => none
 | k + 1, x3, x4, x5, x7, x8, x9, x10, x11, x12 => if x12 < (x11.length : Int) then (if 0 ≤ x12 then (if 0 ≤ (rd x11 x12) then (if (rd x11 x12) < (x3.length : Int) then (spec_codeLengths.l2 k (x3.set ((rd x11 x12) : Int).toNat (wrap64 ((rd x3 (rd x11 x12)) + 1))) x4 x5 x7 x8 x9 x10 x11 (wrap64 (x12 + 1))) else (none)) else (none)) else (none)) else (if 0 ≤ x9 then (if x9 < (x4.length : Int) then (if 0 ≤ x10 then (if x10 < (x4.length : Int) then (if x4.length < 17592186044416 then (if x5.length < 5864062014805 then (if x7.length < 140737488355328 then (spec_codeLengths.l1 k x3 (x4 ++ [wrap64 ((rd x4 x9) + (rd x4 x10))]) (x5 ++ [x11]) (x7 ++ [false]) (wrap64 (x8 - 1))) else (none)) else (none)) else (none)) else (none)) else (none)) else (none)) else (none))
end
def spec_codeLengths.f (k : Nat) (l0 : List Int) : Option (List Int) := if 0 ≤ (l0.length : Int) then (if ((l0.length : Int) : Int).toNat ≤ 35184372088832 then (spec_codeLengths.l0 k l0 (List.replicate ((l0.length : Int) : Int).toNat 0) (([] : List Int)) (([] : List (List Int))) 0) else (none)) else (none)
theorem spec_codeLengths.mono_l : ∀ k, (∀ y0 y1 y2 y3 y4, LeO (spec_codeLengths.l0 k y0 y1 y2 y3 y4) (spec_codeLengths.l0 (k + 1) y0 y1 y2 y3 y4)) ∧ (∀ y0 y1 y2 y3 y4, LeO (spec_codeLengths.l1 k y0 y1 y2 y3 y4) (spec_codeLengths.l1 (k + 1) y0 y1 y2 y3 y4)) ∧ (∀ y0 y1 y2 y3 y4 y5 y6 y7 y8, LeO (spec_codeLengths.l2 k y0 y1 y2 y3 y4 y5 y6 y7 y8) (spec_codeLengths.l2 (k + 1) y0 y1 y2 y3 y4 y5 y6 y7 y8))
 | 0 => ⟨fun _ _ _ _ _ r h => by simp [spec_codeLengths.l0] at h, fun _ _ _ _ _ r h => by simp [spec_codeLengths.l1] at h, fun _ _ _ _ _ _ _ _ _ r h => by simp [spec_codeLengths.l2] at h⟩
 | k + 1 => by
  obtain ⟨ih0, ih1, ih2⟩ := spec_codeLengths.mono_l k
  refine ⟨?_, ?_, ?_⟩
  all_goals intros
  all_goals first | unfold spec_codeLengths.l0 | unfold spec_codeLengths.l1 | unfold spec_codeLengths.l2
  all_goals repeat' first | (with_reducible first | exact ih0 _ _ _ _ _ | exact ih1 _ _ _ _ _ | exact ih2 _ _ _ _ _ _ _ _ _ | exact spec_lightest.mono _ _ _ | exact lR | exact lN | refine lI ?_ ?_ | refine lB ?_ fun _ => ?_) | exact ih0 _ _ _ _ _ | exact ih1 _ _ _ _ _ | exact ih2 _ _ _ _ _ _ _ _ _ | exact spec_lightest.mono _ _ _ | exact lN | refine lI ?_ ?_ | refine lB ?_ fun _ => ?_
theorem spec_codeLengths.mono : ∀ a0 k, LeO (spec_codeLengths.f k a0) (spec_codeLengths.f (k + 1) a0) := by
 intro a0 k
 obtain ⟨ih0, ih1, ih2⟩ := spec_codeLengths.mono_l k
 unfold spec_codeLengths.f
 repeat' first | (with_reducible first | exact ih0 _ _ _ _ _ | exact ih1 _ _ _ _ _ | exact ih2 _ _ _ _ _ _ _ _ _ | exact spec_lightest.mono _ _ _ | exact lR | exact lN | refine lI ?_ ?_ | refine lB ?_ fun _ => ?_) | exact ih0 _ _ _ _ _ | exact ih1 _ _ _ _ _ | exact ih2 _ _ _ _ _ _ _ _ _ | exact spec_lightest.mono _ _ _ | exact lN | refine lI ?_ ?_ | refine lB ?_ fun _ => ?_
def spec_codeLengths.T21 : Bool × List (List Nat × List Nat) := (true, [([], []), ([], []), ([0, 1], [0, 1]), ([2], [2]), ([3], [3]), ([], []), ([], []), ([5, 6], [5, 6]), ([7], [7]), ([4, 8, 4], [4, 8]), ([9, 9, 0, 1, 2, 3, 4, 5, 6, 7, 8, 9], [9])])
def spec_codeLengths.B21 : List Nat := [0, 0, 3, 7, 15, 0, 0, 96, 224, 511, 1023]
theorem spec_codeLengths.tab21 : rtab .any (opsOf Try.f42 21) = spec_codeLengths.T21 := by kernel_rfl
theorem spec_codeLengths.bits21 : waitsOk spec_codeLengths.T21.2 spec_codeLengths.B21 = true := by kernel_rfl
def spec_codeLengths.T25 : Bool × List (List Nat × List Nat) := (true, [([], []), ([], []), ([], []), ([1, 2], [1, 2]), ([3], [3]), ([], []), ([], []), ([], []), ([6, 7], [6, 7]), ([8], [8]), ([5, 9], [5, 9]), ([10], [10]), ([11], [11]), ([0, 4, 0, 1, 2, 3, 4, 5, 6, 7, 8, 9, 10, 11, 12], [0, 4]), ([13, 12, 0, 1, 2, 3, 4, 5, 6, 7, 8, 9, 10, 11, 12], [12, 13])])
def spec_codeLengths.B25 : List Nat := [0, 0, 0, 6, 14, 0, 0, 0, 192, 448, 992, 2016, 4064, 8191, 16383]
theorem spec_codeLengths.tab25 : rtab .any (opsOf Try.f42 25) = spec_codeLengths.T25 := by kernel_rfl
theorem spec_codeLengths.bits25 : waitsOk spec_codeLengths.T25.2 spec_codeLengths.B25 = true := by kernel_rfl
def spec_codeLengths.T26 : Bool × List (List Nat × List Nat) := (true, [([], []), ([], []), ([], []), ([1, 2], [1, 2]), ([3], [3]), ([], []), ([], []), ([5, 6], [5, 6]), ([7], [7]), ([4, 8], [4, 8]), ([9], [9]), ([0, 10], [0, 10]), ([11, 11, 0, 1, 2, 3, 4, 5, 6, 7, 8, 9, 10, 11], [0, 1, 5, 11])])
def spec_codeLengths.B26 : List Nat := [0, 0, 0, 6, 14, 0, 0, 96, 224, 510, 1022, 2047, 4095]
theorem spec_codeLengths.tab26 : rtab .any (opsOf Try.f42 26) = spec_codeLengths.T26 := by kernel_rfl
theorem spec_codeLengths.bits26 : waitsOk spec_codeLengths.T26.2 spec_codeLengths.B26 = true := by kernel_rfl
set_option maxHeartbeats 8000000 in
set_option maxRecDepth 100000 in
theorem spec_codeLengths.calls (k : Nat) (A0 : Option Addr) (c0 : Nat) (l0 : List Int) (r : List Int) (w : World) (hr0 : Kd.C (Kd.int .i64) w A0 l0.length l0) (hc0 : l0.length ≤ c0) (h : spec_codeLengths.f k l0 = some r) :
  Calls Try.prog 42 #[.slice A0 l0.length c0] w fun e w' => ∃ v0_ : Value, e = .returned (v0_) ∧ Kd.R (Kd.int .i64) 3 w' w.heap.size (fun _ => True) v0_ r ∧ Below w.heap.size w w' := by
 have HR0 := aM hr0
 have HC0 := aM hc0
 clear hr0 hc0
 have HB := aM (Below.refl w.heap.size w)
 unfold spec_codeLengths.f at h
 have H := h
 clear h
 replace H := iS H
 obtain ⟨c2, H⟩ := H
 have c2b0 := eq_true c2
 have c2b1 : decide (0 ≤ (l0.length : Int)) = true := decide_eq_true c2
 clear c2
 replace H := iS H
 obtain ⟨c3, H⟩ := H
 have c3b0 := eq_true c3
 have c3b1 : decide (((l0.length : Int) : Int).toNat ≤ 35184372088832) = true := decide_eq_true c3
 clear c3
 obtain ⟨y250, hy250⟩ : ∃ y_ : List Int, y_ = (List.replicate ((l0.length : Int) : Int).toNat 0) := ⟨_, rfl⟩
 replace H : (spec_codeLengths.l0 k l0 y250 (([] : List Int)) (([] : List (List Int))) 0) = some r := rY hy250 H
 have Ny250 := aM hy250
 clear hy250
 obtain ⟨y253, hy253⟩ : ∃ y_ : List Int, y_ = (([] : List Int)) := ⟨_, rfl⟩
 replace H : (spec_codeLengths.l0 k l0 y250 y253 (([] : List (List Int))) 0) = some r := rY hy253 H
 have Ny253 := aM hy253
 clear hy253
 obtain ⟨y256, hy256⟩ : ∃ y_ : List (List Int), y_ = (([] : List (List Int))) := ⟨_, rfl⟩
 replace H : (spec_codeLengths.l0 k l0 y250 y253 y256 0) = some r := rY hy256 H
 have Ny256 := aM hy256
 clear hy256
 have H' := aM H
 clear H
 go_enter Try.func42, Try.ntmps42
 go_wp2_with (first | ((with_reducible refine gate_dst (N := 15) rfl ?_); refine Kd.R_make (Kd.int .i64) _ 3 rfl (N := 15) rfl 22 _ _ rfl (l0.length : Int) rfl rfl Try.underlying22 (.int .i64 0) 8 info3 rfl (by decide) (by omega) 0 (ok := fun _ => True) (okp := fun _ => True) rfl (fun _ hk => hk) trivial oD (Nat.le_trans (Nat.mul_le_mul_right _ (oD : (l0.length : Int).toNat ≤ 35184372088832)) (by omega)) (Below.refl _ _) (Nat.le_refl _) ?_; intro v251 w4 ho5 hb hg_ hnew_; clear hg_ hnew_; (first | rw [← Ny250.out] at ho5 | (simp only [Int.reduceToNat] at ho5; rw [← Ny250.out] at ho5)); have HO252 := oR ho5 HB; replace HB := bS HB hb; clear hb ho5) | ((with_reducible refine gate_dst (N := 16) rfl ?_); refine iL ([] : List Int) [] ?_; intro v254 w6 ho7 hb hg_ hnew_; clear hg_ hnew_; (first | rw [← Ny253.out] at ho7 | (simp only [Int.reduceToNat] at ho7; rw [← Ny253.out] at ho7)); have HO255 := nR ho7 HO252 HB; replace HO252 := aM (Kd.R_elder' (qR HO252.out) (Kd.R_base ho7) hb); replace HB := bS HB hb; clear hb ho7) | ((with_reducible refine gate_dst (N := 17) rfl ?_); refine Kd.S_lit (Kd.slice 3 (Kd.int .i64)) _ 22 ?hg (N := 17) ?hd (xs := ([] : List (List Int))) (inner := []) (ok := fun _ => True) (okp := fun _ => True) ?hr ?hp (fun _ hk => hk) trivial (Below.refl _ _) (Nat.le_refl _) (by simp) ?_; (case hd => rfl); (case hg => rfl); (case hr => first | (go_simp; done) | (go_simp; rfl)); (case hp => exact (Reps.none _ _)); intro v257 w8 ho9 hb hg_ hnew_; clear hg_ hnew_; (first | rw [← Ny256.out] at ho9 | (simp only [Int.reduceToNat] at ho9; rw [← Ny256.out] at ho9)); have HO258 := aM (Kd.S_lower (Kd.S_new' (Kd.S_new' ho9 (Kd.R_lt (qR HO252.out))) (Kd.R_lt (qR HO255.out))) (below_size (qW HB.out))); replace HO252 := aM (Kd.R_below (qR HO252.out) hb); replace HO255 := aM (Kd.R_below (qR HO255.out) hb); replace HB := bS HB hb; clear hb ho9))
 go_loopg [4, 5, 6] k (fun kq v4 v5 v6 w' => ∃ (x4_1 : List Int) (x5_1 : List (List Int)) (x6_1 : Int), v6 = .int .i64 x6_1 ∧ Aside0 (spec_codeLengths.l0 kq l0 y250 x4_1 x5_1 x6_1 = some r) ∧ Aside0 (kq ≤ k) ∧ Aside0 (Kd.R (Kd.int .i64) 3 w' w.heap.size (fun k_ => some k_ ≠ (v4 : Value).ownBlock) v251 y250) ∧ Aside0 (Kd.R (Kd.int .i64) 3 w' w.heap.size (fun k_ => some k_ ≠ (v251 : Value).ownBlock) v4 x4_1) ∧ Aside0 (Kd.S (Kd.slice 3 (Kd.int .i64)) 22 w' w.heap.size (fun k_ => some k_ ≠ (v251 : Value).ownBlock ∧ some k_ ≠ (v4 : Value).ownBlock) v5 x5_1) ∧ Aside0 (Below w.heap.size w w'))
 case atStart => exact ⟨(y253), (y256), (0), qE, H', ⟨Nat.le_refl _⟩, ⟨by refine qR ?_; exact Kd.R_mono HO252.out (fun _ hk => hk.2)⟩, ⟨by refine qR ?_; exact Kd.R_mono HO255.out (fun _ hk => hk.2)⟩, ⟨by (with_reducible repeat (first | apply Kd.S_alloc | apply Kd.S_drewN | apply Kd.S_drew)); exact Kd.S_mono HO258.out (fun _ hk => ⟨hk.1.2, hk.2⟩)⟩, ⟨by exact qW HB.out⟩⟩
 case round =>
  clear H'
  try clear c2
  try clear c2b0
  try clear c2b1
  try clear c3
  try clear c3b0
  try clear c3b1
  obtain ⟨x4_1, x5_1, x6_1, rfl, HA, HK1, HO_3, HO_4, HO_5, HB⟩ := hrel
  cases gk with
  | zero => exact absurd HA.out (by simp [spec_codeLengths.l0])
  | succ k1 =>
   have H := HA.out
   clear HA
   simp only [spec_codeLengths.l0] at H
   by_cases c10 : x6_1 < (l0.length : Int)
   ·rw [if_pos c10] at H
    have c10b0 : decide (x6_1 < (l0.length : Int)) = true := decide_eq_true c10
    clear c10
    replace H := iD H
    obtain ⟨c11b0, H⟩ := H
    by_cases c12 : (rd l0 x6_1) > 0
    rotate_left
    ·rw [if_neg c12] at H
     have c12b0 : decide (0 < (rd l0 x6_1)) = false := decide_eq_false c12
     clear c12
     have H' := aM H
     clear H
     obtain ⟨ad259, e259, hx259_0⟩ := Kd.at_int HR0.out x6_1 oD oD
     cases e259
     replace hx259_0 := bD HB hx259_0
     have p259 := eq_true (oD : 0 ≤ (x6_1 : Int))
     have q259 := eq_true (oD : x6_1 < (l0.length : Int))
     go_wp2
     go_roundg k1
     case measure => have := HK1.out; omega
     case rel => exact ⟨(x4_1), (x5_1), (wrap64 (x6_1 + 1)), qE, H', ⟨by have := HK1.out; omega⟩, ⟨by refine qR ?_; exact HO_3.out⟩, ⟨by refine qR ?_; exact HO_4.out⟩, ⟨by (with_reducible repeat (first | apply Kd.S_alloc | apply Kd.S_drewN | apply Kd.S_drew)); exact HO_5.out⟩, ⟨by exact qW HB.out⟩⟩
    rw [if_pos c12] at H
    have c12b0 : decide (0 < (rd l0 x6_1)) = true := decide_eq_true c12
    clear c12
    replace H := iS H
    obtain ⟨c13, H⟩ := H
    have LMc13 := aM c13
    clear c13
    obtain ⟨y261, hy261⟩ : ∃ y_ : List Int, y_ = (x4_1 ++ [rd l0 x6_1]) := ⟨_, rfl⟩
    replace H : (if x5_1.length < 5864062014805 then (spec_codeLengths.l0 k1 l0 y250 y261 (x5_1 ++ [(([x6_1] : List Int))]) (wrap64 (x6_1 + 1))) else (none)) = some r := rY hy261 H
    have Ny261 := aM hy261
    clear hy261
    obtain ⟨y264, hy264⟩ : ∃ y_ : List Int, y_ = (([x6_1] : List Int)) := ⟨_, rfl⟩
    replace H : (if x5_1.length < 5864062014805 then (spec_codeLengths.l0 k1 l0 y250 y261 (x5_1 ++ [y264]) (wrap64 (x6_1 + 1))) else (none)) = some r := rY hy264 H
    have Ny264 := aM hy264
    clear hy264
    replace H := iS H
    obtain ⟨c14, H⟩ := H
    have LMc14 := aM c14
    clear c14
    obtain ⟨y267, hy267⟩ : ∃ y_ : List (List Int), y_ = (x5_1 ++ [y264]) := ⟨_, rfl⟩
    replace H : (spec_codeLengths.l0 k1 l0 y250 y261 y267 (wrap64 (x6_1 + 1))) = some r := rY hy267 H
    have Ny267 := aM hy267
    clear hy267
    have H' := aM H
    clear H
    obtain ⟨ad259, e259, hx259_0⟩ := Kd.at_int HR0.out x6_1 oD oD
    cases e259
    replace hx259_0 := bD HB hx259_0
    have p259 := eq_true (oD : 0 ≤ (x6_1 : Int))
    have q259 := eq_true (oD : x6_1 < (l0.length : Int))
    obtain ⟨ad260, e260, hx260_0⟩ := Kd.at_int HR0.out x6_1 oD oD
    obtain rfl : ad259 = ad260 := (by injection e260)
    replace hx260_0 := bD HB hx260_0
    have p260 := eq_true (oD : 0 ≤ (x6_1 : Int))
    have q260 := eq_true (oD : x6_1 < (l0.length : Int))
    go_wp2_with (first | ((with_reducible refine gate_builtin (b := .append) (xs := #[.tmp 29, .tmp 34]) rfl ?_); at_builtin; refine Kd.R_append (Kd.int .i64) (w0 := w) w.heap.size rfl (.tmp 29) (.tmp 34) 22 3 (.int .i64 0) 8 rfl Try.underlying22 info3 rfl (by decide) (by omega) u4 x4_1 (rd l0 x6_1) [.int .i64 (rd l0 x6_1)] (fun k_ => some k_ ≠ (v251 : Value).ownBlock) (fun _ => False) rfl rfl ?aP (fun _ hk => hk.elim) ?aF ?aO ?aB ?aS ?aL ?_; (case aP => exact rfl); (case aB => exact (qW HB.out)); (case aF => exact (fun k_ hk => Kd.fresh' (Kd.R_lt (qR HO_3.out)) k_ hk)); (case aO => exact (qR HO_4.out)); (case aS => exact (below_size (qW HB.out))); (case aL => have := LMc13.out; omega); intro v262 w15 ho hb hg hat; rw [← Ny261.out] at ho; replace HO_3 := aM (Kd.R_after (ok := (fun _ => True)) (by refine qR ?_; exact Kd.R_mono HO_3.out (fun _ hk => ⟨trivial, hk⟩)) hg hat); replace HO_5 := aM (Kd.S_after (ok := (fun k_ => some k_ ≠ (v251 : Value).ownBlock)) (by (with_reducible repeat (first | apply Kd.S_alloc | apply Kd.S_drewN | apply Kd.S_drew)); exact HO_5.out) hg hat); replace HB := aM (hb); have HO263 := aM (ho); clear HO_4; clear ho hb hg hat) | ((with_reducible refine gate_dst (N := 38) rfl ?_); refine iL ([x6_1] : List Int) [.int .i64 x6_1] ?_; intro v265 w16 ho17 hb hg_ hnew_; clear hg_ hnew_; (first | rw [← Ny264.out] at ho17 | (simp only [Int.reduceToNat] at ho17; rw [← Ny264.out] at ho17)); replace HO_5 := aM (Kd.S_elder' (by (with_reducible repeat (first | apply Kd.S_alloc | apply Kd.S_drewN | apply Kd.S_drew)); exact HO_5.out) (Kd.R_base ho17) hb); have HO266 := aM (Kd.R_lower (Kd.R_new' (Kd.R_new' ho17 (Kd.R_lt (qR HO_3.out))) (Kd.R_lt (qR HO263.out))) (below_size (qW HB.out))); replace HO_3 := aM (Kd.R_elder' (qR HO_3.out) (Kd.R_base ho17) hb); replace HO263 := aM (Kd.R_elder' (qR HO263.out) (Kd.R_base ho17) hb); replace HB := bS HB hb; clear hb ho17; obtain ⟨Ao19, co19, rfl⟩ := sL HO266) | ((with_reducible refine gate_builtin (b := .append) (xs := #[.tmp 36, .tmp 39]) rfl ?_); at_builtin; refine Kd.S_append (Kd.slice 3 (Kd.int .i64)) (w0 := w) w.heap.size rfl (.tmp 36) (.tmp 39) 63 22 (.slice none 0 0) 24 rfl Try.underlying63 info22 rfl (by decide) (by omega) u5 x5_1 y264 [.slice Ao19 y264.length co19] (fun k_ => some k_ ≠ (v251 : Value).ownBlock ∧ some k_ ≠ (v262 : Value).ownBlock) (fun k_ => some k_ = (.slice Ao19 y264.length co19 : Value).ownBlock) rfl rfl ?aP (fun k_ hk_ => ((Kd.R_mono (ok' := fun k_ => ((fun k_ => some k_ ≠ (v251 : Value).ownBlock ∧ some k_ ≠ (v262 : Value).ownBlock)) k_ ∧ some k_ ≠ (u5 : Value).ownBlock) (Kd.R_apart' (HO266.out) (Kd.S_typed HO_5.out) (by decide)) (fun k_ hk => ⟨⟨hk.1.1.2, hk.1.2⟩, hk.2⟩))).1 k_ hk_.symm) ?aF ?aO ?aB ?aS ?aL ?_; (case aP => exact Kd.M_row (Kd.R_mono (Kd.R_tight rfl (Kd.R_mono (ok' := fun k_ => ((fun k_ => some k_ ≠ (v251 : Value).ownBlock ∧ some k_ ≠ (v262 : Value).ownBlock)) k_ ∧ some k_ ≠ (u5 : Value).ownBlock) (Kd.R_apart' (HO266.out) (Kd.S_typed HO_5.out) (by decide)) (fun k_ hk => ⟨⟨hk.1.1.2, hk.1.2⟩, hk.2⟩))) (fun _ h_ => h_))); (case aB => exact (qW HB.out)); (case aF => exact (fun k_ hk => ⟨Kd.fresh' (Kd.R_lt (qR HO_3.out)) k_ hk, Kd.fresh' (Kd.R_lt (qR HO263.out)) k_ hk⟩)); (case aO => exact (by (with_reducible repeat (first | apply Kd.S_alloc | apply Kd.S_drewN | apply Kd.S_drew)); exact Kd.S_mono HO_5.out (fun k_ hk => ⟨⟨hk.1.1, hk.1.2⟩, fun e_ => hk.2 e_⟩))); (case aS => exact (below_size (qW HB.out))); (case aL => have := LMc14.out; omega); intro v268 w18 ho hb hg hat; rw [← Ny267.out] at ho; replace HO_3 := aM (Kd.R_over' (qR HO_3.out) (Kd.S_typed (by (with_reducible repeat (first | apply Kd.S_alloc | apply Kd.S_drewN | apply Kd.S_drew)); exact HO_5.out)) (by decide) hg); replace HO263 := aM (Kd.R_over' (qR HO263.out) (Kd.S_typed (by (with_reducible repeat (first | apply Kd.S_alloc | apply Kd.S_drewN | apply Kd.S_drew)); exact HO_5.out)) (by decide) hg); replace HB := aM (hb); have HO269 := aM (ho); clear HO_5 HO266; clear ho hb hg hat))
    go_roundg k1
    case measure => have := HK1.out; omega
    case rel => exact ⟨(y261), (y267), (wrap64 (x6_1 + 1)), qE, H', ⟨by have := HK1.out; omega⟩, ⟨by refine qR ?_; exact Kd.R_mono HO_3.out (fun _ hk => hk.1.2)⟩, ⟨by refine qR ?_; exact Kd.R_mono HO263.out (fun _ hk => hk.1)⟩, ⟨by (with_reducible repeat (first | apply Kd.S_alloc | apply Kd.S_drewN | apply Kd.S_drew)); exact HO269.out⟩, ⟨by exact qW HB.out⟩⟩
   rw [if_neg c10] at H
   have c10b0 : decide (x6_1 < (l0.length : Int)) = false := decide_eq_false c10
   clear c10
   by_cases c20 : (x4_1.length : Int) = 1
   ·rw [if_pos c20] at H
    have c20b0 : ((x4_1.length : Int) == 1) = true := beq_iff_eq.mpr c20
    have c20b1 : ((x4_1.length : Int) != 1) = false := bne_eq_false_iff_eq.mpr c20
    clear c20
    replace H := iS H
    obtain ⟨c21, H⟩ := H
    have c21b0 : decide (0 < (x5_1.length : Int)) = true := decide_eq_true c21
    have c21b1 : decide (0 < x5_1.length) = true := decide_eq_true (by omega)
    clear c21
    replace H := iS H
    obtain ⟨c22, H⟩ := H
    have c22b0 : decide (0 < ((rd_L3 x5_1 0).length : Int)) = true := decide_eq_true c22
    have c22b1 : decide (0 < (rd_L3 x5_1 0).length) = true := decide_eq_true (by omega)
    clear c22
    replace H := iD H
    obtain ⟨c23b0, H⟩ := H
    replace H := iD H
    obtain ⟨c24b0, H⟩ := H
    obtain ⟨y272, hy272⟩ : ∃ y_ : List Int, y_ = (y250.set ((rd (rd_L3 x5_1 0) 0) : Int).toNat 1) := ⟨_, rfl⟩
    replace H : (some y272) = some r := rY hy272 H
    have Ny272 := aM hy272
    clear hy272
    obtain rfl := Option.some.inj H
    obtain ⟨Ao26, co26, rfl⟩ := sL HO_4
    obtain ⟨Ao27, co27, eo27⟩ := Kd.S_slice HO_5.out
    subst eo27
    have p270 : 0 ≤ (0 : Int) := (by omega)
    have q270 : 0 < (x5_1.length : Int) := oD
    obtain ⟨ad270, A270_0, c270_0, e270, hx270_0, hl270_0, hi270_0⟩ := at_L3 (Kd.S_reads' HO_5.out).2.2 0 p270 q270
    cases e270
    obtain ⟨ce270, hce270, hMe270, hcc270⟩ := Kd.S_get HO_5.out [] 0 p270 (by first | exact q270 | exact oD | (have e_ := (Kd.S_reads' HO_5.out).1; omega))
    obtain ⟨ve270_0, rfl, ge270_0⟩ := hMe270
    have hv270_0 := hcc270 0 _ rfl
    rw [Nat.add_zero, show ((Kd.slice 3 (Kd.int .i64))).sz = 1 from rfl, Nat.mul_one] at hv270_0
    replace hv270_0 := Option.some.inj (hv270_0.symm.trans hx270_0)
    rw [hv270_0] at ge270_0
    have HL270_0 := aM (show Kd.R (Kd.int .i64) 3 _ _ _ _ (rd_L3 x5_1 0) from ge270_0)
    clear hv270_0 ge270_0
    clear hcc270 hce270
    have qi270 : (0 < x5_1.length) = True := eq_true (by omega)
    (try rw [show ((0 : Int)).toNat = 0 from rfl] at hx270_0)
    (try rw [Addr.add_zero'] at hx270_0)
    have HR270_0 := aM hi270_0
    have HC270_0 := aM hl270_0
    clear hi270_0 hl270_0
    replace p270 := eq_true p270
    replace q270 := eq_true q270
    have p271 : 0 ≤ (0 : Int) := (by omega)
    have q271 : 0 < ((rd_L3 x5_1 0).length : Int) := oD
    obtain ⟨ad271, e271, hx271_0⟩ := Kd.at_int (by repeat (first | (with_reducible exact HR270_0.out) | (with_reducible refine Kd.C_alloc ?_ _) | (with_reducible refine Kd.C_drewN ?_ _) | (with_reducible refine Kd.C_drew ?_) | exact HR270_0.out)) 0 p271 q271
    cases e271
    have qi271 : (0 < (rd_L3 x5_1 0).length) = True := eq_true (by omega)
    (try rw [show ((0 : Int)).toNat = 0 from rfl] at hx271_0)
    (try rw [Addr.add_zero'] at hx271_0)
    replace p271 := eq_true p271
    replace q271 := eq_true q271
    have p25 : 0 ≤ ((rd (rd_L3 x5_1 0) 0) : Int) := oD
    have q25 : ((rd (rd_L3 x5_1 0) 0) : Int) < ((y250.length : Int) : Int) := oD
    obtain ⟨go25, co25, eo25, gb25, gl25, cl25, HG25⟩ := Kd.R_form HO_3.out (by omega)
    (first | cases eo25 | (injection eo25 with ea_ en_ ec_; (first | subst ea_ | (injection ea_ with ea_; subst ea_)); subst ec_; clear en_))
    have GB25 := aM gb25
    have GG25 := aM HG25
    clear gb25 gl25 HG25
    obtain ⟨hx25_0, hf25_0⟩ := Kd.R_celln 0 HO_3.out ((rd (rd_L3 x5_1 0) 0) : Int) p25 q25
    replace p25 := eq_true p25
    replace q25 := eq_true q25
    have HP28 := Kd.R_putg HO_3.out ((rd (rd_L3 x5_1 0) 0) : Int) 1
    go_wp2_with (first | ((with_reducible refine gate_store (t := 3) (p := 50) rfl ?_); refine store_event (t := 3) (p := 50) (v := ?vo_w29) (w1 := (wr.setCell ⟨go25, ((rd (rd_L3 x5_1 0) 0) : Int).toNat, none⟩ (.int .i64 1))) ?hg ?ho ?hn ?hr ?_; (case ho => rfl); (case hg => rfl); (case hn => rfl); (case hr => first | (go_simp; done) | (go_simp; rfl)); intro w29 hw; have hg : wr.grownBy w29 (some go25) := (by rw [hw]; exact HP28.2); have hp_ : Kd.R (Kd.int .i64) 3 w29 w.heap.size (fun k_ => some k_ ≠ (.slice Ao26 x4_1.length co26 : Value).ownBlock) (.slice (some ⟨go25, 0, none⟩) y250.length co25) y272 := (by rw [hw, Ny272.out]; exact HP28.1); clear HP28; replace HO_3 := aM (hp_); replace HO_4 := aM (Kd.R_after (v := (.slice (some ⟨go25, 0, none⟩) y250.length co25)) (v1 := (.slice (some ⟨go25, 0, none⟩) y250.length co25)) (ok := (fun _ => True)) (by refine qR ?_; exact Kd.R_mono HO_4.out (fun _ hk => ⟨trivial, hk⟩)) hg (.inl rfl)); replace HO_5 := aM (Kd.S_after (v := (.slice (some ⟨go25, 0, none⟩) y250.length co25)) (v1 := (.slice (some ⟨go25, 0, none⟩) y250.length co25)) (ok := (fun k_ => some k_ ≠ (.slice Ao26 x4_1.length co26 : Value).ownBlock)) (by (with_reducible repeat (first | apply Kd.S_alloc | apply Kd.S_drewN | apply Kd.S_drew)); exact Kd.S_mono HO_5.out (fun _ hk => ⟨hk.2, hk.1⟩)) hg (.inl rfl)); replace HL270_0 := aM (Kd.R_after (v := (.slice (some ⟨go25, 0, none⟩) y250.length co25)) (v1 := (.slice (some ⟨go25, 0, none⟩) y250.length co25)) (ok := (fun k_ => some k_ ≠ (.slice Ao26 x4_1.length co26 : Value).ownBlock ∧ some k_ ≠ (.slice (some ad270) x5_1.length co27 : Value).ownBlock)) (by refine qR ?_; exact Kd.R_mono HL270_0.out (fun _ hk => ⟨⟨hk.1.2, hk.2⟩, hk.1.1⟩)) hg (.inl rfl)); replace HB := aM ((by rw [hw]; exact below_set (HB.out) GB25.out : Below w.heap.size w w29)); clear hg hw hp_))
    go_ret
    exact ⟨_, qX, by refine qR ?_; exact Kd.R_mono HO_3.out (fun _ hk => trivial), by exact qW HB.out⟩
   rw [if_neg c20] at H
   have c20b0 : ((x4_1.length : Int) == 1) = false := beq_eq_false_iff_ne.mpr c20
   have c20b1 : ((x4_1.length : Int) != 1) = true := bne_iff_ne.mpr c20
   replace H := iS H
   obtain ⟨c30, H⟩ := H
   have c30b0 := eq_true c30
   have c30b1 : decide (0 ≤ (x4_1.length : Int)) = true := decide_eq_true c30
   clear c30
   replace H := iS H
   obtain ⟨c31, H⟩ := H
   have c31b0 := eq_true c31
   have c31b1 : decide (((x4_1.length : Int) : Int).toNat ≤ 281474976710656) = true := decide_eq_true c31
   clear c31
   obtain ⟨y273, hy273⟩ : ∃ y_ : List Bool, y_ = (List.replicate ((x4_1.length : Int) : Int).toNat false) := ⟨_, rfl⟩
   replace H : (spec_codeLengths.l1 k1 y250 x4_1 x5_1 y273 (x4_1.length : Int)) = some r := rY hy273 H
   have Ny273 := aM hy273
   clear hy273
   have H' := aM H
   clear H
   obtain ⟨Ao32, co32, rfl⟩ := sL HO_4
   go_wp2_with (first | ((with_reducible refine gate_dst (N := 54) rfl ?_); refine Kd.R_make Kd.bool _ 4 rfl (N := 54) rfl 64 _ _ rfl (x4_1.length : Int) rfl rfl Try.underlying64 (.bool false) 1 info4 rfl (by decide) (by omega) false (ok := fun _ => True) (okp := fun _ => True) rfl (fun _ hk => hk) trivial oD (Nat.le_trans (Nat.mul_le_mul_right _ (oD : (x4_1.length : Int).toNat ≤ 281474976710656)) (by omega)) (Below.refl _ _) (Nat.le_refl _) ?_; intro v274 w33 ho34 hb hg_ hnew_; clear hg_ hnew_; (first | rw [← Ny273.out] at ho34 | (simp only [Int.reduceToNat] at ho34; rw [← Ny273.out] at ho34)); replace HO_3 := aM (Kd.R_below (qR HO_3.out) hb); replace HO_4 := aM (Kd.R_below (qR HO_4.out) hb); replace HO_5 := aM (Kd.S_below (by (with_reducible repeat (first | apply Kd.S_alloc | apply Kd.S_drewN | apply Kd.S_drew)); exact HO_5.out) hb); have HO275 := oR ho34 HB; replace HB := bS HB hb; clear hb ho34))
   go_loopg [4, 5, 7, 8] k1 (fun kq v4 v5 v7 v8 w' => ∃ (x3_2 : List Int) (x4_2 : List Int) (x5_2 : List (List Int)) (x7_2 : List Bool) (x8_2 : Int), v8 = .int .i64 x8_2 ∧ Aside0 (spec_codeLengths.l1 kq x3_2 x4_2 x5_2 x7_2 x8_2 = some r) ∧ Aside0 (kq ≤ k1) ∧ Aside0 (Kd.R (Kd.int .i64) 3 w' w.heap.size (fun k_ => some k_ ≠ (v4 : Value).ownBlock) v251 x3_2) ∧ Aside0 (Kd.R (Kd.int .i64) 3 w' w.heap.size (fun k_ => some k_ ≠ (v251 : Value).ownBlock) v4 x4_2) ∧ Aside0 (Kd.S (Kd.slice 3 (Kd.int .i64)) 22 w' w.heap.size (fun k_ => some k_ ≠ (v251 : Value).ownBlock ∧ some k_ ≠ (v4 : Value).ownBlock) v5 x5_2) ∧ Aside0 (Kd.R Kd.bool 4 w' w.heap.size (fun _ => True) v7 x7_2) ∧ Aside0 (Below w.heap.size w w'))
   case atStart => exact ⟨(y250), (x4_1), (x5_1), (y273), ((x4_1.length : Int)), qE, H', ⟨Nat.le_refl _⟩, ⟨by refine qR ?_; exact HO_3.out⟩, ⟨by refine qR ?_; exact HO_4.out⟩, ⟨by (with_reducible repeat (first | apply Kd.S_alloc | apply Kd.S_drewN | apply Kd.S_drew)); exact HO_5.out⟩, ⟨by refine qR ?_; exact HO275.out⟩, ⟨by exact qW HB.out⟩⟩
   case round =>
    clear H'
    try clear c2
    try clear c2b0
    try clear c2b1
    try clear c3
    try clear c3b0
    try clear c3b1
    try clear c10
    try clear c10b0
    try clear c11b0
    try clear c12
    try clear c12b0
    try clear c13
    try clear c14
    try clear c20
    try clear c20b0
    try clear c20b1
    try clear c21
    try clear c21b0
    try clear c21b1
    try clear c22
    try clear c22b0
    try clear c22b1
    try clear c23b0
    try clear c24b0
    try clear p25
    try clear q25
    try clear c30
    try clear c30b0
    try clear c30b1
    try clear c31
    try clear c31b0
    try clear c31b1
    try clear hx259_0
    try clear hx25_0
    try clear hx260_0
    try clear hx270_0
    try clear hx271_0
    try clear p25
    try clear p259
    try clear p260
    try clear p270
    try clear p271
    try clear q25
    try clear q259
    try clear q260
    try clear q270
    try clear q271
    obtain ⟨x3_2, x4_2, x5_2, x7_2, x8_2, rfl, HA, HK2, HO_3, HO_4, HO_5, HO_7, HB⟩ := hrel
    cases gk with
    | zero => exact absurd HA.out (by simp [spec_codeLengths.l1])
    | succ k2 =>
     have H := HA.out
     clear HA
     simp only [spec_codeLengths.l1] at H
     by_cases c35 : x8_2 > 1
     rotate_left
     ·rw [if_neg c35] at H
      have c35b0 : decide (1 < x8_2) = false := decide_eq_false c35
      clear c35
      obtain rfl := Option.some.inj H
      go_wp2
      go_ret
      exact ⟨_, qX, by refine qR ?_; exact Kd.R_mono HO_3.out (fun _ hk => trivial), by exact qW HB.out⟩
     rw [if_pos c35] at H
     have c35b0 : decide (1 < x8_2) = true := decide_eq_true c35
     clear c35
     replace H := Option.bind_eq_some_iff.mp H
     obtain ⟨t276, A360, H⟩ := H
     replace H : (if 0 ≤ t276 then (if t276 < (x7_2.length : Int) then ((some (x7_2.set (t276 : Int).toNat true : List Bool)).bind fun y277 => ((spec_lightest.f k2 x4_2 y277).bind fun t278 => (if 0 ≤ t278 then (if t278 < (x7_2.length : Int) then (if t276 < (x5_2.length : Int) then ((spec_copyInts.f (rd_L3 x5_2 t276)).bind fun t281 => (if t278 < (x5_2.length : Int) then (if t281.length + (rd_L3 x5_2 t278).length < 17592186044416 then (spec_codeLengths.l2 k2 x3_2 x4_2 x5_2 (y277.set (t278 : Int).toNat true) x8_2 t276 t278 (t281 ++ (rd_L3 x5_2 t278)) 0) else (none)) else (none))) else (none)) else (none)) else (none)))) else (none)) else (none)) = some r := H
     have A36 := aM A360
     clear A360
     replace H := iD H
     obtain ⟨c37b0, H⟩ := H
     replace H := iD H
     obtain ⟨c38b0, H⟩ := H
     obtain ⟨y277, hy277⟩ : ∃ y_ : List Bool, y_ = (x7_2.set (t276 : Int).toNat true) := ⟨_, rfl⟩
     replace H : ((spec_lightest.f k2 x4_2 y277).bind fun t278 => (if 0 ≤ t278 then (if t278 < (x7_2.length : Int) then (if t276 < (x5_2.length : Int) then ((spec_copyInts.f (rd_L3 x5_2 t276)).bind fun t281 => (if t278 < (x5_2.length : Int) then (if t281.length + (rd_L3 x5_2 t278).length < 17592186044416 then (spec_codeLengths.l2 k2 x3_2 x4_2 x5_2 (y277.set (t278 : Int).toNat true) x8_2 t276 t278 (t281 ++ (rd_L3 x5_2 t278)) 0) else (none)) else (none))) else (none)) else (none)) else (none))) = some r := rY hy277 H
     have Ny277 := aM hy277
     clear hy277
     replace H := Option.bind_eq_some_iff.mp H
     obtain ⟨t278, A400, H⟩ := H
     replace H : (if 0 ≤ t278 then (if t278 < (x7_2.length : Int) then (if t276 < (x5_2.length : Int) then ((spec_copyInts.f (rd_L3 x5_2 t276)).bind fun t281 => (if t278 < (x5_2.length : Int) then (if t281.length + (rd_L3 x5_2 t278).length < 17592186044416 then (spec_codeLengths.l2 k2 x3_2 x4_2 x5_2 (y277.set (t278 : Int).toNat true) x8_2 t276 t278 (t281 ++ (rd_L3 x5_2 t278)) 0) else (none)) else (none))) else (none)) else (none)) else (none)) = some r := H
     have A40 := aM A400
     clear A400
     replace H := iD H
     obtain ⟨c41b0, H⟩ := H
     replace H := iD H
     obtain ⟨c42b0, H⟩ := H
     obtain ⟨y279, hy279⟩ : ∃ y_ : List Bool, y_ = (y277.set (t278 : Int).toNat true) := ⟨_, rfl⟩
     replace H : (if t276 < (x5_2.length : Int) then ((spec_copyInts.f (rd_L3 x5_2 t276)).bind fun t281 => (if t278 < (x5_2.length : Int) then (if t281.length + (rd_L3 x5_2 t278).length < 17592186044416 then (spec_codeLengths.l2 k2 x3_2 x4_2 x5_2 y279 x8_2 t276 t278 (t281 ++ (rd_L3 x5_2 t278)) 0) else (none)) else (none))) else (none)) = some r := rY hy279 H
     have Ny279 := aM hy279
     clear hy279
     replace H := iD H
     obtain ⟨c44b0, H⟩ := H
     replace H := Option.bind_eq_some_iff.mp H
     obtain ⟨t281, A450, H⟩ := H
     replace H : (if t278 < (x5_2.length : Int) then (if t281.length + (rd_L3 x5_2 t278).length < 17592186044416 then (spec_codeLengths.l2 k2 x3_2 x4_2 x5_2 y279 x8_2 t276 t278 (t281 ++ (rd_L3 x5_2 t278)) 0) else (none)) else (none)) = some r := H
     have A45 := aM A450
     clear A450
     replace H := iD H
     obtain ⟨c46b0, H⟩ := H
     replace H := iS H
     obtain ⟨c47, H⟩ := H
     have LMc47 := aM c47
     clear c47
     obtain ⟨y285, hy285⟩ : ∃ y_ : List Int, y_ = (t281 ++ (rd_L3 x5_2 t278)) := ⟨_, rfl⟩
     replace H : (spec_codeLengths.l2 k2 x3_2 x4_2 x5_2 y279 x8_2 t276 t278 y285 0) = some r := rY hy285 H
     have Ny285 := aM hy285
     clear hy285
     have H' := aM H
     clear H
     obtain ⟨Ao48, co48, rfl⟩ := sL HO_4
     obtain ⟨Ao49, co49, rfl⟩ := sL HO_7
     try go_wp2_with (first | ((with_reducible refine gate_callee (f := 54) rfl ?_); refine gL (some 63) Try.func54 #[.slice Ao48 x4_2.length co48, .slice Ao49 x7_2.length co49] ?_; (with_reducible refine (spec_lightest.calls k2 _ _ x4_2 _ _ x7_2 t276 _ ?side1 ?side2 ?side3 ?side4 A36.out).mono ?_); (case side1 => exact qC (Kd.R_reads' HO_4.out).2.2); (case side2 => exact (Kd.R_reads' HO_4.out).2.1); (case side3 => exact qC (Kd.R_reads' HO_7.out).2.2); (case side4 => exact (Kd.R_reads' HO_7.out).2.1); rintro e w' ⟨rfl, ⟨nd, rfl⟩⟩; refine ⟨_, rfl, ?_⟩; (try (rw [drewN_self wr]; generalize hq_ : World.drewN wr _ = wr; replace HO_3 : Aside0 (Kd.R (Kd.int .i64) 3 wr w.heap.size (fun k_ => some k_ ≠ (.slice Ao48 x4_2.length co48 : Value).ownBlock) v251 x3_2) := ⟨by rw [← hq_]; exact (qR HO_3.out)⟩; replace HO_4 : Aside0 (Kd.R (Kd.int .i64) 3 wr w.heap.size (fun k_ => some k_ ≠ (v251 : Value).ownBlock) (.slice Ao48 x4_2.length co48) x4_2) := ⟨by rw [← hq_]; exact (qR HO_4.out)⟩; replace HO_5 : Aside0 (Kd.S (Kd.slice 3 (Kd.int .i64)) 22 wr w.heap.size (fun k_ => some k_ ≠ (v251 : Value).ownBlock ∧ some k_ ≠ (.slice Ao48 x4_2.length co48 : Value).ownBlock) u5 x5_2) := ⟨by rw [← hq_]; exact (by (with_reducible repeat (first | apply Kd.S_alloc | apply Kd.S_drewN | apply Kd.S_drew)); exact HO_5.out)⟩; replace HO_7 : Aside0 (Kd.R Kd.bool 4 wr w.heap.size (fun _ => True) (.slice Ao49 x7_2.length co49) x7_2) := ⟨by rw [← hq_]; exact (qR HO_7.out)⟩; replace HB : Aside0 (Below w.heap.size w wr) := ⟨by rw [← hq_]; exact (qW HB.out)⟩; clear hq_)); have p39 : 0 ≤ (t276 : Int) := oD; have q39 : (t276 : Int) < ((x7_2.length : Int) : Int) := oD; obtain ⟨go39, co39, eo39, gb39, gl39, cl39, HG39⟩ := Kd.R_form HO_7.out (by omega); (first | cases eo39 | (injection eo39 with ea_ en_ ec_; (first | subst ea_ | (injection ea_ with ea_; subst ea_)); subst ec_; clear en_)); have GB39 := aM gb39; have GG39 := aM HG39; clear gb39 gl39 HG39; obtain ⟨hx39_0, hf39_0⟩ := Kd.R_celln false HO_7.out (t276 : Int) p39 q39; replace p39 := eq_true p39; replace q39 := eq_true q39; obtain ⟨hy50_, hz50_⟩ := Kd.R_celln false HO_7.out (t276 : Int) oD oD; have HP50 := Kd.R_putg HO_7.out (t276 : Int) true) | ((with_reducible refine gate_store (t := 4) (p := 66) rfl ?_); refine store_event (t := 4) (p := 66) (v := ?vo_w51) (w1 := (wr.setCell ⟨go39, (t276 : Int).toNat, none⟩ (.bool true))) ?hg ?ho ?hn ?hr ?_; (case ho => rfl); (case hg => rfl); (case hn => rfl); (case hr => first | (go_simp; done) | (go_simp; rfl)); intro w51 hw; have hg : wr.grownBy w51 (some go39) := (by rw [hw]; exact HP50.2); have hp_ : Kd.R Kd.bool 4 w51 w.heap.size (fun _ => True) (.slice (some ⟨go39, 0, none⟩) x7_2.length co49) y277 := (by rw [hw, Ny277.out]; exact HP50.1); clear HP50; replace HO_3 := aM (Kd.R_over' (v := (.slice (some ⟨go39, 0, none⟩) x7_2.length co49)) (qR HO_3.out) (Kd.R_typed HO_7.out) (by decide) hg); replace HO_4 := aM (Kd.R_over' (v := (.slice (some ⟨go39, 0, none⟩) x7_2.length co49)) (qR HO_4.out) (Kd.R_typed HO_7.out) (by decide) hg); replace HO_5 := aM (Kd.S_over' (v := (.slice (some ⟨go39, 0, none⟩) x7_2.length co49)) (by (with_reducible repeat (first | apply Kd.S_alloc | apply Kd.S_drewN | apply Kd.S_drew)); exact HO_5.out) (Kd.R_typed HO_7.out) (by decide) hg); replace HO_7 := aM (hp_); replace HB := aM ((by rw [hw]; exact below_set (HB.out) GB39.out : Below w.heap.size w w51)); clear hg hw hp_) | ((with_reducible refine gate_callee (f := 54) rfl ?_); refine goesL_ (some 69) rfl rfl Try.func54 (by kernel_rfl) rfl #[.slice Ao48 x4_2.length co48, .slice (some ⟨go39, 0, none⟩) y277.length co49] rfl (by (try simp only [List.map_toArray, List.map_cons, List.map_nil]); first | done | (rw [show y277.length = x7_2.length from (Kd.R_reads' HO_7.out).1.symm] <;> rfl) | rfl | (simp only [List.length_drop, List.length_take]; rfl)) ?_; (with_reducible refine (spec_lightest.calls k2 _ _ x4_2 _ _ y277 t278 _ ?side1 ?side2 ?side3 ?side4 A40.out).mono ?_); (case side1 => exact qC (Kd.R_reads' HO_4.out).2.2); (case side2 => exact (Kd.R_reads' HO_4.out).2.1); (case side3 => exact qC (Kd.R_reads' HO_7.out).2.2); (case side4 => rw [show y277.length = x7_2.length from (Kd.R_reads' HO_7.out).1.symm]; exact (Kd.R_reads' HO_7.out).2.1); rintro e w' ⟨rfl, ⟨nd, rfl⟩⟩; refine ⟨_, rfl, ?_⟩; (try (rw [drewN_self w51]; generalize hq_ : World.drewN w51 _ = w51; replace HO_3 : Aside0 (Kd.R (Kd.int .i64) 3 w51 w.heap.size (fun k_ => some k_ ≠ (.slice Ao48 x4_2.length co48 : Value).ownBlock) v251 x3_2) := ⟨by rw [← hq_]; exact (qR HO_3.out)⟩; replace HO_4 : Aside0 (Kd.R (Kd.int .i64) 3 w51 w.heap.size (fun k_ => some k_ ≠ (v251 : Value).ownBlock) (.slice Ao48 x4_2.length co48) x4_2) := ⟨by rw [← hq_]; exact (qR HO_4.out)⟩; replace HO_5 : Aside0 (Kd.S (Kd.slice 3 (Kd.int .i64)) 22 w51 w.heap.size (fun k_ => some k_ ≠ (v251 : Value).ownBlock ∧ some k_ ≠ (.slice Ao48 x4_2.length co48 : Value).ownBlock) u5 x5_2) := ⟨by rw [← hq_]; exact (by (with_reducible repeat (first | apply Kd.S_alloc | apply Kd.S_drewN | apply Kd.S_drew)); exact HO_5.out)⟩; replace HO_7 : Aside0 (Kd.R Kd.bool 4 w51 w.heap.size (fun _ => True) (.slice (some ⟨go39, 0, none⟩) x7_2.length co49) y277) := ⟨by rw [← hq_]; exact (qR HO_7.out)⟩; replace HB : Aside0 (Below w.heap.size w w51) := ⟨by rw [← hq_]; exact (qW HB.out)⟩; clear hq_)); have p43 : 0 ≤ (t278 : Int) := oD; have q43 : (t278 : Int) < ((x7_2.length : Int) : Int) := oD; obtain ⟨hx43_0, hf43_0⟩ := Kd.R_celln false HO_7.out (t278 : Int) p43 q43; replace p43 := eq_true p43; replace q43 := eq_true q43; obtain ⟨hy52_, hz52_⟩ := Kd.R_celln false HO_7.out (t278 : Int) oD oD; have HP52 := Kd.R_putg HO_7.out (t278 : Int) true) | ((with_reducible refine gate_store (t := 4) (p := 72) rfl ?_); refine store_event (t := 4) (p := 72) (v := ?vo_w53) (w1 := (w51.setCell ⟨go39, (t278 : Int).toNat, none⟩ (.bool true))) ?hg ?ho ?hn ?hr ?_; (case ho => rfl); (case hg => rfl); (case hn => rfl); (case hr => first | (go_simp; done) | (go_simp; rfl)); intro w53 hw; have hg : w51.grownBy w53 (some go39) := (by rw [hw]; exact HP52.2); have hp_ : Kd.R Kd.bool 4 w53 w.heap.size (fun _ => True) (.slice (some ⟨go39, 0, none⟩) x7_2.length co49) y279 := (by rw [hw, Ny279.out]; exact HP52.1); clear HP52; replace HO_3 := aM (Kd.R_over' (v := (.slice (some ⟨go39, 0, none⟩) x7_2.length co49)) (qR HO_3.out) (Kd.R_typed HO_7.out) (by decide) hg); replace HO_4 := aM (Kd.R_over' (v := (.slice (some ⟨go39, 0, none⟩) x7_2.length co49)) (qR HO_4.out) (Kd.R_typed HO_7.out) (by decide) hg); replace HO_5 := aM (Kd.S_over' (v := (.slice (some ⟨go39, 0, none⟩) x7_2.length co49)) (by (with_reducible repeat (first | apply Kd.S_alloc | apply Kd.S_drewN | apply Kd.S_drew)); exact HO_5.out) (Kd.R_typed HO_7.out) (by decide) hg); replace HO_7 := aM (hp_); replace HB := aM ((by rw [hw]; exact below_set (HB.out) GB39.out : Below w.heap.size w w53)); clear hg hw hp_))
     replace HO_3 := aM (Kd.R_drew HO_3.out)
     replace HO_4 := aM (Kd.R_drew HO_4.out)
     replace HO_5 := aM (Kd.S_drew HO_5.out)
     replace HO_7 := aM (Kd.R_drew HO_7.out)
     replace HB := aM (below_drew1 HB.out)
     obtain ⟨Ao55, co55, eo55⟩ := Kd.S_slice HO_5.out
     (first | subst eo55 | (injection eo55 with f1_ f2_ f3_; have f4_ := f1_.symm; have f5_ := f3_.symm; clear f1_ f2_ f3_; subst f4_; subst f5_))
     have p280 : 0 ≤ (t276 : Int) := oD
     have q280 : t276 < (x5_2.length : Int) := oD
     obtain ⟨ad280, A280_0, c280_0, e280, hx280_0, hl280_0, hi280_0⟩ := at_L3 (Kd.S_reads' HO_5.out).2.2 t276 p280 q280
     cases e280
     obtain ⟨ce280, hce280, hMe280, hcc280⟩ := Kd.S_get HO_5.out [] t276 p280 (by first | exact q280 | exact oD | (have e_ := (Kd.S_reads' HO_5.out).1; omega))
     obtain ⟨ve280_0, rfl, ge280_0⟩ := hMe280
     have hv280_0 := hcc280 0 _ rfl
     rw [Nat.add_zero, show ((Kd.slice 3 (Kd.int .i64))).sz = 1 from rfl, Nat.mul_one] at hv280_0
     replace hv280_0 := Option.some.inj (hv280_0.symm.trans hx280_0)
     rw [hv280_0] at ge280_0
     have HL280_0 := aM (show Kd.R (Kd.int .i64) 3 _ _ _ _ (rd_L3 x5_2 t276) from ge280_0)
     clear hv280_0 ge280_0
     clear hcc280 hce280
     have HR280_0 := aM hi280_0
     have HC280_0 := aM hl280_0
     clear hi280_0 hl280_0
     replace p280 := eq_true p280
     replace q280 := eq_true q280
     have p284 : 0 ≤ (t278 : Int) := oD
     have q284 : t278 < (x5_2.length : Int) := oD
     obtain ⟨ad284, A284_0, c284_0, e284, hx284_0, hl284_0, hi284_0⟩ := at_L3 (Kd.S_reads' HO_5.out).2.2 t278 p284 q284
     obtain rfl : ad280 = ad284 := (by injection e284)
     obtain ⟨ce284, hce284, hMe284, hcc284⟩ := Kd.S_get HO_5.out [] t278 p284 (by first | exact q284 | exact oD | (have e_ := (Kd.S_reads' HO_5.out).1; omega))
     obtain ⟨ve284_0, rfl, ge284_0⟩ := hMe284
     have hv284_0 := hcc284 0 _ rfl
     rw [Nat.add_zero, show ((Kd.slice 3 (Kd.int .i64))).sz = 1 from rfl, Nat.mul_one] at hv284_0
     replace hv284_0 := Option.some.inj (hv284_0.symm.trans hx284_0)
     rw [hv284_0] at ge284_0
     have HL284_0 := aM (show Kd.R (Kd.int .i64) 3 _ _ _ _ (rd_L3 x5_2 t278) from ge284_0)
     clear hv284_0 ge284_0
     clear hcc284 hce284
     have HR284_0 := aM hi284_0
     have HC284_0 := aM hl284_0
     clear hi284_0 hl284_0
     replace p284 := eq_true p284
     replace q284 := eq_true q284
     refine start_ (n := 11) (S := fun w' => w'.cell? (ad280.add (t276).toNat) = some (.slice A280_0 (rd_L3 x5_2 t276).length c280_0) ∧ w'.cell? (ad280.add (t278).toNat) = some (.slice A284_0 (rd_L3 x5_2 t278).length c284_0)) (ds := [9]) (bA 11 0) (by kernel_rfl) rfl rfl ⟨hx280_0, hx284_0⟩ (fun hHeld => ?_); refine with_tabW spec_codeLengths.tab21 spec_codeLengths.bits21 (fun HT_ HW_ => ?_)
     generalize w53.drew = w54 at HO_3 HO_4 HO_5 HO_7 HB HL280_0 HL284_0 HR280_0 HR284_0 hx280_0 hx284_0 hHeld ⊢
     refine pQ 0 73 HT_ (bA 11 1) ?_
     refine pQ 1 74 HT_ (bA 11 3) ?_
     refine pQ 2 75 HT_ (bA 11 7) ?_
     refine pQ 5 78 HT_ (bA 11 39) ?_
     refine pQ 6 79 HT_ (bA 11 103) ?_
     refine pQ 7 80 HT_ (bA 11 231) ?_
     refine take_ (i := 3) (N := some 76) (v := ?_) (a' := ?_) (bA 11 239) rfl rfl (take_ofW HT_.out HW_.out (by kernel_rfl)) (fun _ _ _ h => h) (Or.inl ⟨by rfl, ?_⟩) hHeld ?_ ?_
     rotate_left
     ·rintro w' ⟨s0, s1⟩
      go_simp
      with_reducible rfl
     rotate_left
     ·refine pZ ?_
      rfl
     refine take_ (i := 8) (N := some 81) (v := ?_) (a' := ?_) (bA 11 495) rfl rfl (take_ofW HT_.out HW_.out (by kernel_rfl)) (fun _ _ _ h => h) (Or.inl ⟨by rfl, ?_⟩) hHeld ?_ ?_
     rotate_left
     ·rintro w' ⟨s0, s1⟩
      go_simp
      with_reducible rfl
     rotate_left
     ·refine pZ ?_
      rfl
     refine one_ (i := 4) (N := some 77) (bA 11 511) rfl rfl (one_of HT_.out (by kernel_rfl)) (by decide) (fun K hK => ?_)
     refine goes_ Try.func52 (by kernel_rfl) rfl #[.slice A280_0 (rd_L3 x5_2 t276).length c280_0] (by rfl) rfl rfl qM ?_
     with_reducible refine (spec_copyInts.calls _ _ (rd_L3 x5_2 t276) t281 _ ?side1 ?side2 A45.out).mono ?_
     (case side1 => repeat (first | exact (by repeat (first | (with_reducible exact HR280_0.out) | (with_reducible refine Kd.C_alloc ?_ _) | (with_reducible refine Kd.C_drewN ?_ _) | (with_reducible refine Kd.C_drew ?_) | exact HR280_0.out)) | (with_reducible refine Kd.C_alloc ?_ _) | (with_reducible refine Kd.C_drewN ?_ _) | (with_reducible refine Kd.C_drew ?_)))
     (case side2 => exact HC280_0.out)
     rintro e w56 ⟨v282, rfl, ho0, hb⟩
     have HS0_ := (hb.cell (World.block_lt_of_cell? _ _ (hHeld.1))).trans (hHeld.1)
     have HS1_ := (hb.cell (World.block_lt_of_cell? _ _ (hHeld.2))).trans (hHeld.2)
     refine ⟨_, rfl, ?_⟩
     replace HO_5 := aM (Kd.S_elder' (by (with_reducible repeat (first | apply Kd.S_alloc | apply Kd.S_drewN | apply Kd.S_drew)); exact HO_5.out) (Kd.R_base ho0) hb)
     replace HO_7 := aM (Kd.R_below (qR HO_7.out) hb)
     have HO283 := aM (Kd.R_lower (Kd.R_new' (Kd.R_new' (Kd.R_new' (Kd.R_new' ho0 (Kd.R_lt (qR HO_3.out))) (Kd.R_lt (qR HO_4.out))) (Kd.R_lt (qR HL280_0.out))) (Kd.R_lt (qR HL284_0.out))) (below_size (qW HB.out)))
     replace HO_3 := aM (Kd.R_elder' (qR HO_3.out) (Kd.R_base ho0) hb)
     replace HO_4 := aM (Kd.R_elder' (qR HO_4.out) (Kd.R_base ho0) hb)
     replace HL280_0 := aM (Kd.R_elder' (qR HL280_0.out) (Kd.R_base ho0) hb)
     replace HL284_0 := aM (Kd.R_elder' (qR HL284_0.out) (Kd.R_base ho0) hb)
     replace HR280_0 := aM (Kd.C_below (by repeat (first | (with_reducible exact HR280_0.out) | (with_reducible refine Kd.C_alloc ?_ _) | (with_reducible refine Kd.C_drewN ?_ _) | (with_reducible refine Kd.C_drew ?_) | exact HR280_0.out)) hb)
     replace HR284_0 := aM (Kd.C_below (by repeat (first | (with_reducible exact HR284_0.out) | (with_reducible refine Kd.C_alloc ?_ _) | (with_reducible refine Kd.C_drewN ?_ _) | (with_reducible refine Kd.C_drew ?_) | exact HR284_0.out)) hb)
     replace HB := bS HB hb
     (try clear hb)
     (try clear hb2)
     (try clear hk)
     (try clear hi)
     (try clear ho0)
     refine hK.out _ _ ⟨HS0_, HS1_⟩ (fun hHeld => ?_)
     clear hK K
     refine norm_ (a' := ?_) ?_ ?_
     rotate_left
     ·show Act.put _ (some 77) _ = _
      refine pZ ?_
      rfl
     refine last_ (i := 9) (N := some 82) (bA 11 1023) rfl rfl (one_of HT_.out (by kernel_rfl)) (by decide) (fun K hK => ?_)
     refine Kd.R_append_rows_step (Kd.int .i64) (w0 := w) w.heap.size (by rfl) (.tmp 77) (.tmp 81) 22 3 (.int .i64 0) 8 rfl Try.underlying22 info3 rfl (by decide) (by omega) v282 t281 (rd_L3 x5_2 t278) _ _ _ (fun k_ => some k_ ≠ (v251 : Value).ownBlock ∧ some k_ ≠ (.slice Ao48 x4_2.length co48 : Value).ownBlock ∧ some k_ ≠ (.slice A280_0 (rd_L3 x5_2 t276).length c280_0 : Value).ownBlock ∧ some k_ ≠ (.slice A284_0 (rd_L3 x5_2 t278).length c284_0 : Value).ownBlock) (fun _ => False) rfl rfl ?aO ?aR (fun _ _ h => h) (fun _ h => h.elim) ?aF ?aB ?aS ?aL ?_
     (case aR => repeat (first | exact (by repeat (first | (with_reducible exact HR284_0.out) | (with_reducible refine Kd.C_alloc ?_ _) | (with_reducible refine Kd.C_drewN ?_ _) | (with_reducible refine Kd.C_drew ?_) | exact HR284_0.out)) | (with_reducible refine Kd.C_alloc ?_ _) | (with_reducible refine Kd.C_drewN ?_ _) | (with_reducible refine Kd.C_drew ?_)))
     (case aB => exact (qW HB.out))
     (case aF => exact (fun k_ hk => ⟨Kd.fresh' (Kd.R_lt (qR HO_3.out)) k_ hk, Kd.fresh' (Kd.R_lt (qR HO_4.out)) k_ hk, Kd.fresh' (Kd.R_lt (qR HL280_0.out)) k_ hk, Kd.fresh' (Kd.R_lt (qR HL284_0.out)) k_ hk⟩))
     (case aO => exact (by refine qR ?_; exact Kd.R_mono HO283.out (fun _ hk => ⟨hk.1.1.1.2, ⟨hk.1.1.2, ⟨hk.1.2, hk.2⟩⟩⟩)))
     (case aS => exact (below_size (qW HB.out)))
     (case aL => have := LMc47.out; omega)
     intro v286 w57 ho hb hg hat
     rw [← Ny285.out] at ho
     replace HO_3 := aM (Kd.R_after (ok := (fun k_ => some k_ ≠ (.slice Ao48 x4_2.length co48 : Value).ownBlock)) (qR HO_3.out) hg hat)
     replace HO_4 := aM (Kd.R_after (ok := (fun k_ => some k_ ≠ (v251 : Value).ownBlock)) (qR HO_4.out) hg hat)
     replace HO_5 := aM (Kd.S_after (ok := (fun k_ => some k_ ≠ (v251 : Value).ownBlock ∧ some k_ ≠ (.slice Ao48 x4_2.length co48 : Value).ownBlock)) (by (with_reducible repeat (first | apply Kd.S_alloc | apply Kd.S_drewN | apply Kd.S_drew)); exact HO_5.out) hg hat)
     replace HO_7 := aM (Kd.R_over' (qR HO_7.out) (Kd.R_typed (qR HO283.out)) (by decide) hg)
     replace HL280_0 := aM (Kd.R_after (ok := (fun k_ => some k_ ≠ (v251 : Value).ownBlock ∧ some k_ ≠ (.slice Ao48 x4_2.length co48 : Value).ownBlock ∧ some k_ ≠ (.slice (some ad280) x5_2.length co55 : Value).ownBlock)) (by refine qR ?_; exact Kd.R_mono HL280_0.out (fun _ hk => ⟨⟨hk.1.1.1, ⟨hk.1.1.2, hk.1.2⟩⟩, hk.2⟩)) hg hat)
     replace HL284_0 := aM (Kd.R_after (ok := (fun k_ => some k_ ≠ (v251 : Value).ownBlock ∧ some k_ ≠ (.slice Ao48 x4_2.length co48 : Value).ownBlock ∧ some k_ ≠ (.slice (some ad280) x5_2.length co55 : Value).ownBlock)) (by refine qR ?_; exact Kd.R_mono HL284_0.out (fun _ hk => ⟨⟨hk.1.1.1, ⟨hk.1.1.2, hk.1.2⟩⟩, hk.2⟩)) hg hat)
     replace HB := aM (hb)
     have HO287 := aM (ho)
     clear HO283
     clear ho hb hg hat
     refine hK.out _ _ ?_
     clear hK K
     refine norm_ (a' := ?_) ?_ ?_
     rotate_left
     ·show Act.put _ (some 82) _ = _
      refine pZ ?_
      rfl
     refine pQ 10 11 HT_ (bA 11 2047) ?_
     refine done_ (done_of HT_.out (by kernel_rfl)) ?_
     try go_wp2
     go_loopg [12] k2 (fun kq v12 w' => ∃ (x3_3 : List Int) (x12_3 : Int), v12 = .int .i64 x12_3 ∧ Aside0 (spec_codeLengths.l2 kq x3_3 x4_2 x5_2 y279 x8_2 t276 t278 y285 x12_3 = some r) ∧ Aside0 (kq ≤ k2) ∧ Aside0 (Kd.R (Kd.int .i64) 3 w' w.heap.size (fun k_ => some k_ ≠ ((.slice Ao48 x4_2.length co48) : Value).ownBlock ∧ some k_ ≠ (v286 : Value).ownBlock) v251 x3_3) ∧ Aside0 (Kd.R (Kd.int .i64) 3 w' w.heap.size (fun k_ => some k_ ≠ (v251 : Value).ownBlock ∧ some k_ ≠ (v286 : Value).ownBlock) (.slice Ao48 x4_2.length co48) x4_2) ∧ Aside0 (Kd.S (Kd.slice 3 (Kd.int .i64)) 22 w' w.heap.size (fun k_ => some k_ ≠ (v251 : Value).ownBlock ∧ some k_ ≠ ((.slice Ao48 x4_2.length co48) : Value).ownBlock ∧ some k_ ≠ (v286 : Value).ownBlock) (.slice (some ad280) x5_2.length co55) x5_2) ∧ Aside0 (Kd.R Kd.bool 4 w' w.heap.size (fun _ => True) (.slice (some ⟨go39, 0, none⟩) x7_2.length co49) y279) ∧ Aside0 (Kd.R (Kd.int .i64) 3 w' w.heap.size (fun k_ => some k_ ≠ (v251 : Value).ownBlock ∧ some k_ ≠ ((.slice Ao48 x4_2.length co48) : Value).ownBlock) v286 y285) ∧ Aside0 (Below w.heap.size w w'))
     case atStart => exact ⟨(x3_2), (0), qE, H', ⟨Nat.le_refl _⟩, ⟨by refine qR ?_; exact HO_3.out⟩, ⟨by refine qR ?_; exact HO_4.out⟩, ⟨by (with_reducible repeat (first | apply Kd.S_alloc | apply Kd.S_drewN | apply Kd.S_drew)); exact Kd.S_mono HO_5.out (fun _ hk => ⟨hk.1.1, ⟨hk.1.2, hk.2⟩⟩)⟩, ⟨by refine qR ?_; exact HO_7.out⟩, ⟨by refine qR ?_; exact Kd.R_mono HO287.out (fun _ hk => ⟨hk.1, hk.2.1⟩)⟩, ⟨by exact qW HB.out⟩⟩
     case round =>
      clear H'
      try clear c2
      try clear c2b0
      try clear c2b1
      try clear c3
      try clear c3b0
      try clear c3b1
      try clear c10
      try clear c10b0
      try clear c11b0
      try clear c12
      try clear c12b0
      try clear c13
      try clear c14
      try clear c20
      try clear c20b0
      try clear c20b1
      try clear c21
      try clear c21b0
      try clear c21b1
      try clear c22
      try clear c22b0
      try clear c22b1
      try clear c23b0
      try clear c24b0
      try clear p25
      try clear q25
      try clear c30
      try clear c30b0
      try clear c30b1
      try clear c31
      try clear c31b0
      try clear c31b1
      try clear c35
      try clear c35b0
      try clear c37b0
      try clear c38b0
      try clear p39
      try clear q39
      try clear c41b0
      try clear c42b0
      try clear p43
      try clear q43
      try clear c44b0
      try clear c46b0
      try clear c47
      try clear hx259_0
      try clear hx25_0
      try clear hx260_0
      try clear hx270_0
      try clear hx271_0
      try clear hx280_0
      try clear hx284_0
      try clear hx39_0
      try clear hx43_0
      try clear p25
      try clear p259
      try clear p260
      try clear p270
      try clear p271
      try clear p280
      try clear p284
      try clear p39
      try clear p43
      try clear q25
      try clear q259
      try clear q260
      try clear q270
      try clear q271
      try clear q280
      try clear q284
      try clear q39
      try clear q43
      obtain ⟨x3_3, x12_3, rfl, HA, HK3, HO_3, HO_4, HO_5, HO_7, HO_11, HB⟩ := hrel
      have hl7_3 := (Kd.R_reads' HO_7.out).1
      rw [hl7_3] at HO_7
      (try simp only [hl7_3])
      (try simp only [hl7_3] at HO_3)
      (try simp only [hl7_3] at HO_4)
      (try simp only [hl7_3] at HO_5)
      (try simp only [hl7_3] at HO_11)
      cases gk with
      | zero => exact absurd HA.out (by simp [spec_codeLengths.l2])
      | succ k3 =>
       have H := HA.out
       clear HA
       simp only [spec_codeLengths.l2] at H
       by_cases c58 : x12_3 < (y285.length : Int)
       ·rw [if_pos c58] at H
        have c58b0 : decide (x12_3 < (y285.length : Int)) = true := decide_eq_true c58
        clear c58
        replace H := iD H
        obtain ⟨c59b0, H⟩ := H
        replace H := iD H
        obtain ⟨c60b0, H⟩ := H
        replace H := iD H
        obtain ⟨c61b0, H⟩ := H
        obtain ⟨y291, hy291⟩ : ∃ y_ : List Int, y_ = (x3_3.set ((rd y285 x12_3) : Int).toNat (wrap64 ((rd x3_3 (rd y285 x12_3)) + 1))) := ⟨_, rfl⟩
        replace H : (spec_codeLengths.l2 k3 y291 x4_2 x5_2 y279 x8_2 t276 t278 y285 (wrap64 (x12_3 + 1))) = some r := rY hy291 H
        have Ny291 := aM hy291
        clear hy291
        have H' := aM H
        clear H
        obtain ⟨Ao63, co63, rfl⟩ := sL HO_11
        try go_wp2
        replace HO_3 := aM (Kd.R_drew HO_3.out)
        replace HO_4 := aM (Kd.R_drew HO_4.out)
        replace HO_5 := aM (Kd.S_drew HO_5.out)
        replace HO_7 := aM (Kd.R_drew HO_7.out)
        replace HO_11 := aM (Kd.R_drew HO_11.out)
        replace HB := aM (below_drew1 HB.out)
        obtain ⟨ad288, e288, hx288_0⟩ := Kd.at_int (Kd.R_reads' HO_11.out).2.2 x12_3 oD oD
        cases e288
        have p288 := eq_true (oD : 0 ≤ (x12_3 : Int))
        have q288 := eq_true (oD : x12_3 < (y285.length : Int))
        obtain ⟨ad289, e289, hx289_0⟩ := Kd.at_int (Kd.R_reads' HO_11.out).2.2 x12_3 oD oD
        obtain rfl : ad288 = ad289 := (by injection e289)
        have p289 := eq_true (oD : 0 ≤ (x12_3 : Int))
        have q289 := eq_true (oD : x12_3 < (y285.length : Int))
        obtain ⟨Ao65, co65, eo65⟩ := Kd.R_slice HO_3.out
        (first | subst eo65 | (injection eo65 with f1_ f2_ f3_; have f4_ := f1_.symm; have f5_ := f3_.symm; clear f1_ f2_ f3_; subst f4_; subst f5_))
        obtain ⟨ad290, e290, hx290_0⟩ := Kd.at_int (Kd.R_reads' HO_3.out).2.2 (rd y285 x12_3) oD oD
        cases e290
        have p290 := eq_true (oD : 0 ≤ ((rd y285 x12_3) : Int))
        have q290 := eq_true (oD : (rd y285 x12_3) < (x3_3.length : Int))
        have p62 : 0 ≤ ((rd y285 x12_3) : Int) := oD
        have q62 : ((rd y285 x12_3) : Int) < ((x3_3.length : Int) : Int) := oD
        obtain ⟨go62, co62, eo62, gb62, gl62, cl62, HG62⟩ := Kd.R_form HO_3.out (by omega)
        (first | cases eo62 | (injection eo62 with ea_ en_ ec_; (first | subst ea_ | (injection ea_ with ea_; subst ea_)); subst ec_; clear en_))
        have GB62 := aM gb62
        have GG62 := aM HG62
        clear gb62 gl62 HG62
        (first | simp only [add_plain] at hx290_0 | skip)
        obtain ⟨hx62_0, hf62_0⟩ := Kd.R_celln 0 HO_3.out ((rd y285 x12_3) : Int) p62 q62
        replace p62 := eq_true p62
        replace q62 := eq_true q62
        have HP66 := Kd.R_putn HO_3.out ((rd y285 x12_3) : Int) (wrap64 ((rd x3_3 (rd y285 x12_3)) + 1))
        rw [← Ny291.out] at HP66
        have HQ66 := aM HP66
        clear HP66
        refine start_ (n := 15) (S := fun w' => w'.cell? (ad288.add (x12_3).toNat) = some (.int .i64 (rd y285 x12_3)) ∧ w'.cell? (ad288.add (x12_3).toNat) = some (.int .i64 (rd y285 x12_3)) ∧ w'.cell? ⟨go62, ((rd y285 x12_3)).toNat, none⟩ = some (.int .i64 (rd x3_3 (rd y285 x12_3)))) (ds := [14]) (bA 15 0) (by kernel_rfl) rfl rfl ⟨hx288_0, hx289_0, hx290_0⟩ (fun hHeld => ?_); refine with_tabW spec_codeLengths.tab25 spec_codeLengths.bits25 (fun HT_ HW_ => ?_)
        generalize wr.drew = w64 at HO_3 HO_4 HO_5 HO_7 HO_11 HB GG62 HQ66 hf62_0 hx288_0 hx289_0 hx290_0 hx62_0 hHeld ⊢
        refine pQ 0 89 HT_ (bA 15 1) ?_
        refine pQ 1 90 HT_ (bA 15 3) ?_
        refine pQ 2 91 HT_ (bA 15 7) ?_
        refine pQ 3 92 HT_ (bA 15 15) ?_
        refine pQ 5 94 HT_ (bA 15 47) ?_
        refine pQ 6 95 HT_ (bA 15 111) ?_
        refine pQ 7 96 HT_ (bA 15 239) ?_
        refine pQ 8 97 HT_ (bA 15 495) ?_
        refine take_ (i := 4) (N := some 93) (v := ?_) (a' := ?_) (bA 15 511) rfl rfl (take_ofW HT_.out HW_.out (by kernel_rfl)) (fun _ _ _ h => h) (Or.inl ⟨by rfl, ?_⟩) hHeld ?_ ?_
        rotate_left
        ·rintro w' ⟨s0, s1, s2⟩
         go_simp
         with_reducible rfl
        rotate_left
        ·refine pZ ?_
         rfl
        refine take_ (i := 9) (N := some 98) (v := ?_) (a' := ?_) (bA 15 1023) rfl rfl (take_ofW HT_.out HW_.out (by kernel_rfl)) (fun _ _ _ h => h) (Or.inl ⟨by rfl, ?_⟩) hHeld ?_ ?_
        rotate_left
        ·rintro w' ⟨s0, s1, s2⟩
         go_simp
         with_reducible rfl
        rotate_left
        ·refine pZ ?_
         rfl
        refine pQ 10 99 HT_ (bA 15 2047) ?_
        refine take_ (i := 11) (N := some 100) (v := ?_) (a' := ?_) (bA 15 4095) rfl rfl (take_ofW HT_.out HW_.out (by kernel_rfl)) (fun _ _ _ h => h) (Or.inl ⟨by rfl, ?_⟩) hHeld ?_ ?_
        rotate_left
        ·rintro w' ⟨s0, s1, s2⟩
         go_simp
         with_reducible rfl
        rotate_left
        ·refine pZ ?_
         rfl
        refine pQ 12 101 HT_ (bA 15 8191) ?_
        refine pQ 13 102 HT_ (bA 15 16383) ?_
        refine last_ (i := 14) (N := none) (bA 15 32767) rfl rfl (one_of HT_.out (by kernel_rfl)) (by decide) (fun K hK => ?_)
        refine skip_ (w1 := ?_) (by rfl) rfl ?_ ?_
        rotate_left
        ·go_simp
         rfl
        refine hK.out _ _ ?_
        clear hK K
        refine done_ (done_of HT_.out (by kernel_rfl)) ?_
        try go_wp2
        (try simp only [← hl7_3])
        go_roundg k3
        case measure => have := HK1.out; have := HK2.out; have := HK3.out; omega
        case rel => exact ⟨(y291), (wrap64 (x12_3 + 1)), qE, H', ⟨by have := HK1.out; have := HK2.out; have := HK3.out; omega⟩, ⟨by (try simp only [hl7_3]); refine qR ?_; exact HQ66.out⟩, ⟨by (try simp only [hl7_3]); refine qR ?_; exact Kd.R_mono (Kd.R_far (p := ⟨go62, ((rd y285 x12_3) : Int).toNat, none⟩) (Kd.R_mono HO_4.out (fun k_ hk => (⟨hk, fun e_ => hk.1 (by rw [e_]; rfl)⟩ : _ ∧ k_ ≠ go62))) (fun _ hk => hk.2) (.int .i64 (wrap64 ((rd x3_3 (rd y285 x12_3)) + 1)))) (fun _ hk => ⟨hk.1.1, hk.1.2⟩)⟩, ⟨by (try simp only [hl7_3]); (with_reducible repeat (first | apply Kd.S_alloc | apply Kd.S_drewN | apply Kd.S_drew)); exact Kd.S_mono (Kd.S_far (p := ⟨go62, ((rd y285 x12_3) : Int).toNat, none⟩) (Kd.S_mono HO_5.out (fun k_ hk => (⟨hk, fun e_ => hk.1 (by rw [e_]; rfl)⟩ : _ ∧ k_ ≠ go62))) (fun _ hk => hk.2) (.int .i64 (wrap64 ((rd x3_3 (rd y285 x12_3)) + 1)))) (fun _ hk => ⟨hk.1.1, ⟨hk.1.2.1, hk.1.2.2⟩⟩)⟩, ⟨by (try simp only [hl7_3]); refine qR ?_; exact Kd.R_mono (Kd.R_far (p := ⟨go62, ((rd y285 x12_3) : Int).toNat, none⟩) (Kd.R_types HO_7.out GG62.out (by decide)) (fun _ hk => hk.2) (.int .i64 (wrap64 ((rd x3_3 (rd y285 x12_3)) + 1)))) (fun _ hk => trivial)⟩, ⟨by (try simp only [hl7_3]); refine qR ?_; exact Kd.R_mono (Kd.R_far (p := ⟨go62, ((rd y285 x12_3) : Int).toNat, none⟩) (Kd.R_mono HO_11.out (fun k_ hk => (⟨hk, fun e_ => hk.1 (by rw [e_]; rfl)⟩ : _ ∧ k_ ≠ go62))) (fun _ hk => hk.2) (.int .i64 (wrap64 ((rd x3_3 (rd y285 x12_3)) + 1)))) (fun _ hk => ⟨hk.1.1, hk.1.2⟩)⟩, ⟨by exact qW HB.out⟩⟩
       rw [if_neg c58] at H
       have c58b0 : decide (x12_3 < (y285.length : Int)) = false := decide_eq_false c58
       clear c58
       replace H := iD H
       obtain ⟨c67b0, H⟩ := H
       replace H := iD H
       obtain ⟨c68b0, H⟩ := H
       replace H := iD H
       obtain ⟨c69b0, H⟩ := H
       replace H := iD H
       obtain ⟨c70b0, H⟩ := H
       replace H := iS H
       obtain ⟨c71, H⟩ := H
       have LMc71 := aM c71
       clear c71
       obtain ⟨y294, hy294⟩ : ∃ y_ : List Int, y_ = (x4_2 ++ [wrap64 ((rd x4_2 t276) + (rd x4_2 t278))]) := ⟨_, rfl⟩
       replace H : (if x5_2.length < 5864062014805 then (if y279.length < 140737488355328 then (spec_codeLengths.l1 k3 x3_3 y294 (x5_2 ++ [y285]) (y279 ++ [false]) (wrap64 (x8_2 - 1))) else (none)) else (none)) = some r := rY hy294 H
       have Ny294 := aM hy294
       clear hy294
       replace H := iS H
       obtain ⟨c72, H⟩ := H
       have LMc72 := aM c72
       clear c72
       obtain ⟨y297, hy297⟩ : ∃ y_ : List (List Int), y_ = (x5_2 ++ [y285]) := ⟨_, rfl⟩
       replace H : (if y279.length < 140737488355328 then (spec_codeLengths.l1 k3 x3_3 y294 y297 (y279 ++ [false]) (wrap64 (x8_2 - 1))) else (none)) = some r := rY hy297 H
       have Ny297 := aM hy297
       clear hy297
       replace H := iS H
       obtain ⟨c73, H⟩ := H
       have LMc73 := aM c73
       clear c73
       obtain ⟨y300, hy300⟩ : ∃ y_ : List Bool, y_ = (y279 ++ [false]) := ⟨_, rfl⟩
       replace H : (spec_codeLengths.l1 k3 x3_3 y294 y297 y300 (wrap64 (x8_2 - 1))) = some r := rY hy300 H
       have Ny300 := aM hy300
       clear hy300
       have H' := aM H
       clear H
       obtain ⟨Ao74, co74, rfl⟩ := sL HO_11
       try go_wp2
       replace HO_3 := aM (Kd.R_drew HO_3.out)
       replace HO_4 := aM (Kd.R_drew HO_4.out)
       replace HO_5 := aM (Kd.S_drew HO_5.out)
       replace HO_7 := aM (Kd.R_drew HO_7.out)
       replace HO_11 := aM (Kd.R_drew HO_11.out)
       replace HB := aM (below_drew1 HB.out)
       obtain ⟨ad292, e292, hx292_0⟩ := Kd.at_int (Kd.R_reads' HO_4.out).2.2 t276 oD oD
       cases e292
       have p292 := eq_true (oD : 0 ≤ (t276 : Int))
       have q292 := eq_true (oD : t276 < (x4_2.length : Int))
       obtain ⟨ad293, e293, hx293_0⟩ := Kd.at_int (Kd.R_reads' HO_4.out).2.2 t278 oD oD
       obtain rfl : ad292 = ad293 := (by injection e293)
       have p293 := eq_true (oD : 0 ≤ (t278 : Int))
       have q293 := eq_true (oD : t278 < (x4_2.length : Int))
       refine start_ (n := 13) (S := fun w' => w'.cell? (ad292.add (t276).toNat) = some (.int .i64 (rd x4_2 t276)) ∧ w'.cell? (ad292.add (t278).toNat) = some (.int .i64 (rd x4_2 t278))) (ds := [10, 11]) (bA 13 0) (by kernel_rfl) rfl rfl ⟨hx292_0, hx293_0⟩ (fun hHeld => ?_); refine with_tabW spec_codeLengths.tab26 spec_codeLengths.bits26 (fun HT_ HW_ => ?_)
       generalize wr.drew = w75 at HO_3 HO_4 HO_5 HO_7 HO_11 HB hx292_0 hx293_0 hHeld ⊢
       refine pQ 0 103 HT_ (bA 13 1) ?_
       refine pQ 1 104 HT_ (bA 13 3) ?_
       refine pQ 2 105 HT_ (bA 13 7) ?_
       refine pQ 3 106 HT_ (bA 13 15) ?_
       refine pQ 5 108 HT_ (bA 13 47) ?_
       refine pQ 6 109 HT_ (bA 13 111) ?_
       refine pQ 7 110 HT_ (bA 13 239) ?_
       refine take_ (i := 4) (N := some 107) (v := ?_) (a' := ?_) (bA 13 255) rfl rfl (take_ofW HT_.out HW_.out (by kernel_rfl)) (fun _ _ _ h => h) (Or.inl ⟨by rfl, ?_⟩) hHeld ?_ ?_
       rotate_left
       ·rintro w' ⟨s0, s1⟩
        go_simp
        with_reducible rfl
       rotate_left
       ·refine pZ ?_
        rfl
       refine take_ (i := 8) (N := some 111) (v := ?_) (a' := ?_) (bA 13 511) rfl rfl (take_ofW HT_.out HW_.out (by kernel_rfl)) (fun _ _ _ h => h) (Or.inl ⟨by rfl, ?_⟩) hHeld ?_ ?_
       rotate_left
       ·rintro w' ⟨s0, s1⟩
        go_simp
        with_reducible rfl
       rotate_left
       ·refine pZ ?_
        rfl
       refine pQ 9 112 HT_ (bA 13 1023) ?_
       refine last_ (i := 10) (N := some 113) (bA 13 2047) rfl rfl (one_of HT_.out (by kernel_rfl)) (by decide) (fun K hK => ?_)
       refine value_ (w1 := ?_) (v := ?_) (by rfl) rfl ?_ ?_
       rotate_left 2
       ·go_simp
        constructor
        rotate_left
        ·rfl
        rfl
       refine hK.out _ _ ?_
       clear hK K
       refine norm_ (a' := ?_) ?_ ?_
       rotate_left
       ·show Act.put _ (some 113) _ = _
        refine pZ ?_
        rfl
       refine last_ (i := 11) (N := some 114) (bA 13 4095) rfl rfl (one_of HT_.out (by kernel_rfl)) (by decide) (fun K hK => ?_)
       refine Kd.R_append_step (Kd.int .i64) (w0 := w) w.heap.size (by rfl) (.tmp 103) (.tmp 113) 22 3 (.int .i64 0) 8 rfl Try.underlying22 info3 rfl (by decide) (by omega) (.slice (some ad292) x4_2.length co48) x4_2 (wrap64 ((rd x4_2 t276) + (rd x4_2 t278))) [.int .i64 (wrap64 ((rd x4_2 t276) + (rd x4_2 t278)))] (fun k_ => some k_ ≠ (v251 : Value).ownBlock ∧ some k_ ≠ (.slice Ao74 y285.length co74 : Value).ownBlock) (fun _ => False) rfl rfl ?aP (fun _ hk => hk.elim) ?aF ?aO ?aB ?aS ?aL ?_
       (case aP => exact rfl)
       (case aB => exact (qW HB.out))
       (case aF => exact (fun k_ hk => ⟨Kd.fresh' (Kd.R_lt (qR HO_3.out)) k_ hk, Kd.fresh' (Kd.R_lt (qR HO_11.out)) k_ hk⟩))
       (case aO => exact (qR HO_4.out))
       (case aS => exact (below_size (qW HB.out)))
       (case aL => have := LMc71.out; omega)
       intro v295 w76 ho hb hg hat
       rw [← Ny294.out] at ho
       replace HO_3 := aM (Kd.R_after (ok := (fun k_ => some k_ ≠ (.slice Ao74 y285.length co74 : Value).ownBlock)) (by refine qR ?_; exact Kd.R_mono HO_3.out (fun _ hk => ⟨hk.2, hk.1⟩)) hg hat)
       replace HO_5 := aM (Kd.S_after (ok := (fun k_ => some k_ ≠ (v251 : Value).ownBlock ∧ some k_ ≠ (.slice Ao74 y285.length co74 : Value).ownBlock)) (by (with_reducible repeat (first | apply Kd.S_alloc | apply Kd.S_drewN | apply Kd.S_drew)); exact Kd.S_mono HO_5.out (fun _ hk => ⟨⟨hk.1, hk.2.2⟩, hk.2.1⟩)) hg hat)
       replace HO_7 := aM (Kd.R_over' (qR HO_7.out) (Kd.R_typed (qR HO_4.out)) (by decide) hg)
       replace HO_11 := aM (Kd.R_after (ok := (fun k_ => some k_ ≠ (v251 : Value).ownBlock)) (qR HO_11.out) hg hat)
       replace HB := aM (hb)
       have HO296 := aM (ho)
       clear HO_4
       clear ho hb hg hat
       refine hK.out _ _ ?_
       clear hK K
       refine norm_ (a' := ?_) ?_ ?_
       rotate_left
       ·show Act.put _ (some 114) _ = _
        refine pZ ?_
        rfl
       refine pQ 12 4 HT_ (bA 13 8191) ?_
       refine done_ (done_of HT_.out (by kernel_rfl)) ?_
       try go_wp2_with (first | ((with_reducible refine gate_builtin (b := .append) (xs := #[.tmp 115, .tmp 117]) rfl ?_); at_builtin; refine Kd.S_append (Kd.slice 3 (Kd.int .i64)) (w0 := w) w.heap.size rfl (.tmp 115) (.tmp 117) 63 22 (.slice none 0 0) 24 rfl Try.underlying63 info22 rfl (by decide) (by omega) (.slice (some ad280) x5_2.length co55) x5_2 y285 [.slice Ao74 y285.length co74] (fun k_ => some k_ ≠ (v251 : Value).ownBlock ∧ some k_ ≠ (v295 : Value).ownBlock) (fun k_ => some k_ = (.slice Ao74 y285.length co74 : Value).ownBlock) rfl rfl ?aP (fun k_ hk_ => ((Kd.R_mono (ok' := fun k_ => ((fun k_ => some k_ ≠ (v251 : Value).ownBlock ∧ some k_ ≠ (v295 : Value).ownBlock)) k_ ∧ some k_ ≠ (.slice (some ad280) x5_2.length co55 : Value).ownBlock) (Kd.R_apart' (HO_11.out) (Kd.S_typed HO_5.out) (by decide)) (fun k_ hk => ⟨⟨hk.1.1, hk.1.2⟩, hk.2⟩))).1 k_ hk_.symm) ?aF ?aO ?aB ?aS ?aL ?_; (case aP => exact Kd.M_row (Kd.R_mono (Kd.R_tight rfl (Kd.R_mono (ok' := fun k_ => ((fun k_ => some k_ ≠ (v251 : Value).ownBlock ∧ some k_ ≠ (v295 : Value).ownBlock)) k_ ∧ some k_ ≠ (.slice (some ad280) x5_2.length co55 : Value).ownBlock) (Kd.R_apart' (HO_11.out) (Kd.S_typed HO_5.out) (by decide)) (fun k_ hk => ⟨⟨hk.1.1, hk.1.2⟩, hk.2⟩))) (fun _ h_ => h_))); (case aB => exact (qW HB.out)); (case aF => exact (fun k_ hk => ⟨Kd.fresh' (Kd.R_lt (qR HO_3.out)) k_ hk, Kd.fresh' (Kd.R_lt (qR HO296.out)) k_ hk⟩)); (case aO => exact (by (with_reducible repeat (first | apply Kd.S_alloc | apply Kd.S_drewN | apply Kd.S_drew)); exact Kd.S_mono HO_5.out (fun k_ hk => ⟨⟨hk.1.1, hk.2⟩, fun e_ => hk.1.2 e_⟩))); (case aS => exact (below_size (qW HB.out))); (case aL => have := LMc72.out; omega); intro v298 w77 ho hb hg hat; rw [← Ny297.out] at ho; replace HO_3 := aM (Kd.R_over' (qR HO_3.out) (Kd.S_typed (by (with_reducible repeat (first | apply Kd.S_alloc | apply Kd.S_drewN | apply Kd.S_drew)); exact HO_5.out)) (by decide) hg); replace HO_7 := aM (Kd.R_over' (qR HO_7.out) (Kd.S_typed (by (with_reducible repeat (first | apply Kd.S_alloc | apply Kd.S_drewN | apply Kd.S_drew)); exact HO_5.out)) (by decide) hg); replace HO296 := aM (Kd.R_over' (qR HO296.out) (Kd.S_typed (by (with_reducible repeat (first | apply Kd.S_alloc | apply Kd.S_drewN | apply Kd.S_drew)); exact HO_5.out)) (by decide) hg); replace HB := aM (hb); have HO299 := aM (ho); clear HO_5 HO_11; clear ho hb hg hat) | ((with_reducible refine gate_builtin (b := .append) (xs := #[.tmp 119, .tmp 120]) rfl ?_); at_builtin; refine Kd.R_append Kd.bool (w0 := w) w.heap.size rfl (.tmp 119) (.tmp 120) 64 4 (.bool false) 1 rfl Try.underlying64 info4 rfl (by decide) (by omega) (.slice (some ⟨go39, 0, none⟩) y279.length co49) y279 false [.bool false] (fun _ => True) (fun _ => False) rfl rfl ?aP (fun _ hk => hk.elim) ?aF ?aO ?aB ?aS ?aL ?_; (case aP => exact rfl); (case aB => exact (qW HB.out)); (case aF => exact (fun _ _ => trivial)); (case aO => exact (qR HO_7.out)); (case aS => exact (below_size (qW HB.out))); (case aL => have := LMc73.out; omega); intro v301 w78 ho hb hg hat; rw [← Ny300.out] at ho; replace HO_3 := aM (Kd.R_over' (qR HO_3.out) (Kd.R_typed (qR HO_7.out)) (by decide) hg); replace HO296 := aM (Kd.R_over' (qR HO296.out) (Kd.R_typed (qR HO_7.out)) (by decide) hg); replace HO299 := aM (Kd.S_over' (by (with_reducible repeat (first | apply Kd.S_alloc | apply Kd.S_drewN | apply Kd.S_drew)); exact HO299.out) (Kd.R_typed (qR HO_7.out)) (by decide) hg); replace HB := aM (hb); have HO302 := aM (ho); clear HO_7; clear ho hb hg hat))
       (try simp only [← hl7_3])
       go_roundg k3
       case measure => have := HK1.out; have := HK2.out; have := HK3.out; omega
       case rel => exact ⟨(x3_3), (y294), (y297), (y300), (wrap64 (x8_2 - 1)), qE, H', ⟨by have := HK1.out; have := HK2.out; have := HK3.out; omega⟩, ⟨by (try simp only [hl7_3]); refine qR ?_; exact Kd.R_mono HO_3.out (fun _ hk => hk.2)⟩, ⟨by (try simp only [hl7_3]); refine qR ?_; exact Kd.R_mono HO296.out (fun _ hk => hk.1)⟩, ⟨by (try simp only [hl7_3]); (with_reducible repeat (first | apply Kd.S_alloc | apply Kd.S_drewN | apply Kd.S_drew)); exact HO299.out⟩, ⟨by (try simp only [hl7_3]); refine qR ?_; exact HO302.out⟩, ⟨by exact qW HB.out⟩⟩
def spec_CodeLengths.f (k : Nat) (l0 : List Int) : Option (List Int) := (spec_validCounts.f k l0).bind fun t303 => (if t303 = true then ((spec_codeLengths.f k l0).bind fun t304 => (some t304)) else (some ([] : List Int)))
theorem spec_CodeLengths.mono : ∀ a0 k, LeO (spec_CodeLengths.f k a0) (spec_CodeLengths.f (k + 1) a0) := by
 intro a0 k
 unfold spec_CodeLengths.f
 repeat' first | (with_reducible first | exact spec_codeLengths.mono _ _ | exact spec_validCounts.mono _ _ | exact lR | exact lN | refine lI ?_ ?_ | refine lB ?_ fun _ => ?_) | exact spec_codeLengths.mono _ _ | exact spec_validCounts.mono _ _ | exact lN | refine lI ?_ ?_ | refine lB ?_ fun _ => ?_
set_option maxHeartbeats 8000000 in
set_option maxRecDepth 100000 in
theorem spec_CodeLengths.calls (k : Nat) (A0 : Option Addr) (c0 : Nat) (l0 : List Int) (r : List Int) (w : World) (hr0 : Kd.C (Kd.int .i64) w A0 l0.length l0) (hc0 : l0.length ≤ c0) (h : spec_CodeLengths.f k l0 = some r) :
  Calls Try.prog 24 #[.slice A0 l0.length c0] w fun e w' => ∃ v0_ : Value, e = .returned (v0_) ∧ Kd.R (Kd.int .i64) 3 w' w.heap.size (fun _ => True) v0_ r ∧ Below w.heap.size w w' := by
 have HR0 := aM hr0
 have HC0 := aM hc0
 clear hr0 hc0
 have HB := aM (Below.refl w.heap.size w)
 unfold spec_CodeLengths.f at h
 have H := h
 clear h
 replace H := Option.bind_eq_some_iff.mp H
 obtain ⟨t303, A20, H⟩ := H
 replace H : (if t303 = true then ((spec_codeLengths.f k l0).bind fun t304 => (some t304)) else (some ([] : List Int))) = some r := H
 have A2 := aM A20
 clear A20
 by_cases c3 : t303 = true
 rotate_left
 ·replace c3 := Bool.eq_false_iff.mpr c3
  subst c3
  have H1 : (some ([] : List Int)) = some r := by rw [if_neg (show ¬ (false = true) by decide)] at H; exact H
  clear H
  have H := H1
  clear H1
  obtain rfl := Option.some.inj H
  go_enter Try.func24, Try.ntmps24
  go_wp2_with (first | ((with_reducible refine gate_callee (f := 41) rfl ?_); refine gL (some 4) Try.func41 #[.slice A0 l0.length c0] ?_; (with_reducible refine (spec_validCounts.calls k _ _ l0 false _ ?side1 ?side2 A2.out).mono ?_); (case side1 => exact qC HR0.out); (case side2 => exact HC0.out); rintro e w' ⟨rfl, ⟨nd, rfl⟩⟩; refine ⟨_, rfl, ?_⟩))
  go_ret
  exact ⟨_, qX, qN, by exact qW HB.out⟩
 subst c3
 have H1 : ((spec_codeLengths.f k l0).bind fun t304 => (some t304)) = some r := by rw [if_pos rfl] at H; exact H
 clear H
 have H := H1
 clear H1
 replace H := Option.bind_eq_some_iff.mp H
 obtain ⟨t304, A40, H⟩ := H
 replace H : (some t304) = some r := H
 have A4 := aM A40
 clear A40
 obtain rfl := Option.some.inj H
 go_enter Try.func24, Try.ntmps24
 go_wp2_with (first | ((with_reducible refine gate_callee (f := 41) rfl ?_); refine gL (some 4) Try.func41 #[.slice A0 l0.length c0] ?_; (with_reducible refine (spec_validCounts.calls k _ _ l0 true _ ?side1 ?side2 A2.out).mono ?_); (case side1 => exact qC HR0.out); (case side2 => exact HC0.out); rintro e w' ⟨rfl, ⟨nd, rfl⟩⟩; refine ⟨_, rfl, ?_⟩) | ((with_reducible refine gate_callee (f := 42) rfl ?_); refine gL (some 7) Try.func42 #[.slice A0 l0.length c0] ?_; (with_reducible refine (spec_codeLengths.calls k _ _ l0 t304 _ ?side1 ?side2 A4.out).mono ?_); (case side1 => exact qC HR0.out); (case side2 => exact HC0.out); rintro e w5 ⟨v305, rfl, ho0, hb⟩; refine ⟨_, rfl, ?_⟩; have HO306 := oR ho0 HB; replace HB := bS HB hb; clear hb ho0))
 go_ret
 exact ⟨_, qX, by refine qR ?_; exact HO306.out, by exact qW HB.out⟩
def spec_anyCounts.l0 : Nat → List Int → Int → List Int → Int → Option (List Int × Int)
 | 0, _, _, _, _ => none
 | k + 1, x3, x4, x1000, x1001 => if x4 > 0 then ((spec_reader_one.f k x1000 x1001 (([0, 1, 2, 3, 5, 8, 13, 40, 9999] : List Int))).bind fun bt236 => (if x3.length < 17592186044416 then (spec_anyCounts.l0 k (x3 ++ [bt236.1]) (wrap64 (x4 - 1)) x1000 bt236.2) else (none))) else ((spec_reader_spoil.f k x1000 x1001 x3 10000).bind fun bt241 => (some (bt241.1, bt241.2)))
def spec_anyCounts.f (k : Nat) (s0_0 : List Int) (s0_1 : Int) : Option (List Int × Int) := (spec_reader_one.f k s0_0 s0_1 (([4, 6, 3, 2, 1, 16, 17, 0] : List Int))).bind fun bt231 => (spec_anyCounts.l0 k (([] : List Int)) bt231.1 s0_0 bt231.2)
theorem spec_anyCounts.mono_l : ∀ k, (∀ y0 y1 y2 y3, LeO (spec_anyCounts.l0 k y0 y1 y2 y3) (spec_anyCounts.l0 (k + 1) y0 y1 y2 y3))
 | 0 => fun _ _ _ _ r h => by simp [spec_anyCounts.l0] at h
 | k + 1 => by
  have ih0 := spec_anyCounts.mono_l k
  ·intro y0 y1 y2 y3
   unfold spec_anyCounts.l0
   repeat' first | (with_reducible first | exact ih0 _ _ _ _ | exact spec_reader_one.mono _ _ _ _ | exact spec_reader_spoil.mono _ _ _ _ _ | exact lR | exact lN | refine lI ?_ ?_ | refine lB ?_ fun _ => ?_) | exact ih0 _ _ _ _ | exact spec_reader_one.mono _ _ _ _ | exact spec_reader_spoil.mono _ _ _ _ _ | exact lN | refine lI ?_ ?_ | refine lB ?_ fun _ => ?_
theorem spec_anyCounts.mono : ∀ a0 a1 k, LeO (spec_anyCounts.f k a0 a1) (spec_anyCounts.f (k + 1) a0 a1) := by
 intro a0 a1 k
 have ih0 := spec_anyCounts.mono_l k
 unfold spec_anyCounts.f
 repeat' first | (with_reducible first | exact ih0 _ _ _ _ | exact spec_reader_one.mono _ _ _ _ | exact spec_reader_spoil.mono _ _ _ _ _ | exact lR | exact lN | refine lI ?_ ?_ | refine lB ?_ fun _ => ?_) | exact ih0 _ _ _ _ | exact spec_reader_one.mono _ _ _ _ | exact spec_reader_spoil.mono _ _ _ _ _ | exact lN | refine lI ?_ ?_ | refine lB ?_ fun _ => ?_
set_option maxHeartbeats 8000000 in
set_option maxRecDepth 100000 in
theorem spec_anyCounts.calls (k : Nat) (g : Nat) (s0_0 : List Int) (s0_1 : Int) (r1 : List Int) (r2 : Int) (w0 w : World) (hI : IsS60 w0 w g s0_0 s0_1) (hB : Below w0.heap.size w0 w) (h : spec_anyCounts.f k s0_0 s0_1 = some (r1, r2)) :
  Calls Try.prog 46 #[.pointer (some ⟨g, 0, none⟩)] w fun e w' => ∃ v0_ : Value, e = .returned (v0_) ∧ Kd.Q (Kd.int .i64) 3 w' w.heap.size (fun _ => True) v0_ r1 ∧ IsS60 w0 w' g s0_0 r2 ∧ Below w0.heap.size w0 w' ∧ KeepBut w w' g none := by
 have HI0 := aM hI
 have HK := aM (KeepBut.refl w g none)
 have HL := aM hB.size
 clear hI
 have HW0 := aM hB.size
 have HB := aM hB
 clear hB
 unfold spec_anyCounts.f at h
 have H := h
 clear h
 obtain ⟨y225, hy225⟩ : ∃ y_ : List Int, y_ = (([] : List Int)) := ⟨_, rfl⟩
 replace H : ((spec_reader_one.f k s0_0 s0_1 (([4, 6, 3, 2, 1, 16, 17, 0] : List Int))).bind fun bt231 => (spec_anyCounts.l0 k y225 bt231.1 s0_0 bt231.2)) = some (r1, r2) := rY hy225 H
 have Ny225 := aM hy225
 clear hy225
 obtain ⟨y228, hy228⟩ : ∃ y_ : List Int, y_ = (([4, 6, 3, 2, 1, 16, 17, 0] : List Int)) := ⟨_, rfl⟩
 replace H : ((spec_reader_one.f k s0_0 s0_1 y228).bind fun bt231 => (spec_anyCounts.l0 k y225 bt231.1 s0_0 bt231.2)) = some (r1, r2) := rY hy228 H
 have Ny228 := aM hy228
 clear hy228
 replace H := Option.bind_eq_some_iff.mp H
 obtain ⟨⟨t231, t232⟩, A20, H⟩ := H
 replace H : (spec_anyCounts.l0 k y225 t231 s0_0 t232) = some (r1, r2) := H
 have A2 := aM A20
 clear A20
 have H' := aM H
 clear H
 go_enter Try.func46, Try.ntmps46
 go_wp2_with (first | ((with_reducible refine gate_dst (N := 5) rfl ?_); refine iL ([] : List Int) [] ?_; intro v226 w3 ho4 hb hg_ hnew_; clear hg_ hnew_; (first | rw [← Ny225.out] at ho4 | (simp only [Int.reduceToNat] at ho4; rw [← Ny225.out] at ho4)); have HO227 := lK ho4 HK; replace HK := aM (KeepBut.trans (kB HK.out) (KeepBut.of_below hb g none) (.inl rfl)); replace HB := aM (below_step (wS60 HB.out) hb); replace HI0 := aM (IsS60.below (iS60 HI0.out) hb); clear hb ho4) | ((with_reducible refine gate_dst (N := 7) rfl ?_); refine iL ([4, 6, 3, 2, 1, 16, 17, 0] : List Int) [.int .i64 4, .int .i64 6, .int .i64 3, .int .i64 2, .int .i64 1, .int .i64 16, .int .i64 17, .int .i64 0] ?_; intro v229 w5 ho6 hb hg_ hnew_; clear hg_ hnew_; (first | rw [← Ny228.out] at ho6 | (simp only [Int.reduceToNat] at ho6; rw [← Ny228.out] at ho6)); have HO230 := aM (Kd.R_lower (Kd.R_new' ho6 (Kd.R_lt (qR HO227.out))) (keep_size (w := w) (g := g) (row := none) (kB HK.out))); replace HO227 := aM (Kd.R_elder' (qR HO227.out) (Kd.R_base ho6) hb); replace HK := aM (KeepBut.trans (kB HK.out) (KeepBut.of_below hb g none) (.inl rfl)); replace HB := aM (below_step (wS60 HB.out) hb); replace HI0 := aM (IsS60.below (iS60 HI0.out) hb); clear hb ho6; obtain ⟨Ao7, co7, rfl⟩ := sL HO230) | ((with_reducible refine gate_callee (f := 35) rfl ?_); refine gL (some 8) Try.func35 #[.pointer (some ⟨g, 0, none⟩), .slice Ao7 y228.length co7] ?_; (with_reducible refine (spec_reader_one.calls k g s0_0 s0_1 _ _ y228 t231 t232 w0 _ ?side1 ?side2 ?side3 ?side4 ?side5 A2.out).mono ?_); (case side1 => exact iS60 HI0.out); (case side2 => exact wS60 HB.out); (case side3 => exact qC (Kd.R_reads' HO230.out).2.2); (case side4 => exact (Kd.R_reads' HO230.out).2.1); (case side5 => exact far_slice (IsS60.own_ne HI0.out HO230.out (by decide))); rintro e w8 ⟨rfl, hi, hb, hk⟩; refine ⟨_, rfl, ?_⟩; replace HO227 := aM (Kd.R_mono (Kd.R_keep (IsS60.apart (show IsS60 w0 _ g s0_0 s0_1 from iS60 HI0.out) (qR HO227.out) (by decide)) hk (fun _ h => h.2)) (fun _ h => h.1)); replace HO230 := aM (Kd.R_mono (Kd.R_keep (IsS60.apart (show IsS60 w0 _ g s0_0 s0_1 from iS60 HI0.out) (qR HO230.out) (by decide)) hk (fun _ h => h.2)) (fun _ h => h.1)); replace HK := aM (KeepBut.trans (kB HK.out) hk (.inl rfl)); replace HB := aM (hb); replace HI0 := aM (hi); clear hb hk hi))
 go_loopg [3, 4] k (fun kq v3 v4 w' => ∃ (x3_1 : List Int) (x4_1 : Int) (x1001_1 : Int), v4 = .int .i64 x4_1 ∧ Aside0 (spec_anyCounts.l0 kq x3_1 x4_1 s0_0 x1001_1 = some (r1, r2)) ∧ Aside0 (kq ≤ k) ∧ Aside0 (Kd.R (Kd.int .i64) 3 w' w.heap.size (fun _ => True) v3 x3_1) ∧ Aside0 (IsS60 w0 w' g s0_0 x1001_1) ∧ Aside0 (KeepBut w w' g none) ∧ Aside0 (Below w0.heap.size w0 w'))
 case atStart => exact ⟨(y225), (t231), (t232), qE, H', ⟨Nat.le_refl _⟩, ⟨by refine qR ?_; exact Kd.R_mono HO227.out (fun _ hk => trivial)⟩, ⟨iS60 HI0.out⟩, ⟨kB HK.out⟩, ⟨wS60 HB.out⟩⟩
 case round =>
  clear H'
  obtain ⟨x3_1, x4_1, x1001_1, rfl, HA, HK1, HO_3, HI0, HK, HB⟩ := hrel
  cases gk with
  | zero => exact absurd HA.out (by simp [spec_anyCounts.l0])
  | succ k1 =>
   have H := HA.out
   clear HA
   simp only [spec_anyCounts.l0] at H
   by_cases c9 : x4_1 > 0
   rotate_left
   ·rw [if_neg c9] at H
    have c9b0 : decide (0 < x4_1) = false := decide_eq_false c9
    clear c9
    replace H := Option.bind_eq_some_iff.mp H
    obtain ⟨⟨t241, t244⟩, A170, H⟩ := H
    replace H : (some (t241, t244)) = some (r1, r2) := H
    have A17 := aM A170
    clear A170
    simp only [Option.some.injEq, Prod.mk.injEq] at H
    obtain ⟨rfl, rfl⟩ := H
    obtain ⟨Ao18, co18, rfl⟩ := sL HO_3
    go_wp2_with (first | ((with_reducible refine gate_callee (f := 37) rfl ?_); refine gL (some 21) Try.func37 #[.pointer (some ⟨g, 0, none⟩), .slice Ao18 x3_1.length co18, .int .i64 10000] ?_; (with_reducible refine (spec_reader_spoil.calls k1 g s0_0 x1001_1 _ _ x3_1 10000 t241 t244 w0 _ ?side1 ?side2 ?side3 ?side4 ?side5 A17.out).mono ?_); (case side1 => exact iS60 HI0.out); (case side2 => exact wS60 HB.out); (case side3 => exact qC (Kd.R_reads' HO_3.out).2.2); (case side4 => exact (Kd.R_reads' HO_3.out).2.1); (case side5 => exact far_slice (IsS60.own_ne HI0.out HO_3.out (by decide))); rintro e w19 ⟨v242, rfl, ho0, hi, hb, hk⟩; refine ⟨_, rfl, ?_⟩; have HO243 := aM (Kd.Q_lower (Kd.Q_new' ho0 (Kd.R_lt (qR HO_3.out))) (keep_size (w := w) (g := g) (row := none) (kB HK.out))); replace HO_3 := aM (Kd.R_mono (Kd.R_told (Kd.R_oldK (IsS60.apart (show IsS60 w0 _ g s0_0 x1001_1 from iS60 HI0.out) (qR HO_3.out) (by decide)) hk) (Kd.Q_base ho0)) (fun _ h_ => h_.1)); replace HK := aM (KeepBut.trans (kB HK.out) hk (.inl rfl)); replace HB := aM (hb); replace HI0 := aM (hi); clear hb hk hi ho0))
    go_ret
    exact ⟨_, qX, by (with_reducible repeat (first | apply Kd.Q_alloc | apply Kd.Q_drewN | apply Kd.Q_drew)); exact Kd.Q_mono HO243.out (fun _ hk => trivial), iS60 HI0.out, wS60 HB.out, kB HK.out⟩
   rw [if_pos c9] at H
   have c9b0 : decide (0 < x4_1) = true := decide_eq_true c9
   clear c9
   obtain ⟨y233, hy233⟩ : ∃ y_ : List Int, y_ = (([0, 1, 2, 3, 5, 8, 13, 40, 9999] : List Int)) := ⟨_, rfl⟩
   replace H : ((spec_reader_one.f k1 s0_0 x1001_1 y233).bind fun bt236 => (if x3_1.length < 17592186044416 then (spec_anyCounts.l0 k1 (x3_1 ++ [bt236.1]) (wrap64 (x4_1 - 1)) s0_0 bt236.2) else (none))) = some (r1, r2) := rY hy233 H
   have Ny233 := aM hy233
   clear hy233
   replace H := Option.bind_eq_some_iff.mp H
   obtain ⟨⟨t236, t237⟩, A100, H⟩ := H
   replace H : (if x3_1.length < 17592186044416 then (spec_anyCounts.l0 k1 (x3_1 ++ [t236]) (wrap64 (x4_1 - 1)) s0_0 t237) else (none)) = some (r1, r2) := H
   have A10 := aM A100
   clear A100
   replace H := iS H
   obtain ⟨c11, H⟩ := H
   have LMc11 := aM c11
   clear c11
   obtain ⟨y238, hy238⟩ : ∃ y_ : List Int, y_ = (x3_1 ++ [t236]) := ⟨_, rfl⟩
   replace H : (spec_anyCounts.l0 k1 y238 (wrap64 (x4_1 - 1)) s0_0 t237) = some (r1, r2) := rY hy238 H
   have Ny238 := aM hy238
   clear hy238
   have H' := aM H
   clear H
   go_wp2_with (first | ((with_reducible refine gate_dst (N := 15) rfl ?_); refine iL ([0, 1, 2, 3, 5, 8, 13, 40, 9999] : List Int) [.int .i64 0, .int .i64 1, .int .i64 2, .int .i64 3, .int .i64 5, .int .i64 8, .int .i64 13, .int .i64 40, .int .i64 9999] ?_; intro v234 w12 ho13 hb hg_ hnew_; clear hg_ hnew_; (first | rw [← Ny233.out] at ho13 | (simp only [Int.reduceToNat] at ho13; rw [← Ny233.out] at ho13)); have HO235 := aM (Kd.R_lower (Kd.R_new' ho13 (Kd.R_lt (qR HO_3.out))) (keep_size (w := w) (g := g) (row := none) (kB HK.out))); replace HO_3 := aM (Kd.R_elder' (qR HO_3.out) (Kd.R_base ho13) hb); replace HK := aM (KeepBut.trans (kB HK.out) (KeepBut.of_below hb g none) (.inl rfl)); replace HB := aM (below_step (wS60 HB.out) hb); replace HI0 := aM (IsS60.below (iS60 HI0.out) hb); clear hb ho13; obtain ⟨Ao14, co14, rfl⟩ := sL HO235) | ((with_reducible refine gate_callee (f := 35) rfl ?_); refine gL (some 16) Try.func35 #[.pointer (some ⟨g, 0, none⟩), .slice Ao14 y233.length co14] ?_; (with_reducible refine (spec_reader_one.calls k1 g s0_0 x1001_1 _ _ y233 t236 t237 w0 _ ?side1 ?side2 ?side3 ?side4 ?side5 A10.out).mono ?_); (case side1 => exact iS60 HI0.out); (case side2 => exact wS60 HB.out); (case side3 => exact qC (Kd.R_reads' HO235.out).2.2); (case side4 => exact (Kd.R_reads' HO235.out).2.1); (case side5 => exact far_slice (IsS60.own_ne HI0.out HO235.out (by decide))); rintro e w15 ⟨rfl, hi, hb, hk⟩; refine ⟨_, rfl, ?_⟩; replace HO_3 := aM (Kd.R_mono (Kd.R_keep (IsS60.apart (show IsS60 w0 _ g s0_0 x1001_1 from iS60 HI0.out) (qR HO_3.out) (by decide)) hk (fun _ h => h.2)) (fun _ h => h.1)); replace HO235 := aM (Kd.R_mono (Kd.R_keep (IsS60.apart (show IsS60 w0 _ g s0_0 x1001_1 from iS60 HI0.out) (qR HO235.out) (by decide)) hk (fun _ h => h.2)) (fun _ h => h.1)); replace HK := aM (KeepBut.trans (kB HK.out) hk (.inl rfl)); replace HB := aM (hb); replace HI0 := aM (hi); clear hb hk hi) | ((with_reducible refine gate_builtin (b := .append) (xs := #[.tmp 13, .tmp 17]) rfl ?_); at_builtin; refine Kd.R_append (Kd.int .i64) w.heap.size rfl (.tmp 13) (.tmp 17) 22 3 (.int .i64 0) 8 rfl Try.underlying22 info3 rfl (by decide) (by omega) u3 x3_1 t236 [.int .i64 t236] (fun k_ => some k_ ≠ (.slice Ao14 y233.length co14 : Value).ownBlock) (fun _ => False) rfl rfl ?aP (fun _ hk => hk.elim) ?aF ?aO (Below.refl _ _) ?aS ?aL ?_; (case aP => exact rfl); (case aF => exact (fun k_ hk => Kd.fresh' (Kd.R_lt (qR HO235.out)) k_ hk)); (case aO => exact (by refine qR ?_; exact Kd.R_mono HO_3.out (fun _ hk => hk.2))); (case aS => exact (keep_size (w := w) (g := g) (row := none) (kB HK.out))); (case aL => have := LMc11.out; omega); intro v239 w16 ho hb hg hat; rw [← Ny238.out] at ho; replace HO235 := aM (Kd.R_after (ok := (fun _ => True)) (qR HO235.out) hg hat); replace HB := aM (below_weaken (wS60 HB.out) HL.out hb); replace HI0 := aM (IsS60.grown (iS60 HI0.out) hg (IsS60.own_ne HI0.out HO_3.out (by decide))); replace HK := aM (KeepBut.trans (kB HK.out) (KeepBut.of_grown hg g) (Kd.R_base2 HO_3.out)); have HO240 := aM (ho); clear HO_3; clear ho hb hg hat))
   go_roundg k1
   case measure => have := HK1.out; omega
   case rel => exact ⟨(y238), (wrap64 (x4_1 - 1)), (t237), qE, H', ⟨by have := HK1.out; omega⟩, ⟨by refine qR ?_; exact Kd.R_mono HO240.out (fun _ hk => trivial)⟩, ⟨iS60 HI0.out⟩, ⟨kB HK.out⟩, ⟨wS60 HB.out⟩⟩
def spec_codeLengthsOf.f (k : Nat) (l0 : List Int) : Option (List Int) := (spec_CodeLengths.f k l0).bind fun t307 => (if (t307.length : Int) = 0 then (some (([1, 2, 2] : List Int))) else (some t307))
theorem spec_codeLengthsOf.mono : ∀ a0 k, LeO (spec_codeLengthsOf.f k a0) (spec_codeLengthsOf.f (k + 1) a0) := by
 intro a0 k
 unfold spec_codeLengthsOf.f
 repeat' first | (with_reducible first | exact spec_CodeLengths.mono _ _ | exact lR | exact lN | refine lI ?_ ?_ | refine lB ?_ fun _ => ?_) | exact spec_CodeLengths.mono _ _ | exact lN | refine lI ?_ ?_ | refine lB ?_ fun _ => ?_
set_option maxHeartbeats 8000000 in
set_option maxRecDepth 100000 in
theorem spec_codeLengthsOf.calls (k : Nat) (A0 : Option Addr) (c0 : Nat) (l0 : List Int) (r : List Int) (w : World) (hr0 : Kd.C (Kd.int .i64) w A0 l0.length l0) (hc0 : l0.length ≤ c0) (h : spec_codeLengthsOf.f k l0 = some r) :
  Calls Try.prog 51 #[.slice A0 l0.length c0] w fun e w' => ∃ v0_ : Value, e = .returned (v0_) ∧ Kd.R (Kd.int .i64) 3 w' w.heap.size (fun _ => True) v0_ r ∧ Below w.heap.size w w' := by
 have HR0 := aM hr0
 have HC0 := aM hc0
 clear hr0 hc0
 have HB := aM (Below.refl w.heap.size w)
 unfold spec_codeLengthsOf.f at h
 have H := h
 clear h
 replace H := Option.bind_eq_some_iff.mp H
 obtain ⟨t307, A20, H⟩ := H
 replace H : (if (t307.length : Int) = 0 then (some (([1, 2, 2] : List Int))) else (some t307)) = some r := H
 have A2 := aM A20
 clear A20
 by_cases c3 : (t307.length : Int) = 0
 rotate_left
 ·rw [if_neg c3] at H
  have c3b0 : ((t307.length : Int) == 0) = false := beq_eq_false_iff_ne.mpr c3
  have c3b1 : ((t307.length : Int) != 0) = true := bne_iff_ne.mpr c3
  have c3b2 : ¬ (t307 = []) := fun h_ => c3 (by rw [h_]; rfl)
  obtain rfl := Option.some.inj H
  go_enter Try.func51, Try.ntmps51
  go_wp2_with (first | ((with_reducible refine gate_callee (f := 24) rfl ?_); refine gL (some 5) Try.func24 #[.slice A0 l0.length c0] ?_; (with_reducible refine (spec_CodeLengths.calls k _ _ l0 t307 _ ?side1 ?side2 A2.out).mono ?_); (case side1 => exact qC HR0.out); (case side2 => exact HC0.out); rintro e w8 ⟨v308, rfl, ho0, hb⟩; refine ⟨_, rfl, ?_⟩; have HO309 := oR ho0 HB; replace HB := bS HB hb; clear hb ho0; obtain ⟨Ao9, co9, rfl⟩ := sL HO309))
  go_ret
  exact ⟨_, qX, by refine qR ?_; exact HO309.out, by exact qW HB.out⟩
 rw [if_pos c3] at H
 have c3b0 : ((t307.length : Int) == 0) = true := beq_iff_eq.mpr c3
 have c3b1 : ((t307.length : Int) != 0) = false := bne_eq_false_iff_eq.mpr c3
 clear c3
 obtain ⟨y310, hy310⟩ : ∃ y_ : List Int, y_ = (([1, 2, 2] : List Int)) := ⟨_, rfl⟩
 replace H : (some y310) = some r := rY hy310 H
 have Ny310 := aM hy310
 clear hy310
 obtain rfl := Option.some.inj H
 go_enter Try.func51, Try.ntmps51
 go_wp2_with (first | ((with_reducible refine gate_callee (f := 24) rfl ?_); refine gL (some 5) Try.func24 #[.slice A0 l0.length c0] ?_; (with_reducible refine (spec_CodeLengths.calls k _ _ l0 t307 _ ?side1 ?side2 A2.out).mono ?_); (case side1 => exact qC HR0.out); (case side2 => exact HC0.out); rintro e w4 ⟨v308, rfl, ho0, hb⟩; refine ⟨_, rfl, ?_⟩; have HO309 := oR ho0 HB; replace HB := bS HB hb; clear hb ho0; obtain ⟨Ao5, co5, rfl⟩ := sL HO309) | ((with_reducible refine gate_dst (N := 9) rfl ?_); refine iL ([1, 2, 2] : List Int) [.int .i64 1, .int .i64 2, .int .i64 2] ?_; intro v311 w6 ho7 hb hg_ hnew_; clear hg_ hnew_; (first | rw [← Ny310.out] at ho7 | (simp only [Int.reduceToNat] at ho7; rw [← Ny310.out] at ho7)); have HO312 := nR ho7 HO309 HB; replace HO309 := aM (Kd.R_elder' (qR HO309.out) (Kd.R_base ho7) hb); replace HB := bS HB hb; clear hb ho7))
 go_ret
 exact ⟨_, qX, by refine qR ?_; exact Kd.R_mono HO312.out (fun _ hk => trivial), by exact qW HB.out⟩
def spec_anyLengths.f (k : Nat) (s0_0 : List Int) (s0_1 : Int) : Option (List Int × Int) := (spec_anyCounts.f k s0_0 s0_1).bind fun bt313 => ((spec_codeLengthsOf.f k bt313.1).bind fun t317 => ((spec_reader_one.f k s0_0 bt313.2 (([1, 2, 16, 17] : List Int))).bind fun bt323 => ((spec_reader_spoil.f k s0_0 bt323.2 t317 bt323.1).bind fun bt325 => (some (bt325.1, bt325.2)))))
theorem spec_anyLengths.mono : ∀ a0 a1 k, LeO (spec_anyLengths.f k a0 a1) (spec_anyLengths.f (k + 1) a0 a1) := by
 intro a0 a1 k
 unfold spec_anyLengths.f
 repeat' first | (with_reducible first | exact spec_anyCounts.mono _ _ _ | exact spec_codeLengthsOf.mono _ _ | exact spec_reader_one.mono _ _ _ _ | exact spec_reader_spoil.mono _ _ _ _ _ | exact lR | exact lN | refine lI ?_ ?_ | refine lB ?_ fun _ => ?_) | exact spec_anyCounts.mono _ _ _ | exact spec_codeLengthsOf.mono _ _ | exact spec_reader_one.mono _ _ _ _ | exact spec_reader_spoil.mono _ _ _ _ _ | exact lN | refine lI ?_ ?_ | refine lB ?_ fun _ => ?_
set_option maxHeartbeats 8000000 in
set_option maxRecDepth 100000 in
theorem spec_anyLengths.calls (k : Nat) (g : Nat) (s0_0 : List Int) (s0_1 : Int) (r1 : List Int) (r2 : Int) (w0 w : World) (hI : IsS60 w0 w g s0_0 s0_1) (hB : Below w0.heap.size w0 w) (h : spec_anyLengths.f k s0_0 s0_1 = some (r1, r2)) :
  Calls Try.prog 34 #[.pointer (some ⟨g, 0, none⟩)] w fun e w' => ∃ v0_ : Value, e = .returned (v0_) ∧ Kd.Q (Kd.int .i64) 3 w' w.heap.size (fun _ => True) v0_ r1 ∧ IsS60 w0 w' g s0_0 r2 ∧ Below w0.heap.size w0 w' ∧ KeepBut w w' g none := by
 have HI0 := aM hI
 have HK := aM (KeepBut.refl w g none)
 have HL := aM hB.size
 clear hI
 have HW0 := aM hB.size
 have HB := aM hB
 clear hB
 unfold spec_anyLengths.f at h
 have H := h
 clear h
 replace H := Option.bind_eq_some_iff.mp H
 obtain ⟨⟨t313, t316⟩, A20, H⟩ := H
 replace H : ((spec_codeLengthsOf.f k t313).bind fun t317 => ((spec_reader_one.f k s0_0 t316 (([1, 2, 16, 17] : List Int))).bind fun bt323 => ((spec_reader_spoil.f k s0_0 bt323.2 t317 bt323.1).bind fun bt325 => (some (bt325.1, bt325.2))))) = some (r1, r2) := H
 have A2 := aM A20
 clear A20
 replace H := Option.bind_eq_some_iff.mp H
 obtain ⟨t317, A30, H⟩ := H
 replace H : ((spec_reader_one.f k s0_0 t316 (([1, 2, 16, 17] : List Int))).bind fun bt323 => ((spec_reader_spoil.f k s0_0 bt323.2 t317 bt323.1).bind fun bt325 => (some (bt325.1, bt325.2)))) = some (r1, r2) := H
 have A3 := aM A30
 clear A30
 obtain ⟨y320, hy320⟩ : ∃ y_ : List Int, y_ = (([1, 2, 16, 17] : List Int)) := ⟨_, rfl⟩
 replace H : ((spec_reader_one.f k s0_0 t316 y320).bind fun bt323 => ((spec_reader_spoil.f k s0_0 bt323.2 t317 bt323.1).bind fun bt325 => (some (bt325.1, bt325.2)))) = some (r1, r2) := rY hy320 H
 have Ny320 := aM hy320
 clear hy320
 replace H := Option.bind_eq_some_iff.mp H
 obtain ⟨⟨t323, t324⟩, A40, H⟩ := H
 replace H : ((spec_reader_spoil.f k s0_0 t324 t317 t323).bind fun bt325 => (some (bt325.1, bt325.2))) = some (r1, r2) := H
 have A4 := aM A40
 clear A40
 replace H := Option.bind_eq_some_iff.mp H
 obtain ⟨⟨t325, t328⟩, A50, H⟩ := H
 replace H : (some (t325, t328)) = some (r1, r2) := H
 have A5 := aM A50
 clear A50
 simp only [Option.some.injEq, Prod.mk.injEq] at H
 obtain ⟨rfl, rfl⟩ := H
 go_enter Try.func34, Try.ntmps34
 go_wp2_with (first | ((with_reducible refine gate_callee (f := 46) rfl ?_); refine gL (some 5) Try.func46 #[.pointer (some ⟨g, 0, none⟩)] ?_; (with_reducible refine (spec_anyCounts.calls k g s0_0 s0_1 t313 t316 w0 _ ?side1 ?side2 A2.out).mono ?_); (case side1 => exact iS60 HI0.out); (case side2 => exact wS60 HB.out); rintro e w6 ⟨v314, rfl, ho0, hi, hb, hk⟩; refine ⟨_, rfl, ?_⟩; have HO315 := aM (Kd.Q_lower ho0 (keep_size (w := w) (g := g) (row := none) (kB HK.out))); replace HK := aM (KeepBut.trans (kB HK.out) hk (.inl rfl)); replace HB := aM (hb); replace HI0 := aM (hi); clear hb hk hi ho0; obtain ⟨Ao7, co7, eo7, _⟩ := Kd.Q_slice HO315.out; subst eo7) | ((with_reducible refine gate_callee (f := 51) rfl ?_); refine gL (some 6) Try.func51 #[.slice Ao7 t313.length co7] ?_; (with_reducible refine (spec_codeLengthsOf.calls k _ _ t313 t317 _ ?side1 ?side2 A3.out).mono ?_); (case side1 => exact qC (Kd.Q_reads' HO315.out).2.2); (case side2 => exact (Kd.Q_reads' HO315.out).2.1); rintro e w8 ⟨v318, rfl, ho0, hb⟩; refine ⟨_, rfl, ?_⟩; have HO319 := aM (Kd.R_lower (Kd.R_new' ho0 (Kd.Q_lt (qQ HO315.out))) (keep_size (w := w) (g := g) (row := none) (kB HK.out))); replace HO315 := aM (Kd.Q_elder' (qQ HO315.out) (Kd.R_base ho0) hb); replace HK := aM (KeepBut.trans (kB HK.out) (KeepBut.of_below hb g none) (.inl rfl)); replace HB := aM (below_step (wS60 HB.out) hb); replace HI0 := aM (IsS60.below (iS60 HI0.out) hb); clear hb ho0) | ((with_reducible refine gate_dst (N := 10) rfl ?_); refine iL ([1, 2, 16, 17] : List Int) [.int .i64 1, .int .i64 2, .int .i64 16, .int .i64 17] ?_; intro v321 w9 ho10 hb hg_ hnew_; clear hg_ hnew_; (first | rw [← Ny320.out] at ho10 | (simp only [Int.reduceToNat] at ho10; rw [← Ny320.out] at ho10)); have HO322 := aM (Kd.R_lower (Kd.R_new' (Kd.R_new' ho10 (Kd.Q_lt (qQ HO315.out))) (Kd.R_lt (qR HO319.out))) (keep_size (w := w) (g := g) (row := none) (kB HK.out))); replace HO315 := aM (Kd.Q_elder' (qQ HO315.out) (Kd.R_base ho10) hb); replace HO319 := aM (Kd.R_elder' (qR HO319.out) (Kd.R_base ho10) hb); replace HK := aM (KeepBut.trans (kB HK.out) (KeepBut.of_below hb g none) (.inl rfl)); replace HB := aM (below_step (wS60 HB.out) hb); replace HI0 := aM (IsS60.below (iS60 HI0.out) hb); clear hb ho10; obtain ⟨Ao11, co11, rfl⟩ := sL HO322) | ((with_reducible refine gate_callee (f := 35) rfl ?_); refine gL (some 11) Try.func35 #[.pointer (some ⟨g, 0, none⟩), .slice Ao11 y320.length co11] ?_; (with_reducible refine (spec_reader_one.calls k g s0_0 t316 _ _ y320 t323 t324 w0 _ ?side1 ?side2 ?side3 ?side4 ?side5 A4.out).mono ?_); (case side1 => exact iS60 HI0.out); (case side2 => exact wS60 HB.out); (case side3 => exact qC (Kd.R_reads' HO322.out).2.2); (case side4 => exact (Kd.R_reads' HO322.out).2.1); (case side5 => exact far_slice (IsS60.own_ne HI0.out HO322.out (by decide))); rintro e w12 ⟨rfl, hi, hb, hk⟩; refine ⟨_, rfl, ?_⟩; replace HO315 := aM (Kd.Q_mono (Kd.Q_keep (IsS60.apartQ (show IsS60 w0 _ g s0_0 t316 from iS60 HI0.out) (qQ HO315.out) (by decide)) hk (fun _ h => h.2)) (fun _ h => h.1)); replace HO319 := aM (Kd.R_mono (Kd.R_keep (IsS60.apart (show IsS60 w0 _ g s0_0 t316 from iS60 HI0.out) (qR HO319.out) (by decide)) hk (fun _ h => h.2)) (fun _ h => h.1)); replace HO322 := aM (Kd.R_mono (Kd.R_keep (IsS60.apart (show IsS60 w0 _ g s0_0 t316 from iS60 HI0.out) (qR HO322.out) (by decide)) hk (fun _ h => h.2)) (fun _ h => h.1)); replace HK := aM (KeepBut.trans (kB HK.out) hk (.inl rfl)); replace HB := aM (hb); replace HI0 := aM (hi); clear hb hk hi; obtain ⟨Ao13, co13, rfl⟩ := sL HO319) | ((with_reducible refine gate_callee (f := 37) rfl ?_); refine gL (some 12) Try.func37 #[.pointer (some ⟨g, 0, none⟩), .slice Ao13 t317.length co13, .int .i64 t323] ?_; (with_reducible refine (spec_reader_spoil.calls k g s0_0 t324 _ _ t317 t323 t325 t328 w0 _ ?side1 ?side2 ?side3 ?side4 ?side5 A5.out).mono ?_); (case side1 => exact iS60 HI0.out); (case side2 => exact wS60 HB.out); (case side3 => exact qC (Kd.R_reads' HO319.out).2.2); (case side4 => exact (Kd.R_reads' HO319.out).2.1); (case side5 => exact far_slice (IsS60.own_ne HI0.out HO319.out (by decide))); rintro e w14 ⟨v326, rfl, ho0, hi, hb, hk⟩; refine ⟨_, rfl, ?_⟩; have HO327 := aM (Kd.Q_lower (Kd.Q_new' (Kd.Q_new' (Kd.Q_new' ho0 (Kd.Q_lt (qQ HO315.out))) (Kd.R_lt (qR HO319.out))) (Kd.R_lt (qR HO322.out))) (keep_size (w := w) (g := g) (row := none) (kB HK.out))); replace HO315 := aM (Kd.Q_mono (Kd.Q_told (Kd.Q_oldK (IsS60.apartQ (show IsS60 w0 _ g s0_0 t324 from iS60 HI0.out) (qQ HO315.out) (by decide)) hk) (Kd.Q_base ho0)) (fun _ h_ => h_.1)); replace HO319 := aM (Kd.R_mono (Kd.R_told (Kd.R_oldK (IsS60.apart (show IsS60 w0 _ g s0_0 t324 from iS60 HI0.out) (qR HO319.out) (by decide)) hk) (Kd.Q_base ho0)) (fun _ h_ => h_.1)); replace HO322 := aM (Kd.R_mono (Kd.R_told (Kd.R_oldK (IsS60.apart (show IsS60 w0 _ g s0_0 t324 from iS60 HI0.out) (qR HO322.out) (by decide)) hk) (Kd.Q_base ho0)) (fun _ h_ => h_.1)); replace HK := aM (KeepBut.trans (kB HK.out) hk (.inl rfl)); replace HB := aM (hb); replace HI0 := aM (hi); clear hb hk hi ho0))
 go_ret
 exact ⟨_, qX, by (with_reducible repeat (first | apply Kd.Q_alloc | apply Kd.Q_drewN | apply Kd.Q_drew)); exact Kd.Q_mono HO327.out (fun _ hk => trivial), iS60 HI0.out, wS60 HB.out, kB HK.out⟩
def spec_DrawCodeLengths.f (k : Nat) (l0 : List Int) : Option (List Int) := (spec_newReader.f l0).bind fun bt511 => ((spec_anyCounts.f k bt511.1 bt511.2).bind fun bt514 => (some bt514.1))
theorem spec_DrawCodeLengths.mono : ∀ a0 k, LeO (spec_DrawCodeLengths.f k a0) (spec_DrawCodeLengths.f (k + 1) a0) := by
 intro a0 k
 unfold spec_DrawCodeLengths.f
 repeat' first | (with_reducible first | exact spec_anyCounts.mono _ _ _ | exact lR | exact lN | refine lI ?_ ?_ | refine lB ?_ fun _ => ?_) | exact spec_anyCounts.mono _ _ _ | exact lN | refine lI ?_ ?_ | refine lB ?_ fun _ => ?_
set_option maxHeartbeats 8000000 in
set_option maxRecDepth 100000 in
theorem spec_DrawCodeLengths.calls (k : Nat) (A0 : Option Addr) (c0 : Nat) (l0 : List Int) (r : List Int) (w : World) (hr0 : Kd.C (Kd.int .u8) w A0 l0.length l0) (hc0 : l0.length ≤ c0) (h : spec_DrawCodeLengths.f k l0 = some r) :
  Calls Try.prog 26 #[.slice A0 l0.length c0] w fun e w' => ∃ v0_ : Value, e = .returned (v0_) ∧ Kd.Q (Kd.int .i64) 3 w' w.heap.size (fun _ => True) v0_ r ∧ Below w.heap.size w w' := by
 have HR0 := aM hr0
 have HC0 := aM hc0
 clear hr0 hc0
 have HB := aM (Below.refl w.heap.size w)
 unfold spec_DrawCodeLengths.f at h
 have H := h
 clear h
 replace H := Option.bind_eq_some_iff.mp H
 obtain ⟨⟨t511, t512⟩, A20, H⟩ := H
 replace H : ((spec_anyCounts.f k t511 t512).bind fun bt514 => (some bt514.1)) = some r := H
 have A2 := aM A20
 clear A20
 replace H := Option.bind_eq_some_iff.mp H
 obtain ⟨⟨t514, t517⟩, A30, H⟩ := H
 replace H : (some t514) = some r := H
 have A3 := aM A30
 clear A30
 obtain rfl := Option.some.inj H
 go_enter Try.func26, Try.ntmps26
 go_wp2_with (first | ((with_reducible refine gate_callee (f := 33) rfl ?_); refine gL (some 4) Try.func33 #[.slice A0 l0.length c0] ?_; (with_reducible refine (spec_newReader.calls _ _ l0 t511 t512 w _ ?side1 ?side2 ?side3 A2.out).mono ?_); (case side1 => exact qW HB.out); (case side2 => exact HR0.out); (case side3 => exact HC0.out); rintro e w4 ⟨g513, rfl, hi, hb, hb2⟩; refine ⟨_, rfl, ?_⟩; replace HB := aM (hb); have HI513 := aM (hi); clear hb hb2 hi) | ((with_reducible refine gate_callee (f := 46) rfl ?_); refine gL (some 5) Try.func46 #[.pointer (some ⟨g513, 0, none⟩)] ?_; (with_reducible refine (spec_anyCounts.calls k g513 t511 t512 t514 t517 w _ ?side1 ?side2 A3.out).mono ?_); (case side1 => exact iS60 HI513.out); (case side2 => exact wS60 HB.out); rintro e w5 ⟨v515, rfl, ho0, hi, hb, hk⟩; refine ⟨_, rfl, ?_⟩; have HO516 := aM (Kd.Q_lower ho0 (below_size (wS60 HB.out))); replace HB := aM (hb); replace HI513 := aM (hi); clear hb hk hi ho0))
 go_ret
 exact ⟨_, qX, by (with_reducible repeat (first | apply Kd.Q_alloc | apply Kd.Q_drewN | apply Kd.Q_drew)); exact HO516.out, wS60 HB.out⟩
def spec_DrawCanonicalCodes.f (k : Nat) (l0 : List Int) : Option (List Int) := (spec_newReader.f l0).bind fun bt527 => ((spec_anyLengths.f k bt527.1 bt527.2).bind fun bt530 => (some bt530.1))
theorem spec_DrawCanonicalCodes.mono : ∀ a0 k, LeO (spec_DrawCanonicalCodes.f k a0) (spec_DrawCanonicalCodes.f (k + 1) a0) := by
 intro a0 k
 unfold spec_DrawCanonicalCodes.f
 repeat' first | (with_reducible first | exact spec_anyLengths.mono _ _ _ | exact lR | exact lN | refine lI ?_ ?_ | refine lB ?_ fun _ => ?_) | exact spec_anyLengths.mono _ _ _ | exact lN | refine lI ?_ ?_ | refine lB ?_ fun _ => ?_
set_option maxHeartbeats 8000000 in
set_option maxRecDepth 100000 in
theorem spec_DrawCanonicalCodes.calls (k : Nat) (A0 : Option Addr) (c0 : Nat) (l0 : List Int) (r : List Int) (w : World) (hr0 : Kd.C (Kd.int .u8) w A0 l0.length l0) (hc0 : l0.length ≤ c0) (h : spec_DrawCanonicalCodes.f k l0 = some r) :
  Calls Try.prog 27 #[.slice A0 l0.length c0] w fun e w' => ∃ v0_ : Value, e = .returned (v0_) ∧ Kd.Q (Kd.int .i64) 3 w' w.heap.size (fun _ => True) v0_ r ∧ Below w.heap.size w w' := by
 have HR0 := aM hr0
 have HC0 := aM hc0
 clear hr0 hc0
 have HB := aM (Below.refl w.heap.size w)
 unfold spec_DrawCanonicalCodes.f at h
 have H := h
 clear h
 replace H := Option.bind_eq_some_iff.mp H
 obtain ⟨⟨t527, t528⟩, A20, H⟩ := H
 replace H : ((spec_anyLengths.f k t527 t528).bind fun bt530 => (some bt530.1)) = some r := H
 have A2 := aM A20
 clear A20
 replace H := Option.bind_eq_some_iff.mp H
 obtain ⟨⟨t530, t533⟩, A30, H⟩ := H
 replace H : (some t530) = some r := H
 have A3 := aM A30
 clear A30
 obtain rfl := Option.some.inj H
 go_enter Try.func27, Try.ntmps27
 go_wp2_with (first | ((with_reducible refine gate_callee (f := 33) rfl ?_); refine gL (some 4) Try.func33 #[.slice A0 l0.length c0] ?_; (with_reducible refine (spec_newReader.calls _ _ l0 t527 t528 w _ ?side1 ?side2 ?side3 A2.out).mono ?_); (case side1 => exact qW HB.out); (case side2 => exact HR0.out); (case side3 => exact HC0.out); rintro e w4 ⟨g529, rfl, hi, hb, hb2⟩; refine ⟨_, rfl, ?_⟩; replace HB := aM (hb); have HI529 := aM (hi); clear hb hb2 hi) | ((with_reducible refine gate_callee (f := 34) rfl ?_); refine gL (some 5) Try.func34 #[.pointer (some ⟨g529, 0, none⟩)] ?_; (with_reducible refine (spec_anyLengths.calls k g529 t527 t528 t530 t533 w _ ?side1 ?side2 A3.out).mono ?_); (case side1 => exact iS60 HI529.out); (case side2 => exact wS60 HB.out); rintro e w5 ⟨v531, rfl, ho0, hi, hb, hk⟩; refine ⟨_, rfl, ?_⟩; have HO532 := aM (Kd.Q_lower ho0 (below_size (wS60 HB.out))); replace HB := aM (hb); replace HI529 := aM (hi); clear hb hk hi ho0))
 go_ret
 exact ⟨_, qX, by (with_reducible repeat (first | apply Kd.Q_alloc | apply Kd.Q_drewN | apply Kd.Q_drew)); exact HO532.out, wS60 HB.out⟩
mutual
def spec_DrawEncodeSymbols.l0 : Nat → List Int → List Int → Int → List Int → Int → Option (List Int × List Int)
 | 0, _, _, _, _, _ => none
 | k + 1, x5, x6, x7, x332000, x332001 => if x7 > 0 then ((spec_reader_pick.f k x332000 x332001 (mx (x5.length : Int) 1)).bind fun bt348 => (spec_DrawEncodeSymbols.l1 k x5 x6 x7 bt348.1 0 x332000 bt348.2)) else ((spec_reader_spoil.f k x332000 x332001 x6 16).bind fun bt344 => (some (bt344.1, x5)))
def spec_DrawEncodeSymbols.l1 : Nat → List Int → List Int → Int → Int → Int → List Int → Int → Option (List Int × List Int)
 | 0, _, _, _, _, _, _, _ => none
 | k + 1, x5, x6, x7, x8, x9, x332000, x332001 => if x9 < (x5.length : Int) then (if 0 ≤ x8 then (if x8 < (x5.length : Int) then (if (rd x5 x8) = 0 then (if (x5.length : Int) = 0 then (none) else (spec_DrawEncodeSymbols.l1 k x5 x6 x7 (Int.tmod (wrap64 (x8 + 1)) (x5.length : Int)) (wrap64 (x9 + 1)) x332000 x332001)) else (if x6.length < 17592186044416 then (spec_DrawEncodeSymbols.l0 k x5 (x6 ++ [x8]) (wrap64 (x7 - 1)) x332000 x332001) else (none))) else (none)) else (none)) else (if x6.length < 17592186044416 then (spec_DrawEncodeSymbols.l0 k x5 (x6 ++ [x8]) (wrap64 (x7 - 1)) x332000 x332001) else (none))
end
def spec_DrawEncodeSymbols.f (k : Nat) (l0 : List Int) : Option (List Int × List Int) := (spec_newReader.f l0).bind fun bt329 => ((spec_anyLengths.f k bt329.1 bt329.2).bind fun bt332 => ((spec_reader_one.f k bt329.1 bt332.2 (([5, 8, 2, 0, 12] : List Int))).bind fun bt342 => (spec_DrawEncodeSymbols.l0 k bt332.1 (([] : List Int)) bt342.1 bt329.1 bt342.2)))
theorem spec_DrawEncodeSymbols.mono_l : ∀ k, (∀ y0 y1 y2 y3 y4, LeO (spec_DrawEncodeSymbols.l0 k y0 y1 y2 y3 y4) (spec_DrawEncodeSymbols.l0 (k + 1) y0 y1 y2 y3 y4)) ∧ (∀ y0 y1 y2 y3 y4 y5 y6, LeO (spec_DrawEncodeSymbols.l1 k y0 y1 y2 y3 y4 y5 y6) (spec_DrawEncodeSymbols.l1 (k + 1) y0 y1 y2 y3 y4 y5 y6))
 | 0 => ⟨fun _ _ _ _ _ r h => by simp [spec_DrawEncodeSymbols.l0] at h, fun _ _ _ _ _ _ _ r h => by simp [spec_DrawEncodeSymbols.l1] at h⟩
 | k + 1 => by
  obtain ⟨ih0, ih1⟩ := spec_DrawEncodeSymbols.mono_l k
  refine ⟨?_, ?_⟩
  all_goals intros
  all_goals first | unfold spec_DrawEncodeSymbols.l0 | unfold spec_DrawEncodeSymbols.l1
  all_goals repeat' first | (with_reducible first | exact ih0 _ _ _ _ _ | exact ih1 _ _ _ _ _ _ _ | exact spec_anyLengths.mono _ _ _ | exact spec_reader_one.mono _ _ _ _ | exact spec_reader_pick.mono _ _ _ _ | exact spec_reader_spoil.mono _ _ _ _ _ | exact lR | exact lN | refine lI ?_ ?_ | refine lB ?_ fun _ => ?_) | exact ih0 _ _ _ _ _ | exact ih1 _ _ _ _ _ _ _ | exact spec_anyLengths.mono _ _ _ | exact spec_reader_one.mono _ _ _ _ | exact spec_reader_pick.mono _ _ _ _ | exact spec_reader_spoil.mono _ _ _ _ _ | exact lN | refine lI ?_ ?_ | refine lB ?_ fun _ => ?_
theorem spec_DrawEncodeSymbols.mono : ∀ a0 k, LeO (spec_DrawEncodeSymbols.f k a0) (spec_DrawEncodeSymbols.f (k + 1) a0) := by
 intro a0 k
 obtain ⟨ih0, ih1⟩ := spec_DrawEncodeSymbols.mono_l k
 unfold spec_DrawEncodeSymbols.f
 repeat' first | (with_reducible first | exact ih0 _ _ _ _ _ | exact ih1 _ _ _ _ _ _ _ | exact spec_anyLengths.mono _ _ _ | exact spec_reader_one.mono _ _ _ _ | exact spec_reader_pick.mono _ _ _ _ | exact spec_reader_spoil.mono _ _ _ _ _ | exact lR | exact lN | refine lI ?_ ?_ | refine lB ?_ fun _ => ?_) | exact ih0 _ _ _ _ _ | exact ih1 _ _ _ _ _ _ _ | exact spec_anyLengths.mono _ _ _ | exact spec_reader_one.mono _ _ _ _ | exact spec_reader_pick.mono _ _ _ _ | exact spec_reader_spoil.mono _ _ _ _ _ | exact lN | refine lI ?_ ?_ | refine lB ?_ fun _ => ?_
set_option maxHeartbeats 8000000 in
set_option maxRecDepth 100000 in
theorem spec_DrawEncodeSymbols.calls (k : Nat) (A0 : Option Addr) (c0 : Nat) (l0 : List Int) (r1 : List Int) (r2 : List Int) (w : World) (hr0 : Kd.C (Kd.int .u8) w A0 l0.length l0) (hc0 : l0.length ≤ c0) (h : spec_DrawEncodeSymbols.f k l0 = some (r1, r2)) :
  Calls Try.prog 17 #[.slice A0 l0.length c0] w fun e w' => ∃ v0_ v1_ : Value, e = .returned (.tuple #[v0_, v1_]) ∧ Kd.Q (Kd.int .i64) 3 w' w.heap.size (fun k_ => some k_ ≠ (v1_ : Value).ownBlock) v0_ r1 ∧ Kd.Q (Kd.int .i64) 3 w' w.heap.size (fun k_ => some k_ ≠ (v0_ : Value).ownBlock) v1_ r2 ∧ Below w.heap.size w w' := by
 have HR0 := aM hr0
 have HC0 := aM hc0
 clear hr0 hc0
 have HB := aM (Below.refl w.heap.size w)
 unfold spec_DrawEncodeSymbols.f at h
 have H := h
 clear h
 replace H := Option.bind_eq_some_iff.mp H
 obtain ⟨⟨t329, t330⟩, A20, H⟩ := H
 replace H : ((spec_anyLengths.f k t329 t330).bind fun bt332 => ((spec_reader_one.f k t329 bt332.2 (([5, 8, 2, 0, 12] : List Int))).bind fun bt342 => (spec_DrawEncodeSymbols.l0 k bt332.1 (([] : List Int)) bt342.1 t329 bt342.2))) = some (r1, r2) := H
 have A2 := aM A20
 clear A20
 replace H := Option.bind_eq_some_iff.mp H
 obtain ⟨⟨t332, t335⟩, A30, H⟩ := H
 replace H : ((spec_reader_one.f k t329 t335 (([5, 8, 2, 0, 12] : List Int))).bind fun bt342 => (spec_DrawEncodeSymbols.l0 k t332 (([] : List Int)) bt342.1 t329 bt342.2)) = some (r1, r2) := H
 have A3 := aM A30
 clear A30
 obtain ⟨y336, hy336⟩ : ∃ y_ : List Int, y_ = (([] : List Int)) := ⟨_, rfl⟩
 replace H : ((spec_reader_one.f k t329 t335 (([5, 8, 2, 0, 12] : List Int))).bind fun bt342 => (spec_DrawEncodeSymbols.l0 k t332 y336 bt342.1 t329 bt342.2)) = some (r1, r2) := rY hy336 H
 have Ny336 := aM hy336
 clear hy336
 obtain ⟨y339, hy339⟩ : ∃ y_ : List Int, y_ = (([5, 8, 2, 0, 12] : List Int)) := ⟨_, rfl⟩
 replace H : ((spec_reader_one.f k t329 t335 y339).bind fun bt342 => (spec_DrawEncodeSymbols.l0 k t332 y336 bt342.1 t329 bt342.2)) = some (r1, r2) := rY hy339 H
 have Ny339 := aM hy339
 clear hy339
 replace H := Option.bind_eq_some_iff.mp H
 obtain ⟨⟨t342, t343⟩, A40, H⟩ := H
 replace H : (spec_DrawEncodeSymbols.l0 k t332 y336 t342 t329 t343) = some (r1, r2) := H
 have A4 := aM A40
 clear A40
 have H' := aM H
 clear H
 go_enter Try.func17, Try.ntmps17
 go_wp2_with (first | ((with_reducible refine gate_callee (f := 33) rfl ?_); refine gL (some 11) Try.func33 #[.slice A0 l0.length c0] ?_; (with_reducible refine (spec_newReader.calls _ _ l0 t329 t330 w _ ?side1 ?side2 ?side3 A2.out).mono ?_); (case side1 => exact qW HB.out); (case side2 => exact HR0.out); (case side3 => exact HC0.out); rintro e w5 ⟨g331, rfl, hi, hb, hb2⟩; refine ⟨_, rfl, ?_⟩; replace HB := aM (hb); have HI331 := aM (hi); clear hb hb2 hi) | ((with_reducible refine gate_callee (f := 34) rfl ?_); refine gL (some 13) Try.func34 #[.pointer (some ⟨g331, 0, none⟩)] ?_; (with_reducible refine (spec_anyLengths.calls k g331 t329 t330 t332 t335 w _ ?side1 ?side2 A3.out).mono ?_); (case side1 => exact iS60 HI331.out); (case side2 => exact wS60 HB.out); rintro e w6 ⟨v333, rfl, ho0, hi, hb, hk⟩; refine ⟨_, rfl, ?_⟩; have HO334 := aM (Kd.Q_lower ho0 (below_size (wS60 HB.out))); replace HB := aM (hb); replace HI331 := aM (hi); clear hb hk hi ho0) | ((with_reducible refine gate_dst (N := 14) rfl ?_); refine iL ([] : List Int) [] ?_; intro v337 w7 ho8 hb hg_ hnew_; clear hg_ hnew_; (first | rw [← Ny336.out] at ho8 | (simp only [Int.reduceToNat] at ho8; rw [← Ny336.out] at ho8)); have HO338 := aM (Kd.R_lower (Kd.R_new' ho8 (Kd.Q_lt (qQ HO334.out))) (below_size (wS60 HB.out))); replace HO334 := aM (Kd.Q_elder' (qQ HO334.out) (Kd.R_base ho8) hb); replace HB := aM (below_step (wS60 HB.out) hb); replace HI331 := aM (IsS60.below (iS60 HI331.out) hb); clear hb ho8) | ((with_reducible refine gate_dst (N := 16) rfl ?_); refine iL ([5, 8, 2, 0, 12] : List Int) [.int .i64 5, .int .i64 8, .int .i64 2, .int .i64 0, .int .i64 12] ?_; intro v340 w9 ho10 hb hg_ hnew_; clear hg_ hnew_; (first | rw [← Ny339.out] at ho10 | (simp only [Int.reduceToNat] at ho10; rw [← Ny339.out] at ho10)); have HO341 := aM (Kd.R_lower (Kd.R_new' (Kd.R_new' ho10 (Kd.Q_lt (qQ HO334.out))) (Kd.R_lt (qR HO338.out))) (below_size (wS60 HB.out))); replace HO334 := aM (Kd.Q_elder' (qQ HO334.out) (Kd.R_base ho10) hb); replace HO338 := aM (Kd.R_elder' (qR HO338.out) (Kd.R_base ho10) hb); replace HB := aM (below_step (wS60 HB.out) hb); replace HI331 := aM (IsS60.below (iS60 HI331.out) hb); clear hb ho10; obtain ⟨Ao11, co11, rfl⟩ := sL HO341) | ((with_reducible refine gate_callee (f := 35) rfl ?_); refine gL (some 17) Try.func35 #[.pointer (some ⟨g331, 0, none⟩), .slice Ao11 y339.length co11] ?_; (with_reducible refine (spec_reader_one.calls k g331 t329 t335 _ _ y339 t342 t343 w _ ?side1 ?side2 ?side3 ?side4 ?side5 A4.out).mono ?_); (case side1 => exact iS60 HI331.out); (case side2 => exact wS60 HB.out); (case side3 => exact qC (Kd.R_reads' HO341.out).2.2); (case side4 => exact (Kd.R_reads' HO341.out).2.1); (case side5 => exact far_slice (IsS60.own_ne HI331.out HO341.out (by decide))); rintro e w12 ⟨rfl, hi, hb, hk⟩; refine ⟨_, rfl, ?_⟩; replace HO334 := aM (Kd.Q_mono (Kd.Q_keep (IsS60.apartQ (show IsS60 w _ g331 t329 t335 from iS60 HI331.out) (qQ HO334.out) (by decide)) hk (fun _ h => h.2)) (fun _ h => h.1)); replace HO338 := aM (Kd.R_mono (Kd.R_keep (IsS60.apart (show IsS60 w _ g331 t329 t335 from iS60 HI331.out) (qR HO338.out) (by decide)) hk (fun _ h => h.2)) (fun _ h => h.1)); replace HO341 := aM (Kd.R_mono (Kd.R_keep (IsS60.apart (show IsS60 w _ g331 t329 t335 from iS60 HI331.out) (qR HO341.out) (by decide)) hk (fun _ h => h.2)) (fun _ h => h.1)); replace HB := aM (hb); replace HI331 := aM (hi); clear hb hk hi))
 go_loopg [6, 7] k (fun kq v6 v7 w' => ∃ (x6_1 : List Int) (x7_1 : Int) (x332001_1 : Int), v7 = .int .i64 x7_1 ∧ Aside0 (spec_DrawEncodeSymbols.l0 kq t332 x6_1 x7_1 t329 x332001_1 = some (r1, r2)) ∧ Aside0 (kq ≤ k) ∧ Aside0 (Kd.Q (Kd.int .i64) 3 w' w.heap.size (fun k_ => some k_ ≠ (v6 : Value).ownBlock) v333 t332) ∧ Aside0 (Kd.R (Kd.int .i64) 3 w' w.heap.size (fun k_ => some k_ ≠ (v333 : Value).ownBlock) v6 x6_1) ∧ Aside0 (IsS60 w w' g331 t329 x332001_1) ∧ Aside0 (Below w.heap.size w w'))
 case atStart => exact ⟨(y336), (t342), (t343), qE, H', ⟨Nat.le_refl _⟩, ⟨by (with_reducible repeat (first | apply Kd.Q_alloc | apply Kd.Q_drewN | apply Kd.Q_drew)); exact Kd.Q_mono HO334.out (fun _ hk => hk.1.2)⟩, ⟨by refine qR ?_; exact Kd.R_mono HO338.out (fun _ hk => hk.1.2)⟩, ⟨iS60 HI331.out⟩, ⟨wS60 HB.out⟩⟩
 case round =>
  clear H'
  obtain ⟨x6_1, x7_1, x332001_1, rfl, HA, HK1, HO_5, HO_6, HI331, HB⟩ := hrel
  cases gk with
  | zero => exact absurd HA.out (by simp [spec_DrawEncodeSymbols.l0])
  | succ k1 =>
   have H := HA.out
   clear HA
   simp only [spec_DrawEncodeSymbols.l0] at H
   by_cases c13 : x7_1 > 0
   rotate_left
   ·rw [if_neg c13] at H
    have c13b0 : decide (0 < x7_1) = false := decide_eq_false c13
    clear c13
    replace H := Option.bind_eq_some_iff.mp H
    obtain ⟨⟨t344, t347⟩, A270, H⟩ := H
    replace H : (some (t344, t332)) = some (r1, r2) := H
    have A27 := aM A270
    clear A270
    simp only [Option.some.injEq, Prod.mk.injEq] at H
    obtain ⟨rfl, rfl⟩ := H
    obtain ⟨Ao28, co28, rfl⟩ := sL HO_6
    go_wp2_with (first | ((with_reducible refine gate_callee (f := 37) rfl ?_); refine gL (some 51) Try.func37 #[.pointer (some ⟨g331, 0, none⟩), .slice Ao28 x6_1.length co28, .int .i64 16] ?_; (with_reducible refine (spec_reader_spoil.calls k1 g331 t329 x332001_1 _ _ x6_1 16 t344 t347 w _ ?side1 ?side2 ?side3 ?side4 ?side5 A27.out).mono ?_); (case side1 => exact iS60 HI331.out); (case side2 => exact wS60 HB.out); (case side3 => exact qC (Kd.R_reads' HO_6.out).2.2); (case side4 => exact (Kd.R_reads' HO_6.out).2.1); (case side5 => exact far_slice (IsS60.own_ne HI331.out HO_6.out (by decide))); rintro e w29 ⟨v345, rfl, ho0, hi, hb, hk⟩; refine ⟨_, rfl, ?_⟩; have HO346 := aM (Kd.Q_lower (Kd.Q_new' (Kd.Q_new' ho0 (Kd.Q_lt (qQ HO_5.out))) (Kd.R_lt (qR HO_6.out))) (below_size (wS60 HB.out))); replace HO_5 := aM (Kd.Q_mono (Kd.Q_told (Kd.Q_oldK (IsS60.apartQ (show IsS60 w _ g331 t329 x332001_1 from iS60 HI331.out) (qQ HO_5.out) (by decide)) hk) (Kd.Q_base ho0)) (fun _ h_ => h_.1)); replace HO_6 := aM (Kd.R_mono (Kd.R_told (Kd.R_oldK (IsS60.apart (show IsS60 w _ g331 t329 x332001_1 from iS60 HI331.out) (qR HO_6.out) (by decide)) hk) (Kd.Q_base ho0)) (fun _ h_ => h_.1)); replace HB := aM (hb); replace HI331 := aM (hi); clear hb hk hi ho0))
    go_ret2
    exact ⟨_, _, qX, by (with_reducible repeat (first | apply Kd.Q_alloc | apply Kd.Q_drewN | apply Kd.Q_drew)); exact Kd.Q_mono HO346.out (fun _ hk => hk.1.2), by (with_reducible repeat (first | apply Kd.Q_alloc | apply Kd.Q_drewN | apply Kd.Q_drew)); exact Kd.Q_mono HO_5.out (fun _ hk => hk.2), wS60 HB.out⟩
   rw [if_pos c13] at H
   have c13b0 : decide (0 < x7_1) = true := decide_eq_true c13
   clear c13
   obtain ⟨ji14, hji14⟩ : ∃ j_ : Int, (mx (t332.length : Int) 1) = j_ := ⟨_, rfl⟩
   replace H : ((spec_reader_pick.f k1 t329 x332001_1 (ji14)).bind fun bt348 => (spec_DrawEncodeSymbols.l1 k1 t332 x6_1 x7_1 bt348.1 0 t329 bt348.2)) = some (r1, r2) := by first | (rw [hji14] at H; exact H) | (simp only [hji14] at H ⊢; exact H)
   have hji14_ : (if (t332.length : Int) < 1 then 1 else (t332.length : Int)) = ji14 := hji14
   replace H := Option.bind_eq_some_iff.mp H
   obtain ⟨⟨t348, t349⟩, A150, H⟩ := H
   replace H : (spec_DrawEncodeSymbols.l1 k1 t332 x6_1 x7_1 t348 0 t329 t349) = some (r1, r2) := H
   have A15 := aM A150
   clear A150
   have H' := aM H
   clear H
   obtain ⟨Ao16, co16, eo16, _⟩ := Kd.Q_slice HO_5.out
   subst eo16
   go_wp2_with (first | ((with_reducible refine gate_callee (f := 36) rfl ?_); refine goesL_ (some 26) rfl rfl Try.func36 (by kernel_rfl) rfl #[.pointer (some ⟨g331, 0, none⟩), .int .i64 ji14] rfl (by (try simp only [List.map_toArray, List.map_cons, List.map_nil]); first | done | (simp only [hji14]; rfl) | rfl | (simp only [List.length_drop, List.length_take]; rfl)) ?_; (with_reducible refine (spec_reader_pick.calls k1 g331 t329 x332001_1 ji14 t348 t349 w _ ?side1 ?side2 A15.out).mono ?_); (case side1 => exact iS60 HI331.out); (case side2 => exact wS60 HB.out); rintro e w17 ⟨rfl, hi, hb, hk⟩; refine ⟨_, rfl, ?_⟩; replace HO_5 := aM (Kd.Q_mono (Kd.Q_keep (IsS60.apartQ (show IsS60 w _ g331 t329 x332001_1 from iS60 HI331.out) (qQ HO_5.out) (by decide)) hk (fun _ h => h.2)) (fun _ h => h.1)); replace HO_6 := aM (Kd.R_mono (Kd.R_keep (IsS60.apart (show IsS60 w _ g331 t329 x332001_1 from iS60 HI331.out) (qR HO_6.out) (by decide)) hk (fun _ h => h.2)) (fun _ h => h.1)); replace HB := aM (hb); replace HI331 := aM (hi); clear hb hk hi))
   go_loopg [8, 9] k1 (fun kq v8 v9 w' => ∃ (x8_2 : Int) (x9_2 : Int), v8 = .int .i64 x8_2 ∧ v9 = .int .i64 x9_2 ∧ Aside0 (spec_DrawEncodeSymbols.l1 kq t332 x6_1 x7_1 x8_2 x9_2 t329 t349 = some (r1, r2)) ∧ Aside0 (kq ≤ k1) ∧ Aside0 (Kd.Q (Kd.int .i64) 3 w' w.heap.size (fun k_ => some k_ ≠ (u6 : Value).ownBlock) (.slice Ao16 t332.length co16) t332) ∧ Aside0 (Kd.R (Kd.int .i64) 3 w' w.heap.size (fun k_ => some k_ ≠ ((.slice Ao16 t332.length co16) : Value).ownBlock) u6 x6_1) ∧ Aside0 (IsS60 w w' g331 t329 t349) ∧ Aside0 (Below w.heap.size w w'))
   case atStart => exact ⟨(t348), (0), qE, qE, H', ⟨Nat.le_refl _⟩, ⟨by (with_reducible repeat (first | apply Kd.Q_alloc | apply Kd.Q_drewN | apply Kd.Q_drew)); exact HO_5.out⟩, ⟨by refine qR ?_; exact HO_6.out⟩, ⟨iS60 HI331.out⟩, ⟨wS60 HB.out⟩⟩
   case round =>
    clear H'
    try clear c13
    try clear c13b0
    obtain ⟨x8_2, x9_2, rfl, rfl, HA, HK2, HO_5, HO_6, HI331, HB⟩ := hrel
    cases gk with
    | zero => exact absurd HA.out (by simp [spec_DrawEncodeSymbols.l1])
    | succ k2 =>
     have H := HA.out
     clear HA
     simp only [spec_DrawEncodeSymbols.l1] at H
     by_cases c18 : x9_2 < (t332.length : Int)
     rotate_left
     ·rw [if_neg c18] at H
      have c18b0 : decide (x9_2 < (t332.length : Int)) = false := decide_eq_false c18
      clear c18
      replace H := iS H
      obtain ⟨c25, H⟩ := H
      have LMc25 := aM c25
      clear c25
      obtain ⟨y354, hy354⟩ : ∃ y_ : List Int, y_ = (x6_1 ++ [x8_2]) := ⟨_, rfl⟩
      replace H : (spec_DrawEncodeSymbols.l0 k2 t332 y354 (wrap64 (x7_1 - 1)) t329 t349) = some (r1, r2) := rY hy354 H
      have Ny354 := aM hy354
      clear hy354
      have H' := aM H
      clear H
      go_wp2_with (first | ((with_reducible refine gate_builtin (b := .append) (xs := #[.tmp 45, .tmp 47]) rfl ?_); at_builtin; refine Kd.R_append (Kd.int .i64) (w0 := w) w.heap.size rfl (.tmp 45) (.tmp 47) 22 3 (.int .i64 0) 8 rfl Try.underlying22 info3 rfl (by decide) (by omega) u6 x6_1 x8_2 [.int .i64 x8_2] (fun k_ => some k_ ≠ (.slice Ao16 t332.length co16 : Value).ownBlock) (fun _ => False) rfl rfl ?aP (fun _ hk => hk.elim) ?aF ?aO ?aB ?aS ?aL ?_; (case aP => exact rfl); (case aB => exact (wS60 HB.out)); (case aF => exact (fun k_ hk => Kd.fresh' (Kd.Q_lt (qQ HO_5.out)) k_ hk)); (case aO => exact (qR HO_6.out)); (case aS => exact (below_size (wS60 HB.out))); (case aL => have := LMc25.out; omega); intro v355 w26 ho hb hg hat; rw [← Ny354.out] at ho; replace HO_5 := aM (Kd.Q_after (ok := (fun _ => True)) (by (with_reducible repeat (first | apply Kd.Q_alloc | apply Kd.Q_drewN | apply Kd.Q_drew)); exact Kd.Q_mono HO_5.out (fun _ hk => ⟨trivial, hk⟩)) hg hat); replace HI331 := aM (IsS60.grown (iS60 HI331.out) hg (IsS60.own_ne HI331.out HO_6.out (by decide))); replace HB := aM (hb); have HO356 := aM (ho); clear HO_6; clear ho hb hg hat))
      go_roundg k2
      case measure => have := HK1.out; have := HK2.out; omega
      case rel => exact ⟨(y354), (wrap64 (x7_1 - 1)), (t349), qE, H', ⟨by have := HK1.out; have := HK2.out; omega⟩, ⟨by (with_reducible repeat (first | apply Kd.Q_alloc | apply Kd.Q_drewN | apply Kd.Q_drew)); exact Kd.Q_mono HO_5.out (fun _ hk => hk.2)⟩, ⟨by refine qR ?_; exact HO356.out⟩, ⟨iS60 HI331.out⟩, ⟨wS60 HB.out⟩⟩
     rw [if_pos c18] at H
     have c18b0 : decide (x9_2 < (t332.length : Int)) = true := decide_eq_true c18
     clear c18
     replace H := iD H
     obtain ⟨c19b0, H⟩ := H
     replace H := iD H
     obtain ⟨c20b0, H⟩ := H
     by_cases c21 : (rd t332 x8_2) = 0
     ·rw [if_pos c21] at H
      have c21b0 : ((rd t332 x8_2) == 0) = true := beq_iff_eq.mpr c21
      have c21b1 : ((rd t332 x8_2) != 0) = false := bne_eq_false_iff_eq.mpr c21
      clear c21
      by_cases c22 : (t332.length : Int) = 0
      ·rw [if_pos c22] at H
       exact absurd H (by simp)
      rw [if_neg c22] at H
      have c22b0 : ((t332.length : Int) == 0) = false := beq_eq_false_iff_ne.mpr c22
      have c22b1 : ((t332.length : Int) != 0) = true := bne_iff_ne.mpr c22
      have c22b2 : ¬ (t332 = []) := fun h_ => c22 (by rw [h_]; rfl)
      have H' := aM H
      clear H
      obtain ⟨ad350, e350, hx350_0⟩ := Kd.at_int (Kd.Q_reads' HO_5.out).2.2 x8_2 oD oD
      cases e350
      have p350 := eq_true (oD : 0 ≤ (x8_2 : Int))
      have q350 := eq_true (oD : x8_2 < (t332.length : Int))
      go_wp2
      go_roundg k2
      case measure => have := HK1.out; have := HK2.out; omega
      case rel => exact ⟨(Int.tmod (wrap64 (x8_2 + 1)) (t332.length : Int)), (wrap64 (x9_2 + 1)), qE, qE, H', ⟨by have := HK1.out; have := HK2.out; omega⟩, ⟨by (with_reducible repeat (first | apply Kd.Q_alloc | apply Kd.Q_drewN | apply Kd.Q_drew)); exact HO_5.out⟩, ⟨by refine qR ?_; exact HO_6.out⟩, ⟨iS60 HI331.out⟩, ⟨wS60 HB.out⟩⟩
     rw [if_neg c21] at H
     have c21b0 : ((rd t332 x8_2) == 0) = false := beq_eq_false_iff_ne.mpr c21
     have c21b1 : ((rd t332 x8_2) != 0) = true := bne_iff_ne.mpr c21
     replace H := iS H
     obtain ⟨c23, H⟩ := H
     have LMc23 := aM c23
     clear c23
     obtain ⟨y351, hy351⟩ : ∃ y_ : List Int, y_ = (x6_1 ++ [x8_2]) := ⟨_, rfl⟩
     replace H : (spec_DrawEncodeSymbols.l0 k2 t332 y351 (wrap64 (x7_1 - 1)) t329 t349) = some (r1, r2) := rY hy351 H
     have Ny351 := aM hy351
     clear hy351
     have H' := aM H
     clear H
     obtain ⟨ad350, e350, hx350_0⟩ := Kd.at_int (Kd.Q_reads' HO_5.out).2.2 x8_2 oD oD
     cases e350
     have p350 := eq_true (oD : 0 ≤ (x8_2 : Int))
     have q350 := eq_true (oD : x8_2 < (t332.length : Int))
     go_wp2_with (first | ((with_reducible refine gate_builtin (b := .append) (xs := #[.tmp 45, .tmp 47]) rfl ?_); at_builtin; refine Kd.R_append (Kd.int .i64) (w0 := w) w.heap.size rfl (.tmp 45) (.tmp 47) 22 3 (.int .i64 0) 8 rfl Try.underlying22 info3 rfl (by decide) (by omega) u6 x6_1 x8_2 [.int .i64 x8_2] (fun k_ => some k_ ≠ (.slice (some ad350) t332.length co16 : Value).ownBlock) (fun _ => False) rfl rfl ?aP (fun _ hk => hk.elim) ?aF ?aO ?aB ?aS ?aL ?_; (case aP => exact rfl); (case aB => exact (wS60 HB.out)); (case aF => exact (fun k_ hk => Kd.fresh' (Kd.Q_lt (qQ HO_5.out)) k_ hk)); (case aO => exact (qR HO_6.out)); (case aS => exact (below_size (wS60 HB.out))); (case aL => have := LMc23.out; omega); intro v352 w24 ho hb hg hat; rw [← Ny351.out] at ho; replace HO_5 := aM (Kd.Q_after (ok := (fun _ => True)) (by (with_reducible repeat (first | apply Kd.Q_alloc | apply Kd.Q_drewN | apply Kd.Q_drew)); exact Kd.Q_mono HO_5.out (fun _ hk => ⟨trivial, hk⟩)) hg hat); replace HI331 := aM (IsS60.grown (iS60 HI331.out) hg (IsS60.own_ne HI331.out HO_6.out (by decide))); replace HB := aM (hb); have HO353 := aM (ho); clear HO_6; clear ho hb hg hat))
     go_roundg k2
     case measure => have := HK1.out; have := HK2.out; omega
     case rel => exact ⟨(y351), (wrap64 (x7_1 - 1)), (t349), qE, H', ⟨by have := HK1.out; have := HK2.out; omega⟩, ⟨by (with_reducible repeat (first | apply Kd.Q_alloc | apply Kd.Q_drewN | apply Kd.Q_drew)); exact Kd.Q_mono HO_5.out (fun _ hk => hk.2)⟩, ⟨by refine qR ?_; exact HO353.out⟩, ⟨iS60 HI331.out⟩, ⟨wS60 HB.out⟩⟩
def slices_Min_int_int.l0 : Nat → List Int → Int → Int → Option (Int)
 | 0, _, _, _ => none
 | k + 1, x0, x3, x4 => if x4 < (x0.length : Int) then (if 0 ≤ x4 then (slices_Min_int_int.l0 k x0 (mn x3 (rd x0 x4)) (wrap64 (x4 + 1))) else (none)) else (some x3)
def slices_Min_int_int.f (k : Nat) (l0 : List Int) : Option (Int) := if (l0.length : Int) < 1 then (none) else (if 0 < (l0.length : Int) then (slices_Min_int_int.l0 k l0 (rd l0 0) 1) else (none))
theorem slices_Min_int_int.mono_l : ∀ k, (∀ y0 y1 y2, LeO (slices_Min_int_int.l0 k y0 y1 y2) (slices_Min_int_int.l0 (k + 1) y0 y1 y2))
 | 0 => fun _ _ _ r h => by simp [slices_Min_int_int.l0] at h
 | k + 1 => by
  have ih0 := slices_Min_int_int.mono_l k
  ·intro y0 y1 y2
   unfold slices_Min_int_int.l0
   repeat' first | (with_reducible first | exact ih0 _ _ _ | exact lR | exact lN | refine lI ?_ ?_ | refine lB ?_ fun _ => ?_) | exact ih0 _ _ _ | exact lN | refine lI ?_ ?_ | refine lB ?_ fun _ => ?_
theorem slices_Min_int_int.mono : ∀ a0 k, LeO (slices_Min_int_int.f k a0) (slices_Min_int_int.f (k + 1) a0) := by
 intro a0 k
 have ih0 := slices_Min_int_int.mono_l k
 unfold slices_Min_int_int.f
 repeat' first | (with_reducible first | exact ih0 _ _ _ | exact lR | exact lN | refine lI ?_ ?_ | refine lB ?_ fun _ => ?_) | exact ih0 _ _ _ | exact lN | refine lI ?_ ?_ | refine lB ?_ fun _ => ?_
set_option maxHeartbeats 8000000 in
set_option maxRecDepth 100000 in
theorem slices_Min_int_int.calls (k : Nat) (A0 : Option Addr) (c0 : Nat) (l0 : List Int) (r : Int) (w : World) (hr0 : Kd.C (Kd.int .i64) w A0 l0.length l0) (hc0 : l0.length ≤ c0) (h : slices_Min_int_int.f k l0 = some r) :
  Calls Try.prog 43 #[.slice A0 l0.length c0] w fun e w' => e = .returned (.int .i64 r) ∧ Below w.heap.size w w' := by
 have HR0 := aM hr0
 have HC0 := aM hc0
 clear hr0 hc0
 have HB := aM (Below.refl w.heap.size w)
 unfold slices_Min_int_int.f at h
 have H := h
 clear h
 by_cases c2 : (l0.length : Int) < 1
 ·rw [if_pos c2] at H
  exact absurd H (by simp)
 rw [if_neg c2] at H
 have c2b0 : decide ((l0.length : Int) < 1) = false := decide_eq_false c2
 have c2b1 : decide (l0.length < 1) = false := decide_eq_false (by omega)
 clear c2
 replace H := iS H
 obtain ⟨c3, H⟩ := H
 have c3b0 : decide (0 < (l0.length : Int)) = true := decide_eq_true c3
 have c3b1 : decide (0 < l0.length) = true := decide_eq_true (by omega)
 clear c3
 have H' := aM H
 clear H
 have p139 : 0 ≤ (0 : Int) := (by omega)
 have q139 : 0 < (l0.length : Int) := oD
 obtain ⟨ad139, e139, hx139_0⟩ := Kd.at_int HR0.out 0 p139 q139
 cases e139
 have qi139 : (0 < l0.length) = True := eq_true (by omega)
 (try rw [show ((0 : Int)).toNat = 0 from rfl] at hx139_0)
 (try rw [Addr.add_zero'] at hx139_0)
 replace p139 := eq_true p139
 replace q139 := eq_true q139
 go_enter Try.func43, Try.ntmps43
 go_wp2
 go_loopg [3, 4] k (fun kq v3 v4 w' => ∃ (x3_1 : Int) (x4_1 : Int), v3 = .int .i64 x3_1 ∧ v4 = .int .i64 x4_1 ∧ Aside0 (slices_Min_int_int.l0 kq l0 x3_1 x4_1 = some r) ∧ Aside0 (kq ≤ k) ∧ Aside0 (Below w.heap.size w w'))
 case atStart => exact ⟨(rd l0 0), (1), qE, qE, H', ⟨Nat.le_refl _⟩, ⟨by exact qW HB.out⟩⟩
 case round =>
  clear H'
  try clear c2
  try clear c2b0
  try clear c2b1
  try clear c3
  try clear c3b0
  try clear c3b1
  try clear hx139_0
  try clear p139
  try clear q139
  obtain ⟨x3_1, x4_1, rfl, rfl, HA, HK1, HB⟩ := hrel
  cases gk with
  | zero => exact absurd HA.out (by simp [slices_Min_int_int.l0])
  | succ k1 =>
   have H := HA.out
   clear HA
   simp only [slices_Min_int_int.l0] at H
   by_cases c4 : x4_1 < (l0.length : Int)
   rotate_left
   ·rw [if_neg c4] at H
    have c4b0 : decide (x4_1 < (l0.length : Int)) = false := decide_eq_false c4
    clear c4
    obtain rfl := Option.some.inj H
    go_wp2
    go_ret
    exact ⟨qX, by exact qW HB.out⟩
   rw [if_pos c4] at H
   have c4b0 : decide (x4_1 < (l0.length : Int)) = true := decide_eq_true c4
   clear c4
   replace H := iD H
   obtain ⟨c5b0, H⟩ := H
   obtain ⟨ji6, hji6⟩ : ∃ j_ : Int, (mn x3_1 (rd l0 x4_1)) = j_ := ⟨_, rfl⟩
   replace H : (slices_Min_int_int.l0 k1 l0 ji6 (wrap64 (x4_1 + 1))) = some r := by first | (rw [hji6] at H; exact H) | (simp only [hji6] at H ⊢; exact H)
   have hji6_ : (if (rd l0 x4_1) < x3_1 then (rd l0 x4_1) else x3_1) = ji6 := hji6
   have H' := aM H
   clear H
   obtain ⟨ad140, e140, hx140_0⟩ := Kd.at_int HR0.out x4_1 oD oD
   obtain rfl : ad139 = ad140 := (by injection e140)
   replace hx140_0 := bD HB hx140_0
   have p140 := eq_true (oD : 0 ≤ (x4_1 : Int))
   have q140 := eq_true (oD : x4_1 < (l0.length : Int))
   go_wp2
   go_roundg k1
   case measure => have := HK1.out; omega
   case rel => exact ⟨(ji6), (wrap64 (x4_1 + 1)), (by first | rfl | (simp; done) | (simp only [← hji6] <;> (first | rfl | simp)) | (simp [*]; done)), qE, H', ⟨by have := HK1.out; omega⟩, ⟨by exact qW HB.out⟩⟩
def slices_Max_int_int.l0 : Nat → List Int → Int → Int → Option (Int)
 | 0, _, _, _ => none
 | k + 1, x0, x3, x4 => if x4 < (x0.length : Int) then (if 0 ≤ x4 then (slices_Max_int_int.l0 k x0 (mx x3 (rd x0 x4)) (wrap64 (x4 + 1))) else (none)) else (some x3)
def slices_Max_int_int.f (k : Nat) (l0 : List Int) : Option (Int) := if (l0.length : Int) < 1 then (none) else (if 0 < (l0.length : Int) then (slices_Max_int_int.l0 k l0 (rd l0 0) 1) else (none))
theorem slices_Max_int_int.mono_l : ∀ k, (∀ y0 y1 y2, LeO (slices_Max_int_int.l0 k y0 y1 y2) (slices_Max_int_int.l0 (k + 1) y0 y1 y2))
 | 0 => fun _ _ _ r h => by simp [slices_Max_int_int.l0] at h
 | k + 1 => by
  have ih0 := slices_Max_int_int.mono_l k
  ·intro y0 y1 y2
   unfold slices_Max_int_int.l0
   repeat' first | (with_reducible first | exact ih0 _ _ _ | exact lR | exact lN | refine lI ?_ ?_ | refine lB ?_ fun _ => ?_) | exact ih0 _ _ _ | exact lN | refine lI ?_ ?_ | refine lB ?_ fun _ => ?_
theorem slices_Max_int_int.mono : ∀ a0 k, LeO (slices_Max_int_int.f k a0) (slices_Max_int_int.f (k + 1) a0) := by
 intro a0 k
 have ih0 := slices_Max_int_int.mono_l k
 unfold slices_Max_int_int.f
 repeat' first | (with_reducible first | exact ih0 _ _ _ | exact lR | exact lN | refine lI ?_ ?_ | refine lB ?_ fun _ => ?_) | exact ih0 _ _ _ | exact lN | refine lI ?_ ?_ | refine lB ?_ fun _ => ?_
set_option maxHeartbeats 8000000 in
set_option maxRecDepth 100000 in
theorem slices_Max_int_int.calls (k : Nat) (A0 : Option Addr) (c0 : Nat) (l0 : List Int) (r : Int) (w : World) (hr0 : Kd.C (Kd.int .i64) w A0 l0.length l0) (hc0 : l0.length ≤ c0) (h : slices_Max_int_int.f k l0 = some r) :
  Calls Try.prog 44 #[.slice A0 l0.length c0] w fun e w' => e = .returned (.int .i64 r) ∧ Below w.heap.size w w' := by
 have HR0 := aM hr0
 have HC0 := aM hc0
 clear hr0 hc0
 have HB := aM (Below.refl w.heap.size w)
 unfold slices_Max_int_int.f at h
 have H := h
 clear h
 by_cases c2 : (l0.length : Int) < 1
 ·rw [if_pos c2] at H
  exact absurd H (by simp)
 rw [if_neg c2] at H
 have c2b0 : decide ((l0.length : Int) < 1) = false := decide_eq_false c2
 have c2b1 : decide (l0.length < 1) = false := decide_eq_false (by omega)
 clear c2
 replace H := iS H
 obtain ⟨c3, H⟩ := H
 have c3b0 : decide (0 < (l0.length : Int)) = true := decide_eq_true c3
 have c3b1 : decide (0 < l0.length) = true := decide_eq_true (by omega)
 clear c3
 have H' := aM H
 clear H
 have p141 : 0 ≤ (0 : Int) := (by omega)
 have q141 : 0 < (l0.length : Int) := oD
 obtain ⟨ad141, e141, hx141_0⟩ := Kd.at_int HR0.out 0 p141 q141
 cases e141
 have qi141 : (0 < l0.length) = True := eq_true (by omega)
 (try rw [show ((0 : Int)).toNat = 0 from rfl] at hx141_0)
 (try rw [Addr.add_zero'] at hx141_0)
 replace p141 := eq_true p141
 replace q141 := eq_true q141
 go_enter Try.func44, Try.ntmps44
 go_wp2
 go_loopg [3, 4] k (fun kq v3 v4 w' => ∃ (x3_1 : Int) (x4_1 : Int), v3 = .int .i64 x3_1 ∧ v4 = .int .i64 x4_1 ∧ Aside0 (slices_Max_int_int.l0 kq l0 x3_1 x4_1 = some r) ∧ Aside0 (kq ≤ k) ∧ Aside0 (Below w.heap.size w w'))
 case atStart => exact ⟨(rd l0 0), (1), qE, qE, H', ⟨Nat.le_refl _⟩, ⟨by exact qW HB.out⟩⟩
 case round =>
  clear H'
  try clear c2
  try clear c2b0
  try clear c2b1
  try clear c3
  try clear c3b0
  try clear c3b1
  try clear hx141_0
  try clear p141
  try clear q141
  obtain ⟨x3_1, x4_1, rfl, rfl, HA, HK1, HB⟩ := hrel
  cases gk with
  | zero => exact absurd HA.out (by simp [slices_Max_int_int.l0])
  | succ k1 =>
   have H := HA.out
   clear HA
   simp only [slices_Max_int_int.l0] at H
   by_cases c4 : x4_1 < (l0.length : Int)
   rotate_left
   ·rw [if_neg c4] at H
    have c4b0 : decide (x4_1 < (l0.length : Int)) = false := decide_eq_false c4
    clear c4
    obtain rfl := Option.some.inj H
    go_wp2
    go_ret
    exact ⟨qX, by exact qW HB.out⟩
   rw [if_pos c4] at H
   have c4b0 : decide (x4_1 < (l0.length : Int)) = true := decide_eq_true c4
   clear c4
   replace H := iD H
   obtain ⟨c5b0, H⟩ := H
   obtain ⟨ji6, hji6⟩ : ∃ j_ : Int, (mx x3_1 (rd l0 x4_1)) = j_ := ⟨_, rfl⟩
   replace H : (slices_Max_int_int.l0 k1 l0 ji6 (wrap64 (x4_1 + 1))) = some r := by first | (rw [hji6] at H; exact H) | (simp only [hji6] at H ⊢; exact H)
   have hji6_ : (if x3_1 < (rd l0 x4_1) then (rd l0 x4_1) else x3_1) = ji6 := hji6
   have H' := aM H
   clear H
   obtain ⟨ad142, e142, hx142_0⟩ := Kd.at_int HR0.out x4_1 oD oD
   obtain rfl : ad141 = ad142 := (by injection e142)
   replace hx142_0 := bD HB hx142_0
   have p142 := eq_true (oD : 0 ≤ (x4_1 : Int))
   have q142 := eq_true (oD : x4_1 < (l0.length : Int))
   go_wp2
   go_roundg k1
   case measure => have := HK1.out; omega
   case rel => exact ⟨(ji6), (wrap64 (x4_1 + 1)), (by first | rfl | (simp; done) | (simp only [← hji6] <;> (first | rfl | simp)) | (simp [*]; done)), qE, H', ⟨by have := HK1.out; omega⟩, ⟨by exact qW HB.out⟩⟩
def spec_kraft.l0 : Nat → List Int → Int → Int → Option (Int)
 | 0, _, _, _ => none
 | k + 1, x0, x3, x4 => if x4 < (x0.length : Int) then (if 0 ≤ x4 then (if (rd x0 x4) > 0 then (if 0 ≤ (wrap64 (16 - (rd x0 x4))) then (spec_kraft.l0 k x0 (wrap64 (x3 + (shl .i64 1 (wrap64 (16 - (rd x0 x4)))))) (wrap64 (x4 + 1))) else (none)) else (spec_kraft.l0 k x0 x3 (wrap64 (x4 + 1)))) else (none)) else (some x3)
def spec_kraft.f (k : Nat) (l0 : List Int) : Option (Int) := spec_kraft.l0 k l0 0 0
theorem spec_kraft.mono_l : ∀ k, (∀ y0 y1 y2, LeO (spec_kraft.l0 k y0 y1 y2) (spec_kraft.l0 (k + 1) y0 y1 y2))
 | 0 => fun _ _ _ r h => by simp [spec_kraft.l0] at h
 | k + 1 => by
  have ih0 := spec_kraft.mono_l k
  ·intro y0 y1 y2
   unfold spec_kraft.l0
   repeat' first | (with_reducible first | exact ih0 _ _ _ | exact lR | exact lN | refine lI ?_ ?_ | refine lB ?_ fun _ => ?_) | exact ih0 _ _ _ | exact lN | refine lI ?_ ?_ | refine lB ?_ fun _ => ?_
theorem spec_kraft.mono : ∀ a0 k, LeO (spec_kraft.f k a0) (spec_kraft.f (k + 1) a0) := by
 intro a0 k
 have ih0 := spec_kraft.mono_l k
 unfold spec_kraft.f
 repeat' first | (with_reducible first | exact ih0 _ _ _ | exact lR | exact lN | refine lI ?_ ?_ | refine lB ?_ fun _ => ?_) | exact ih0 _ _ _ | exact lN | refine lI ?_ ?_ | refine lB ?_ fun _ => ?_
set_option maxHeartbeats 8000000 in
set_option maxRecDepth 100000 in
theorem spec_kraft.calls (k : Nat) (A0 : Option Addr) (c0 : Nat) (l0 : List Int) (r : Int) (w : World) (hr0 : Kd.C (Kd.int .i64) w A0 l0.length l0) (hc0 : l0.length ≤ c0) (h : spec_kraft.f k l0 = some r) :
  Calls Try.prog 49 #[.slice A0 l0.length c0] w fun e w' => e = .returned (.int .i64 r) ∧ Drawn0 w w' := by
 have HR0 := aM hr0
 have HC0 := aM hc0
 clear hr0 hc0
 unfold spec_kraft.f at h
 have H := h
 clear h
 have H' := aM H
 clear H
 go_enter Try.func49, Try.ntmps49
 go_wp2
 go_loopg [3, 4] k (fun kq v3 v4 w' => ∃ (x3_1 : Int) (x4_1 : Int), v3 = .int .i64 x3_1 ∧ v4 = .int .i64 x4_1 ∧ Aside0 (spec_kraft.l0 kq l0 x3_1 x4_1 = some r) ∧ Aside0 (kq ≤ k) ∧ Drawn0 w w')
 case atStart => exact ⟨(0), (0), qE, qE, H', ⟨Nat.le_refl _⟩, qD⟩
 case round =>
  clear H'
  obtain ⟨x3_1, x4_1, rfl, rfl, HA, HK1, ⟨m1, rfl⟩⟩ := hrel
  cases gk with
  | zero => exact absurd HA.out (by simp [spec_kraft.l0])
  | succ k1 =>
   have H := HA.out
   clear HA
   simp only [spec_kraft.l0] at H
   by_cases c2 : x4_1 < (l0.length : Int)
   rotate_left
   ·rw [if_neg c2] at H
    have c2b0 : decide (x4_1 < (l0.length : Int)) = false := decide_eq_false c2
    clear c2
    obtain rfl := Option.some.inj H
    go_wp2
    go_ret
    exact ⟨qE, qD⟩
   rw [if_pos c2] at H
   have c2b0 : decide (x4_1 < (l0.length : Int)) = true := decide_eq_true c2
   clear c2
   replace H := iD H
   obtain ⟨c3b0, H⟩ := H
   by_cases c4 : (rd l0 x4_1) > 0
   rotate_left
   ·rw [if_neg c4] at H
    have c4b0 : decide (0 < (rd l0 x4_1)) = false := decide_eq_false c4
    clear c4
    have H' := aM H
    clear H
    obtain ⟨ad103, e103, hx103_0⟩ := Kd.at_int HR0.out x4_1 oD oD
    cases e103
    have p103 := eq_true (oD : 0 ≤ (x4_1 : Int))
    have q103 := eq_true (oD : x4_1 < (l0.length : Int))
    go_wp2
    go_roundg k1
    case measure => have := HK1.out; omega
    case rel => exact ⟨(x3_1), (wrap64 (x4_1 + 1)), qE, qE, H', ⟨by have := HK1.out; omega⟩, qD⟩
   rw [if_pos c4] at H
   have c4b0 : decide (0 < (rd l0 x4_1)) = true := decide_eq_true c4
   clear c4
   obtain ⟨ji5, hji5⟩ : ∃ j_ : Int, (wrap64 (16 - (rd l0 x4_1))) = j_ := ⟨_, rfl⟩
   replace H : (if 0 ≤ (ji5) then (spec_kraft.l0 k1 l0 (wrap64 (x3_1 + (shl .i64 1 (ji5)))) (wrap64 (x4_1 + 1))) else (none)) = some r := by first | (rw [hji5] at H; exact H) | (simp only [hji5] at H ⊢; exact H)
   have hji5w : (IntKind.i64.wrap (16 - (rd l0 x4_1))) = ji5 := (i64_w _).trans hji5
   replace H := iS H
   obtain ⟨c6, H⟩ := H
   have c6b0 := eq_true c6
   have c6b1 : decide (0 ≤ (ji5)) = true := decide_eq_true c6
   clear c6
   obtain ⟨ji7, hji7⟩ : ∃ j_ : Int, (shl .i64 1 (ji5)) = j_ := ⟨_, rfl⟩
   replace H : (spec_kraft.l0 k1 l0 (wrap64 (x3_1 + (ji7))) (wrap64 (x4_1 + 1))) = some r := by first | (rw [hji7] at H; exact H) | (simp only [hji7] at H ⊢; exact H)
   have hji7_ : (IntKind.i64.wrap (1 * 2 ^ min (ji5).toNat 64)) = ji7 := hji7
   have hji7z : (ji5) ≤ 64 → (IntKind.i64.wrap (1 * 2 ^ (ji5).toNat)) = ji7 := shl_small hji7
   have hji7u : (IntKind.i64.wrap (2 ^ min (ji5).toNat 64)) = ji7 := by have h_ := hji7_; rw [Int.one_mul] at h_; exact h_
   have hji7v : (ji5) ≤ 64 → (IntKind.i64.wrap (2 ^ (ji5).toNat)) = ji7 := fun hle_ => by have h_ := hji7z hle_; rw [Int.one_mul] at h_; exact h_
   have hji7y : (wrap64 (1 * 2 ^ min (ji5).toNat 64)) = ji7 := (i64_w _).symm.trans hji7_
   have hji7x : (ji5) ≤ 64 → (wrap64 (1 * 2 ^ (ji5).toNat)) = ji7 := fun h_ => (i64_w _).symm.trans (hji7z h_)
   have H' := aM H
   clear H
   obtain ⟨ad103, e103, hx103_0⟩ := Kd.at_int HR0.out x4_1 oD oD
   cases e103
   have p103 := eq_true (oD : 0 ≤ (x4_1 : Int))
   have q103 := eq_true (oD : x4_1 < (l0.length : Int))
   obtain ⟨ad104, e104, hx104_0⟩ := Kd.at_int HR0.out x4_1 oD oD
   obtain rfl : ad103 = ad104 := (by injection e104)
   have p104 := eq_true (oD : 0 ≤ (x4_1 : Int))
   have q104 := eq_true (oD : x4_1 < (l0.length : Int))
   go_wp2
   go_roundg k1
   case measure => have := HK1.out; omega
   case rel => exact ⟨(wrap64 (x3_1 + (ji7))), (wrap64 (x4_1 + 1)), (by first | rfl | (simp; done) | (simp only [← hji7] <;> (first | rfl | simp)) | (simp [*]; done)), qE, H', ⟨by have := HK1.out; omega⟩, qD⟩
def spec_validLengths.f (k : Nat) (l0 : List Int) : Option (Bool) := (spec_inRange.f (l0.length : Int) 1 16).bind fun t105 => (if t105 = true then ((spec_allIn.f k l0 0 16).bind fun t106 => (if t106 = true then ((spec_kraft.f k l0).bind fun t107 => (some (decide (t107 ≤ 65536)))) else (some false))) else (some false))
theorem spec_validLengths.mono : ∀ a0 k, LeO (spec_validLengths.f k a0) (spec_validLengths.f (k + 1) a0) := by
 intro a0 k
 unfold spec_validLengths.f
 repeat' first | (with_reducible first | exact spec_allIn.mono _ _ _ _ | exact spec_kraft.mono _ _ | exact lR | exact lN | refine lI ?_ ?_ | refine lB ?_ fun _ => ?_) | exact spec_allIn.mono _ _ _ _ | exact spec_kraft.mono _ _ | exact lN | refine lI ?_ ?_ | refine lB ?_ fun _ => ?_
set_option maxHeartbeats 8000000 in
set_option maxRecDepth 100000 in
theorem spec_validLengths.calls (k : Nat) (A0 : Option Addr) (c0 : Nat) (l0 : List Int) (r : Bool) (w : World) (hr0 : Kd.C (Kd.int .i64) w A0 l0.length l0) (hc0 : l0.length ≤ c0) (h : spec_validLengths.f k l0 = some r) :
  Calls Try.prog 30 #[.slice A0 l0.length c0] w fun e w' => e = .returned (.bool r) ∧ Drawn0 w w' := by
 have HR0 := aM hr0
 have HC0 := aM hc0
 clear hr0 hc0
 unfold spec_validLengths.f at h
 have H := h
 clear h
 replace H := Option.bind_eq_some_iff.mp H
 obtain ⟨t105, A20, H⟩ := H
 replace H : (if t105 = true then ((spec_allIn.f k l0 0 16).bind fun t106 => (if t106 = true then ((spec_kraft.f k l0).bind fun t107 => (some (decide (t107 ≤ 65536)))) else (some false))) else (some false)) = some r := H
 have A2 := aM A20
 clear A20
 by_cases c3 : t105 = true
 rotate_left
 ·replace c3 := Bool.eq_false_iff.mpr c3
  subst c3
  have H1 : (some false) = some r := by rw [if_neg (show ¬ (false = true) by decide)] at H; exact H
  clear H
  have H := H1
  clear H1
  obtain rfl := Option.some.inj H
  go_enter Try.func30, Try.ntmps30
  go_wp2_with (first | ((with_reducible refine gate_callee (f := 47) rfl ?_); refine gL (some 5) Try.func47 #[.int .i64 (l0.length : Int), .int .i64 1, .int .i64 16] ?_; (with_reducible refine (spec_inRange.calls (l0.length : Int) 1 16 false _ A2.out).mono ?_); rintro e w' ⟨rfl, ⟨nd, rfl⟩⟩; refine ⟨_, rfl, ?_⟩))
  go_ret
  exact ⟨qE, qD⟩
 subst c3
 have H1 : ((spec_allIn.f k l0 0 16).bind fun t106 => (if t106 = true then ((spec_kraft.f k l0).bind fun t107 => (some (decide (t107 ≤ 65536)))) else (some false))) = some r := by rw [if_pos rfl] at H; exact H
 clear H
 have H := H1
 clear H1
 replace H := Option.bind_eq_some_iff.mp H
 obtain ⟨t106, A40, H⟩ := H
 replace H : (if t106 = true then ((spec_kraft.f k l0).bind fun t107 => (some (decide (t107 ≤ 65536)))) else (some false)) = some r := H
 have A4 := aM A40
 clear A40
 by_cases c5 : t106 = true
 rotate_left
 ·replace c5 := Bool.eq_false_iff.mpr c5
  subst c5
  have H1 : (some false) = some r := by rw [if_neg (show ¬ (false = true) by decide)] at H; exact H
  clear H
  have H := H1
  clear H1
  obtain rfl := Option.some.inj H
  go_enter Try.func30, Try.ntmps30
  go_wp2_with (first | ((with_reducible refine gate_callee (f := 47) rfl ?_); refine gL (some 5) Try.func47 #[.int .i64 (l0.length : Int), .int .i64 1, .int .i64 16] ?_; (with_reducible refine (spec_inRange.calls (l0.length : Int) 1 16 true _ A2.out).mono ?_); rintro e w' ⟨rfl, ⟨nd, rfl⟩⟩; refine ⟨_, rfl, ?_⟩) | (go_at_call 48; (with_reducible refine (spec_allIn.calls k _ _ l0 0 16 false _ ?side1 ?side2 A4.out).mono ?_); (case side1 => exact qC HR0.out); (case side2 => exact HC0.out); rintro e w' ⟨rfl, ⟨nd, rfl⟩⟩))
  go_ret
  exact ⟨qE, qD⟩
 subst c5
 have H1 : ((spec_kraft.f k l0).bind fun t107 => (some (decide (t107 ≤ 65536)))) = some r := by rw [if_pos rfl] at H; exact H
 clear H
 have H := H1
 clear H1
 replace H := Option.bind_eq_some_iff.mp H
 obtain ⟨t107, A60, H⟩ := H
 replace H : (some (decide (t107 ≤ 65536))) = some r := H
 have A6 := aM A60
 clear A60
 obtain rfl := Option.some.inj H
 go_enter Try.func30, Try.ntmps30
 go_wp2_with (first | ((with_reducible refine gate_callee (f := 47) rfl ?_); refine gL (some 5) Try.func47 #[.int .i64 (l0.length : Int), .int .i64 1, .int .i64 16] ?_; (with_reducible refine (spec_inRange.calls (l0.length : Int) 1 16 true _ A2.out).mono ?_); rintro e w' ⟨rfl, ⟨nd, rfl⟩⟩; refine ⟨_, rfl, ?_⟩) | (go_at_call 48; (with_reducible refine (spec_allIn.calls k _ _ l0 0 16 true _ ?side1 ?side2 A4.out).mono ?_); (case side1 => exact qC HR0.out); (case side2 => exact HC0.out); rintro e w' ⟨rfl, ⟨nd, rfl⟩⟩) | (go_at_call 49; (with_reducible refine (spec_kraft.calls k _ _ l0 t107 _ ?side1 ?side2 A6.out).mono ?_); (case side1 => exact qC HR0.out); (case side2 => exact HC0.out); rintro e w' ⟨rfl, ⟨nd, rfl⟩⟩))
 go_ret
 exact ⟨qE, qD⟩
mutual
def spec_canonicalCodes.l0 : Nat → List Int → List Int → Int → Int → Option (List Int)
 | 0, _, _, _, _ => none
 | k + 1, x0, x3, x4, x5 => if x5 ≤ 16 then (spec_canonicalCodes.l1 k x0 x3 (wrap64 (2 * x4)) x5 0) else (some x3)
def spec_canonicalCodes.l1 : Nat → List Int → List Int → Int → Int → Int → Option (List Int)
 | 0, _, _, _, _, _ => none
 | k + 1, x0, x3, x4, x5, x6 => if x6 < (x0.length : Int) then (if 0 ≤ x6 then (if (rd x0 x6) = x5 then (if x6 < (x3.length : Int) then (spec_canonicalCodes.l1 k x0 (x3.set (x6 : Int).toNat x4) (wrap64 (x4 + 1)) x5 (wrap64 (x6 + 1))) else (none)) else (spec_canonicalCodes.l1 k x0 x3 x4 x5 (wrap64 (x6 + 1)))) else (none)) else (spec_canonicalCodes.l0 k x0 x3 x4 (wrap64 (x5 + 1)))
end
def spec_canonicalCodes.f (k : Nat) (l0 : List Int) : Option (List Int) := if 0 ≤ (l0.length : Int) then (if ((l0.length : Int) : Int).toNat ≤ 35184372088832 then (spec_canonicalCodes.l0 k l0 (List.replicate ((l0.length : Int) : Int).toNat 0) 0 1) else (none)) else (none)
theorem spec_canonicalCodes.mono_l : ∀ k, (∀ y0 y1 y2 y3, LeO (spec_canonicalCodes.l0 k y0 y1 y2 y3) (spec_canonicalCodes.l0 (k + 1) y0 y1 y2 y3)) ∧ (∀ y0 y1 y2 y3 y4, LeO (spec_canonicalCodes.l1 k y0 y1 y2 y3 y4) (spec_canonicalCodes.l1 (k + 1) y0 y1 y2 y3 y4))
 | 0 => ⟨fun _ _ _ _ r h => by simp [spec_canonicalCodes.l0] at h, fun _ _ _ _ _ r h => by simp [spec_canonicalCodes.l1] at h⟩
 | k + 1 => by
  obtain ⟨ih0, ih1⟩ := spec_canonicalCodes.mono_l k
  refine ⟨?_, ?_⟩
  all_goals intros
  all_goals first | unfold spec_canonicalCodes.l0 | unfold spec_canonicalCodes.l1
  all_goals repeat' first | (with_reducible first | exact ih0 _ _ _ _ | exact ih1 _ _ _ _ _ | exact lR | exact lN | refine lI ?_ ?_ | refine lB ?_ fun _ => ?_) | exact ih0 _ _ _ _ | exact ih1 _ _ _ _ _ | exact lN | refine lI ?_ ?_ | refine lB ?_ fun _ => ?_
theorem spec_canonicalCodes.mono : ∀ a0 k, LeO (spec_canonicalCodes.f k a0) (spec_canonicalCodes.f (k + 1) a0) := by
 intro a0 k
 obtain ⟨ih0, ih1⟩ := spec_canonicalCodes.mono_l k
 unfold spec_canonicalCodes.f
 repeat' first | (with_reducible first | exact ih0 _ _ _ _ | exact ih1 _ _ _ _ _ | exact lR | exact lN | refine lI ?_ ?_ | refine lB ?_ fun _ => ?_) | exact ih0 _ _ _ _ | exact ih1 _ _ _ _ _ | exact lN | refine lI ?_ ?_ | refine lB ?_ fun _ => ?_
set_option maxHeartbeats 8000000 in
set_option maxRecDepth 100000 in
theorem spec_canonicalCodes.calls (k : Nat) (A0 : Option Addr) (c0 : Nat) (l0 : List Int) (r : List Int) (w : World) (hr0 : Kd.C (Kd.int .i64) w A0 l0.length l0) (hc0 : l0.length ≤ c0) (h : spec_canonicalCodes.f k l0 = some r) :
  Calls Try.prog 38 #[.slice A0 l0.length c0] w fun e w' => ∃ v0_ : Value, e = .returned (v0_) ∧ Kd.R (Kd.int .i64) 3 w' w.heap.size (fun _ => True) v0_ r ∧ Below w.heap.size w w' := by
 have HR0 := aM hr0
 have HC0 := aM hc0
 clear hr0 hc0
 have HB := aM (Below.refl w.heap.size w)
 unfold spec_canonicalCodes.f at h
 have H := h
 clear h
 replace H := iS H
 obtain ⟨c2, H⟩ := H
 have c2b0 := eq_true c2
 have c2b1 : decide (0 ≤ (l0.length : Int)) = true := decide_eq_true c2
 clear c2
 replace H := iS H
 obtain ⟨c3, H⟩ := H
 have c3b0 := eq_true c3
 have c3b1 : decide (((l0.length : Int) : Int).toNat ≤ 35184372088832) = true := decide_eq_true c3
 clear c3
 obtain ⟨y108, hy108⟩ : ∃ y_ : List Int, y_ = (List.replicate ((l0.length : Int) : Int).toNat 0) := ⟨_, rfl⟩
 replace H : (spec_canonicalCodes.l0 k l0 y108 0 1) = some r := rY hy108 H
 have Ny108 := aM hy108
 clear hy108
 have H' := aM H
 clear H
 go_enter Try.func38, Try.ntmps38
 go_wp2_with (first | ((with_reducible refine gate_dst (N := 9) rfl ?_); refine Kd.R_make (Kd.int .i64) _ 3 rfl (N := 9) rfl 22 _ _ rfl (l0.length : Int) rfl rfl Try.underlying22 (.int .i64 0) 8 info3 rfl (by decide) (by omega) 0 (ok := fun _ => True) (okp := fun _ => True) rfl (fun _ hk => hk) trivial oD (Nat.le_trans (Nat.mul_le_mul_right _ (oD : (l0.length : Int).toNat ≤ 35184372088832)) (by omega)) (Below.refl _ _) (Nat.le_refl _) ?_; intro v109 w4 ho5 hb hg_ hnew_; clear hg_ hnew_; (first | rw [← Ny108.out] at ho5 | (simp only [Int.reduceToNat] at ho5; rw [← Ny108.out] at ho5)); have HO110 := oR ho5 HB; replace HB := bS HB hb; clear hb ho5))
 go_loopg [4, 5] k (fun kq v4 v5 w' => ∃ (x3_1 : List Int) (x4_1 : Int) (x5_1 : Int), v4 = .int .i64 x4_1 ∧ v5 = .int .i64 x5_1 ∧ Aside0 (spec_canonicalCodes.l0 kq l0 x3_1 x4_1 x5_1 = some r) ∧ Aside0 (kq ≤ k) ∧ Aside0 (Kd.R (Kd.int .i64) 3 w' w.heap.size (fun _ => True) v109 x3_1) ∧ Aside0 (Below w.heap.size w w'))
 case atStart => exact ⟨(y108), (0), (1), qE, qE, H', ⟨Nat.le_refl _⟩, ⟨by refine qR ?_; exact HO110.out⟩, ⟨by exact qW HB.out⟩⟩
 case round =>
  clear H'
  try clear c2
  try clear c2b0
  try clear c2b1
  try clear c3
  try clear c3b0
  try clear c3b1
  obtain ⟨x3_1, x4_1, x5_1, rfl, rfl, HA, HK1, HO_3, HB⟩ := hrel
  cases gk with
  | zero => exact absurd HA.out (by simp [spec_canonicalCodes.l0])
  | succ k1 =>
   have H := HA.out
   clear HA
   simp only [spec_canonicalCodes.l0] at H
   by_cases c6 : x5_1 ≤ 16
   rotate_left
   ·rw [if_neg c6] at H
    have c6b0 : decide (x5_1 ≤ 16) = false := decide_eq_false c6
    clear c6
    obtain rfl := Option.some.inj H
    go_wp2
    go_ret
    exact ⟨_, qX, by refine qR ?_; exact HO_3.out, by exact qW HB.out⟩
   rw [if_pos c6] at H
   have c6b0 : decide (x5_1 ≤ 16) = true := decide_eq_true c6
   clear c6
   have H' := aM H
   clear H
   go_wp2
   go_loopg [4, 6] k1 (fun kq v4 v6 w' => ∃ (x3_2 : List Int) (x4_2 : Int) (x6_2 : Int), v4 = .int .i64 x4_2 ∧ v6 = .int .i64 x6_2 ∧ Aside0 (spec_canonicalCodes.l1 kq l0 x3_2 x4_2 x5_1 x6_2 = some r) ∧ Aside0 (kq ≤ k1) ∧ Aside0 (Kd.R (Kd.int .i64) 3 w' w.heap.size (fun _ => True) v109 x3_2) ∧ Aside0 (Below w.heap.size w w'))
   case atStart => exact ⟨(x3_1), (wrap64 (2 * x4_1)), (0), qE, qE, H', ⟨Nat.le_refl _⟩, ⟨by refine qR ?_; exact HO_3.out⟩, ⟨by exact qW HB.out⟩⟩
   case round =>
    clear H'
    try clear c2
    try clear c2b0
    try clear c2b1
    try clear c3
    try clear c3b0
    try clear c3b1
    try clear c6
    try clear c6b0
    obtain ⟨x3_2, x4_2, x6_2, rfl, rfl, HA, HK2, HO_3, HB⟩ := hrel
    cases gk with
    | zero => exact absurd HA.out (by simp [spec_canonicalCodes.l1])
    | succ k2 =>
     have H := HA.out
     clear HA
     simp only [spec_canonicalCodes.l1] at H
     by_cases c7 : x6_2 < (l0.length : Int)
     rotate_left
     ·rw [if_neg c7] at H
      have c7b0 : decide (x6_2 < (l0.length : Int)) = false := decide_eq_false c7
      clear c7
      have H' := aM H
      clear H
      go_wp2
      go_roundg k2
      case measure => have := HK1.out; have := HK2.out; omega
      case rel => exact ⟨(x3_2), (x4_2), (wrap64 (x5_1 + 1)), qE, qE, H', ⟨by have := HK1.out; have := HK2.out; omega⟩, ⟨by refine qR ?_; exact HO_3.out⟩, ⟨by exact qW HB.out⟩⟩
     rw [if_pos c7] at H
     have c7b0 : decide (x6_2 < (l0.length : Int)) = true := decide_eq_true c7
     clear c7
     replace H := iD H
     obtain ⟨c8b0, H⟩ := H
     by_cases c9 : (rd l0 x6_2) = x5_1
     rotate_left
     ·rw [if_neg c9] at H
      have c9b0 : ((rd l0 x6_2) == x5_1) = false := beq_eq_false_iff_ne.mpr c9
      have c9b1 : ((rd l0 x6_2) != x5_1) = true := bne_iff_ne.mpr c9
      have H' := aM H
      clear H
      obtain ⟨ad111, e111, hx111_0⟩ := Kd.at_int HR0.out x6_2 oD oD
      cases e111
      replace hx111_0 := bD HB hx111_0
      have p111 := eq_true (oD : 0 ≤ (x6_2 : Int))
      have q111 := eq_true (oD : x6_2 < (l0.length : Int))
      go_wp2
      go_roundg k2
      case measure => have := HK1.out; have := HK2.out; omega
      case rel => exact ⟨(x3_2), (x4_2), (wrap64 (x6_2 + 1)), qE, qE, H', ⟨by have := HK1.out; have := HK2.out; omega⟩, ⟨by refine qR ?_; exact HO_3.out⟩, ⟨by exact qW HB.out⟩⟩
     rw [if_pos c9] at H
     have c9b0 : ((rd l0 x6_2) == x5_1) = true := beq_iff_eq.mpr c9
     have c9b1 : ((rd l0 x6_2) != x5_1) = false := bne_eq_false_iff_eq.mpr c9
     clear c9
     replace H := iD H
     obtain ⟨c10b0, H⟩ := H
     obtain ⟨y112, hy112⟩ : ∃ y_ : List Int, y_ = (x3_2.set (x6_2 : Int).toNat x4_2) := ⟨_, rfl⟩
     replace H : (spec_canonicalCodes.l1 k2 l0 y112 (wrap64 (x4_2 + 1)) x5_1 (wrap64 (x6_2 + 1))) = some r := rY hy112 H
     have Ny112 := aM hy112
     clear hy112
     have H' := aM H
     clear H
     obtain ⟨ad111, e111, hx111_0⟩ := Kd.at_int HR0.out x6_2 oD oD
     cases e111
     replace hx111_0 := bD HB hx111_0
     have p111 := eq_true (oD : 0 ≤ (x6_2 : Int))
     have q111 := eq_true (oD : x6_2 < (l0.length : Int))
     have p11 : 0 ≤ (x6_2 : Int) := oD
     have q11 : (x6_2 : Int) < ((x3_2.length : Int) : Int) := oD
     obtain ⟨go11, co11, eo11, gb11, gl11, cl11, HG11⟩ := Kd.R_form HO_3.out (by omega)
     (first | cases eo11 | (injection eo11 with ea_ en_ ec_; (first | subst ea_ | (injection ea_ with ea_; subst ea_)); subst ec_; clear en_))
     have GB11 := aM gb11
     have GG11 := aM HG11
     clear gb11 gl11 HG11
     obtain ⟨hx11_0, hf11_0⟩ := Kd.R_celln 0 HO_3.out (x6_2 : Int) p11 q11
     replace p11 := eq_true p11
     replace q11 := eq_true q11
     have HP12 := Kd.R_putg HO_3.out (x6_2 : Int) x4_2
     go_wp2_with (first | ((with_reducible refine gate_store (t := 3) (p := 31) rfl ?_); refine store_event (t := 3) (p := 31) (v := ?vo_w13) (w1 := (wr.setCell ⟨go11, (x6_2 : Int).toNat, none⟩ (.int .i64 x4_2))) ?hg ?ho ?hn ?hr ?_; (case ho => rfl); (case hg => rfl); (case hn => rfl); (case hr => first | (go_simp; done) | (go_simp; rfl)); intro w13 hw; have hg : wr.grownBy w13 (some go11) := (by rw [hw]; exact HP12.2); have hp_ : Kd.R (Kd.int .i64) 3 w13 w.heap.size (fun _ => True) (.slice (some ⟨go11, 0, none⟩) x3_2.length co11) y112 := (by rw [hw, Ny112.out]; exact HP12.1); clear HP12; replace HO_3 := aM (hp_); replace HB := aM ((by rw [hw]; exact below_set (HB.out) GB11.out : Below w.heap.size w w13)); clear hg hw hp_))
     go_roundg k2
     case measure => have := HK1.out; have := HK2.out; omega
     case rel => exact ⟨(y112), (wrap64 (x4_2 + 1)), (wrap64 (x6_2 + 1)), qE, qE, H', ⟨by have := HK1.out; have := HK2.out; omega⟩, ⟨by refine qR ?_; exact HO_3.out⟩, ⟨by exact qW HB.out⟩⟩
mutual
def impl_canonical.j0 : Nat → List Int → Bool → Option (List Int × Bool)
 | 0, _, _ => none
 | k + 1, x0, x29 => if x29 = true then (some (([] : List Int), false)) else (impl_canonical.l0 k x0 0 x0 (x0.length : Int) 0)
def impl_canonical.l0 : Nat → List Int → Int → List Int → Int → Int → Option (List Int × Bool)
 | 0, _, _, _, _, _ => none
 | k + 1, x0, x4, x30, x31, x32 => if x32 < x31 then (if 0 ≤ x32 then (if x32 < (x30.length : Int) then (if (rd x30 x32) > 0 then (if 0 ≤ (wrap64 (16 - (rd x30 x32))) then (impl_canonical.l0 k x0 (wrap64 (x4 + (shl .i64 1 (wrap64 (16 - (rd x30 x32)))))) x30 x31 (wrap64 (x32 + 1))) else (none)) else (impl_canonical.l0 k x0 x4 x30 x31 (wrap64 (x32 + 1)))) else (none)) else (none)) else (if x4 > 65536 then (some (([] : List Int), false)) else (if 0 ≤ (x0.length : Int) then (if ((x0.length : Int) : Int).toNat ≤ 35184372088832 then (impl_canonical.l1 k x0 (List.replicate ((x0.length : Int) : Int).toNat 0) 0 1) else (none)) else (none)))
def impl_canonical.l1 : Nat → List Int → List Int → Int → Int → Option (List Int × Bool)
 | 0, _, _, _, _ => none
 | k + 1, x0, x7, x8, x9 => if x9 ≤ 16 then (impl_canonical.l2 k x0 x7 (wrap64 (x8 * 2)) x9 x0 (x0.length : Int) 0) else (some (x7, true))
def impl_canonical.l2 : Nat → List Int → List Int → Int → Int → List Int → Int → Int → Option (List Int × Bool)
 | 0, _, _, _, _, _, _, _ => none
 | k + 1, x0, x7, x8, x9, x55, x56, x57 => if x57 < x56 then (if 0 ≤ x57 then (if x57 < (x55.length : Int) then (if (rd x55 x57) = x9 then (if x57 < (x7.length : Int) then (impl_canonical.l2 k x0 (x7.set (x57 : Int).toNat x8) (wrap64 (x8 + 1)) x9 x55 x56 (wrap64 (x57 + 1))) else (none)) else (impl_canonical.l2 k x0 x7 x8 x9 x55 x56 (wrap64 (x57 + 1)))) else (none)) else (none)) else (impl_canonical.l1 k x0 x7 x8 (wrap64 (x9 + 1)))
end
def impl_canonical.f (k : Nat) (l0 : List Int) : Option (List Int × Bool) := if (l0.length : Int) < 1 then (impl_canonical.j0 k l0 true) else (if (l0.length : Int) > 16 then (impl_canonical.j0 k l0 true) else ((slices_Min_int_int.f k l0).bind fun t143 => (if t143 < 0 then (impl_canonical.j0 k l0 true) else ((slices_Max_int_int.f k l0).bind fun t144 => (impl_canonical.j0 k l0 (decide (t144 > 16)))))))
theorem impl_canonical.mono_l : ∀ k, (∀ y0 y1, LeO (impl_canonical.j0 k y0 y1) (impl_canonical.j0 (k + 1) y0 y1)) ∧ (∀ y0 y1 y2 y3 y4, LeO (impl_canonical.l0 k y0 y1 y2 y3 y4) (impl_canonical.l0 (k + 1) y0 y1 y2 y3 y4)) ∧ (∀ y0 y1 y2 y3, LeO (impl_canonical.l1 k y0 y1 y2 y3) (impl_canonical.l1 (k + 1) y0 y1 y2 y3)) ∧ (∀ y0 y1 y2 y3 y4 y5 y6, LeO (impl_canonical.l2 k y0 y1 y2 y3 y4 y5 y6) (impl_canonical.l2 (k + 1) y0 y1 y2 y3 y4 y5 y6))
 | 0 => ⟨fun _ _ r h => by simp [impl_canonical.j0] at h, fun _ _ _ _ _ r h => by simp [impl_canonical.l0] at h, fun _ _ _ _ r h => by simp [impl_canonical.l1] at h, fun _ _ _ _ _ _ _ r h => by simp [impl_canonical.l2] at h⟩
 | k + 1 => by
  obtain ⟨ih0, ih1, ih2, ih3⟩ := impl_canonical.mono_l k
  refine ⟨?_, ?_, ?_, ?_⟩
  all_goals intros
  all_goals first | unfold impl_canonical.j0 | unfold impl_canonical.l0 | unfold impl_canonical.l1 | unfold impl_canonical.l2
  all_goals repeat' first | (with_reducible first | exact ih0 _ _ | exact ih1 _ _ _ _ _ | exact ih2 _ _ _ _ | exact ih3 _ _ _ _ _ _ _ | exact slices_Max_int_int.mono _ _ | exact slices_Min_int_int.mono _ _ | exact lR | exact lN | refine lI ?_ ?_ | refine lB ?_ fun _ => ?_) | exact ih0 _ _ | exact ih1 _ _ _ _ _ | exact ih2 _ _ _ _ | exact ih3 _ _ _ _ _ _ _ | exact slices_Max_int_int.mono _ _ | exact slices_Min_int_int.mono _ _ | exact lN | refine lI ?_ ?_ | refine lB ?_ fun _ => ?_
theorem impl_canonical.mono : ∀ a0 k, LeO (impl_canonical.f k a0) (impl_canonical.f (k + 1) a0) := by
 intro a0 k
 obtain ⟨ih0, ih1, ih2, ih3⟩ := impl_canonical.mono_l k
 unfold impl_canonical.f
 repeat' first | (with_reducible first | exact ih0 _ _ | exact ih1 _ _ _ _ _ | exact ih2 _ _ _ _ | exact ih3 _ _ _ _ _ _ _ | exact slices_Max_int_int.mono _ _ | exact slices_Min_int_int.mono _ _ | exact lR | exact lN | refine lI ?_ ?_ | refine lB ?_ fun _ => ?_) | exact ih0 _ _ | exact ih1 _ _ _ _ _ | exact ih2 _ _ _ _ | exact ih3 _ _ _ _ _ _ _ | exact slices_Max_int_int.mono _ _ | exact slices_Min_int_int.mono _ _ | exact lN | refine lI ?_ ?_ | refine lB ?_ fun _ => ?_
set_option maxHeartbeats 8000000 in
set_option maxRecDepth 100000 in
theorem impl_canonical.calls (k : Nat) (A0 : Option Addr) (c0 : Nat) (l0 : List Int) (r1 : List Int) (r2 : Bool) (w : World) (hr0 : Kd.C (Kd.int .i64) w A0 l0.length l0) (hc0 : l0.length ≤ c0) (h : impl_canonical.f k l0 = some (r1, r2)) :
  Calls Try.prog 32 #[.slice A0 l0.length c0] w fun e w' => ∃ v0_ : Value, e = .returned (.tuple #[v0_, .bool r2]) ∧ Kd.R (Kd.int .i64) 3 w' w.heap.size (fun _ => True) v0_ r1 ∧ Below w.heap.size w w' := by
 have HR0 := aM hr0
 have HC0 := aM hc0
 clear hr0 hc0
 have HB := aM (Below.refl w.heap.size w)
 unfold impl_canonical.f at h
 have H := h
 clear h
 have HC2 := aM H
 clear H
 go_enter Try.func32, Try.ntmps32
 go_upto_region 1 with (fail)
 go_cut [29] (fun v29 wc => ∃ (kq : Nat) (x29_1 : Bool), v29 = .bool x29_1 ∧ Aside0 (impl_canonical.j0 kq l0 x29_1 = some (r1, r2)) ∧ Aside0 (kq ≤ k) ∧ Aside0 (Below w.heap.size w wc))
 case first =>
  have H := HC2.out
  clear HC2
  by_cases c3 : (l0.length : Int) < 1
  ·rw [if_pos c3] at H
   have c3b0 : decide ((l0.length : Int) < 1) = true := decide_eq_true c3
   have c3b1 : decide (l0.length < 1) = true := decide_eq_true (by omega)
   clear c3
   (first | rw [c3b0] | (simp only [i64_w, i32_w]; rw [c3b0]) | skip)
   have H' := aM H
   clear H
   go_wp2
   go_meet
   case rel => exact ⟨_, (true), qE, H', ⟨by first | omega | exact Nat.le_refl _⟩, ⟨by exact qW HB.out⟩⟩
  rw [if_neg c3] at H
  have c3b0 : decide ((l0.length : Int) < 1) = false := decide_eq_false c3
  have c3b1 : decide (l0.length < 1) = false := decide_eq_false (by omega)
  clear c3
  (first | rw [c3b0] | (simp only [i64_w, i32_w]; rw [c3b0]) | skip)
  by_cases c4 : (l0.length : Int) > 16
  ·rw [if_pos c4] at H
   have c4b0 : decide (16 < (l0.length : Int)) = true := decide_eq_true c4
   have c4b1 : decide (16 < l0.length) = true := decide_eq_true (by omega)
   clear c4
   have H' := aM H
   clear H
   go_wp2
   go_meet
   case rel => exact ⟨_, (true), qE, H', ⟨by first | omega | exact Nat.le_refl _⟩, ⟨by exact qW HB.out⟩⟩
  rw [if_neg c4] at H
  have c4b0 : decide (16 < (l0.length : Int)) = false := decide_eq_false c4
  have c4b1 : decide (16 < l0.length) = false := decide_eq_false (by omega)
  clear c4
  replace H := Option.bind_eq_some_iff.mp H
  obtain ⟨t143, A50, H⟩ := H
  replace H : (if t143 < 0 then (impl_canonical.j0 k l0 true) else ((slices_Max_int_int.f k l0).bind fun t144 => (impl_canonical.j0 k l0 (decide (t144 > 16))))) = some (r1, r2) := H
  have A5 := aM A50
  clear A50
  by_cases c6 : t143 < 0
  ·rw [if_pos c6] at H
   have c6b0 : decide (t143 < 0) = true := decide_eq_true c6
   clear c6
   have H' := aM H
   clear H
   go_wp2_with (first | (go_at_call 43; (with_reducible refine (slices_Min_int_int.calls k _ _ l0 t143 _ ?side1 ?side2 A5.out).mono ?_); (case side1 => exact qC (Kd.C_below HR0.out HB.out)); (case side2 => exact HC0.out); rintro e w7 ⟨rfl, hb⟩; replace HB := bS HB hb; clear hb))
   go_meet
   case rel => exact ⟨_, (true), qE, H', ⟨by first | omega | exact Nat.le_refl _⟩, ⟨by exact qW HB.out⟩⟩
  rw [if_neg c6] at H
  have c6b0 : decide (t143 < 0) = false := decide_eq_false c6
  clear c6
  replace H := Option.bind_eq_some_iff.mp H
  obtain ⟨t144, A80, H⟩ := H
  replace H : (impl_canonical.j0 k l0 (decide (t144 > 16))) = some (r1, r2) := H
  have A8 := aM A80
  clear A80
  have H' := aM H
  clear H
  go_wp2_with (first | (go_at_call 43; (with_reducible refine (slices_Min_int_int.calls k _ _ l0 t143 _ ?side1 ?side2 A5.out).mono ?_); (case side1 => exact qC (Kd.C_below HR0.out HB.out)); (case side2 => exact HC0.out); rintro e w9 ⟨rfl, hb⟩; replace HB := bS HB hb; clear hb) | (go_at_call 44; (with_reducible refine (slices_Max_int_int.calls k _ _ l0 t144 _ ?side1 ?side2 A8.out).mono ?_); (case side1 => exact qC (Kd.C_below HR0.out HB.out)); (case side2 => exact HC0.out); rintro e w10 ⟨rfl, hb⟩; replace HB := bS HB hb; clear hb))
  go_meet
  case rel => exact ⟨_, (decide (t144 > 16)), qE, H', ⟨by first | omega | exact Nat.le_refl _⟩, ⟨by exact qW HB.out⟩⟩
 case rest =>
  clear HC2
  try clear c3
  try clear c3b0
  try clear c3b1
  try clear c4
  try clear c4b0
  try clear c4b1
  try clear c6
  try clear c6b0
  obtain ⟨kq, x29_1, rfl, HA, HJ1, HB⟩ := hcut
  cases kq with
  | zero => exact absurd HA.out (by simp [impl_canonical.j0])
  | succ kj1 =>
   have H := HA.out
   clear HA
   simp only [impl_canonical.j0] at H
   by_cases c11 : x29_1 = true
   ·subst c11
    have H1 : (some (([] : List Int), false)) = some (r1, r2) := by rw [if_pos rfl] at H; exact H
    clear H
    have H := H1
    clear H1
    simp only [Option.some.injEq, Prod.mk.injEq] at H
    obtain ⟨rfl, rfl⟩ := H
    go_wp2
    go_ret2
    exact ⟨_, qX, qN, by exact qW HB.out⟩
   replace c11 := Bool.eq_false_iff.mpr c11
   subst c11
   have H1 : (impl_canonical.l0 kj1 l0 0 l0 (l0.length : Int) 0) = some (r1, r2) := by rw [if_neg (show ¬ (false = true) by decide)] at H; exact H
   clear H
   have H := H1
   clear H1
   have H' := aM H
   clear H
   go_wp2
   go_loopg [4, 32] kj1 (fun kq v4 v32 w' => ∃ (x4_2 : Int) (x32_2 : Int), v4 = .int .i64 x4_2 ∧ v32 = .int .i64 x32_2 ∧ Aside0 (impl_canonical.l0 kq l0 x4_2 l0 (l0.length : Int) x32_2 = some (r1, r2)) ∧ Aside0 (kq ≤ kj1) ∧ Aside0 (Below w.heap.size w w'))
   case atStart => exact ⟨(0), (0), qE, qE, H', ⟨Nat.le_refl _⟩, ⟨by exact qW HB.out⟩⟩
   case round =>
    clear H'
    try clear c3
    try clear c3b0
    try clear c3b1
    try clear c4
    try clear c4b0
    try clear c4b1
    try clear c6
    try clear c6b0
    try clear c11
    obtain ⟨x4_2, x32_2, rfl, rfl, HA, HK2, HB⟩ := hrel
    cases gk with
    | zero => exact absurd HA.out (by simp [impl_canonical.l0])
    | succ k2 =>
     have H := HA.out
     clear HA
     simp only [impl_canonical.l0] at H
     by_cases c12 : x32_2 < (l0.length : Int)
     ·rw [if_pos c12] at H
      have c12b0 : decide (x32_2 < (l0.length : Int)) = true := decide_eq_true c12
      clear c12
      replace H := iD H
      obtain ⟨c13b0, H⟩ := H
      replace H := iD H
      obtain ⟨c14b0, H⟩ := H
      by_cases c15 : (rd l0 x32_2) > 0
      rotate_left
      ·rw [if_neg c15] at H
       have c15b0 : decide (0 < (rd l0 x32_2)) = false := decide_eq_false c15
       clear c15
       have H' := aM H
       clear H
       obtain ⟨ad145, e145, hx145_0⟩ := Kd.at_int HR0.out x32_2 oD oD
       cases e145
       replace hx145_0 := bD HB hx145_0
       have p145 := eq_true (oD : 0 ≤ (x32_2 : Int))
       have q145 := eq_true (oD : x32_2 < (l0.length : Int))
       go_wp2
       go_roundg k2
       case measure => have := HJ1.out; have := HK2.out; omega
       case rel => exact ⟨(x4_2), (wrap64 (x32_2 + 1)), qE, qE, H', ⟨by have := HJ1.out; have := HK2.out; omega⟩, ⟨by exact qW HB.out⟩⟩
      rw [if_pos c15] at H
      have c15b0 : decide (0 < (rd l0 x32_2)) = true := decide_eq_true c15
      clear c15
      obtain ⟨ji16, hji16⟩ : ∃ j_ : Int, (wrap64 (16 - (rd l0 x32_2))) = j_ := ⟨_, rfl⟩
      replace H : (if 0 ≤ (ji16) then (impl_canonical.l0 k2 l0 (wrap64 (x4_2 + (shl .i64 1 (ji16)))) l0 (l0.length : Int) (wrap64 (x32_2 + 1))) else (none)) = some (r1, r2) := by first | (rw [hji16] at H; exact H) | (simp only [hji16] at H ⊢; exact H)
      have hji16w : (IntKind.i64.wrap (16 - (rd l0 x32_2))) = ji16 := (i64_w _).trans hji16
      replace H := iS H
      obtain ⟨c17, H⟩ := H
      have c17b0 := eq_true c17
      have c17b1 : decide (0 ≤ (ji16)) = true := decide_eq_true c17
      clear c17
      obtain ⟨ji18, hji18⟩ : ∃ j_ : Int, (shl .i64 1 (ji16)) = j_ := ⟨_, rfl⟩
      replace H : (impl_canonical.l0 k2 l0 (wrap64 (x4_2 + (ji18))) l0 (l0.length : Int) (wrap64 (x32_2 + 1))) = some (r1, r2) := by first | (rw [hji18] at H; exact H) | (simp only [hji18] at H ⊢; exact H)
      have hji18_ : (IntKind.i64.wrap (1 * 2 ^ min (ji16).toNat 64)) = ji18 := hji18
      have hji18z : (ji16) ≤ 64 → (IntKind.i64.wrap (1 * 2 ^ (ji16).toNat)) = ji18 := shl_small hji18
      have hji18u : (IntKind.i64.wrap (2 ^ min (ji16).toNat 64)) = ji18 := by have h_ := hji18_; rw [Int.one_mul] at h_; exact h_
      have hji18v : (ji16) ≤ 64 → (IntKind.i64.wrap (2 ^ (ji16).toNat)) = ji18 := fun hle_ => by have h_ := hji18z hle_; rw [Int.one_mul] at h_; exact h_
      have hji18y : (wrap64 (1 * 2 ^ min (ji16).toNat 64)) = ji18 := (i64_w _).symm.trans hji18_
      have hji18x : (ji16) ≤ 64 → (wrap64 (1 * 2 ^ (ji16).toNat)) = ji18 := fun h_ => (i64_w _).symm.trans (hji18z h_)
      have H' := aM H
      clear H
      obtain ⟨ad145, e145, hx145_0⟩ := Kd.at_int HR0.out x32_2 oD oD
      cases e145
      replace hx145_0 := bD HB hx145_0
      have p145 := eq_true (oD : 0 ≤ (x32_2 : Int))
      have q145 := eq_true (oD : x32_2 < (l0.length : Int))
      go_wp2
      go_roundg k2
      case measure => have := HJ1.out; have := HK2.out; omega
      case rel => exact ⟨(wrap64 (x4_2 + (ji18))), (wrap64 (x32_2 + 1)), (by first | rfl | (simp; done) | (simp only [← hji18] <;> (first | rfl | simp)) | (simp [*]; done)), qE, H', ⟨by have := HJ1.out; have := HK2.out; omega⟩, ⟨by exact qW HB.out⟩⟩
     rw [if_neg c12] at H
     have c12b0 : decide (x32_2 < (l0.length : Int)) = false := decide_eq_false c12
     clear c12
     by_cases c19 : x4_2 > 65536
     ·rw [if_pos c19] at H
      have c19b0 : decide (65536 < x4_2) = true := decide_eq_true c19
      clear c19
      simp only [Option.some.injEq, Prod.mk.injEq] at H
      obtain ⟨rfl, rfl⟩ := H
      go_wp2
      go_ret2
      exact ⟨_, qX, qN, by exact qW HB.out⟩
     rw [if_neg c19] at H
     have c19b0 : decide (65536 < x4_2) = false := decide_eq_false c19
     clear c19
     replace H := iS H
     obtain ⟨c20, H⟩ := H
     have c20b0 := eq_true c20
     have c20b1 : decide (0 ≤ (l0.length : Int)) = true := decide_eq_true c20
     clear c20
     replace H := iS H
     obtain ⟨c21, H⟩ := H
     have c21b0 := eq_true c21
     have c21b1 : decide (((l0.length : Int) : Int).toNat ≤ 35184372088832) = true := decide_eq_true c21
     clear c21
     obtain ⟨y146, hy146⟩ : ∃ y_ : List Int, y_ = (List.replicate ((l0.length : Int) : Int).toNat 0) := ⟨_, rfl⟩
     replace H : (impl_canonical.l1 k2 l0 y146 0 1) = some (r1, r2) := rY hy146 H
     have Ny146 := aM hy146
     clear hy146
     have H' := aM H
     clear H
     go_wp2_with (first | ((with_reducible refine gate_dst (N := 48) rfl ?_); (try (refine gate_guard (by rfl) ?_; dsimp only)); refine Kd.R_make (Kd.int .i64) _ 3 rfl (N := 48) rfl 22 _ _ rfl (l0.length : Int) rfl rfl Try.underlying22 (.int .i64 0) 8 info3 rfl (by decide) (by omega) 0 (ok := fun _ => True) (okp := fun _ => True) rfl (fun _ hk => hk) trivial oD (Nat.le_trans (Nat.mul_le_mul_right _ (oD : (l0.length : Int).toNat ≤ 35184372088832)) (by omega)) (Below.refl _ _) (Nat.le_refl _) ?_; intro v147 w22 ho23 hb hg_ hnew_; clear hg_ hnew_; (first | rw [← Ny146.out] at ho23 | (simp only [Int.reduceToNat] at ho23; rw [← Ny146.out] at ho23)); have HO148 := oR ho23 HB; replace HB := bS HB hb; clear hb ho23))
     go_loopg [8, 9] k2 (fun kq v8 v9 w' => ∃ (x7_3 : List Int) (x8_3 : Int) (x9_3 : Int), v8 = .int .i64 x8_3 ∧ v9 = .int .i64 x9_3 ∧ Aside0 (impl_canonical.l1 kq l0 x7_3 x8_3 x9_3 = some (r1, r2)) ∧ Aside0 (kq ≤ k2) ∧ Aside0 (Kd.R (Kd.int .i64) 3 w' w.heap.size (fun _ => True) v147 x7_3) ∧ Aside0 (Below w.heap.size w w'))
     case atStart => exact ⟨(y146), (0), (1), qE, qE, H', ⟨Nat.le_refl _⟩, ⟨by refine qR ?_; exact HO148.out⟩, ⟨by exact qW HB.out⟩⟩
     case round =>
      clear H'
      try clear c3
      try clear c3b0
      try clear c3b1
      try clear c4
      try clear c4b0
      try clear c4b1
      try clear c6
      try clear c6b0
      try clear c11
      try clear c12
      try clear c12b0
      try clear c13b0
      try clear c14b0
      try clear c15
      try clear c15b0
      try clear c17
      try clear c17b0
      try clear c17b1
      try clear c19
      try clear c19b0
      try clear c20
      try clear c20b0
      try clear c20b1
      try clear c21
      try clear c21b0
      try clear c21b1
      try clear hx145_0
      try clear p145
      try clear q145
      obtain ⟨x7_3, x8_3, x9_3, rfl, rfl, HA, HK3, HO_7, HB⟩ := hrel
      cases gk with
      | zero => exact absurd HA.out (by simp [impl_canonical.l1])
      | succ k3 =>
       have H := HA.out
       clear HA
       simp only [impl_canonical.l1] at H
       by_cases c24 : x9_3 ≤ 16
       rotate_left
       ·rw [if_neg c24] at H
        have c24b0 : decide (x9_3 ≤ 16) = false := decide_eq_false c24
        clear c24
        simp only [Option.some.injEq, Prod.mk.injEq] at H
        obtain ⟨rfl, rfl⟩ := H
        go_wp2
        go_ret2
        exact ⟨_, qX, by refine qR ?_; exact HO_7.out, by exact qW HB.out⟩
       rw [if_pos c24] at H
       have c24b0 : decide (x9_3 ≤ 16) = true := decide_eq_true c24
       clear c24
       have H' := aM H
       clear H
       go_wp2
       go_loopg [8, 57] k3 (fun kq v8 v57 w' => ∃ (x7_4 : List Int) (x8_4 : Int) (x57_4 : Int), v8 = .int .i64 x8_4 ∧ v57 = .int .i64 x57_4 ∧ Aside0 (impl_canonical.l2 kq l0 x7_4 x8_4 x9_3 l0 (l0.length : Int) x57_4 = some (r1, r2)) ∧ Aside0 (kq ≤ k3) ∧ Aside0 (Kd.R (Kd.int .i64) 3 w' w.heap.size (fun _ => True) v147 x7_4) ∧ Aside0 (Below w.heap.size w w'))
       case atStart => exact ⟨(x7_3), (wrap64 (x8_3 * 2)), (0), qE, qE, H', ⟨Nat.le_refl _⟩, ⟨by refine qR ?_; exact HO_7.out⟩, ⟨by exact qW HB.out⟩⟩
       case round =>
        clear H'
        try clear c3
        try clear c3b0
        try clear c3b1
        try clear c4
        try clear c4b0
        try clear c4b1
        try clear c6
        try clear c6b0
        try clear c11
        try clear c12
        try clear c12b0
        try clear c13b0
        try clear c14b0
        try clear c15
        try clear c15b0
        try clear c17
        try clear c17b0
        try clear c17b1
        try clear c19
        try clear c19b0
        try clear c20
        try clear c20b0
        try clear c20b1
        try clear c21
        try clear c21b0
        try clear c21b1
        try clear c24
        try clear c24b0
        try clear hx145_0
        try clear p145
        try clear q145
        obtain ⟨x7_4, x8_4, x57_4, rfl, rfl, HA, HK4, HO_7, HB⟩ := hrel
        cases gk with
        | zero => exact absurd HA.out (by simp [impl_canonical.l2])
        | succ k4 =>
         have H := HA.out
         clear HA
         simp only [impl_canonical.l2] at H
         by_cases c25 : x57_4 < (l0.length : Int)
         rotate_left
         ·rw [if_neg c25] at H
          have c25b0 : decide (x57_4 < (l0.length : Int)) = false := decide_eq_false c25
          clear c25
          have H' := aM H
          clear H
          go_wp2
          go_roundg k4
          case measure => have := HJ1.out; have := HK2.out; have := HK3.out; have := HK4.out; omega
          case rel => exact ⟨(x7_4), (x8_4), (wrap64 (x9_3 + 1)), qE, qE, H', ⟨by have := HJ1.out; have := HK2.out; have := HK3.out; have := HK4.out; omega⟩, ⟨by refine qR ?_; exact HO_7.out⟩, ⟨by exact qW HB.out⟩⟩
         rw [if_pos c25] at H
         have c25b0 : decide (x57_4 < (l0.length : Int)) = true := decide_eq_true c25
         clear c25
         replace H := iD H
         obtain ⟨c26b0, H⟩ := H
         replace H := iD H
         obtain ⟨c27b0, H⟩ := H
         by_cases c28 : (rd l0 x57_4) = x9_3
         rotate_left
         ·rw [if_neg c28] at H
          have c28b0 : ((rd l0 x57_4) == x9_3) = false := beq_eq_false_iff_ne.mpr c28
          have c28b1 : ((rd l0 x57_4) != x9_3) = true := bne_iff_ne.mpr c28
          have H' := aM H
          clear H
          obtain ⟨ad149, e149, hx149_0⟩ := Kd.at_int HR0.out x57_4 oD oD
          cases e149
          replace hx149_0 := bD HB hx149_0
          have p149 := eq_true (oD : 0 ≤ (x57_4 : Int))
          have q149 := eq_true (oD : x57_4 < (l0.length : Int))
          go_wp2
          go_roundg k4
          case measure => have := HJ1.out; have := HK2.out; have := HK3.out; have := HK4.out; omega
          case rel => exact ⟨(x7_4), (x8_4), (wrap64 (x57_4 + 1)), qE, qE, H', ⟨by have := HJ1.out; have := HK2.out; have := HK3.out; have := HK4.out; omega⟩, ⟨by refine qR ?_; exact HO_7.out⟩, ⟨by exact qW HB.out⟩⟩
         rw [if_pos c28] at H
         have c28b0 : ((rd l0 x57_4) == x9_3) = true := beq_iff_eq.mpr c28
         have c28b1 : ((rd l0 x57_4) != x9_3) = false := bne_eq_false_iff_eq.mpr c28
         clear c28
         replace H := iD H
         obtain ⟨c29b0, H⟩ := H
         obtain ⟨y150, hy150⟩ : ∃ y_ : List Int, y_ = (x7_4.set (x57_4 : Int).toNat x8_4) := ⟨_, rfl⟩
         replace H : (impl_canonical.l2 k4 l0 y150 (wrap64 (x8_4 + 1)) x9_3 l0 (l0.length : Int) (wrap64 (x57_4 + 1))) = some (r1, r2) := rY hy150 H
         have Ny150 := aM hy150
         clear hy150
         have H' := aM H
         clear H
         obtain ⟨ad149, e149, hx149_0⟩ := Kd.at_int HR0.out x57_4 oD oD
         cases e149
         replace hx149_0 := bD HB hx149_0
         have p149 := eq_true (oD : 0 ≤ (x57_4 : Int))
         have q149 := eq_true (oD : x57_4 < (l0.length : Int))
         have p30 : 0 ≤ (x57_4 : Int) := oD
         have q30 : (x57_4 : Int) < ((x7_4.length : Int) : Int) := oD
         obtain ⟨go30, co30, eo30, gb30, gl30, cl30, HG30⟩ := Kd.R_form HO_7.out (by omega)
         (first | cases eo30 | (injection eo30 with ea_ en_ ec_; (first | subst ea_ | (injection ea_ with ea_; subst ea_)); subst ec_; clear en_))
         have GB30 := aM gb30
         have GG30 := aM HG30
         clear gb30 gl30 HG30
         obtain ⟨hx30_0, hf30_0⟩ := Kd.R_celln 0 HO_7.out (x57_4 : Int) p30 q30
         replace p30 := eq_true p30
         replace q30 := eq_true q30
         have HP31 := Kd.R_putg HO_7.out (x57_4 : Int) x8_4
         go_wp2_with (first | ((with_reducible refine gate_store (t := 3) (p := 68) rfl ?_); refine store_event (t := 3) (p := 68) (v := ?vo_w32) (w1 := (wr.setCell ⟨go30, (x57_4 : Int).toNat, none⟩ (.int .i64 x8_4))) ?hg ?ho ?hn ?hr ?_; (case ho => rfl); (case hg => rfl); (case hn => rfl); (case hr => first | (go_simp; done) | (go_simp; rfl)); intro w32 hw; have hg : wr.grownBy w32 (some go30) := (by rw [hw]; exact HP31.2); have hp_ : Kd.R (Kd.int .i64) 3 w32 w.heap.size (fun _ => True) (.slice (some ⟨go30, 0, none⟩) x7_4.length co30) y150 := (by rw [hw, Ny150.out]; exact HP31.1); clear HP31; replace HO_7 := aM (hp_); replace HB := aM ((by rw [hw]; exact below_set (HB.out) GB30.out : Below w.heap.size w w32)); clear hg hw hp_))
         go_roundg k4
         case measure => have := HJ1.out; have := HK2.out; have := HK3.out; have := HK4.out; omega
         case rel => exact ⟨(y150), (wrap64 (x8_4 + 1)), (wrap64 (x57_4 + 1)), qE, qE, H', ⟨by have := HJ1.out; have := HK2.out; have := HK3.out; have := HK4.out; omega⟩, ⟨by refine qR ?_; exact HO_7.out⟩, ⟨by exact qW HB.out⟩⟩
def impl_CanonicalCodes.f (k : Nat) (l0 : List Int) : Option (List Int) := (impl_canonical.f k l0).bind fun bt534 => (some bt534.1)
theorem impl_CanonicalCodes.mono : ∀ a0 k, LeO (impl_CanonicalCodes.f k a0) (impl_CanonicalCodes.f (k + 1) a0) := by
 intro a0 k
 unfold impl_CanonicalCodes.f
 repeat' first | (with_reducible first | exact impl_canonical.mono _ _ | exact lR | exact lN | refine lI ?_ ?_ | refine lB ?_ fun _ => ?_) | exact impl_canonical.mono _ _ | exact lN | refine lI ?_ ?_ | refine lB ?_ fun _ => ?_
set_option maxHeartbeats 8000000 in
set_option maxRecDepth 100000 in
theorem impl_CanonicalCodes.calls (k : Nat) (A0 : Option Addr) (c0 : Nat) (l0 : List Int) (r : List Int) (w : World) (hr0 : Kd.C (Kd.int .i64) w A0 l0.length l0) (hc0 : l0.length ≤ c0) (h : impl_CanonicalCodes.f k l0 = some r) :
  Calls Try.prog 28 #[.slice A0 l0.length c0] w fun e w' => ∃ v0_ : Value, e = .returned (v0_) ∧ Kd.R (Kd.int .i64) 3 w' w.heap.size (fun _ => True) v0_ r ∧ Below w.heap.size w w' := by
 have HR0 := aM hr0
 have HC0 := aM hc0
 clear hr0 hc0
 have HB := aM (Below.refl w.heap.size w)
 unfold impl_CanonicalCodes.f at h
 have H := h
 clear h
 replace H := Option.bind_eq_some_iff.mp H
 obtain ⟨⟨t534, t535⟩, A20, H⟩ := H
 replace H : (some t534) = some r := H
 have A2 := aM A20
 clear A20
 obtain rfl := Option.some.inj H
 go_enter Try.func28, Try.ntmps28
 go_wp2_with (first | ((with_reducible refine gate_callee (f := 32) rfl ?_); refine gL (some 7) Try.func32 #[.slice A0 l0.length c0] ?_; (with_reducible refine (impl_canonical.calls k _ _ l0 t534 t535 _ ?side1 ?side2 A2.out).mono ?_); (case side1 => exact qC HR0.out); (case side2 => exact HC0.out); rintro e w3 ⟨v536, rfl, ho0, hb⟩; refine ⟨_, rfl, ?_⟩; have HO537 := oR ho0 HB; replace HB := bS HB hb; clear hb ho0))
 go_ret
 exact ⟨_, qX, by refine qR ?_; exact HO537.out, by exact qW HB.out⟩
end Go.Proofs.Ytcmkijmjafgkfaa.P
