/- Contracts and row, written by a program of this place out of the translation: the call answers true and its argument reads as before, for every input; no condition. -/
import Derived.Test.YtnamhlcdlbjcfaaK0
import Derived.Test.YtnamhlcdlbjcfaaK1
namespace Go.Proofs.Ytnamhlcdlbjcfaa.P
open Go.RowKit Go.Proofs.YtnamhlcdlbjcfaaW.PrintWords Go.Proofs.YtnamhlcdlbjcfaaW.PrintLast Go.Proofs.YtnamhlcdlbjcfaaW.PrintMore
attribute [local go_sem] max2_int min2_int max_two min_two max_three min_three max_four min_four   -- for this text's walks alone
set_option linter.unusedVariables false
set_option linter.unusedSimpArgs false
def imgRow (f : Int → Int → List Int) (y : Int) (n : Nat) : List Int := (List.range n).flatMap fun j : Nat => f j y
def imgOf (f : Int → Int → List Int) (n m : Nat) : List Int := (List.range m).flatMap fun i : Nat => imgRow f i n
theorem imgRow_succ (f : Int → Int → List Int) (y : Int) (n : Nat) : imgRow f y (n + 1) = imgRow f y n ++ f n y := by
 unfold imgRow
 rw [List.range_succ, List.flatMap_append]
 simp
theorem imgOf_succ (f : Int → Int → List Int) (n m : Nat) : imgOf f n (m + 1) = imgOf f n m ++ imgRow f m n := by
 unfold imgOf
 rw [List.range_succ, List.flatMap_append]
 simp
theorem imgRow_len (f : Int → Int → List Int) (y : Int) (n L : Nat) (h : ∀ j : Nat, j < n → (f j y).length ≤ L) : (imgRow f y n).length ≤ n * L := by
 induction n with
 | zero => simp [imgRow]
 | succ n ih =>
  rw [imgRow_succ, List.length_append, Nat.succ_mul]
  have := ih fun j hj => h j (by omega)
  have := h n (by omega)
  omega
theorem imgOf_len (f : Int → Int → List Int) (n m L : Nat) (h : ∀ i j : Nat, i < m → j < n → (f j i).length ≤ L) : (imgOf f n m).length ≤ m * (n * L) := by
 induction m with
 | zero => simp [imgOf]
 | succ m ih =>
  rw [imgOf_succ, List.length_append, Nat.succ_mul]
  have := ih fun i j hi hj => h i j (by omega) hj
  have := imgRow_len f m n L fun j hj => h m j (by omega) hj
  omega
def PixAt (g : Nat) (lb : Array Value) (f : Int → Int → List Int) (n m : Int) (w : World) : Prop :=
 ∀ (W : World) (x y : Int), Below w.heap.size w W → 0 ≤ x → x < n → 0 ≤ y → y < m →
  Calls Try.prog g (#[.int .i64 x, .int .i64 y] ++ lb) W fun e w' => ∃ (A : Option Addr) (c : Nat), e = .returned (.slice A (f x y).length c) ∧ Kd.C (Kd.int .i64) w' A (f x y).length (f x y) ∧ (f x y).length ≤ c ∧ Below W.heap.size W w'
set_option maxHeartbeats 8000000 in
set_option maxRecDepth 100000 in
theorem impl_imageBy.calls (g : Nat) (lb : Array Value) (eg : ∀ args w, (callFunc g args).run Try.prog w = .ok (.enter g args) w) (f : Int → Int → List Int) (a0 : Int) (a1 : Int) (a2 : Int) (w : World)
  (h0 : 0 ≤ a0) (h0' : a0 ≤ 16) (h1 : 0 ≤ a1) (h1' : a1 ≤ 16) (hf : ∀ x y : Int, (f x y).length ≤ 100) (hp : PixAt g lb f a0 a1 w) :
  Calls Try.prog 49 #[.int .i64 a0, .int .i64 a1, .int .i64 a2, .func (.func g) #[] lb] w fun e w' => ∃ v3_ : Value, e = .returned (.agg #[.int .i64 a0, .int .i64 a1, .int .i64 a2, v3_]) ∧ Kd.R (Kd.int .i64) 3 w' w.heap.size (fun _ => True) v3_ (imgOf f a0.toNat a1.toNat) ∧ Below w.heap.size w w' := by
 have hu26 := Try.underlying26
 obtain ⟨n, rfl⟩ := Int.eq_ofNat_of_zero_le h0
 obtain ⟨m, rfl⟩ := Int.eq_ofNat_of_zero_le h1
 simp only [Int.toNat_natCast]
 have HP := aM hp
 have HF := aM hf
 have HB := aM (Below.refl w.heap.size w)
 have HN := aM h0'
 have HM := aM h1'
 clear hp hf h0 h1 h0' h1'
 go_enter Try.func49, Try.ntmps49
 go_wp2_with (first | ((with_reducible refine gate_dst (N := 8) rfl ?_); (try (refine gate_guard (by rfl) ?_; dsimp only)); refine bxE (N := 8) (cs := #[.int .i64 0, .int .i64 0, .int .i64 0, .slice none 0 0]) (t := 26) ?_; intro gr hg w5 hbox hb; have BKr := aM (hbox); have GEr := aM ((by rw [hg]; exact (below_size (qW HB.out)) : w.heap.size ≤ gr)); replace HB := bS HB hb; clear hb hbox hg) | ((with_reducible refine gate_dst (N := 9) rfl ?_); (try (refine gate_guard (by rfl) ?_; dsimp only)); refine bxE (N := 9) (cs := #[.int .i64 0, .int .i64 0, .int .i64 0, .slice none 0 0]) (t := 26) ?_; intro gm hg w6 hbox hb; have BKm := aM (hbox); have GEm := aM ((by rw [hg]; exact (below_size (qW HB.out)) : w.heap.size ≤ gm)); replace HB := bS HB hb; have NBrm := aM ((by rw [hg]; exact Nat.ne_of_lt (blk_lt (g := gr) (o := .cells #[.int .i64 0, .int .i64 0, .int .i64 0, .slice none 0 0] 26 (0, 0)) (qB BKr.out)) : gr ≠ gm)); have NBmr := aM ((by rw [hg]; exact Nat.ne_of_gt (blk_lt (g := gr) (o := .cells #[.int .i64 0, .int .i64 0, .int .i64 0, .slice none 0 0] 26 (0, 0)) (qB BKr.out)) : gm ≠ gr)); replace BKr := bB BKr hb; clear hb hbox hg; have hnb7 := NBmr.out; have hnc7 := NBrm.out; obtain ⟨⟨hcz8_0, hcz8_1, hcz8_2, hcz8_3⟩, hfz8_0, hfz8_1, hfz8_2, hfz8_3⟩ := cf4 BKm))
 go_loopg [17] m (fun gg s17 w' => ∃ (k : Nat) (u : Value), k ≤ m ∧ m - k ≤ gg ∧ s17 = .int .i64 k ∧ Aside0 (Kd.R (Kd.int .i64) 3 w' w.heap.size (fun _ => True) u (imgOf f n k)) ∧ Aside0 (w'.heap[gr]? = some (.cells #[.int .i64 0, .int .i64 0, .int .i64 0, (.slice none 0 0)] 26 (0, 0))) ∧ Aside0 (w'.heap[gm]? = some (.cells #[.int .i64 n, .int .i64 m, .int .i64 a2, u] 26 (0, 0))) ∧ Aside0 (Below w.heap.size w w'))
 case atStart =>
  refine ⟨0, .slice none 0 0, Nat.zero_le _, by omega, rfl, ⟨Kd.R_nil _ _ _ _ _⟩, ⟨?_⟩, ⟨?_⟩, ⟨?_⟩⟩
  rotate_left 2
  ·exact qW HB.out
  ·refine qB ?_; refine blk_far ?_ NBrm.out _; refine qB ?_; refine blk_far ?_ NBrm.out _; refine qB ?_; refine blk_far ?_ NBrm.out _; refine qB ?_; refine blk_far ?_ NBrm.out _; refine qB ?_; exact BKr.out
  exact bP BKm.out
 case round =>
  clear HB BKr BKm
  try clear hcz8_0 hcz8_1 hcz8_2 hcz8_3 hfz8_0 hfz8_1 hfz8_2 hfz8_3
  obtain ⟨k, u, hk, hg, rfl, HO, BKr, BKm, HB⟩ := hrel
  by_cases hlt : k < m
  rotate_left
  ·have hltz : ¬ (k : Int) < (m : Int) := by omega
   have ek : k = m := by omega
   subst ek
   have hnb26 := NBmr.out
   have hnc26 := NBrm.out
   obtain ⟨⟨hcz27_0, hcz27_1, hcz27_2, hcz27_3⟩, hfz27_0, hfz27_1, hfz27_2, hfz27_3⟩ := cf4 BKm
   obtain ⟨⟨hcz28_0, hcz28_1, hcz28_2, hcz28_3⟩, hfz28_0, hfz28_1, hfz28_2, hfz28_3⟩ := cf4 BKr
   obtain ⟨Ao29, co29, rfl⟩ := sL HO
   go_wp2
   refine bodyPost_ret (results_cell_row rfl _ _ gr 26 #[.int .i64 n, .int .i64 k, .int .i64 a2, .slice Ao29 (imgOf f n k).length co29] (0, 0) _ rfl (by exact bP BKr.out) Try.underlying26 rfl (by kernel_rfl)) rfl ?_
   exact ⟨_, by first | rfl | (simp; done), by refine qR ?_; exact Kd.R_mono (Kd.R_far (p := ⟨gr, 3, none⟩) (Kd.R_far (p := ⟨gr, 2, none⟩) (Kd.R_far (p := ⟨gr, 1, none⟩) (Kd.R_far (p := ⟨gr, 0, none⟩) (Kd.R_types HO.out BKr.out (by decide)) (fun _ hk => hk.2) _) (fun _ hk => hk.2) _) (fun _ hk => hk.2) _) (fun _ hk => hk.2) _) (fun _ hk => trivial), by exact qW HB.out⟩
  have hltz : (k : Int) < (m : Int) := by omega
  have hk16 : (k : Int) ≤ 16 := by have := HM.out; omega
  obtain ⟨wo, rfl⟩ : ∃ wo : World, wo = wr := ⟨_, rfl⟩
  go_wp2
  go_loopg [21] n (fun gg2 s21 w' => ∃ (j : Nat) (u2 : Value), j ≤ n ∧ n - j ≤ gg2 ∧ s21 = .int .i64 j ∧ Aside0 (Kd.R (Kd.int .i64) 3 w' w.heap.size (fun _ => True) u2 (imgOf f n k ++ imgRow f k j)) ∧ Aside0 (w'.heap[gr]? = some (.cells #[.int .i64 0, .int .i64 0, .int .i64 0, (.slice none 0 0)] 26 (0, 0))) ∧ Aside0 (w'.heap[gm]? = some (.cells #[.int .i64 n, .int .i64 m, .int .i64 a2, u2] 26 (0, 0))) ∧ Aside0 (Below w.heap.size w w'))
  case atStart =>
   refine ⟨0, u, Nat.zero_le _, by omega, rfl, ⟨?_⟩, ⟨?_⟩, ⟨?_⟩, ⟨?_⟩⟩
   rotate_left
   ·refine qB ?_; exact BKr.out
   ·refine qB ?_; exact BKm.out
   ·exact qW HB.out
   rw [show imgOf f n k ++ imgRow f k 0 = imgOf f n k from List.append_nil _]
   refine qR ?_; exact HO.out
  case round =>
   clear HO HB BKr BKm
   obtain ⟨j, u2, hj, hg2, rfl, HO, BKr, BKm, HB⟩ := hrel
   by_cases hjlt : j < n
   rotate_left
   ·have hjz : ¬ (j : Int) < (n : Int) := by omega
    have ej : j = n := by omega
    subst ej
    go_wp2
    go_roundg (m - (k + 1))
    case measure => omega
    case rel =>
     refine ⟨k + 1, u2, by omega, by omega, by go_num, ⟨?_⟩, ⟨?_⟩, ⟨?_⟩, ⟨?_⟩⟩
     rotate_left
     ·refine qB ?_; exact BKr.out
     ·refine qB ?_; exact BKm.out
     ·exact qW HB.out
     rw [imgOf_succ]
     (with_reducible repeat (first | apply Kd.R_alloc | apply Kd.R_drewN | apply Kd.R_drew))
     exact HO.out
   have hjz : (j : Int) < (n : Int) := by omega
   have hj16 : (j : Int) ≤ 16 := by have := HN.out; omega
   have hj0 : (0 : Int) ≤ (j : Int) := by omega
   have hk0 : (0 : Int) ≤ (k : Int) := by omega
   have NEr := aM (Kd.R_ne HO.out BKr.out (by decide))
   have NEm := aM (Kd.R_ne HO.out BKm.out (by decide))
   go_wp2
   replace HO := aM (Kd.R_drew HO.out)
   replace BKr := aM (blk_drew BKr.out)
   replace BKm := aM (blk_drew BKm.out)
   replace HB := aM (below_drew1 HB.out)
   refine start_ (n := 9) (S := fun w' => w'.cell? ⟨gm, 3, none⟩ = some u2) (ds := [8]) (bA 9 0) (by kernel_rfl) rfl rfl ((blk_cell BKm.out 3).trans rfl) (fun hHeld => ?_)
   generalize wr.drew = w27 at HO BKr BKm HB hHeld ⊢
   refine pure_ (i := 0) (N := some 24) (v := ?_) (a' := ?_) (bA 9 1) rfl rfl (by kernel_rfl) (fun _ _ _ h => h) (Or.inl ⟨by rfl, ?_⟩) ?_ ?_
   rotate_left
   ·intro w'
    go_simp
    with_reducible rfl
   rotate_left
   ·refine pZ ?_
    rfl
   refine pure_ (i := 2) (N := some 26) (v := ?_) (a' := ?_) (bA 9 5) rfl rfl (by kernel_rfl) (fun _ _ _ h => h) (Or.inl ⟨by rfl, ?_⟩) ?_ ?_
   rotate_left
   ·intro w'
    go_simp
    with_reducible rfl
   rotate_left
   ·refine pZ ?_
    rfl
   refine pure_ (i := 3) (N := some 27) (v := ?_) (a' := ?_) (bA 9 13) rfl rfl (by kernel_rfl) (fun _ _ _ h => h) (Or.inl ⟨by rfl, ?_⟩) ?_ ?_
   rotate_left
   ·intro w'
    go_simp
    with_reducible rfl
   rotate_left
   ·refine pZ ?_
    rfl
   refine pure_ (i := 4) (N := some 28) (v := ?_) (a' := ?_) (bA 9 29) rfl rfl (by kernel_rfl) (fun _ _ _ h => h) (Or.inl ⟨by rfl, ?_⟩) ?_ ?_
   rotate_left
   ·intro w'
    go_simp
    with_reducible rfl
   rotate_left
   ·refine pZ ?_
    rfl
   refine take_ (i := 1) (N := some 25) (v := ?_) (a' := ?_) (bA 9 31) rfl rfl (by kernel_rfl) (fun _ _ _ h => h) (Or.inl ⟨by rfl, ?_⟩) hHeld ?_ ?_
   rotate_left
   ·intro w' s0
    go_simp
    with_reducible rfl
   rotate_left
   ·refine pZ ?_
    rfl
   refine one_ (i := 5) (N := some 29) (bA 9 63) rfl rfl (by kernel_rfl) (by decide) (fun K hK => ?_)
   refine call_ g (#[.int .i64 (j : Int), .int .i64 (k : Int)] ++ lb) (by rfl) rfl ?hrun ?_
   case hrun => simp [execOp, resolve, Deferred.ofValue, invoke, Act.eval, eg]
   have hcall := HP.out w27 (j : Int) (k : Int) HB.out hj0 hjz hk0 hltz
   refine hcall.mono ?_
   clear hcall
   rintro e w28 ⟨A1, c1, rfl, hr1, hl1, hb⟩
   refine ⟨_, rfl, ?_⟩
   have n0_ := aM (Kd.R_below HO.out hb)
   have n1_ := aM (blk_below BKr.out hb)
   have n2_ := aM (blk_below BKm.out hb)
   have n3_ := aM (below_step HB.out hb)
   have HR1 := aM hr1
   clear HO BKr BKm HB hr1 hl1 hb
   have HO := n0_
   have BKr := n1_
   have BKm := n2_
   have HB := n3_
   clear n0_ n1_ n2_ n3_
   refine hK.out _ _ ((blk_cell BKm.out 3).trans rfl) (fun hHeld => ?_)
   clear hK K
   refine norm_ (a' := ?_) ?_ ?_
   rotate_left
   ·show Act.put _ (some 29) _ = _
    refine pZ ?_
    rfl
   have LEN := aM (imgOf_len f n k 100 (fun i j _ _ => HF.out j i))
   have LEN2 := aM (imgRow_len f k j 100 (fun i _ => HF.out i k))
   have LEN3 := aM (HF.out j k)
   refine one_ (i := 6) (N := some 30) (bA 9 127) rfl rfl (by kernel_rfl) (by decide) (fun K hK => ?_)
   refine Kd.R_append_rows_step (Kd.int .i64) (w0 := w) w.heap.size (by rfl) (.tmp 25) (.tmp 29) 22 3 (.int .i64 0) 8 rfl Try.underlying22 info3 rfl (by decide) (by omega) u2 (imgOf f n k ++ imgRow f k j) (f j k) _ _ _ (fun _ => True) (fun _ => False) rfl rfl ?aO ?aR (fun _ _ h => h) (fun _ h => h.elim) ?aF ?aB ?aS ?aL ?_
   case aR => exact HR1.out
   case aB => exact HB.out
   case aF => exact (fun _ _ => trivial)
   case aO => exact HO.out
   case aS => exact below_size HB.out
   case aL =>
    have l1 := LEN.out
    have l2 := LEN2.out
    have l3 := LEN3.out
    have hn16 := HN.out
    have hm16 := HM.out
    rw [List.length_append]
    have q1 : k * (n * 100) ≤ 16 * (16 * 100) := Nat.mul_le_mul (by omega) (Nat.mul_le_mul (by omega) (Nat.le_refl _))
    have q2 : j * 100 ≤ 16 * 100 := Nat.mul_le_mul (by omega) (Nat.le_refl _)
    omega
   intro v1 w29 ho hb2 hg3 hat
   obtain ⟨ys, hys⟩ : ∃ ys : List Int, ys = (imgOf f n k ++ imgRow f k j) ++ f j k := ⟨_, rfl⟩
   rw [← hys] at ho
   have NY := aM hys
   clear hys
   have n1_ := aM (blk_grown BKr.out hg3 NEr.out)
   have n2_ := aM (blk_grown BKm.out hg3 NEm.out)
   clear HO BKr BKm HB hg3 hat
   have HO := aM ho
   have HB := aM hb2
   have BKr := n1_
   have BKm := n2_
   clear n1_ n2_ ho hb2
   obtain ⟨Ao, co, rfl⟩ := sL HO
   refine hK.out _ _ ((blk_cell BKm.out 3).trans rfl) (fun hHeld => ?_)
   clear hK K
   refine norm_ (a' := ?_) ?_ ?_
   rotate_left
   ·show Act.put _ (some 30) _ = _
    refine pZ ?_
    rfl
   refine pure_ (i := 7) (N := some 31) (v := ?_) (a' := ?_) (bA 9 255) rfl rfl (by kernel_rfl) (fun _ _ _ h => h) (Or.inl ⟨by rfl, ?_⟩) ?_ ?_
   rotate_left
   ·intro w'
    go_simp
    with_reducible rfl
   rotate_left
   ·refine pZ ?_
    rfl
   have hcz_3 : w29.cell? ⟨gm, 3, none⟩ = some u2 := (blk_cell BKm.out 3).trans rfl
   have hfz_3 := blk_frozen BKm.out 3
   refine last_ (i := 8) (N := none) (bA 9 511) rfl rfl (by kernel_rfl) (by decide) (fun K hK => ?_)
   refine skip_ (w1 := ?_) (by rfl) rfl ?_ ?_
   rotate_left
   ·go_simp
    rfl
   refine hK.out _ _ ?_
   clear hK K
   refine done_ (by kernel_rfl) ?_
   try go_wp2
   go_roundg (n - (j + 1))
   case measure => omega
   case rel =>
    refine ⟨j + 1, .slice Ao ys.length co, by omega, by omega, by go_num, ⟨?_⟩, ⟨?_⟩, ⟨?_⟩, ⟨?_⟩⟩
    rotate_left
    ·refine qB ?_; refine blk_far ?_ NBrm.out _; refine qB ?_; exact BKr.out
    ·exact bP BKm.out
    ·exact qW HB.out
    rw [imgRow_succ, ← List.append_assoc, ← NY.out]
    (with_reducible repeat (first | apply Kd.R_alloc | apply Kd.R_drewN | apply Kd.R_drew))
    exact Kd.R_mono (Kd.R_far (p := ⟨gm, 3, none⟩) (Kd.R_types HO.out BKm.out (by decide)) (fun _ hk => hk.2) _) (fun _ hk => trivial)
theorem C_single {w : World} {B : Nat} {v : Int} {t : TypeId} (h : w.heap[B]? = some (.cells #[.int .i64 v] t (0, 0))) : Kd.C (Kd.int .i64) w (some ⟨B, 0, none⟩) [v].length [v] := by
 refine ⟨rfl, by simp, fun _ => ⟨_, rfl, fun j p hp => ?_⟩⟩
 obtain ⟨rfl, rfl⟩ : j = 0 ∧ v = p := by
  cases j with
  | zero => exact ⟨rfl, by simpa using hp⟩
  | succ j => simp at hp
 refine ⟨[.int .i64 v], rfl, rfl, fun i u hu => ?_⟩
 obtain ⟨rfl, rfl⟩ : i = 0 ∧ (Value.int .i64 v) = u := by
  cases i with
  | zero => exact ⟨rfl, by simpa using hu⟩
  | succ i => simp at hu
 rw [add_plain]
 exact (blk_cell h 0).trans rfl
def pixOf (l : List Int) (n p x y : Int) : List Int := (l.take ((y * n + x) * p + p).toNat).drop ((y * n + x) * p).toNat
set_option maxHeartbeats 8000000 in
set_option maxRecDepth 100000 in
theorem impl_at.calls2 (a0_0 : Int) (a0_1 : Int) (a0_2 : Int) (A0_3 : Option Addr) (c0_3 : Nat) (l0_3 : List Int) (a1 : Int) (a2 : Int) (w : World) (hr0_3 : Kd.C (Kd.int .i64) w A0_3 l0_3.length l0_3) (hc0_3 : l0_3.length ≤ c0_3)
  (h0 : 0 ≤ a0_0) (h0' : a0_0 ≤ 16) (h2 : 0 ≤ a0_2) (h2' : a0_2 ≤ 16) (hx : 0 ≤ a1) (hx' : a1 ≤ 1000) (hy : 0 ≤ a2) (hy' : a2 ≤ 1000) (hi : (a2 * a0_0 + a1) * a0_2 + a0_2 ≤ (l0_3.length : Int)) :
  Calls Try.prog 51 #[.agg #[.int .i64 a0_0, .int .i64 a0_1, .int .i64 a0_2, .slice A0_3 l0_3.length c0_3], .int .i64 a1, .int .i64 a2] w fun e w' => ∃ (A : Option Addr) (c : Nat), e = .returned (.slice A (pixOf l0_3 a0_0 a0_2 a1 a2).length c) ∧ Kd.C (Kd.int .i64) w' A (pixOf l0_3 a0_0 a0_2 a1 a2).length (pixOf l0_3 a0_0 a0_2 a1 a2) ∧ (pixOf l0_3 a0_0 a0_2 a1 a2).length ≤ c ∧ Below w.heap.size w w' ∧ ∀ W : World, Kd.C (Kd.int .i64) W A0_3 l0_3.length l0_3 → Kd.C (Kd.int .i64) W A (pixOf l0_3 a0_0 a0_2 a1 a2).length (pixOf l0_3 a0_0 a0_2 a1 a2) := by
 have hu26 := Try.underlying26
 have HB := aM (Below.refl w.heap.size w)
 have m1 : 0 ≤ a2 * a0_0 := Int.mul_nonneg hy h0
 have m1' : a2 * a0_0 ≤ 1000 * 16 := Int.mul_le_mul hy' h0' h0 (by omega)
 have m2 : 0 ≤ (a2 * a0_0 + a1) * a0_2 := Int.mul_nonneg (by omega) h2
 have m2' : (a2 * a0_0 + a1) * a0_2 ≤ 17000 * 16 := Int.mul_le_mul (by omega) h2' h2 (by omega)
 obtain ⟨i010, hi010, _, hsz10, _⟩ := info_parts info3
 obtain ⟨A10, hcut10, hA10, hC10⟩ := print_mid_of (P := Try.prog) (Value.int .i64) 0 22 3 .i64 .i64 Try.underlying22 hi010 hsz10 A0_3 c0_3 l0_3 ((a2 * a0_0 + a1) * a0_2) ((a2 * a0_0 + a1) * a0_2 + a0_2) m2 (by omega) hi hc0_3
 have HR := aM (Kd.C_of_reads (h1 := fun _ => rfl) (hA10 _ (Kd.reads_of_C hr0_3)))
 have HC := aM hC10
 have HA := aM (fun (W : World) (h : Kd.C (Kd.int .i64) W A0_3 l0_3.length l0_3) => Kd.C_of_reads (d := (0 : Int)) (h1 := fun _ => rfl) (hA10 W (Kd.reads_of_C h)))
 change ∀ W : World, (Instr.slice _ _ _ _ _).run _ W = .ok (.slice A10 (pixOf l0_3 a0_0 a0_2 a1 a2).length _) W at hcut10
 change Aside0 (Kd.C _ w A10 (pixOf l0_3 a0_0 a0_2 a1 a2).length (pixOf l0_3 a0_0 a0_2 a1 a2)) at HR
 change Aside0 (∀ W : World, Kd.C (Kd.int .i64) W A0_3 l0_3.length l0_3 → Kd.C (Kd.int .i64) W A10 (pixOf l0_3 a0_0 a0_2 a1 a2).length (pixOf l0_3 a0_0 a0_2 a1 a2)) at HA
 change Aside0 ((pixOf l0_3 a0_0 a0_2 a1 a2).length ≤ _) at HC
 clear hA10 hC10 hi010 hsz10 hr0_3 hc0_3 hi
 generalize pixOf l0_3 a0_0 a0_2 a1 a2 = px at hcut10 HR HC HA ⊢
 go_enter Try.func51, Try.ntmps51
 go_wp2_with (first | ((with_reducible refine gate_dst (N := 3) rfl ?_); refine bxE (N := 3) (cs := #[.int .i64 a0_0, .int .i64 a0_1, .int .i64 a0_2, .slice A0_3 l0_3.length c0_3]) (t := 26) ?_; intro gb hg w8 hbox hb; have n0_ := aM (below_step HB.out hb); have n1_ := aM (hbox); have HR2 := aM (Kd.C_below HR.out hb); clear HB HR; have HB := n0_; have BK := n1_; have HR := HR2; clear n0_ n1_ HR2; clear hb hbox hg; have hcz9_0 : w8.cell? ⟨gb, 0, none⟩ = some (.int .i64 a0_0) := (blk_cell BK.out 0).trans rfl; have hcz9_1 : w8.cell? ⟨gb, 1, none⟩ = some (.int .i64 a0_1) := (blk_cell BK.out 1).trans rfl; have hcz9_2 : w8.cell? ⟨gb, 2, none⟩ = some (.int .i64 a0_2) := (blk_cell BK.out 2).trans rfl; have hcz9_3 : w8.cell? ⟨gb, 3, none⟩ = some (.slice A0_3 l0_3.length c0_3) := (blk_cell BK.out 3).trans rfl))
 go_ret
 exact ⟨A10, _, rfl, by exact qC HR.out, HC.out, by exact qW HB.out, HA.out⟩
theorem impl_at.calls (a0_0 : Int) (a0_1 : Int) (a0_2 : Int) (A0_3 : Option Addr) (c0_3 : Nat) (l0_3 : List Int) (a1 : Int) (a2 : Int) (w : World) (hr0_3 : Kd.C (Kd.int .i64) w A0_3 l0_3.length l0_3) (hc0_3 : l0_3.length ≤ c0_3)
  (h0 : 0 ≤ a0_0) (h0' : a0_0 ≤ 16) (h2 : 0 ≤ a0_2) (h2' : a0_2 ≤ 16) (hx : 0 ≤ a1) (hx' : a1 ≤ 1000) (hy : 0 ≤ a2) (hy' : a2 ≤ 1000) (hi : (a2 * a0_0 + a1) * a0_2 + a0_2 ≤ (l0_3.length : Int)) :
  Calls Try.prog 51 #[.agg #[.int .i64 a0_0, .int .i64 a0_1, .int .i64 a0_2, .slice A0_3 l0_3.length c0_3], .int .i64 a1, .int .i64 a2] w fun e w' => ∃ (A : Option Addr) (c : Nat), e = .returned (.slice A (pixOf l0_3 a0_0 a0_2 a1 a2).length c) ∧ Kd.C (Kd.int .i64) w' A (pixOf l0_3 a0_0 a0_2 a1 a2).length (pixOf l0_3 a0_0 a0_2 a1 a2) ∧ (pixOf l0_3 a0_0 a0_2 a1 a2).length ≤ c ∧ Below w.heap.size w w' := by
 exact (impl_at.calls2 a0_0 a0_1 a0_2 A0_3 c0_3 l0_3 a1 a2 w hr0_3 hc0_3 h0 h0' h2 h2' hx hx' hy hy' hi).mono fun e w' ⟨A, c, h1, h2, h3, h4, _⟩ => ⟨A, c, h1, h2, h3, h4⟩
theorem pixOf_len (l : List Int) (n p x y : Int) (hp : 0 ≤ p) (hp' : p ≤ 4) : (pixOf l n p x y).length ≤ 100 := by
 unfold pixOf
 rw [List.length_drop, List.length_take]
 omega
theorem pixOf_length {l : List Int} {n p x y : Int} (h0 : 0 ≤ (y * n + x) * p) (hp : 0 ≤ p) (h : (y * n + x) * p + p ≤ (l.length : Int)) : ((pixOf l n p x y).length : Int) = p := by
 unfold pixOf
 rw [List.length_drop, List.length_take]
 omega
theorem pixOf_mem {l : List Int} {n p x y v : Int} (h : v ∈ pixOf l n p x y) : v ∈ l := by
 unfold pixOf at h
 exact List.mem_of_mem_take (List.mem_of_mem_drop h)
def laws_equalImage.f (k : Nat) (a0_0 : Int) (a0_1 : Int) (a0_2 : Int) (l0_3 : List Int) (a1_0 : Int) (a1_1 : Int) (a1_2 : Int) (l1_3 : List Int) : Option (Bool) := if a0_0 = a1_0 then (if a0_1 = a1_1 then (if a0_2 = a1_2 then ((laws_equalInts.f k l0_3 l1_3).bind fun t335 => (some t335)) else (some false)) else (some false)) else (some false)
theorem laws_equalImage.mono : ∀ a0 a1 a2 a3 a4 a5 a6 a7 k, LeO (laws_equalImage.f k a0 a1 a2 a3 a4 a5 a6 a7) (laws_equalImage.f (k + 1) a0 a1 a2 a3 a4 a5 a6 a7) := by
 intro a0 a1 a2 a3 a4 a5 a6 a7 k
 unfold laws_equalImage.f
 repeat' first | (with_reducible first | exact laws_equalInts.mono _ _ _ | exact lR | exact lN | refine lI ?_ ?_ | refine lB ?_ fun _ => ?_) | exact laws_equalInts.mono _ _ _ | exact lN | refine lI ?_ ?_ | refine lB ?_ fun _ => ?_
set_option maxHeartbeats 8000000 in
set_option maxRecDepth 100000 in
theorem laws_equalImage.calls (k : Nat) (a0_0 : Int) (a0_1 : Int) (a0_2 : Int) (A0_3 : Option Addr) (c0_3 : Nat) (l0_3 : List Int) (a1_0 : Int) (a1_1 : Int) (a1_2 : Int) (A1_3 : Option Addr) (c1_3 : Nat) (l1_3 : List Int) (r : Bool) (w : World) (hr0_3 : Kd.C (Kd.int .i64) w A0_3 l0_3.length l0_3) (hc0_3 : l0_3.length ≤ c0_3) (hr1_3 : Kd.C (Kd.int .i64) w A1_3 l1_3.length l1_3) (hc1_3 : l1_3.length ≤ c1_3) (h : laws_equalImage.f k a0_0 a0_1 a0_2 l0_3 a1_0 a1_1 a1_2 l1_3 = some r) :
  Calls Try.prog 23 #[.agg #[.int .i64 a0_0, .int .i64 a0_1, .int .i64 a0_2, .slice A0_3 l0_3.length c0_3], .agg #[.int .i64 a1_0, .int .i64 a1_1, .int .i64 a1_2, .slice A1_3 l1_3.length c1_3]] w fun e w' => e = .returned (.bool r) ∧ Below w.heap.size w w' := by
 have hu26 := Try.underlying26
 have HR0_3 := aM hr0_3
 have HC0_3 := aM hc0_3
 clear hr0_3 hc0_3
 have HR1_3 := aM hr1_3
 have HC1_3 := aM hc1_3
 clear hr1_3 hc1_3
 have HB := aM (Below.refl w.heap.size w)
 unfold laws_equalImage.f at h
 have H := h
 clear h
 by_cases c3 : a0_0 = a1_0
 rotate_left
 ·rw [if_neg c3] at H
  have c3b0 : (a0_0 == a1_0) = false := beq_eq_false_iff_ne.mpr c3
  have c3b1 : (a0_0 != a1_0) = true := bne_iff_ne.mpr c3
  obtain rfl := Option.some.inj H
  go_enter Try.func23, Try.ntmps23
  go_wp2_with (first | ((with_reducible refine gate_dst (N := 2) rfl ?_); refine bxE (N := 2) (cs := #[.int .i64 a0_0, .int .i64 a0_1, .int .i64 a0_2, .slice A0_3 l0_3.length c0_3]) (t := 26) ?_; intro gb333 hg w22 hbox hb; have BK333 := aM (hbox); have GW333 := gW hg HB; have GE333 := gW hg HB; replace HB := bS HB hb; clear hb hbox hg) | ((with_reducible refine gate_dst (N := 3) rfl ?_); refine bxE (N := 3) (cs := #[.int .i64 a1_0, .int .i64 a1_1, .int .i64 a1_2, .slice A1_3 l1_3.length c1_3]) (t := 26) ?_; intro gb334 hg w23 hbox hb; have BK334 := aM (hbox); have GW334 := gW hg HB; have GE334 := gW hg HB; replace HB := bS HB hb; have NB333_334 := nL hg BK333; have NB334_333 := nG hg BK333; replace BK333 := bB BK333 hb; clear hb hbox hg; have hnb24 := NB333_334.out; have hnc24 := NB334_333.out; obtain ⟨⟨hcz25_0, hcz25_1, hcz25_2, hcz25_3⟩, hfz25_0, hfz25_1, hfz25_2, hfz25_3⟩ := cf4 BK333; obtain ⟨⟨hcz26_0, hcz26_1, hcz26_2, hcz26_3⟩, hfz26_0, hfz26_1, hfz26_2, hfz26_3⟩ := cf4 BK334))
  go_ret
  exact ⟨qX, by exact qW HB.out⟩
 rw [if_pos c3] at H
 have c3b0 : (a0_0 == a1_0) = true := beq_iff_eq.mpr c3
 have c3b1 : (a0_0 != a1_0) = false := bne_eq_false_iff_eq.mpr c3
 clear c3
 by_cases c4 : a0_1 = a1_1
 rotate_left
 ·rw [if_neg c4] at H
  have c4b0 : (a0_1 == a1_1) = false := beq_eq_false_iff_ne.mpr c4
  have c4b1 : (a0_1 != a1_1) = true := bne_iff_ne.mpr c4
  obtain rfl := Option.some.inj H
  go_enter Try.func23, Try.ntmps23
  go_wp2_with (first | ((with_reducible refine gate_dst (N := 2) rfl ?_); refine bxE (N := 2) (cs := #[.int .i64 a0_0, .int .i64 a0_1, .int .i64 a0_2, .slice A0_3 l0_3.length c0_3]) (t := 26) ?_; intro gb333 hg w17 hbox hb; have BK333 := aM (hbox); have GW333 := gW hg HB; have GE333 := gW hg HB; replace HB := bS HB hb; clear hb hbox hg) | ((with_reducible refine gate_dst (N := 3) rfl ?_); refine bxE (N := 3) (cs := #[.int .i64 a1_0, .int .i64 a1_1, .int .i64 a1_2, .slice A1_3 l1_3.length c1_3]) (t := 26) ?_; intro gb334 hg w18 hbox hb; have BK334 := aM (hbox); have GW334 := gW hg HB; have GE334 := gW hg HB; replace HB := bS HB hb; have NB333_334 := nL hg BK333; have NB334_333 := nG hg BK333; replace BK333 := bB BK333 hb; clear hb hbox hg; have hnb19 := NB333_334.out; have hnc19 := NB334_333.out; obtain ⟨⟨hcz20_0, hcz20_1, hcz20_2, hcz20_3⟩, hfz20_0, hfz20_1, hfz20_2, hfz20_3⟩ := cf4 BK333; obtain ⟨⟨hcz21_0, hcz21_1, hcz21_2, hcz21_3⟩, hfz21_0, hfz21_1, hfz21_2, hfz21_3⟩ := cf4 BK334))
  go_ret
  exact ⟨qX, by exact qW HB.out⟩
 rw [if_pos c4] at H
 have c4b0 : (a0_1 == a1_1) = true := beq_iff_eq.mpr c4
 have c4b1 : (a0_1 != a1_1) = false := bne_eq_false_iff_eq.mpr c4
 clear c4
 by_cases c5 : a0_2 = a1_2
 rotate_left
 ·rw [if_neg c5] at H
  have c5b0 : (a0_2 == a1_2) = false := beq_eq_false_iff_ne.mpr c5
  have c5b1 : (a0_2 != a1_2) = true := bne_iff_ne.mpr c5
  obtain rfl := Option.some.inj H
  go_enter Try.func23, Try.ntmps23
  go_wp2_with (first | ((with_reducible refine gate_dst (N := 2) rfl ?_); refine bxE (N := 2) (cs := #[.int .i64 a0_0, .int .i64 a0_1, .int .i64 a0_2, .slice A0_3 l0_3.length c0_3]) (t := 26) ?_; intro gb333 hg w12 hbox hb; have BK333 := aM (hbox); have GW333 := gW hg HB; have GE333 := gW hg HB; replace HB := bS HB hb; clear hb hbox hg) | ((with_reducible refine gate_dst (N := 3) rfl ?_); refine bxE (N := 3) (cs := #[.int .i64 a1_0, .int .i64 a1_1, .int .i64 a1_2, .slice A1_3 l1_3.length c1_3]) (t := 26) ?_; intro gb334 hg w13 hbox hb; have BK334 := aM (hbox); have GW334 := gW hg HB; have GE334 := gW hg HB; replace HB := bS HB hb; have NB333_334 := nL hg BK333; have NB334_333 := nG hg BK333; replace BK333 := bB BK333 hb; clear hb hbox hg; have hnb14 := NB333_334.out; have hnc14 := NB334_333.out; obtain ⟨⟨hcz15_0, hcz15_1, hcz15_2, hcz15_3⟩, hfz15_0, hfz15_1, hfz15_2, hfz15_3⟩ := cf4 BK333; obtain ⟨⟨hcz16_0, hcz16_1, hcz16_2, hcz16_3⟩, hfz16_0, hfz16_1, hfz16_2, hfz16_3⟩ := cf4 BK334))
  go_ret
  exact ⟨qX, by exact qW HB.out⟩
 rw [if_pos c5] at H
 have c5b0 : (a0_2 == a1_2) = true := beq_iff_eq.mpr c5
 have c5b1 : (a0_2 != a1_2) = false := bne_eq_false_iff_eq.mpr c5
 clear c5
 replace H := Option.bind_eq_some_iff.mp H
 obtain ⟨t335, A60, H⟩ := H
 replace H : (some t335) = some r := H
 have A6 := aM A60
 clear A60
 obtain rfl := Option.some.inj H
 go_enter Try.func23, Try.ntmps23
 go_wp2_with (first | ((with_reducible refine gate_dst (N := 2) rfl ?_); refine bxE (N := 2) (cs := #[.int .i64 a0_0, .int .i64 a0_1, .int .i64 a0_2, .slice A0_3 l0_3.length c0_3]) (t := 26) ?_; intro gb333 hg w7 hbox hb; have BK333 := aM (hbox); have GW333 := gW hg HB; have GE333 := gW hg HB; replace HB := bS HB hb; clear hb hbox hg) | ((with_reducible refine gate_dst (N := 3) rfl ?_); refine bxE (N := 3) (cs := #[.int .i64 a1_0, .int .i64 a1_1, .int .i64 a1_2, .slice A1_3 l1_3.length c1_3]) (t := 26) ?_; intro gb334 hg w8 hbox hb; have BK334 := aM (hbox); have GW334 := gW hg HB; have GE334 := gW hg HB; replace HB := bS HB hb; have NB333_334 := nL hg BK333; have NB334_333 := nG hg BK333; replace BK333 := bB BK333 hb; clear hb hbox hg; have hnb9 := NB333_334.out; have hnc9 := NB334_333.out; obtain ⟨⟨hcz10_0, hcz10_1, hcz10_2, hcz10_3⟩, hfz10_0, hfz10_1, hfz10_2, hfz10_3⟩ := cf4 BK333; obtain ⟨⟨hcz11_0, hcz11_1, hcz11_2, hcz11_3⟩, hfz11_0, hfz11_1, hfz11_2, hfz11_3⟩ := cf4 BK334) | (go_at_call 26; (with_reducible refine (laws_equalInts.calls k _ _ l0_3 _ _ l1_3 t335 _ ?side1 ?side2 ?side3 ?side4 A6.out).mono ?_); (case side1 => exact qC (Kd.C_below HR0_3.out HB.out)); (case side2 => exact HC0_3.out); (case side3 => exact qC (Kd.C_below HR1_3.out HB.out)); (case side4 => exact HC1_3.out); rintro e w' ⟨rfl, ⟨nd, rfl⟩⟩))
 go_ret
 exact ⟨qX, by exact qW HB.out⟩
mutual
def spec_SplitPlanes.l0 : Nat → List (S26) → Int → Int → Int → Int → List Int → Option ((List (S26)))
 | 0, _, _, _, _, _, _ => none
 | k + 1, x3, x4, x857000, x857001, x857002, x857003 => if x4 < x857002 then ((spec_newImage.f x857000 x857001 1).bind fun bt861 => (spec_SplitPlanes.l1 k x3 x4 0 x857000 x857001 x857002 x857003 bt861.1 bt861.2.1 bt861.2.2.1 bt861.2.2.2)) else (some x3)
def spec_SplitPlanes.l1 : Nat → List (S26) → Int → Int → Int → Int → Int → List Int → Int → Int → Int → List Int → Option ((List (S26)))
 | 0, _, _, _, _, _, _, _, _, _, _, _ => none
 | k + 1, x3, x4, x6, x857000, x857001, x857002, x857003, x868000, x868001, x868002, x868003 => if x6 < (x868003.length : Int) then (if 0 ≤ (wrap64 ((wrap64 (x6 * x857002)) + x4)) then (if (wrap64 ((wrap64 (x6 * x857002)) + x4)) < (x857003.length : Int) then (if 0 ≤ x6 then (spec_SplitPlanes.l1 k x3 x4 (wrap64 (x6 + 1)) x857000 x857001 x857002 x857003 x868000 x868001 x868002 (x868003.set (x6 : Int).toNat (rd x857003 (wrap64 ((wrap64 (x6 * x857002)) + x4))))) else (none)) else (none)) else (none)) else (if x3.length < 2932031007402 then (spec_SplitPlanes.l0 k (x3 ++ [(⟨x868000, x868001, x868002, x868003⟩ : S26)]) (wrap64 (x4 + 1)) x857000 x857001 x857002 x857003) else (none))
end
def spec_SplitPlanes.f (k : Nat) (a0_0 : Int) (a0_1 : Int) (a0_2 : Int) (l0_3 : List Int) : Option ((List (S26))) := (spec_validImage.f k a0_0 a0_1 a0_2 l0_3).bind fun t860 => (if t860 = true then (spec_SplitPlanes.l0 k (([] : List (S26))) 0 a0_0 a0_1 a0_2 l0_3) else (some ([] : List (S26))))
theorem spec_SplitPlanes.mono_l : ∀ k, (∀ y0 y1 y2 y3 y4 y5, LeO (spec_SplitPlanes.l0 k y0 y1 y2 y3 y4 y5) (spec_SplitPlanes.l0 (k + 1) y0 y1 y2 y3 y4 y5)) ∧ (∀ y0 y1 y2 y3 y4 y5 y6 y7 y8 y9 y10, LeO (spec_SplitPlanes.l1 k y0 y1 y2 y3 y4 y5 y6 y7 y8 y9 y10) (spec_SplitPlanes.l1 (k + 1) y0 y1 y2 y3 y4 y5 y6 y7 y8 y9 y10))
 | 0 => ⟨fun _ _ _ _ _ _ r h => by simp [spec_SplitPlanes.l0] at h, fun _ _ _ _ _ _ _ _ _ _ _ r h => by simp [spec_SplitPlanes.l1] at h⟩
 | k + 1 => by
  obtain ⟨ih0, ih1⟩ := spec_SplitPlanes.mono_l k
  refine ⟨?_, ?_⟩
  all_goals intros
  all_goals first | unfold spec_SplitPlanes.l0 | unfold spec_SplitPlanes.l1
  all_goals repeat' first | (with_reducible first | exact ih0 _ _ _ _ _ _ | exact ih1 _ _ _ _ _ _ _ _ _ _ _ | exact spec_validImage.mono _ _ _ _ _ | exact lR | exact lN | refine lI ?_ ?_ | refine lB ?_ fun _ => ?_) | exact ih0 _ _ _ _ _ _ | exact ih1 _ _ _ _ _ _ _ _ _ _ _ | exact spec_validImage.mono _ _ _ _ _ | exact lN | refine lI ?_ ?_ | refine lB ?_ fun _ => ?_
theorem spec_SplitPlanes.mono : ∀ a0 a1 a2 a3 k, LeO (spec_SplitPlanes.f k a0 a1 a2 a3) (spec_SplitPlanes.f (k + 1) a0 a1 a2 a3) := by
 intro a0 a1 a2 a3 k
 obtain ⟨ih0, ih1⟩ := spec_SplitPlanes.mono_l k
 unfold spec_SplitPlanes.f
 repeat' first | (with_reducible first | exact ih0 _ _ _ _ _ _ | exact ih1 _ _ _ _ _ _ _ _ _ _ _ | exact spec_validImage.mono _ _ _ _ _ | exact lR | exact lN | refine lI ?_ ?_ | refine lB ?_ fun _ => ?_) | exact ih0 _ _ _ _ _ _ | exact ih1 _ _ _ _ _ _ _ _ _ _ _ | exact spec_validImage.mono _ _ _ _ _ | exact lN | refine lI ?_ ?_ | refine lB ?_ fun _ => ?_
def spec_SplitPlanes.T11 : Bool × List (List Nat × List Nat) := (true, [([], []), ([0], [0]), ([], []), ([], []), ([3], [3]), ([], []), ([], []), ([6], [6]), ([5, 7], [5, 7]), ([], []), ([8, 9], [8, 9]), ([4, 10], [4, 10]), ([11], [11]), ([1, 2, 0, 1, 2, 3, 4, 5, 6, 7, 8, 9, 10, 11, 12], [1, 2]), ([13, 12, 0, 1, 2, 3, 4, 5, 6, 7, 8, 9, 10, 11, 12], [12, 13])])
def spec_SplitPlanes.B11 : List Nat := [0, 1, 0, 0, 8, 0, 0, 64, 224, 0, 992, 2040, 4088, 8191, 16383]
theorem spec_SplitPlanes.tab11 : rtab .any (opsOf Try.f34 11) = spec_SplitPlanes.T11 := by kernel_rfl
theorem spec_SplitPlanes.bits11 : waitsOk spec_SplitPlanes.T11.2 spec_SplitPlanes.B11 = true := by kernel_rfl
set_option maxHeartbeats 8000000 in
set_option maxRecDepth 100000 in
theorem spec_SplitPlanes.calls (k : Nat) (a0_0 : Int) (a0_1 : Int) (a0_2 : Int) (A0_3 : Option Addr) (c0_3 : Nat) (l0_3 : List Int) (r : List (S26)) (w : World) (hr0_3 : Kd.C (Kd.int .i64) w A0_3 l0_3.length l0_3) (hc0_3 : l0_3.length ≤ c0_3) (h : spec_SplitPlanes.f k a0_0 a0_1 a0_2 l0_3 = some r) :
  Calls Try.prog 34 #[.agg #[.int .i64 a0_0, .int .i64 a0_1, .int .i64 a0_2, .slice A0_3 l0_3.length c0_3]] w fun e w' => ∃ v0_ : Value, e = .returned (v0_) ∧ Kd.S k26 26 w' w.heap.size (fun _ => True) v0_ r ∧ Below w.heap.size w w' := by
 have hu26 := Try.underlying26
 have HR0_3 := aM hr0_3
 have HC0_3 := aM hc0_3
 clear hr0_3 hc0_3
 have HB := aM (Below.refl w.heap.size w)
 unfold spec_SplitPlanes.f at h
 have H := h
 clear h
 obtain ⟨y857, hy857⟩ : ∃ y_ : List (S26), y_ = (([] : List (S26))) := ⟨_, rfl⟩
 replace H : ((spec_validImage.f k a0_0 a0_1 a0_2 l0_3).bind fun t860 => (if t860 = true then (spec_SplitPlanes.l0 k y857 0 a0_0 a0_1 a0_2 l0_3) else (some ([] : List (S26))))) = some r := rY hy857 H
 have Ny857 := aM hy857
 clear hy857
 replace H := Option.bind_eq_some_iff.mp H
 obtain ⟨t860, A20, H⟩ := H
 replace H : (if t860 = true then (spec_SplitPlanes.l0 k y857 0 a0_0 a0_1 a0_2 l0_3) else (some ([] : List (S26)))) = some r := H
 have A2 := aM A20
 clear A20
 by_cases c3 : t860 = true
 rotate_left
 ·replace c3 := Bool.eq_false_iff.mpr c3
  subst c3
  have H1 : (some ([] : List (S26))) = some r := by rw [if_neg (show ¬ (false = true) by decide)] at H; exact H
  clear H
  have H := H1
  clear H1
  obtain rfl := Option.some.inj H
  go_enter Try.func34, Try.ntmps34
  go_wp2_with (first | ((with_reducible refine gate_dst (N := 1) rfl ?_); refine bxE (N := 1) (cs := #[.int .i64 a0_0, .int .i64 a0_1, .int .i64 a0_2, .slice A0_3 l0_3.length c0_3]) (t := 26) ?_; intro gb856 hg w34 hbox hb; have BK856 := aM (hbox); have GW856 := gW hg HB; have GE856 := gW hg HB; replace HB := bS HB hb; clear hb hbox hg) | ((with_reducible refine gate_dst (N := 7) rfl ?_); refine Kd.S_lit k26 _ 26 ?hg (N := 7) ?hd (xs := ([] : List (S26))) (inner := []) (ok := fun _ => True) (okp := fun _ => True) ?hr ?hp (fun _ hk => hk) trivial (Below.refl _ _) (Nat.le_refl _) (by simp) ?_; (case hd => rfl); (case hg => rfl); (case hr => first | (go_simp; done) | (go_simp; rfl)); (case hp => exact (Reps.none _ _)); intro v858 w35 ho36 hb hg_ hnew_; clear hg_ hnew_; (first | rw [← Ny857.out] at ho36 | (simp only [Int.reduceToNat] at ho36; rw [← Ny857.out] at ho36)); have HO859 := aM (Kd.S_lower (Kd.S_newB ho36 (g := gb856) (o := .cells #[.int .i64 a0_0, .int .i64 a0_1, .int .i64 a0_2, .slice A0_3 l0_3.length c0_3] 26 (0, 0)) (qB BK856.out)) (below_size (qW HB.out))); replace BK856 := bB BK856 hb; replace HB := bS HB hb; clear hb ho36; obtain ⟨⟨hcz37_0, hcz37_1, hcz37_2, hcz37_3⟩, hfz37_0, hfz37_1, hfz37_2, hfz37_3⟩ := cf4 BK856) | ((with_reducible refine gate_callee (f := 44) rfl ?_); refine gL (some 9) Try.func44 #[.agg #[.int .i64 a0_0, .int .i64 a0_1, .int .i64 a0_2, .slice A0_3 l0_3.length c0_3]] ?_; (with_reducible refine (spec_validImage.calls k a0_0 a0_1 a0_2 _ _ l0_3 false _ ?side1 ?side2 A2.out).mono ?_); (case side1 => exact qC (Kd.C_below HR0_3.out HB.out)); (case side2 => exact HC0_3.out); rintro e w38 ⟨rfl, hb⟩; refine ⟨_, rfl, ?_⟩; replace HO859 := aM (Kd.S_below (by (with_reducible repeat (first | apply Kd.S_alloc | apply Kd.S_drewN | apply Kd.S_drew)); exact HO859.out) hb); replace BK856 := bB BK856 hb; replace HB := bS HB hb; clear hb))
  go_ret
  exact ⟨_, qX, by first | exact Kd.S_nil _ _ _ _ _ | exact Kd.N_nil _ _ _ _ _ | exact Kd.V_nil _ _ _ _ _ | exact Kd.Q_nil _ _ _ _ _ | exact Kd.R_nil _ _ _ _ _, by exact qW HB.out⟩
 subst c3
 have H1 : (spec_SplitPlanes.l0 k y857 0 a0_0 a0_1 a0_2 l0_3) = some r := by rw [if_pos rfl] at H; exact H
 clear H
 have H := H1
 clear H1
 have H' := aM H
 clear H
 go_enter Try.func34, Try.ntmps34
 go_wp2_with (first | ((with_reducible refine gate_dst (N := 1) rfl ?_); refine bxE (N := 1) (cs := #[.int .i64 a0_0, .int .i64 a0_1, .int .i64 a0_2, .slice A0_3 l0_3.length c0_3]) (t := 26) ?_; intro gb856 hg w4 hbox hb; have BK856 := aM (hbox); have GW856 := gW hg HB; have GE856 := gW hg HB; replace HB := bS HB hb; clear hb hbox hg) | ((with_reducible refine gate_dst (N := 7) rfl ?_); refine Kd.S_lit k26 _ 26 ?hg (N := 7) ?hd (xs := ([] : List (S26))) (inner := []) (ok := fun _ => True) (okp := fun _ => True) ?hr ?hp (fun _ hk => hk) trivial (Below.refl _ _) (Nat.le_refl _) (by simp) ?_; (case hd => rfl); (case hg => rfl); (case hr => first | (go_simp; done) | (go_simp; rfl)); (case hp => exact (Reps.none _ _)); intro v858 w5 ho6 hb hg_ hnew_; clear hg_ hnew_; (first | rw [← Ny857.out] at ho6 | (simp only [Int.reduceToNat] at ho6; rw [← Ny857.out] at ho6)); have HO859 := aM (Kd.S_lower (Kd.S_newB ho6 (g := gb856) (o := .cells #[.int .i64 a0_0, .int .i64 a0_1, .int .i64 a0_2, .slice A0_3 l0_3.length c0_3] 26 (0, 0)) (qB BK856.out)) (below_size (qW HB.out))); replace BK856 := bB BK856 hb; replace HB := bS HB hb; clear hb ho6; obtain ⟨⟨hcz7_0, hcz7_1, hcz7_2, hcz7_3⟩, hfz7_0, hfz7_1, hfz7_2, hfz7_3⟩ := cf4 BK856) | ((with_reducible refine gate_callee (f := 44) rfl ?_); refine gL (some 9) Try.func44 #[.agg #[.int .i64 a0_0, .int .i64 a0_1, .int .i64 a0_2, .slice A0_3 l0_3.length c0_3]] ?_; (with_reducible refine (spec_validImage.calls k a0_0 a0_1 a0_2 _ _ l0_3 true _ ?side1 ?side2 A2.out).mono ?_); (case side1 => exact qC (Kd.C_below HR0_3.out HB.out)); (case side2 => exact HC0_3.out); rintro e w8 ⟨rfl, hb⟩; refine ⟨_, rfl, ?_⟩; replace HO859 := aM (Kd.S_below (by (with_reducible repeat (first | apply Kd.S_alloc | apply Kd.S_drewN | apply Kd.S_drew)); exact HO859.out) hb); replace BK856 := bB BK856 hb; replace HB := bS HB hb; clear hb))
 go_loopg [3, 4] k (fun kq v3 v4 w' => ∃ (x3_1 : List (S26)) (x4_1 : Int), v4 = .int .i64 x4_1 ∧ Aside0 (spec_SplitPlanes.l0 kq x3_1 x4_1 a0_0 a0_1 a0_2 l0_3 = some r) ∧ Aside0 (kq ≤ k) ∧ Aside0 (Kd.S k26 26 w' w.heap.size (fun k_ => k_ ≠ gb856) v3 x3_1) ∧ Aside0 (w'.heap[gb856]? = some (.cells #[.int .i64 a0_0, .int .i64 a0_1, .int .i64 a0_2, (.slice A0_3 l0_3.length c0_3)] 26 (0, 0))) ∧ Aside0 (Below w.heap.size w w'))
 case atStart => exact ⟨(y857), (0), qE, H', ⟨Nat.le_refl _⟩, ⟨by (with_reducible repeat (first | apply Kd.S_alloc | apply Kd.S_drewN | apply Kd.S_drew)); exact Kd.S_mono HO859.out (fun _ hk => hk.2)⟩, ⟨by refine qB ?_; exact BK856.out⟩, ⟨by exact qW HB.out⟩⟩
 case round =>
  clear H'
  try clear c3
  try clear hcz7_0 hcz7_1 hcz7_2 hcz7_3 hfz7_0 hfz7_1 hfz7_2 hfz7_3
  obtain ⟨x3_1, x4_1, rfl, HA, HK1, HO_3, BK856, HB⟩ := hrel
  cases gk with
  | zero => exact absurd HA.out (by simp [spec_SplitPlanes.l0])
  | succ k1 =>
   have H := HA.out
   clear HA
   simp only [spec_SplitPlanes.l0] at H
   by_cases c9 : x4_1 < a0_2
   rotate_left
   ·rw [if_neg c9] at H
    have c9b0 : decide (x4_1 < a0_2) = false := decide_eq_false c9
    clear c9
    obtain rfl := Option.some.inj H
    obtain ⟨⟨hcz33_0, hcz33_1, hcz33_2, hcz33_3⟩, hfz33_0, hfz33_1, hfz33_2, hfz33_3⟩ := cf4 BK856
    go_wp2
    go_ret
    exact ⟨_, qX, by (with_reducible repeat (first | apply Kd.S_alloc | apply Kd.S_drewN | apply Kd.S_drew)); exact Kd.S_mono HO_3.out (fun _ hk => trivial), by exact qW HB.out⟩
   rw [if_pos c9] at H
   have c9b0 : decide (x4_1 < a0_2) = true := decide_eq_true c9
   clear c9
   replace H := Option.bind_eq_some_iff.mp H
   obtain ⟨⟨t861, t862, t863, t864⟩, A100, H⟩ := H
   replace H : (spec_SplitPlanes.l1 k1 x3_1 x4_1 0 a0_0 a0_1 a0_2 l0_3 t861 t862 t863 t864) = some r := H
   have A10 := aM A100
   clear A100
   have H' := aM H
   clear H
   obtain ⟨⟨hcz11_0, hcz11_1, hcz11_2, hcz11_3⟩, hfz11_0, hfz11_1, hfz11_2, hfz11_3⟩ := cf4 BK856
   go_wp2_with (first | ((with_reducible refine gate_callee (f := 45) rfl ?_); refine gL (some 21) Try.func45 #[.int .i64 a0_0, .int .i64 a0_1, .int .i64 1] ?_; (with_reducible refine (spec_newImage.calls a0_0 a0_1 1 t861 t862 t863 t864 _ A10.out).mono ?_); rintro e w12 ⟨v865, rfl, ho0, hb⟩; refine ⟨_, rfl, ?_⟩; replace HO_3 := aM (Kd.S_elder' (by (with_reducible repeat (first | apply Kd.S_alloc | apply Kd.S_drewN | apply Kd.S_drew)); exact HO_3.out) (Kd.R_base ho0) hb); have HO866 := oR ho0 HB; replace BK856 := bB BK856 hb; replace HB := bS HB hb; clear hb ho0) | ((with_reducible refine gate_dst (N := 5) rfl ?_); refine bxE (N := 5) (cs := #[.int .i64 0, .int .i64 0, .int .i64 0, .slice none 0 0]) (t := 26) ?_; intro gb867 hg w13 hbox hb; replace HO_3 := aM (Kd.S_below (Kd.S_elderB (by (with_reducible repeat (first | apply Kd.S_alloc | apply Kd.S_drewN | apply Kd.S_drew)); exact HO_3.out) gb867 (Nat.le_of_eq hg.symm)) hb); replace HO866 := aM (Kd.R_below (qR HO866.out) hb); have BK867 := aM (hbox); have GW867 := gW hg HB; have GE867 := gW hg HB; replace HB := bS HB hb; have NB856_867 := nL hg BK856; have NB867_856 := nG hg BK856; replace BK856 := bB BK856 hb; clear hb hbox hg; have hnb14 := NB867_856.out; have hnc14 := NB856_867.out; obtain ⟨⟨hcz15_0, hcz15_1, hcz15_2, hcz15_3⟩, hfz15_0, hfz15_1, hfz15_2, hfz15_3⟩ := cf4 BK867; obtain ⟨Ao16, co16, rfl⟩ := sL HO866))
   go_loopg [6] k1 (fun kq v6 w' => ∃ (x6_2 : Int) (x868003_2 : List Int) (u868003 : Value), v6 = .int .i64 x6_2 ∧ Aside0 (spec_SplitPlanes.l1 kq x3_1 x4_1 x6_2 a0_0 a0_1 a0_2 l0_3 t861 t862 t863 x868003_2 = some r) ∧ Aside0 (kq ≤ k1) ∧ Aside0 (Kd.S k26 26 w' w.heap.size (fun k_ => some k_ ≠ (u868003 : Value).ownBlock ∧ k_ ≠ gb856 ∧ k_ ≠ gb867) u3 x3_1) ∧ Aside0 (Kd.R (Kd.int .i64) 3 w' w.heap.size (fun _ => True) u868003 x868003_2) ∧ Aside0 (w'.heap[gb856]? = some (.cells #[.int .i64 a0_0, .int .i64 a0_1, .int .i64 a0_2, (.slice A0_3 l0_3.length c0_3)] 26 (0, 0))) ∧ Aside0 (w'.heap[gb867]? = some (.cells #[.int .i64 t861, .int .i64 t862, .int .i64 t863, u868003] 26 (0, 0))) ∧ Aside0 (Below w.heap.size w w'))
   case atStart => exact ⟨(0), (t864), (.slice Ao16 t864.length co16), qE, H', ⟨Nat.le_refl _⟩, ⟨by (with_reducible repeat (first | apply Kd.S_alloc | apply Kd.S_drewN | apply Kd.S_drew)); exact Kd.S_mono (Kd.S_far (p := ⟨gb867, 3, none⟩) (Kd.S_far (p := ⟨gb867, 2, none⟩) (Kd.S_far (p := ⟨gb867, 1, none⟩) (Kd.S_far (p := ⟨gb867, 0, none⟩) (Kd.S_mono HO_3.out (fun k_ hk => (⟨hk, hk.2⟩ : _ ∧ k_ ≠ gb867))) (fun _ hk => hk.2) (.int .i64 t861)) (fun _ hk => hk.2) (.int .i64 t862)) (fun _ hk => hk.2) (.int .i64 t863)) (fun _ hk => hk.2) (.slice Ao16 t864.length co16)) (fun _ hk => ⟨hk.1.1.2, ⟨hk.1.1.1, hk.1.2⟩⟩)⟩, ⟨by refine qR ?_; exact Kd.R_mono (rT HO866 BK867) (fun _ hk => trivial)⟩, ⟨by refine qB ?_; refine blk_far ?_ NB856_867.out _; refine qB ?_; refine blk_far ?_ NB856_867.out _; refine qB ?_; refine blk_far ?_ NB856_867.out _; refine qB ?_; refine blk_far ?_ NB856_867.out _; refine qB ?_; exact BK856.out⟩, ⟨by exact bP BK867.out⟩, ⟨by exact qW HB.out⟩⟩
   case round =>
    clear H'
    try clear c3
    try clear c9
    try clear c9b0
    try clear hcz11_0 hcz11_1 hcz11_2 hcz11_3 hfz11_0 hfz11_1 hfz11_2 hfz11_3
    try clear hcz15_0 hcz15_1 hcz15_2 hcz15_3 hfz15_0 hfz15_1 hfz15_2 hfz15_3
    try clear hcz7_0 hcz7_1 hcz7_2 hcz7_3 hfz7_0 hfz7_1 hfz7_2 hfz7_3
    obtain ⟨x6_2, x868003_2, u868003, rfl, HA, HK2, HO_3, HO_868003, BK856, BK867, HB⟩ := hrel
    cases gk with
    | zero => exact absurd HA.out (by simp [spec_SplitPlanes.l1])
    | succ k2 =>
     have H := HA.out
     clear HA
     simp only [spec_SplitPlanes.l1] at H
     by_cases c17 : x6_2 < (x868003_2.length : Int)
     rotate_left
     ·rw [if_neg c17] at H
      have c17b0 : decide (x6_2 < (x868003_2.length : Int)) = false := decide_eq_false c17
      clear c17
      replace H := iS H
      obtain ⟨c28, H⟩ := H
      have LMc28 := aM c28
      clear c28
      obtain ⟨y870, hy870⟩ : ∃ y_ : List (S26), y_ = (x3_1 ++ [(⟨t861, t862, t863, x868003_2⟩ : S26)]) := ⟨_, rfl⟩
      replace H : (spec_SplitPlanes.l0 k2 y870 (wrap64 (x4_1 + 1)) a0_0 a0_1 a0_2 l0_3) = some r := rY hy870 H
      have Ny870 := aM hy870
      clear hy870
      have H' := aM H
      clear H
      have hnb29 := NB867_856.out
      have hnc29 := NB856_867.out
      obtain ⟨⟨hcz30_0, hcz30_1, hcz30_2, hcz30_3⟩, hfz30_0, hfz30_1, hfz30_2, hfz30_3⟩ := cf4 BK867
      obtain ⟨Ao31, co31, rfl⟩ := sL HO_868003
      go_wp2_with (first | ((with_reducible refine gate_builtin (b := .append) (xs := #[.tmp 43, .tmp 45]) rfl ?_); at_builtin; refine Kd.S_append k26 (w0 := w) w.heap.size rfl (.tmp 43) (.tmp 45) 41 26 (.agg #[(.int .i64 0), (.int .i64 0), (.int .i64 0), (.slice none 0 0)]) 48 rfl Try.underlying41 info26 rfl (by decide) (by omega) u3 x3_1 (⟨t861, t862, t863, x868003_2⟩ : S26) [.int .i64 t861, .int .i64 t862, .int .i64 t863, .slice Ao31 x868003_2.length co31] (fun k_ => k_ ≠ gb856 ∧ k_ ≠ gb867) (fun k_ => some k_ = (.slice Ao31 x868003_2.length co31 : Value).ownBlock) rfl rfl ?aP (fun k_ hk_ => ((Kd.R_mono (ok' := fun k_ => ((fun k_ => k_ ≠ gb856 ∧ k_ ≠ gb867)) k_ ∧ some k_ ≠ (u3 : Value).ownBlock) (Kd.R_types (Kd.R_types (Kd.R_apart' (HO_868003.out) (Kd.S_typed HO_3.out) (by decide)) BK856.out (by decide)) BK867.out (by decide)) (fun k_ hk => ⟨⟨hk.1.2, hk.2⟩, hk.1.1.2⟩))).1 k_ hk_.symm) ?aF ?aO ?aB ?aS ?aL ?_; (case aP => exact k26_mkM _ _ _ (⟨t861, t862, t863, x868003_2⟩ : S26) (Kd.R_mono (Kd.R_tight rfl (Kd.R_mono (ok' := fun k_ => ((fun k_ => k_ ≠ gb856 ∧ k_ ≠ gb867)) k_ ∧ some k_ ≠ (u3 : Value).ownBlock) (Kd.R_types (Kd.R_types (Kd.R_apart' (HO_868003.out) (Kd.S_typed HO_3.out) (by decide)) BK856.out (by decide)) BK867.out (by decide)) (fun k_ hk => ⟨⟨hk.1.2, hk.2⟩, hk.1.1.2⟩))) (fun _ h_ => h_))); (case aB => exact (qW HB.out)); (case aF => exact (fun k_ hk => ⟨Kd.freshB (g := gb856) (o := .cells #[.int .i64 a0_0, .int .i64 a0_1, .int .i64 a0_2, .slice A0_3 l0_3.length c0_3] 26 (0, 0)) (qB BK856.out) k_ hk, Kd.freshB (g := gb867) (o := .cells #[.int .i64 t861, .int .i64 t862, .int .i64 t863, .slice Ao31 x868003_2.length co31] 26 (0, 0)) (qB BK867.out) k_ hk⟩)); (case aO => exact (by (with_reducible repeat (first | apply Kd.S_alloc | apply Kd.S_drewN | apply Kd.S_drew)); exact Kd.S_mono HO_3.out (fun k_ hk => ⟨⟨hk.2.1, hk.2.2⟩, fun e_ => hk.1 e_⟩))); (case aS => exact (below_size (qW HB.out))); (case aL => have := LMc28.out; omega); intro v871 w32 ho hb hg hat; rw [← Ny870.out] at ho; replace BK856 := aM (blk_grown (g := gb856) (o := .cells #[.int .i64 a0_0, .int .i64 a0_1, .int .i64 a0_2, .slice A0_3 l0_3.length c0_3] 26 (0, 0)) (qB BK856.out) hg (Kd.S_away HO_3.out (fun _ hk => hk.2.1))); replace BK867 := aM (blk_grown (g := gb867) (o := .cells #[.int .i64 t861, .int .i64 t862, .int .i64 t863, .slice Ao31 x868003_2.length co31] 26 (0, 0)) (qB BK867.out) hg (Kd.S_away HO_3.out (fun _ hk => hk.2.2))); replace HB := aM (hb); have HO872 := aM (ho); clear HO_3 HO_868003; clear ho hb hg hat))
      go_roundg k2
      case measure => have := HK1.out; have := HK2.out; omega
      case rel => exact ⟨(y870), (wrap64 (x4_1 + 1)), qE, H', ⟨by have := HK1.out; have := HK2.out; omega⟩, ⟨by (with_reducible repeat (first | apply Kd.S_alloc | apply Kd.S_drewN | apply Kd.S_drew)); exact Kd.S_mono HO872.out (fun _ hk => hk.1)⟩, ⟨by refine qB ?_; exact BK856.out⟩, ⟨by exact qW HB.out⟩⟩
     rw [if_pos c17] at H
     have c17b0 : decide (x6_2 < (x868003_2.length : Int)) = true := decide_eq_true c17
     clear c17
     obtain ⟨ji18, hji18⟩ : ∃ j_ : Int, (wrap64 ((wrap64 (x6_2 * a0_2)) + x4_1)) = j_ := ⟨_, rfl⟩
     replace H : (if 0 ≤ (ji18) then (if (ji18) < (l0_3.length : Int) then (if 0 ≤ x6_2 then (spec_SplitPlanes.l1 k2 x3_1 x4_1 (wrap64 (x6_2 + 1)) a0_0 a0_1 a0_2 l0_3 t861 t862 t863 (x868003_2.set (x6_2 : Int).toNat (rd l0_3 (ji18)))) else (none)) else (none)) else (none)) = some r := by first | (rw [hji18] at H; exact H) | (simp only [hji18] at H ⊢; exact H)
     have hji18w : (IntKind.i64.wrap ((wrap64 (x6_2 * a0_2)) + x4_1)) = ji18 := (i64_w _).trans hji18
     replace H := iD H
     obtain ⟨c19b0, H⟩ := H
     replace H := iD H
     obtain ⟨c20b0, H⟩ := H
     replace H := iD H
     obtain ⟨c21b0, H⟩ := H
     obtain ⟨y869, hy869⟩ : ∃ y_ : List Int, y_ = (x868003_2.set (x6_2 : Int).toNat (rd l0_3 (ji18))) := ⟨_, rfl⟩
     replace H : (spec_SplitPlanes.l1 k2 x3_1 x4_1 (wrap64 (x6_2 + 1)) a0_0 a0_1 a0_2 l0_3 t861 t862 t863 y869) = some r := rY hy869 H
     have Ny869 := aM hy869
     clear hy869
     have H' := aM H
     clear H
     have hnb23 := NB867_856.out
     have hnc23 := NB856_867.out
     obtain ⟨⟨hcz24_0, hcz24_1, hcz24_2, hcz24_3⟩, hfz24_0, hfz24_1, hfz24_2, hfz24_3⟩ := cf4 BK867
     obtain ⟨Ao25, co25, rfl⟩ := sL HO_868003
     try go_wp2
     replace HO_3 := aM (Kd.S_drew HO_3.out)
     replace HO_868003 := aM (Kd.R_drew HO_868003.out)
     replace BK856 := aM (blk_drew BK856.out)
     replace BK867 := aM (blk_drew BK867.out)
     replace HB := aM (below_drew1 HB.out)
     obtain ⟨ad868, e868, hx868_0⟩ := Kd.at_int HR0_3.out (ji18) oD oD
     have hw868_0 := hx868_0
     cases e868
     replace hx868_0 := bD HB hx868_0
     have p868 := eq_true (oD : 0 ≤ ((ji18) : Int))
     have q868 := eq_true (oD : (ji18) < (l0_3.length : Int))
     have p22 : 0 ≤ (x6_2 : Int) := oD
     have q22 : (x6_2 : Int) < ((x868003_2.length : Int) : Int) := oD
     obtain ⟨go22, co22, eo22, gb22, gl22, cl22, HG22⟩ := Kd.R_form HO_868003.out (by omega)
     (first | cases eo22 | (injection eo22 with ea_ en_ ec_; (first | subst ea_ | (injection ea_ with ea_; subst ea_)); subst ec_; clear en_))
     have GB22 := aM gb22
     have GG22 := aM HG22
     clear gb22 gl22 HG22
     obtain ⟨hx22_0, hf22_0⟩ := Kd.R_celln 0 HO_868003.out (x6_2 : Int) p22 q22
     replace p22 := eq_true p22
     replace q22 := eq_true q22
     have HP27 := Kd.R_putn HO_868003.out (x6_2 : Int) (rd l0_3 (ji18))
     rw [← Ny869.out] at HP27
     have HQ27 := aM HP27
     clear HP27
     refine start_ (n := 15) (S := fun w' => w'.cell? ⟨gb867, 0, none⟩ = some (.int .i64 t861) ∧ w'.cell? ⟨gb867, 1, none⟩ = some (.int .i64 t862) ∧ w'.cell? ⟨gb867, 2, none⟩ = some (.int .i64 t863) ∧ w'.cell? ⟨gb867, 3, none⟩ = some (.slice (some ⟨go22, 0, none⟩) x868003_2.length co25) ∧ w'.cell? ⟨gb856, 0, none⟩ = some (.int .i64 a0_0) ∧ w'.cell? ⟨gb856, 1, none⟩ = some (.int .i64 a0_1) ∧ w'.cell? ⟨gb856, 2, none⟩ = some (.int .i64 a0_2) ∧ w'.cell? ⟨gb856, 3, none⟩ = some (.slice (some ad868) l0_3.length c0_3) ∧ w'.cell? (ad868.add ((ji18)).toNat) = some (.int .i64 (rd l0_3 (ji18)))) (ds := [14]) (bA 15 0) (by kernel_rfl) rfl rfl ⟨(blk_cell BK867.out 0).trans rfl, (blk_cell BK867.out 1).trans rfl, (blk_cell BK867.out 2).trans rfl, (blk_cell BK867.out 3).trans rfl, (blk_cell BK856.out 0).trans rfl, (blk_cell BK856.out 1).trans rfl, (blk_cell BK856.out 2).trans rfl, (blk_cell BK856.out 3).trans rfl, (bC HB hw868_0)⟩ (fun hHeld => ?_); refine with_tabW spec_SplitPlanes.tab11 spec_SplitPlanes.bits11 (fun HT_ HW_ => ?_)
     generalize wr.drew = w26 at HO_3 HO_868003 BK856 BK867 HB GG22 HQ27 hf22_0 hx22_0 hx868_0 hHeld ⊢
     refine pQ 0 29 HT_ (bA 15 1) ?_
     refine pQ 2 31 HT_ (bA 15 5) ?_
     refine pQ 3 32 HT_ (bA 15 13) ?_
     refine pQ 5 34 HT_ (bA 15 45) ?_
     refine pQ 6 35 HT_ (bA 15 109) ?_
     refine pQ 9 38 HT_ (bA 15 621) ?_
     refine take_ (i := 1) (N := some 30) (v := ?_) (a' := ?_) (bA 15 623) rfl rfl (take_ofW HT_.out HW_.out (by kernel_rfl)) (fun _ _ _ h => h) (Or.inl ⟨by rfl, ?_⟩) hHeld ?_ ?_
     rotate_left
     ·rintro w' ⟨s0, s1, s2, s3, s4, s5, s6, s7, s8⟩
      go_simp
      with_reducible rfl
     rotate_left
     ·refine pZ ?_
      rfl
     refine take_ (i := 4) (N := some 33) (v := ?_) (a' := ?_) (bA 15 639) rfl rfl (take_ofW HT_.out HW_.out (by kernel_rfl)) (fun _ _ _ h => h) (Or.inl ⟨by rfl, ?_⟩) hHeld ?_ ?_
     rotate_left
     ·rintro w' ⟨s0, s1, s2, s3, s4, s5, s6, s7, s8⟩
      go_simp
      with_reducible rfl
     rotate_left
     ·refine pZ ?_
      rfl
     refine take_ (i := 7) (N := some 36) (v := ?_) (a' := ?_) (bA 15 767) rfl rfl (take_ofW HT_.out HW_.out (by kernel_rfl)) (fun _ _ _ h => h) (Or.inl ⟨by rfl, ?_⟩) hHeld ?_ ?_
     rotate_left
     ·rintro w' ⟨s0, s1, s2, s3, s4, s5, s6, s7, s8⟩
      go_simp
      with_reducible rfl
     rotate_left
     ·refine pZ ?_
      rfl
     refine pQ 8 37 HT_ (bA 15 1023) ?_
     refine pQ 10 39 HT_ (bA 15 2047) ?_
     refine pQ 11 40 HT_ (bA 15 4095) ?_
     refine take_ (i := 12) (N := some 41) (v := ?_) (a' := ?_) (bA 15 8191) rfl rfl (take_ofW HT_.out HW_.out (by kernel_rfl)) (fun _ _ _ h => h) (Or.inl ⟨by rfl, ?_⟩) hHeld ?_ ?_
     rotate_left
     ·rintro w' ⟨s0, s1, s2, s3, s4, s5, s6, s7, s8⟩
      go_simp
      with_reducible rfl
     rotate_left
     ·refine pZ ?_
      rfl
     refine pQ 13 42 HT_ (bA 15 16383) ?_
     refine last_ (i := 14) (N := none) (bA 15 32767) rfl rfl (one_of HT_.out (by kernel_rfl)) (by decide) (fun K hK => ?_)
     refine skip_ (w1 := ?_) (by rfl) rfl ?_ ?_
     rotate_left
     ·go_simp
      rfl
     refine hK.out _ _ ?_
     clear hK K
     refine done_ (done_of HT_.out (by kernel_rfl)) ?_
     try go_wp2
     go_roundg k2
     case measure => have := HK1.out; have := HK2.out; omega
     case rel => exact ⟨(wrap64 (x6_2 + 1)), (y869), (.slice (some ⟨go22, 0, none⟩) x868003_2.length co25), qE, H', ⟨by have := HK1.out; have := HK2.out; omega⟩, ⟨by (with_reducible repeat (first | apply Kd.S_alloc | apply Kd.S_drewN | apply Kd.S_drew)); exact Kd.S_mono (Kd.S_far (p := ⟨go22, (x6_2 : Int).toNat, none⟩) (Kd.S_mono HO_3.out (fun k_ hk => (⟨hk, fun e_ => hk.1 (by rw [e_]; rfl)⟩ : _ ∧ k_ ≠ go22))) (fun _ hk => hk.2) (.int .i64 (rd l0_3 (ji18)))) (fun _ hk => ⟨hk.1.1, ⟨hk.1.2.1, hk.1.2.2⟩⟩)⟩, ⟨by refine qR ?_; exact HQ27.out⟩, ⟨by refine qB ?_; refine blk_far ?_ (by have h_ := Kd.R_ne HO_868003.out BK856.out (by decide); intro e_; exact h_ (by rw [e_]; rfl)) _; refine qB ?_; exact BK856.out⟩, ⟨by refine qB ?_; refine blk_far ?_ (by have h_ := Kd.R_ne HO_868003.out BK867.out (by decide); intro e_; exact h_ (by rw [e_]; rfl)) _; refine qB ?_; exact BK867.out⟩, ⟨by exact qW HB.out⟩⟩
def splPix (l : List Int) (a0 a2 k x y : Int) : List Int := ((pixOf l a0 a2 x y).take (k + 1).toNat).drop k.toNat
set_option maxHeartbeats 8000000 in
set_option maxRecDepth 100000 in
theorem splitPlanesPix (w : World) (B1 B2 : Nat) (a0 a1 a2 : Int) (A : Option Addr) (c : Nat) (l : List Int) (kk : Int)
  (hB1 : w.heap[B1]? = some (.cells #[.int .i64 a0, .int .i64 a1, .int .i64 a2, .slice A l.length c] 26 (0, 0))) (hB2 : w.heap[B2]? = some (.cells #[.int .i64 kk] 3 (0, 0)))
  (hr : Kd.C (Kd.int .i64) w A l.length l) (hc : l.length ≤ c) (V : ImgOk a0 a1 a2 l) (hk0 : 0 ≤ kk) (hk1 : kk < a2) :
  PixAt 73 #[.pointer (some ⟨B1, 0, none⟩), .pointer (some ⟨B2, 0, none⟩)] (fun x y => splPix l a0 a2 kk x y) a0 a1 w := fun W x y hb hx hx' hy hy' => by
 obtain ⟨⟨v0, v0'⟩, ⟨v1, v1'⟩, ⟨v2, v2'⟩, hlen, hby⟩ := V
 have hfit := pix_fits (a0 := a0) (a1 := a1) (a2 := a2) (x := x) (y := y) (by omega) (by omega) (by omega) (by omega) (by omega)
 rw [← hlen] at hfit
 have m1 : 0 ≤ y * a0 := Int.mul_nonneg hy (by omega)
 have m2 : 0 ≤ (y * a0 + x) * a2 := Int.mul_nonneg (by omega) (by omega)
 have hpl := pixOf_length (l := l) (n := a0) (p := a2) (x := x) (y := y) m2 (by omega) hfit
 have HR0 := aM (Kd.C_below hr hb)
 have KB1 := aM (blk_below hB1 hb)
 have KB2 := aM (blk_below hB2 hb)
 have HC := aM (fun (W' : World) (hb' : Below W.heap.size W W') => impl_at.calls2 a0 a1 a2 A c l x y W' (Kd.C_below HR0.out hb') hc (by omega) v0' (by omega) (by omega) (by omega) (by omega) (by omega) (by omega) hfit)
 clear hfit hlen hr hc hB1 hB2 hb m1 m2 hby
 dsimp only
 unfold splPix
 generalize pixOf l a0 a2 x y = px at HC hpl ⊢
 have f1 : IntKind.i64.wrap (kk + 1) = kk + 1 := (i64_w _).trans (wrap_small (by omega) (by omega))
 show Calls Try.prog 73 _ W fun e w' => ∃ (A : Option Addr) (c : Nat), e = .returned (.slice A ((px.take (kk + 1).toNat).drop kk.toNat).length c) ∧ Kd.C (Kd.int .i64) w' A ((px.take (kk + 1).toNat).drop kk.toNat).length ((px.take (kk + 1).toNat).drop kk.toNat) ∧ ((px.take (kk + 1).toNat).drop kk.toNat).length ≤ c ∧ Below W.heap.size W w'
 go_enter Try.func73, Try.ntmps73
 go_wp2
 refine start_ (n := 9) (S := fun w' => Below W.heap.size W w') (ds := []) (bA 9 0) (by kernel_rfl) rfl rfl (below_drew (Below.refl _ _)) (fun hHeld => ?_)
 have HB := aM hHeld
 clear hHeld
 generalize W.drew = w2 at HB ⊢
 refine pure_ (i := 1) (N := some 8) (v := ?_) (a' := ?_) (bA 9 2) rfl rfl (by kernel_rfl) (fun _ _ _ h => h) (Or.inl ⟨by rfl, ?_⟩) ?_ ?_
 rotate_left
 ·intro w'
  go_simp
  with_reducible rfl
 rotate_left
 ·refine pZ ?_
  rfl
 refine pure_ (i := 2) (N := some 9) (v := ?_) (a' := ?_) (bA 9 6) rfl rfl (by kernel_rfl) (fun _ _ _ h => h) (Or.inl ⟨by rfl, ?_⟩) ?_ ?_
 rotate_left
 ·intro w'
  go_simp
  with_reducible rfl
 rotate_left
 ·refine pZ ?_
  rfl
 refine take_ (i := 0) (N := some 7) (v := ?_) (a' := ?_) (bA 9 7) rfl rfl (by kernel_rfl) (fun _ _ _ h => h) (Or.inl ⟨by rfl, ?_⟩) HB.out ?_ ?_
 rotate_left
 ·intro w' s0
  have z0 : w'.cell? ⟨B1, 0, none⟩ = some (.int .i64 a0) := (blk_cell (blk_below KB1.out s0) 0).trans rfl
  have z1 : w'.cell? ⟨B1, 1, none⟩ = some (.int .i64 a1) := (blk_cell (blk_below KB1.out s0) 1).trans rfl
  have z2 : w'.cell? ⟨B1, 2, none⟩ = some (.int .i64 a2) := (blk_cell (blk_below KB1.out s0) 2).trans rfl
  have z3 : w'.cell? ⟨B1, 3, none⟩ = some (.slice A l.length c) := (blk_cell (blk_below KB1.out s0) 3).trans rfl
  go_simp
  with_reducible rfl
 rotate_left
 ·refine pZ ?_
  rfl
 refine take_ (i := 4) (N := some 11) (v := ?_) (a' := ?_) (bA 9 23) rfl rfl (by kernel_rfl) (fun _ _ _ h => h) (Or.inl ⟨by rfl, ?_⟩) HB.out ?_ ?_
 rotate_left
 ·intro w' s0
  have z : w'.cell? ⟨B2, 0, none⟩ = some (.int .i64 kk) := (blk_cell (blk_below KB2.out s0) 0).trans rfl
  go_simp
  with_reducible rfl
 rotate_left
 ·refine pZ ?_
  rfl
 refine take_ (i := 5) (N := some 12) (v := ?_) (a' := ?_) (bA 9 55) rfl rfl (by kernel_rfl) (fun _ _ _ h => h) (Or.inl ⟨by rfl, ?_⟩) HB.out ?_ ?_
 rotate_left
 ·intro w' s0
  have z : w'.cell? ⟨B2, 0, none⟩ = some (.int .i64 kk) := (blk_cell (blk_below KB2.out s0) 0).trans rfl
  go_simp
  with_reducible rfl
 rotate_left
 ·refine pZ ?_
  rfl
 refine pure_ (i := 6) (N := some 13) (v := ?_) (a' := ?_) (bA 9 119) rfl rfl (by kernel_rfl) (fun _ _ _ h => h) (Or.inl ⟨by rfl, ?_⟩) ?_ ?_
 rotate_left
 ·intro w'
  go_simp
  with_reducible rfl
 rotate_left
 ·refine pZ ?_
  rfl
 refine one_ (i := 3) (N := some 10) (bA 9 127) rfl rfl (by kernel_rfl) (by decide) (fun K hK => ?_)
 refine goes_ Try.func51 (by kernel_rfl) rfl #[.agg #[.int .i64 a0, .int .i64 a1, .int .i64 a2, .slice A l.length c], .int .i64 x, .int .i64 y] (by rfl) rfl rfl (by (try simp only [List.map_toArray, List.map_cons, List.map_nil]); first | done | rfl) ?_
 refine (HC.out _ HB.out).mono ?_
 rintro e w3 ⟨A', c', rfl, hr', hl', hb', hall⟩
 refine ⟨_, rfl, ?_⟩
 have HB3 := aM (below_step HB.out hb')
 have HALL := aM hall
 have HLC := aM hl'
 clear HB hr' hall hb' hl'
 have HB := HB3
 clear HB3
 refine hK.out _ _ HB.out (fun hHeld => ?_)
 clear hK K hHeld
 refine norm_ (a' := ?_) ?_ ?_
 rotate_left
 ·show Act.put _ (some 10) _ = _
  refine pZ ?_
  rfl
 obtain ⟨i010, hi010, _, hsz10, _⟩ := info_parts info3
 obtain ⟨A10, hcut10, hA10, hC10⟩ := print_mid_of (P := Try.prog) (Value.int .i64) 0 22 3 .i64 .i64 Try.underlying22 hi010 hsz10 A' c' px kk (kk + 1) hk0 (by omega) (by omega) HLC.out
 have HRC := aM (Kd.C_of_reads (d := (0 : Int)) (h1 := fun _ => rfl) (hA10 w3 (Kd.reads_of_C (HALL.out w3 (Kd.C_below HR0.out HB.out)))))
 have HCC := aM hC10
 clear hA10 hC10 hi010 hsz10
 refine pure_ (i := 7) (N := some 14) (v := ?_) (a' := ?_) (bA 9 255) rfl rfl (by kernel_rfl) (fun _ _ _ h => h) (Or.inl ⟨by rfl, ?_⟩) ?_ ?_
 rotate_left
 ·intro w'
  go_simp
  with_reducible rfl
 rotate_left
 ·refine pZ ?_
  rfl
 refine pure_ (i := 8) (N := some 6) (v := ?_) (a' := ?_) (bA 9 511) rfl rfl (by kernel_rfl) (fun _ _ _ h => h) (Or.inl ⟨by rfl, ?_⟩) ?_ ?_
 rotate_left
 ·intro w'
  go_simp
  with_reducible rfl
 rotate_left
 ·refine pZ ?_
  rfl
 refine done_ (by kernel_rfl) ?_
 try go_wp2
 go_ret
 exact ⟨A10, _, (by rw [List.length_drop, List.length_take]; rfl), HRC.out, HCC.out, HB.out⟩
def splAll (l : List Int) (a0 a1 a2 : Int) : Nat → List S26
 | 0 => []
 | k + 1 => splAll l a0 a1 a2 k ++ [(⟨a0, a1, 1, imgOf (fun x y => splPix l a0 a2 (k : Int) x y) a0.toNat a1.toNat⟩ : S26)]
theorem splAll_len (l : List Int) (a0 a1 a2 : Int) : ∀ k, (splAll l a0 a1 a2 k).length = k
 | 0 => rfl
 | k + 1 => by rw [splAll, List.length_append, splAll_len l a0 a1 a2 k]; rfl
theorem splPix_len (l : List Int) (a0 a2 : Int) (h0 : 0 ≤ a2) (h1 : a2 ≤ 4) (k x y : Int) : (splPix l a0 a2 k x y).length ≤ 100 := by
 have := pixOf_len l a0 a2 x y h0 h1
 unfold splPix
 rw [List.length_drop, List.length_take]
 omega
def impl_SplitPlanes.f (a0_0 : Int) (a0_1 : Int) (a0_2 : Int) (l0_3 : List Int) : Option (List S26) := (impl_isImage.f a0_0 a0_1 a0_2 l0_3).bind fun t0 => (if t0 = true then some (splAll l0_3 a0_0 a0_1 a0_2 a0_2.toNat) else some ([] : List S26))
set_option maxHeartbeats 8000000 in
set_option maxRecDepth 100000 in
theorem impl_SplitPlanes.calls (a0_0 : Int) (a0_1 : Int) (a0_2 : Int) (A0_3 : Option Addr) (c0_3 : Nat) (l0_3 : List Int) (r : List S26) (w : World) (hr0_3 : Kd.C (Kd.int .i64) w A0_3 l0_3.length l0_3) (hc0_3 : l0_3.length ≤ c0_3) (h : impl_SplitPlanes.f a0_0 a0_1 a0_2 l0_3 = some r) :
  Calls Try.prog 35 #[.agg #[.int .i64 a0_0, .int .i64 a0_1, .int .i64 a0_2, .slice A0_3 l0_3.length c0_3]] w fun e w' => ∃ v0_ : Value, e = .returned (v0_) ∧ Kd.S k26 26 w' w.heap.size (fun _ => True) v0_ r ∧ Below w.heap.size w w' := by
 have hu26 := Try.underlying26
 have HR0 := aM hr0_3
 have HC0 := aM hc0_3
 clear hr0_3 hc0_3
 have HB := aM (Below.refl w.heap.size w)
 unfold impl_SplitPlanes.f at h
 obtain ⟨t0, q0, H⟩ := Option.bind_eq_some_iff.mp h
 clear h
 have A0 := aM q0
 clear q0
 cases t0 with
 | false =>
  rw [if_neg (show ¬ (false = true) by decide)] at H
  obtain rfl := Option.some.inj H
  go_enter Try.func35, Try.ntmps35
  go_wp2_with (first | ((with_reducible refine gate_dst (N := 1) rfl ?_); (try (refine gate_guard (by rfl) ?_; dsimp only)); refine bxE (N := 1) (cs := #[.int .i64 a0_0, .int .i64 a0_1, .int .i64 a0_2, .slice A0_3 l0_3.length c0_3]) (t := 26) ?_; intro gm hg w1 hbox hb; have n2 := bS HB hb; have n3 := aM hbox; have n4 := aM ((by rw [hg]; exact (below_size (qW HB.out))) : w.heap.size ≤ gm); clear HB; have HB := n2; have BKgm := n3; have GEgm := n4; clear n2 n3 n4; clear hb hbox hg; have hz5 : w1.cell? ⟨gm, 0, none⟩ = some (.int .i64 a0_0) := (blk_cell BKgm.out 0).trans rfl; have hz6 : w1.cell? ⟨gm, 1, none⟩ = some (.int .i64 a0_1) := (blk_cell BKgm.out 1).trans rfl; have hz7 : w1.cell? ⟨gm, 2, none⟩ = some (.int .i64 a0_2) := (blk_cell BKgm.out 2).trans rfl; have hz8 : w1.cell? ⟨gm, 3, none⟩ = some (.slice A0_3 l0_3.length c0_3) := (blk_cell BKgm.out 3).trans rfl; have hf9 := blk_frozen BKgm.out 0; have hf10 := blk_frozen BKgm.out 1; have hf11 := blk_frozen BKgm.out 2; have hf12 := blk_frozen BKgm.out 3) | (go_at_call 48; (with_reducible refine (impl_isImage.calls a0_0 a0_1 a0_2 _ _ l0_3 false _ ?side1 ?side2 A0.out).mono ?_); (case side1 => exact (Kd.C_below HR0.out (qW HB.out))); (case side2 => exact HC0.out); rintro e w13 ⟨rfl, hb⟩; have n14 := bB BKgm hb; have n15 := bS HB hb; clear HB BKgm; have BKgm := n14; have HB := n15; clear n14 n15 hb; have hz16 : w13.cell? ⟨gm, 0, none⟩ = some (.int .i64 a0_0) := (blk_cell BKgm.out 0).trans rfl; have hz17 : w13.cell? ⟨gm, 1, none⟩ = some (.int .i64 a0_1) := (blk_cell BKgm.out 1).trans rfl; have hz18 : w13.cell? ⟨gm, 2, none⟩ = some (.int .i64 a0_2) := (blk_cell BKgm.out 2).trans rfl; have hz19 : w13.cell? ⟨gm, 3, none⟩ = some (.slice A0_3 l0_3.length c0_3) := (blk_cell BKgm.out 3).trans rfl; have hf20 := blk_frozen BKgm.out 0; have hf21 := blk_frozen BKgm.out 1; have hf22 := blk_frozen BKgm.out 2; have hf23 := blk_frozen BKgm.out 3))
  go_ret
  exact ⟨_, rfl, Kd.S_nil _ _ _ _ _, by exact qW HB.out⟩
 | true =>
  rw [if_pos rfl] at H
  obtain rfl := Option.some.inj H
  have V := aM (isImage_true A0.out)
  have b_ := V.out
  obtain ⟨⟨v0, v0'⟩, ⟨v1, v1'⟩, ⟨v2, v2'⟩, hlen, hby⟩ := b_
  clear hlen hby
  obtain ⟨p, rfl⟩ := Int.eq_ofNat_of_zero_le (show 0 ≤ a0_2 by omega)
  rw [Int.toNat_natCast]
  go_enter Try.func35, Try.ntmps35
  go_wp2_with (first | ((with_reducible refine gate_dst (N := 1) rfl ?_); (try (refine gate_guard (by rfl) ?_; dsimp only)); refine bxE (N := 1) (cs := #[.int .i64 a0_0, .int .i64 a0_1, .int .i64 (p : Int), .slice A0_3 l0_3.length c0_3]) (t := 26) ?_; intro gm hg w24 hbox hb; have n25 := bS HB hb; have n26 := aM hbox; have n27 := aM ((by rw [hg]; exact (below_size (qW HB.out))) : w.heap.size ≤ gm); clear HB; have HB := n25; have BKgm := n26; have GEgm := n27; clear n25 n26 n27; clear hb hbox hg; have hz28 : w24.cell? ⟨gm, 0, none⟩ = some (.int .i64 a0_0) := (blk_cell BKgm.out 0).trans rfl; have hz29 : w24.cell? ⟨gm, 1, none⟩ = some (.int .i64 a0_1) := (blk_cell BKgm.out 1).trans rfl; have hz30 : w24.cell? ⟨gm, 2, none⟩ = some (.int .i64 (p : Int)) := (blk_cell BKgm.out 2).trans rfl; have hz31 : w24.cell? ⟨gm, 3, none⟩ = some (.slice A0_3 l0_3.length c0_3) := (blk_cell BKgm.out 3).trans rfl; have hf32 := blk_frozen BKgm.out 0; have hf33 := blk_frozen BKgm.out 1; have hf34 := blk_frozen BKgm.out 2; have hf35 := blk_frozen BKgm.out 3) | (go_at_call 48; (with_reducible refine (impl_isImage.calls a0_0 a0_1 (p : Int) _ _ l0_3 true _ ?side1 ?side2 A0.out).mono ?_); (case side1 => exact (Kd.C_below HR0.out (qW HB.out))); (case side2 => exact HC0.out); rintro e w36 ⟨rfl, hb⟩; have n37 := bB BKgm hb; have n38 := bS HB hb; clear HB BKgm; have BKgm := n37; have HB := n38; clear n37 n38 hb; have hz39 : w36.cell? ⟨gm, 0, none⟩ = some (.int .i64 a0_0) := (blk_cell BKgm.out 0).trans rfl; have hz40 : w36.cell? ⟨gm, 1, none⟩ = some (.int .i64 a0_1) := (blk_cell BKgm.out 1).trans rfl; have hz41 : w36.cell? ⟨gm, 2, none⟩ = some (.int .i64 (p : Int)) := (blk_cell BKgm.out 2).trans rfl; have hz42 : w36.cell? ⟨gm, 3, none⟩ = some (.slice A0_3 l0_3.length c0_3) := (blk_cell BKgm.out 3).trans rfl; have hf43 := blk_frozen BKgm.out 0; have hf44 := blk_frozen BKgm.out 1; have hf45 := blk_frozen BKgm.out 2; have hf46 := blk_frozen BKgm.out 3) | ((with_reducible refine gate_dst (N := 8) rfl ?_); refine Kd.S_lit k26 _ 26 ?hg (N := 8) ?hd (xs := ([] : List S26)) (inner := []) (ok := fun _ => True) (okp := fun _ => True) ?hr ?hp (fun _ hk => hk) trivial (Below.refl _ _) (Nat.le_refl _) (by simp) ?_; (case hd => rfl); (case hg => rfl); (case hr => first | (go_simp; done) | (go_simp; rfl)); (case hp => exact (Reps.none _ _)); intro vl w47 ho4 hb hg_ hnew_; clear hg_ hnew_; have r_ := aM (Kd.S_lower (Kd.S_newB ho4 (g := gm) (o := .cells #[.int .i64 a0_0, .int .i64 a0_1, .int .i64 (p : Int), .slice A0_3 l0_3.length c0_3] 26 (0, 0)) (qB BKgm.out)) (below_size (qW HB.out))); have n48 := bB BKgm hb; have n49 := bS HB hb; clear HB BKgm; have BKgm := n48; have HB := n49; clear n48 n49 hb; have hz50 : w47.cell? ⟨gm, 0, none⟩ = some (.int .i64 a0_0) := (blk_cell BKgm.out 0).trans rfl; have hz51 : w47.cell? ⟨gm, 1, none⟩ = some (.int .i64 a0_1) := (blk_cell BKgm.out 1).trans rfl; have hz52 : w47.cell? ⟨gm, 2, none⟩ = some (.int .i64 (p : Int)) := (blk_cell BKgm.out 2).trans rfl; have hz53 : w47.cell? ⟨gm, 3, none⟩ = some (.slice A0_3 l0_3.length c0_3) := (blk_cell BKgm.out 3).trans rfl; have hf54 := blk_frozen BKgm.out 0; have hf55 := blk_frozen BKgm.out 1; have hf56 := blk_frozen BKgm.out 2; have hf57 := blk_frozen BKgm.out 3; have HO := r_; clear r_ ho4))
  go_loopg [3, 11] p (fun gg s3 s11 w' => ∃ (k : Nat) (u : Value), k ≤ p ∧ p - k ≤ gg ∧ s11 = .int .i64 k ∧ s3 = u ∧ Aside0 (Kd.S k26 26 w' w.heap.size (fun k_ => k_ ≠ gm) u (splAll l0_3 a0_0 a0_1 p k)) ∧ Aside0 (w'.heap[gm]? = some (.cells #[.int .i64 a0_0, .int .i64 a0_1, .int .i64 (p : Int), .slice A0_3 l0_3.length c0_3] 26 (0, 0))) ∧ Aside0 (Below w.heap.size w w'))
  case atStart => exact ⟨0, _, Nat.zero_le _, by omega, rfl, rfl, ⟨by (with_reducible repeat (first | apply Kd.S_alloc | apply Kd.S_drewN | apply Kd.S_drew)); exact Kd.S_mono HO.out (fun _ hk => hk.2)⟩, ⟨by refine qB ?_; exact BKgm.out⟩, ⟨by exact qW HB.out⟩⟩
  case round =>
   clear HO HB BKgm
   obtain ⟨k, u, hk, hg, rfl, rfl, HO, BKgm, HB⟩ := hrel
   obtain ⟨Au, cu, eu⟩ := Kd.S_slice HO.out
   subst eu
   have hz58 : wr.cell? ⟨gm, 0, none⟩ = some (.int .i64 a0_0) := (blk_cell BKgm.out 0).trans rfl
   have hz59 : wr.cell? ⟨gm, 1, none⟩ = some (.int .i64 a0_1) := (blk_cell BKgm.out 1).trans rfl
   have hz60 : wr.cell? ⟨gm, 2, none⟩ = some (.int .i64 (p : Int)) := (blk_cell BKgm.out 2).trans rfl
   have hz61 : wr.cell? ⟨gm, 3, none⟩ = some (.slice A0_3 l0_3.length c0_3) := (blk_cell BKgm.out 3).trans rfl
   have hf62 := blk_frozen BKgm.out 0
   have hf63 := blk_frozen BKgm.out 1
   have hf64 := blk_frozen BKgm.out 2
   have hf65 := blk_frozen BKgm.out 3
   have hn := splAll_len l0_3 a0_0 a0_1 p k
   generalize hxs : splAll l0_3 a0_0 a0_1 p k = xs at HO hn
   have EXS := aM hxs
   clear hxs
   have HLN := aM hn
   clear hn
   by_cases hlt : k < p
   case neg =>
    have hltz : ¬ (k : Int) < (p : Int) := by omega
    have ek : k = p := by omega
    subst ek
    go_wp2
    go_ret
    exact ⟨.slice Au xs.length cu, by first | rfl | (simp; done), by rw [EXS.out]; (with_reducible repeat (first | apply Kd.S_alloc | apply Kd.S_drewN | apply Kd.S_drew)); exact Kd.S_mono HO.out (fun _ _ => trivial), by exact qW HB.out⟩
   case pos =>
    have hltz : (k : Int) < (p : Int) := by omega
    have HF : Aside0 (∀ x y : Int, ((fun x y => splPix l0_3 a0_0 p k x y) x y).length ≤ 100) := ⟨fun _ _ => splPix_len _ _ _ (by omega) (by omega) _ _ _⟩
    generalize hyl : imgOf (fun x y => splPix l0_3 a0_0 p k x y) a0_0.toNat a0_1.toNat = yl
    have HYL := aM hyl
    clear hyl
    go_wp2_with (first | ((with_reducible refine gate_dst (N := 4) rfl ?_); (try (refine gate_guard (by rfl) ?_; dsimp only)); refine bxE (N := 4) (cs := #[.int .i64 0]) (t := 3) ?_; intro gk hg w66 hbox hb; have n67 := bB BKgm hb; have n68 := bS HB hb; have n69 := aM hbox; have n70 := aM ((by rw [hg]; exact (below_size (qW HB.out))) : w.heap.size ≤ gk); have n71 := aM ((by rw [hg]; exact Nat.ne_of_lt (blk_lt (g := gm) (o := .cells #[.int .i64 a0_0, .int .i64 a0_1, .int .i64 (p : Int), .slice A0_3 l0_3.length c0_3] 26 (0, 0)) (qB BKgm.out))) : gm ≠ gk); have n72 := aM ((by rw [hg]; exact Nat.ne_of_gt (blk_lt (g := gm) (o := .cells #[.int .i64 a0_0, .int .i64 a0_1, .int .i64 (p : Int), .slice A0_3 l0_3.length c0_3] 26 (0, 0)) (qB BKgm.out))) : gk ≠ gm); have r_ := aM (Kd.S_below (Kd.S_elderB (by (with_reducible repeat (first | apply Kd.S_alloc | apply Kd.S_drewN | apply Kd.S_drew)); exact HO.out) gk (Nat.le_of_eq hg.symm)) hb); clear HO; have HO := r_; clear r_; clear HB BKgm; have BKgm := n67; have HB := n68; have BKgk := n69; have GEgk := n70; have NBgm_gk := n71; have NBgk_gm := n72; clear n67 n68 n69 n70 n71 n72; clear hb hbox hg; have hz73 : w66.cell? ⟨gm, 0, none⟩ = some (.int .i64 a0_0) := (blk_cell BKgm.out 0).trans rfl; have hz74 : w66.cell? ⟨gm, 1, none⟩ = some (.int .i64 a0_1) := (blk_cell BKgm.out 1).trans rfl; have hz75 : w66.cell? ⟨gm, 2, none⟩ = some (.int .i64 (p : Int)) := (blk_cell BKgm.out 2).trans rfl; have hz76 : w66.cell? ⟨gm, 3, none⟩ = some (.slice A0_3 l0_3.length c0_3) := (blk_cell BKgm.out 3).trans rfl; have hf77 := blk_frozen BKgm.out 0; have hf78 := blk_frozen BKgm.out 1; have hf79 := blk_frozen BKgm.out 2; have hf80 := blk_frozen BKgm.out 3) | ((with_reducible refine gate_store (t := 3) (p := 4) rfl ?_); have hzs0_ : w66.cell? ⟨gk, 0, none⟩ = some (.int .i64 0) := (blk_cell BKgk.out 0).trans rfl; have hfs0_ := blk_frozen BKgk.out 0; refine store_event (t := 3) (p := 4) (v := ?vo_w83) (w1 := (w66.setCell ⟨gk, 0, none⟩ (.int .i64 (k : Int)))) ?hg ?ho ?hn ?hr ?_; (case ho => rfl); (case hg => rfl); (case hn => rfl); (case hr => first | (go_simp; done) | (go_simp; rfl)); intro w83 hw; have r_ := aM (show Kd.S k26 26 w83 w.heap.size (fun k_ => k_ ≠ gm ∧ k_ ≠ gk) (.slice Au xs.length cu) xs by rw [hw]; exact Kd.S_far (p := ⟨gk, 0, none⟩) HO.out (fun _ hk => hk.2) _); clear HO; have HO := r_; clear r_; have n84 := aM (show w83.heap[gm]? = some (.cells #[.int .i64 a0_0, .int .i64 a0_1, .int .i64 (p : Int), .slice A0_3 l0_3.length c0_3] 26 (0, 0)) by rw [hw]; exact blk_far (BKgm.out) NBgm_gk.out _); have n85 := aM (show w83.heap[gk]? = some (.cells #[.int .i64 (k : Int)] 3 (0, 0)) by rw [hw]; refine blk_put (cs := #[.int .i64 0]) ?_ 0 _ rfl; exact BKgk.out); have n86 := aM (show Below w.heap.size w w83 by rw [hw]; exact below_set (HB.out) GEgk.out); clear hzs0_ hfs0_; clear HB BKgm BKgk hw; have BKgm := n84; have BKgk := n85; have HB := n86; clear n84 n85 n86; have hz87 : w83.cell? ⟨gm, 0, none⟩ = some (.int .i64 a0_0) := (blk_cell BKgm.out 0).trans rfl; have hz88 : w83.cell? ⟨gm, 1, none⟩ = some (.int .i64 a0_1) := (blk_cell BKgm.out 1).trans rfl; have hz89 : w83.cell? ⟨gm, 2, none⟩ = some (.int .i64 (p : Int)) := (blk_cell BKgm.out 2).trans rfl; have hz90 : w83.cell? ⟨gm, 3, none⟩ = some (.slice A0_3 l0_3.length c0_3) := (blk_cell BKgm.out 3).trans rfl; have hf91 := blk_frozen BKgm.out 0; have hf92 := blk_frozen BKgm.out 1; have hf93 := blk_frozen BKgm.out 2; have hf94 := blk_frozen BKgm.out 3; have hz95 : w83.cell? ⟨gk, 0, none⟩ = some (.int .i64 (k : Int)) := (blk_cell BKgk.out 0).trans rfl; have hf96 := blk_frozen BKgk.out 0) | (go_at_call 49; refine (impl_imageBy.calls 73 #[.pointer (some ⟨gm, 0, none⟩), .pointer (some ⟨gk, 0, none⟩)] (enters_of Try.func73 (by kernel_rfl) rfl) _ a0_0 a0_1 1 _ ?b0 ?b1 ?b2 ?b3 ?bf (splitPlanesPix _ gm gk a0_0 a0_1 p _ _ l0_3 k (qB BKgm.out) (qB BKgk.out) (Kd.C_below HR0.out (qW HB.out)) HC0.out V.out (by omega) (by omega))).mono ?_; (case b0 => omega); (case b1 => omega); (case b2 => omega); (case b3 => omega); (case bf => exact HF.out); rintro e w97 ⟨v3, rfl, ho, hb⟩; rw [HYL.out] at ho; have ho := Kd.R_newB ho (g := gk) (o := .cells #[.int .i64 (k : Int)] 3 (0, 0)) (qB BKgk.out); have m1_ := aM (Kd.S_elder' (by (with_reducible repeat (first | apply Kd.S_alloc | apply Kd.S_drewN | apply Kd.S_drew)); exact HO.out) (Kd.R_base ho) hb); have m2_ := aM (Kd.R_lower ho (below_size (qW HB.out))); clear HO; obtain ⟨A3, c3, e3⟩ := Kd.R_slice ho; subst e3; clear ho; have n98 := bB BKgm hb; have n99 := bB BKgk hb; have n100 := bS HB hb; clear HB BKgm BKgk; have BKgm := n98; have BKgk := n99; have HB := n100; clear n98 n99 n100 hb; have hz101 : w97.cell? ⟨gm, 0, none⟩ = some (.int .i64 a0_0) := (blk_cell BKgm.out 0).trans rfl; have hz102 : w97.cell? ⟨gm, 1, none⟩ = some (.int .i64 a0_1) := (blk_cell BKgm.out 1).trans rfl; have hz103 : w97.cell? ⟨gm, 2, none⟩ = some (.int .i64 (p : Int)) := (blk_cell BKgm.out 2).trans rfl; have hz104 : w97.cell? ⟨gm, 3, none⟩ = some (.slice A0_3 l0_3.length c0_3) := (blk_cell BKgm.out 3).trans rfl; have hf105 := blk_frozen BKgm.out 0; have hf106 := blk_frozen BKgm.out 1; have hf107 := blk_frozen BKgm.out 2; have hf108 := blk_frozen BKgm.out 3; have hz109 : w97.cell? ⟨gk, 0, none⟩ = some (.int .i64 (k : Int)) := (blk_cell BKgk.out 0).trans rfl; have hf110 := blk_frozen BKgk.out 0; have HO := m1_; have HV := m2_; clear m1_ m2_) | ((with_reducible refine gate_builtin (b := .append) (xs := #[.tmp 14, .tmp 21]) rfl ?_); at_builtin; refine Kd.S_append k26 (w0 := w) w.heap.size rfl (.tmp 14) (.tmp 21) 41 26 (.agg #[(.int .i64 0), (.int .i64 0), (.int .i64 0), (.slice none 0 0)]) 48 rfl Try.underlying41 info26 rfl (by decide) (by omega) (.slice Au xs.length cu) xs (⟨a0_0, a0_1, 1, yl⟩ : S26) [.int .i64 a0_0, .int .i64 a0_1, .int .i64 1, .slice A3 yl.length c3] (fun k_ => k_ ≠ gm ∧ k_ ≠ gk) (fun k_ => some k_ = (.slice A3 yl.length c3 : Value).ownBlock) rfl rfl ?aP (fun k_ hk_ => (Kd.R_mono (ok' := fun k_ => (k_ ≠ gm ∧ k_ ≠ gk) ∧ some k_ ≠ (.slice Au xs.length cu : Value).ownBlock) (Kd.R_types (Kd.R_apart' (HV.out) (Kd.S_typed HO.out) (by decide)) BKgm.out (by decide)) (fun k_ hk => ⟨⟨hk.2, hk.1.1.2⟩, hk.1.2⟩)).1 k_ hk_.symm) ?aF ?aO ?aB ?aS ?aL ?_; (case aP => exact k26_mkM _ _ _ (⟨a0_0, a0_1, 1, yl⟩ : S26) (Kd.R_mono (Kd.R_tight rfl (Kd.R_mono (ok' := fun k_ => (k_ ≠ gm ∧ k_ ≠ gk) ∧ some k_ ≠ (.slice Au xs.length cu : Value).ownBlock) (Kd.R_types (Kd.R_apart' (HV.out) (Kd.S_typed HO.out) (by decide)) BKgm.out (by decide)) (fun k_ hk => ⟨⟨hk.2, hk.1.1.2⟩, hk.1.2⟩))) (fun _ h_ => h_))); (case aB => exact (qW HB.out)); (case aF => exact (fun k_ hk => ⟨Kd.freshB (g := gm) (o := .cells #[.int .i64 a0_0, .int .i64 a0_1, .int .i64 (p : Int), .slice A0_3 l0_3.length c0_3] 26 (0, 0)) (qB BKgm.out) k_ hk, Kd.freshB (g := gk) (o := .cells #[.int .i64 (k : Int)] 3 (0, 0)) (qB BKgk.out) k_ hk⟩)); (case aO => exact (by (with_reducible repeat (first | apply Kd.S_alloc | apply Kd.S_drewN | apply Kd.S_drew)); exact Kd.S_mono HO.out (fun k_ hk => ⟨hk.1, fun e_ => hk.2 e_⟩))); (case aS => exact (below_size (qW HB.out))); (case aL => have := HLN.out; omega); intro v35 w111 ho hb hg hat; have m1_ := aM (blk_grown (g := gm) (o := .cells #[.int .i64 a0_0, .int .i64 a0_1, .int .i64 (p : Int), .slice A0_3 l0_3.length c0_3] 26 (0, 0)) (qB BKgm.out) hg (Kd.S_away HO.out (fun _ hk => hk.1.1))); have m2_ := aM ho; have m3_ := aM hb; clear HO BKgm BKgk HB HV; have HO := m2_; have BKgm := m1_; have HB := m3_; clear m1_ m2_ m3_ ho hb hg hat))
    go_roundg (p - (k + 1))
    case measure => omega
    case rel => exact ⟨k + 1, _, by omega, by omega, by go_num, rfl, ⟨by rw [splAll, EXS.out, HYL.out]; (with_reducible repeat (first | apply Kd.S_alloc | apply Kd.S_drewN | apply Kd.S_drew)); exact Kd.S_mono HO.out (fun _ hk => hk.1)⟩, ⟨by refine qB ?_; exact BKgm.out⟩, ⟨by exact qW HB.out⟩⟩
def laws_equalImages.l0 : Nat → List (S26) → List (S26) → Int → Option (Bool)
 | 0, _, _, _ => none
 | k + 1, x0, x1, x5 => if x5 < (x0.length : Int) then (if 0 ≤ x5 then (if x5 < (x1.length : Int) then ((laws_equalImage.f k ((rd_T26 x0 x5).f0) ((rd_T26 x0 x5).f1) ((rd_T26 x0 x5).f2) ((rd_T26 x0 x5).f3) ((rd_T26 x1 x5).f0) ((rd_T26 x1 x5).f1) ((rd_T26 x1 x5).f2) ((rd_T26 x1 x5).f3)).bind fun t940 => (if t940 = true then (laws_equalImages.l0 k x0 x1 (wrap64 (x5 + 1))) else (some false))) else (none)) else (none)) else (some true)
def laws_equalImages.f (k : Nat) (l0 : List (S26)) (l1 : List (S26)) : Option (Bool) := if (l0.length : Int) = (l1.length : Int) then (laws_equalImages.l0 k l0 l1 0) else (some false)
theorem laws_equalImages.mono_l : ∀ k, (∀ y0 y1 y2, LeO (laws_equalImages.l0 k y0 y1 y2) (laws_equalImages.l0 (k + 1) y0 y1 y2))
 | 0 => fun _ _ _ r h => by simp [laws_equalImages.l0] at h
 | k + 1 => by
  have ih0 := laws_equalImages.mono_l k
  ·intro y0 y1 y2
   unfold laws_equalImages.l0
   repeat' first | (with_reducible first | exact ih0 _ _ _ | exact laws_equalImage.mono _ _ _ _ _ _ _ _ _ | exact lR | exact lN | refine lI ?_ ?_ | refine lB ?_ fun _ => ?_) | exact ih0 _ _ _ | exact laws_equalImage.mono _ _ _ _ _ _ _ _ _ | exact lN | refine lI ?_ ?_ | refine lB ?_ fun _ => ?_
theorem laws_equalImages.mono : ∀ a0 a1 k, LeO (laws_equalImages.f k a0 a1) (laws_equalImages.f (k + 1) a0 a1) := by
 intro a0 a1 k
 have ih0 := laws_equalImages.mono_l k
 unfold laws_equalImages.f
 repeat' first | (with_reducible first | exact ih0 _ _ _ | exact laws_equalImage.mono _ _ _ _ _ _ _ _ _ | exact lR | exact lN | refine lI ?_ ?_ | refine lB ?_ fun _ => ?_) | exact ih0 _ _ _ | exact laws_equalImage.mono _ _ _ _ _ _ _ _ _ | exact lN | refine lI ?_ ?_ | refine lB ?_ fun _ => ?_
def laws_equalImages.T6 : Bool × List (List Nat × List Nat) := (true, [([], []), ([], []), ([0, 1], [0, 1]), ([2], [2]), ([], []), ([], []), ([4, 5], [4, 5]), ([6], [6]), ([3, 7], [3, 7]), ([8], [8])])
def laws_equalImages.B6 : List Nat := [0, 0, 3, 7, 0, 0, 48, 112, 255, 511]
theorem laws_equalImages.tab6 : rtab .any (opsOf Try.f40 6) = laws_equalImages.T6 := by kernel_rfl
theorem laws_equalImages.bits6 : waitsOk laws_equalImages.T6.2 laws_equalImages.B6 = true := by kernel_rfl
set_option maxHeartbeats 8000000 in
set_option maxRecDepth 100000 in
theorem laws_equalImages.calls (k : Nat) (A0 : Option Addr) (c0 : Nat) (l0 : List (S26)) (A1 : Option Addr) (c1 : Nat) (l1 : List (S26)) (r : Bool) (w : World) (hr0 : Kd.C k26 w A0 l0.length l0) (hc0 : l0.length ≤ c0) (hr1 : Kd.C k26 w A1 l1.length l1) (hc1 : l1.length ≤ c1) (h : laws_equalImages.f k l0 l1 = some r) :
  Calls Try.prog 40 #[.slice A0 l0.length c0, .slice A1 l1.length c1] w fun e w' => e = .returned (.bool r) ∧ Below w.heap.size w w' := by
 have hu26 := Try.underlying26
 have HR0 := aM hr0
 have HC0 := aM hc0
 clear hr0 hc0
 have HR1 := aM hr1
 have HC1 := aM hc1
 clear hr1 hc1
 have HB := aM (Below.refl w.heap.size w)
 unfold laws_equalImages.f at h
 have H := h
 clear h
 by_cases c3 : (l0.length : Int) = (l1.length : Int)
 rotate_left
 ·rw [if_neg c3] at H
  have c3b0 : ((l0.length : Int) == (l1.length : Int)) = false := beq_eq_false_iff_ne.mpr c3
  have c3b1 : ((l0.length : Int) != (l1.length : Int)) = true := bne_iff_ne.mpr c3
  have c3b2 : (l0.length == l1.length) = false := by first | simpa using c3 | (simp at c3 ⊢; omega)
  obtain rfl := Option.some.inj H
  go_enter Try.func40, Try.ntmps40
  go_wp2
  go_ret
  exact ⟨qX, by exact qW HB.out⟩
 rw [if_pos c3] at H
 have c3b0 : ((l0.length : Int) == (l1.length : Int)) = true := beq_iff_eq.mpr c3
 have c3b1 : ((l0.length : Int) != (l1.length : Int)) = false := bne_eq_false_iff_eq.mpr c3
 have c3b2 : (l0.length == l1.length) = true := by first | simpa using c3 | (simp at c3 ⊢; omega)
 clear c3
 have H' := aM H
 clear H
 go_enter Try.func40, Try.ntmps40
 go_wp2
 go_loopg [5] k (fun kq v5 w' => ∃ (x5_1 : Int), v5 = .int .i64 x5_1 ∧ Aside0 (laws_equalImages.l0 kq l0 l1 x5_1 = some r) ∧ Aside0 (kq ≤ k) ∧ Aside0 (Below w.heap.size w w'))
 case atStart => exact ⟨(0), qE, H', ⟨Nat.le_refl _⟩, ⟨by exact qW HB.out⟩⟩
 case round =>
  clear H'
  try clear c1
  try clear c3
  try clear c3b0
  try clear c3b1
  try clear c3b2
  obtain ⟨x5_1, rfl, HA, HK1, HB⟩ := hrel
  cases gk with
  | zero => exact absurd HA.out (by simp [laws_equalImages.l0])
  | succ k1 =>
   have H := HA.out
   clear HA
   simp only [laws_equalImages.l0] at H
   by_cases c4 : x5_1 < (l0.length : Int)
   rotate_left
   ·rw [if_neg c4] at H
    have c4b0 : decide (x5_1 < (l0.length : Int)) = false := decide_eq_false c4
    clear c4
    obtain rfl := Option.some.inj H
    go_wp2
    go_ret
    exact ⟨qX, by exact qW HB.out⟩
   rw [if_pos c4] at H
   have c4b0 : decide (x5_1 < (l0.length : Int)) = true := decide_eq_true c4
   clear c4
   replace H := iD H
   obtain ⟨c5b0, H⟩ := H
   replace H := iD H
   obtain ⟨c6b0, H⟩ := H
   replace H := Option.bind_eq_some_iff.mp H
   obtain ⟨t940, A70, H⟩ := H
   replace H : (if t940 = true then (laws_equalImages.l0 k1 l0 l1 (wrap64 (x5_1 + 1))) else (some false)) = some r := H
   have A7 := aM A70
   clear A70
   by_cases c8 : t940 = true
   rotate_left
   ·replace c8 := Bool.eq_false_iff.mpr c8
    subst c8
    have H1 : (some false) = some r := by rw [if_neg (show ¬ (false = true) by decide)] at H; exact H
    clear H
    have H := H1
    clear H1
    obtain rfl := Option.some.inj H
    try go_wp2
    replace HB := aM (below_drew1 HB.out)
    have p938 : 0 ≤ (x5_1 : Int) := oD
    have q938 : x5_1 < (l0.length : Int) := oD
    obtain ⟨ad938, A938_3, c938_3, e938, hx938_0, hx938_1, hx938_2, hx938_3, hl938_3, hi938_3⟩ := at_T26 HR0.out x5_1 p938 q938
    have hw938_3 := hx938_3
    have hw938_2 := hx938_2
    have hw938_1 := hx938_1
    have hw938_0 := hx938_0
    cases e938
    replace hx938_0 := bD HB hx938_0
    replace hx938_1 := bD HB hx938_1
    replace hx938_2 := bD HB hx938_2
    replace hx938_3 := bD HB hx938_3
    have HR938_3 := aM hi938_3
    have HC938_3 := aM hl938_3
    clear hi938_3 hl938_3
    replace p938 := eq_true p938
    replace q938 := eq_true q938
    have p939 : 0 ≤ (x5_1 : Int) := oD
    have q939 : x5_1 < (l1.length : Int) := oD
    obtain ⟨ad939, A939_3, c939_3, e939, hx939_0, hx939_1, hx939_2, hx939_3, hl939_3, hi939_3⟩ := at_T26 HR1.out x5_1 p939 q939
    have hw939_3 := hx939_3
    have hw939_2 := hx939_2
    have hw939_1 := hx939_1
    have hw939_0 := hx939_0
    cases e939
    replace hx939_0 := bD HB hx939_0
    replace hx939_1 := bD HB hx939_1
    replace hx939_2 := bD HB hx939_2
    replace hx939_3 := bD HB hx939_3
    have HR939_3 := aM hi939_3
    have HC939_3 := aM hl939_3
    clear hi939_3 hl939_3
    replace p939 := eq_true p939
    replace q939 := eq_true q939
    refine start_ (n := 10) (S := fun w' => w'.cell? (ad938.add ((x5_1).toNat * 4)) = some (.int .i64 ((rd_T26 l0 x5_1).f0)) ∧ w'.cell? ⟨(ad938.add ((x5_1).toNat * 4)).block, (ad938.add ((x5_1).toNat * 4)).off + 1, none⟩ = some (.int .i64 ((rd_T26 l0 x5_1).f1)) ∧ w'.cell? ⟨(ad938.add ((x5_1).toNat * 4)).block, (ad938.add ((x5_1).toNat * 4)).off + 2, none⟩ = some (.int .i64 ((rd_T26 l0 x5_1).f2)) ∧ w'.cell? ⟨(ad938.add ((x5_1).toNat * 4)).block, (ad938.add ((x5_1).toNat * 4)).off + 3, none⟩ = some (.slice A938_3 ((rd_T26 l0 x5_1).f3).length c938_3) ∧ w'.cell? (ad939.add ((x5_1).toNat * 4)) = some (.int .i64 ((rd_T26 l1 x5_1).f0)) ∧ w'.cell? ⟨(ad939.add ((x5_1).toNat * 4)).block, (ad939.add ((x5_1).toNat * 4)).off + 1, none⟩ = some (.int .i64 ((rd_T26 l1 x5_1).f1)) ∧ w'.cell? ⟨(ad939.add ((x5_1).toNat * 4)).block, (ad939.add ((x5_1).toNat * 4)).off + 2, none⟩ = some (.int .i64 ((rd_T26 l1 x5_1).f2)) ∧ w'.cell? ⟨(ad939.add ((x5_1).toNat * 4)).block, (ad939.add ((x5_1).toNat * 4)).off + 3, none⟩ = some (.slice A939_3 ((rd_T26 l1 x5_1).f3).length c939_3)) (ds := []) (bA 10 0) (by kernel_rfl) rfl rfl ⟨(bC HB hw938_0), (bC HB hw938_1), (bC HB hw938_2), (bC HB hw938_3), (bC HB hw939_0), (bC HB hw939_1), (bC HB hw939_2), (bC HB hw939_3)⟩ (fun hHeld => ?_); refine with_tabW laws_equalImages.tab6 laws_equalImages.bits6 (fun HT_ HW_ => ?_)
    generalize wr.drew = w11 at HB HR938_3 HR939_3 hx938_0 hx938_1 hx938_2 hx938_3 hx939_0 hx939_1 hx939_2 hx939_3 hHeld ⊢
    refine pQ 0 17 HT_ (bA 10 1) ?_
    refine pQ 1 18 HT_ (bA 10 3) ?_
    refine pQ 2 19 HT_ (bA 10 7) ?_
    refine pQ 4 21 HT_ (bA 10 23) ?_
    refine pQ 5 22 HT_ (bA 10 55) ?_
    refine pQ 6 23 HT_ (bA 10 119) ?_
    refine take_ (i := 3) (N := some 20) (v := ?_) (a' := ?_) (bA 10 127) rfl rfl (take_ofW HT_.out HW_.out (by kernel_rfl)) (fun _ _ _ h => h) (Or.inl ⟨by rfl, ?_⟩) hHeld ?_ ?_
    rotate_left
    ·rintro w' ⟨s0, s1, s2, s3, s4, s5, s6, s7⟩
     go_simp
     with_reducible rfl
    rotate_left
    ·refine pZ ?_
     rfl
    refine take_ (i := 7) (N := some 24) (v := ?_) (a' := ?_) (bA 10 255) rfl rfl (take_ofW HT_.out HW_.out (by kernel_rfl)) (fun _ _ _ h => h) (Or.inl ⟨by rfl, ?_⟩) hHeld ?_ ?_
    rotate_left
    ·rintro w' ⟨s0, s1, s2, s3, s4, s5, s6, s7⟩
     go_simp
     with_reducible rfl
    rotate_left
    ·refine pZ ?_
     rfl
    refine one_ (i := 8) (N := some 25) (bA 10 511) rfl rfl (one_of HT_.out (by kernel_rfl)) (by decide) (fun K hK => ?_)
    refine goes_ Try.func23 (by kernel_rfl) rfl #[.agg #[.int .i64 ((rd_T26 l0 x5_1).f0), .int .i64 ((rd_T26 l0 x5_1).f1), .int .i64 ((rd_T26 l0 x5_1).f2), .slice A938_3 ((rd_T26 l0 x5_1).f3).length c938_3], .agg #[.int .i64 ((rd_T26 l1 x5_1).f0), .int .i64 ((rd_T26 l1 x5_1).f1), .int .i64 ((rd_T26 l1 x5_1).f2), .slice A939_3 ((rd_T26 l1 x5_1).f3).length c939_3]] (by rfl) rfl rfl qM ?_
    with_reducible refine (laws_equalImage.calls k1 ((rd_T26 l0 x5_1).f0) ((rd_T26 l0 x5_1).f1) ((rd_T26 l0 x5_1).f2) _ _ ((rd_T26 l0 x5_1).f3) ((rd_T26 l1 x5_1).f0) ((rd_T26 l1 x5_1).f1) ((rd_T26 l1 x5_1).f2) _ _ ((rd_T26 l1 x5_1).f3) false _ ?side1 ?side2 ?side3 ?side4 A7.out).mono ?_
    (case side1 => exact qC (Kd.C_below HR938_3.out HB.out))
    (case side2 => exact HC938_3.out)
    (case side3 => exact qC (Kd.C_below HR939_3.out HB.out))
    (case side4 => exact HC939_3.out)
    rintro e w12 ⟨rfl, hb⟩
    refine ⟨_, rfl, ?_⟩
    replace HB := bS HB hb
    (try clear hb)
    (try clear hb2)
    (try clear hk)
    (try clear hi)
    refine hK.out _ _ ⟨(bC HB hw938_0), (bC HB hw938_1), (bC HB hw938_2), (bC HB hw938_3), (bC HB hw939_0), (bC HB hw939_1), (bC HB hw939_2), (bC HB hw939_3)⟩ (fun hHeld => ?_)
    clear hK K
    refine norm_ (a' := ?_) ?_ ?_
    rotate_left
    ·show Act.put _ (some 25) _ = _
     refine pZ ?_
     rfl
    refine pQ 9 26 HT_ (bA 10 1023) ?_
    refine done_ (done_of HT_.out (by kernel_rfl)) ?_
    try go_wp2
    go_ret
    exact ⟨qX, by exact qW HB.out⟩
   subst c8
   have H1 : (laws_equalImages.l0 k1 l0 l1 (wrap64 (x5_1 + 1))) = some r := by rw [if_pos rfl] at H; exact H
   clear H
   have H := H1
   clear H1
   have H' := aM H
   clear H
   try go_wp2
   replace HB := aM (below_drew1 HB.out)
   have p938 : 0 ≤ (x5_1 : Int) := oD
   have q938 : x5_1 < (l0.length : Int) := oD
   obtain ⟨ad938, A938_3, c938_3, e938, hx938_0, hx938_1, hx938_2, hx938_3, hl938_3, hi938_3⟩ := at_T26 HR0.out x5_1 p938 q938
   have hw938_3 := hx938_3
   have hw938_2 := hx938_2
   have hw938_1 := hx938_1
   have hw938_0 := hx938_0
   cases e938
   replace hx938_0 := bD HB hx938_0
   replace hx938_1 := bD HB hx938_1
   replace hx938_2 := bD HB hx938_2
   replace hx938_3 := bD HB hx938_3
   have HR938_3 := aM hi938_3
   have HC938_3 := aM hl938_3
   clear hi938_3 hl938_3
   replace p938 := eq_true p938
   replace q938 := eq_true q938
   have p939 : 0 ≤ (x5_1 : Int) := oD
   have q939 : x5_1 < (l1.length : Int) := oD
   obtain ⟨ad939, A939_3, c939_3, e939, hx939_0, hx939_1, hx939_2, hx939_3, hl939_3, hi939_3⟩ := at_T26 HR1.out x5_1 p939 q939
   have hw939_3 := hx939_3
   have hw939_2 := hx939_2
   have hw939_1 := hx939_1
   have hw939_0 := hx939_0
   cases e939
   replace hx939_0 := bD HB hx939_0
   replace hx939_1 := bD HB hx939_1
   replace hx939_2 := bD HB hx939_2
   replace hx939_3 := bD HB hx939_3
   have HR939_3 := aM hi939_3
   have HC939_3 := aM hl939_3
   clear hi939_3 hl939_3
   replace p939 := eq_true p939
   replace q939 := eq_true q939
   refine start_ (n := 10) (S := fun w' => w'.cell? (ad938.add ((x5_1).toNat * 4)) = some (.int .i64 ((rd_T26 l0 x5_1).f0)) ∧ w'.cell? ⟨(ad938.add ((x5_1).toNat * 4)).block, (ad938.add ((x5_1).toNat * 4)).off + 1, none⟩ = some (.int .i64 ((rd_T26 l0 x5_1).f1)) ∧ w'.cell? ⟨(ad938.add ((x5_1).toNat * 4)).block, (ad938.add ((x5_1).toNat * 4)).off + 2, none⟩ = some (.int .i64 ((rd_T26 l0 x5_1).f2)) ∧ w'.cell? ⟨(ad938.add ((x5_1).toNat * 4)).block, (ad938.add ((x5_1).toNat * 4)).off + 3, none⟩ = some (.slice A938_3 ((rd_T26 l0 x5_1).f3).length c938_3) ∧ w'.cell? (ad939.add ((x5_1).toNat * 4)) = some (.int .i64 ((rd_T26 l1 x5_1).f0)) ∧ w'.cell? ⟨(ad939.add ((x5_1).toNat * 4)).block, (ad939.add ((x5_1).toNat * 4)).off + 1, none⟩ = some (.int .i64 ((rd_T26 l1 x5_1).f1)) ∧ w'.cell? ⟨(ad939.add ((x5_1).toNat * 4)).block, (ad939.add ((x5_1).toNat * 4)).off + 2, none⟩ = some (.int .i64 ((rd_T26 l1 x5_1).f2)) ∧ w'.cell? ⟨(ad939.add ((x5_1).toNat * 4)).block, (ad939.add ((x5_1).toNat * 4)).off + 3, none⟩ = some (.slice A939_3 ((rd_T26 l1 x5_1).f3).length c939_3)) (ds := []) (bA 10 0) (by kernel_rfl) rfl rfl ⟨(bC HB hw938_0), (bC HB hw938_1), (bC HB hw938_2), (bC HB hw938_3), (bC HB hw939_0), (bC HB hw939_1), (bC HB hw939_2), (bC HB hw939_3)⟩ (fun hHeld => ?_); refine with_tabW laws_equalImages.tab6 laws_equalImages.bits6 (fun HT_ HW_ => ?_)
   generalize wr.drew = w9 at HB HR938_3 HR939_3 hx938_0 hx938_1 hx938_2 hx938_3 hx939_0 hx939_1 hx939_2 hx939_3 hHeld ⊢
   refine pQ 0 17 HT_ (bA 10 1) ?_
   refine pQ 1 18 HT_ (bA 10 3) ?_
   refine pQ 2 19 HT_ (bA 10 7) ?_
   refine pQ 4 21 HT_ (bA 10 23) ?_
   refine pQ 5 22 HT_ (bA 10 55) ?_
   refine pQ 6 23 HT_ (bA 10 119) ?_
   refine take_ (i := 3) (N := some 20) (v := ?_) (a' := ?_) (bA 10 127) rfl rfl (take_ofW HT_.out HW_.out (by kernel_rfl)) (fun _ _ _ h => h) (Or.inl ⟨by rfl, ?_⟩) hHeld ?_ ?_
   rotate_left
   ·rintro w' ⟨s0, s1, s2, s3, s4, s5, s6, s7⟩
    go_simp
    with_reducible rfl
   rotate_left
   ·refine pZ ?_
    rfl
   refine take_ (i := 7) (N := some 24) (v := ?_) (a' := ?_) (bA 10 255) rfl rfl (take_ofW HT_.out HW_.out (by kernel_rfl)) (fun _ _ _ h => h) (Or.inl ⟨by rfl, ?_⟩) hHeld ?_ ?_
   rotate_left
   ·rintro w' ⟨s0, s1, s2, s3, s4, s5, s6, s7⟩
    go_simp
    with_reducible rfl
   rotate_left
   ·refine pZ ?_
    rfl
   refine one_ (i := 8) (N := some 25) (bA 10 511) rfl rfl (one_of HT_.out (by kernel_rfl)) (by decide) (fun K hK => ?_)
   refine goes_ Try.func23 (by kernel_rfl) rfl #[.agg #[.int .i64 ((rd_T26 l0 x5_1).f0), .int .i64 ((rd_T26 l0 x5_1).f1), .int .i64 ((rd_T26 l0 x5_1).f2), .slice A938_3 ((rd_T26 l0 x5_1).f3).length c938_3], .agg #[.int .i64 ((rd_T26 l1 x5_1).f0), .int .i64 ((rd_T26 l1 x5_1).f1), .int .i64 ((rd_T26 l1 x5_1).f2), .slice A939_3 ((rd_T26 l1 x5_1).f3).length c939_3]] (by rfl) rfl rfl qM ?_
   with_reducible refine (laws_equalImage.calls k1 ((rd_T26 l0 x5_1).f0) ((rd_T26 l0 x5_1).f1) ((rd_T26 l0 x5_1).f2) _ _ ((rd_T26 l0 x5_1).f3) ((rd_T26 l1 x5_1).f0) ((rd_T26 l1 x5_1).f1) ((rd_T26 l1 x5_1).f2) _ _ ((rd_T26 l1 x5_1).f3) true _ ?side1 ?side2 ?side3 ?side4 A7.out).mono ?_
   (case side1 => exact qC (Kd.C_below HR938_3.out HB.out))
   (case side2 => exact HC938_3.out)
   (case side3 => exact qC (Kd.C_below HR939_3.out HB.out))
   (case side4 => exact HC939_3.out)
   rintro e w10 ⟨rfl, hb⟩
   refine ⟨_, rfl, ?_⟩
   replace HB := bS HB hb
   (try clear hb)
   (try clear hb2)
   (try clear hk)
   (try clear hi)
   refine hK.out _ _ ⟨(bC HB hw938_0), (bC HB hw938_1), (bC HB hw938_2), (bC HB hw938_3), (bC HB hw939_0), (bC HB hw939_1), (bC HB hw939_2), (bC HB hw939_3)⟩ (fun hHeld => ?_)
   clear hK K
   refine norm_ (a' := ?_) ?_ ?_
   rotate_left
   ·show Act.put _ (some 25) _ = _
    refine pZ ?_
    rfl
   refine pQ 9 26 HT_ (bA 10 1023) ?_
   refine done_ (done_of HT_.out (by kernel_rfl)) ?_
   try go_wp2
   go_roundg k1
   case measure => have := HK1.out; omega
   case rel => exact ⟨(wrap64 (x5_1 + 1)), qE, H', ⟨by have := HK1.out; omega⟩, ⟨by exact qW HB.out⟩⟩
end Go.Proofs.Ytnamhlcdlbjcfaa.P
