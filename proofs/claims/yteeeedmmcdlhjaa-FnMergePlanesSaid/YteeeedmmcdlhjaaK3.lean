/- Contracts and row, written by a program of this place out of the translation: the call answers true and its argument reads as before, for every input; no condition. -/
import Derived.Test.YteeeedmmcdlhjaaK0
import Derived.Test.YteeeedmmcdlhjaaK1
import Derived.Test.YteeeedmmcdlhjaaK2
namespace Go.Proofs.Yteeeedmmcdlhjaa.P
open Go.RowKit Go.Proofs.YteeeedmmcdlhjaaW.PrintWords Go.Proofs.YteeeedmmcdlhjaaW.PrintLast Go.Proofs.YteeeedmmcdlhjaaW.PrintMore
attribute [local go_sem] max2_int min2_int max_two min_two max_three min_three max_four min_four   -- for this text's walks alone
set_option linter.unusedVariables false
set_option linter.unusedSimpArgs false
theorem mrgPix_len1 (L : List S27) (x y : Int) (h : ∀ m ∈ L, m.f2 = 1) (hL : L.length ≤ 4) : (mrgPix L x y L.length).length ≤ 100 := by
 have key : ∀ i : Nat, i ≤ L.length → (mrgPix L x y i).length ≤ i * 4 := by
  intro i
  induction i with
  | zero => intro _; exact Nat.zero_le _
  | succ i ih =>
   intro hi
   have h1 := ih (by omega)
   have h2 := h _ (rd_T27_mem L i (by omega))
   have h3 : (pixOf (rd_T27 L (i : Int)).f3 (rd_T27 L (i : Int)).f0 (rd_T27 L (i : Int)).f2 x y).length ≤ 4 := by
    rw [h2]
    unfold pixOf
    rw [List.length_drop, List.length_take]
    omega
   rw [mrgPix, List.length_append]
   omega
 have := key L.length (Nat.le_refl _)
 omega
def mrgGo (L : List S27) : Nat → Nat → Option Bool
 | 0, _ => some true
 | d + 1, i => (impl_isImage.f (rd_T27 L (i : Int)).f0 (rd_T27 L (i : Int)).f1 (rd_T27 L (i : Int)).f2 (rd_T27 L (i : Int)).f3).bind fun t => (if t = true then (if (rd_T27 L (i : Int)).f2 = 1 then (if (rd_T27 L (i : Int)).f0 = (rd_T27 L 0).f0 then (if (rd_T27 L (i : Int)).f1 = (rd_T27 L 0).f1 then mrgGo L d (i + 1) else some false) else some false) else some false) else some false)
theorem mrgGo_all (L : List S27) : ∀ (d i : Nat), mrgGo L d i = some true → ∀ j : Nat, i ≤ j → j < i + d → ImgOk (rd_T27 L (j : Int)).f0 (rd_T27 L (j : Int)).f1 (rd_T27 L (j : Int)).f2 (rd_T27 L (j : Int)).f3 ∧ (rd_T27 L (j : Int)).f0 = (rd_T27 L 0).f0 ∧ (rd_T27 L (j : Int)).f1 = (rd_T27 L 0).f1 ∧ (rd_T27 L (j : Int)).f2 = 1
 | 0, _, _, j, h1, h2 => by omega
 | d + 1, i, h, j, h1, h2 => by
  rw [mrgGo] at h
  obtain ⟨t, ht, h⟩ := Option.bind_eq_some_iff.mp h
  cases t with
  | false => rw [if_neg (by decide)] at h; cases h
  | true =>
   rw [if_pos rfl] at h
   by_cases k1 : (rd_T27 L (i : Int)).f2 = 1
   case neg => rw [if_neg k1] at h; cases h
   rw [if_pos k1] at h
   by_cases k2 : (rd_T27 L (i : Int)).f0 = (rd_T27 L 0).f0
   case neg => rw [if_neg k2] at h; cases h
   rw [if_pos k2] at h
   by_cases k3 : (rd_T27 L (i : Int)).f1 = (rd_T27 L 0).f1
   case neg => rw [if_neg k3] at h; cases h
   rw [if_pos k3] at h
   by_cases e : j = i
   ·subst e
    exact ⟨isImage_true ht, k2, k3, k1⟩
   ·exact mrgGo_all L d (i + 1) h j (by omega) (by omega)
def impl_MergePlanes.f (l0 : List S27) : Option (Int × Int × Int × List Int × Bool) := if 1 ≤ l0.length ∧ l0.length ≤ 4 then (mrgGo l0 l0.length 0).bind fun t => (if t = true then some ((rd_T27 l0 0).f0, (rd_T27 l0 0).f1, (l0.length : Int), imgOf (fun x y => mrgPix l0 x y l0.length) (rd_T27 l0 0).f0.toNat (rd_T27 l0 0).f1.toNat, true) else some (0, 0, 0, ([] : List Int), false)) else some (0, 0, 0, ([] : List Int), false)
set_option maxHeartbeats 8000000 in
set_option maxRecDepth 100000 in
theorem impl_MergePlanes.calls (A0 : Option Addr) (c0 : Nat) (l0 : List S27) (r1 : Int) (r2 : Int) (r3 : Int) (r4 : List Int) (r5 : Bool) (w : World) (hr0 : Kd.C k27 w A0 l0.length l0) (hc0 : l0.length ≤ c0) (h : impl_MergePlanes.f l0 = some (r1, r2, r3, r4, r5)) :
  Calls Try.prog 13 #[.slice A0 l0.length c0] w fun e w' => ∃ v3_ : Value, e = .returned (.tuple #[.agg #[.int .i64 r1, .int .i64 r2, .int .i64 r3, v3_], .bool r5]) ∧ Kd.R (Kd.int .i64) 3 w' w.heap.size (fun _ => True) v3_ r4 ∧ Below w.heap.size w w' := by
 have hu26 := Try.underlying27
 have HR0 := aM hr0
 have HC0 := aM hc0
 clear hr0 hc0
 have HB := aM (Below.refl w.heap.size w)
 unfold impl_MergePlanes.f at h
 obtain ⟨n, hn⟩ : ∃ n, l0.length = n := ⟨_, rfl⟩
 rw [hn] at h HR0 HC0 ⊢
 have HN := aM hn
 clear hn
 by_cases k1 : 1 ≤ n
 case neg =>
  rw [if_neg (by omega)] at h
  simp only [Option.some.injEq, Prod.mk.injEq] at h
  obtain ⟨rfl, rfl, rfl, rfl, rfl⟩ := h
  have k1z : (n : Int) < 1 := by omega
  go_enter Try.func13, Try.ntmps13
  go_wp2_with (first | ((with_reducible refine gate_dst (N := 1) rfl ?_); (try (refine gate_guard (by rfl) ?_; dsimp only)); refine bxE (N := 1) (cs := #[.slice A0 n c0]) (t := 23) ?_; intro gl hg w38 hbox hb; have n39 := bS HB hb; have n40 := aM hbox; have n41 := aM ((by rw [hg]; exact (below_size (qW HB.out))) : w.heap.size ≤ gl); clear HB; have HB := n39; have BKgl := n40; have GEgl := n41; clear n39 n40 n41; clear hb hbox hg; have hz42 : w38.cell? ⟨gl, 0, none⟩ = some (.slice A0 n c0) := (blk_cell BKgl.out 0).trans rfl; have hf43 := blk_frozen BKgl.out 0) | ((with_reducible refine gate_dst (N := 2) rfl ?_); (try (refine gate_guard (by rfl) ?_; dsimp only)); refine bxE (N := 2) (cs := #[.int .i64 0, .int .i64 0, .int .i64 0, .slice none 0 0]) (t := 27) ?_; intro gr hg w44 hbox hb; have n45 := bB BKgl hb; have n46 := bS HB hb; have n47 := aM hbox; have n48 := aM ((by rw [hg]; exact (below_size (qW HB.out))) : w.heap.size ≤ gr); have n49 := aM ((by rw [hg]; exact Nat.ne_of_lt (blk_lt (g := gl) (o := .cells #[.slice A0 n c0] 23 (0, 0)) (qB BKgl.out))) : gl ≠ gr); have n50 := aM ((by rw [hg]; exact Nat.ne_of_gt (blk_lt (g := gl) (o := .cells #[.slice A0 n c0] 23 (0, 0)) (qB BKgl.out))) : gr ≠ gl); clear HB BKgl; have BKgl := n45; have HB := n46; have BKgr := n47; have GEgr := n48; have NBgl_gr := n49; have NBgr_gl := n50; clear n45 n46 n47 n48 n49 n50; clear hb hbox hg; have hz51 : w44.cell? ⟨gl, 0, none⟩ = some (.slice A0 n c0) := (blk_cell BKgl.out 0).trans rfl; have hf52 := blk_frozen BKgl.out 0; have hz53 : w44.cell? ⟨gr, 0, none⟩ = some (.int .i64 0) := (blk_cell BKgr.out 0).trans rfl; have hz54 : w44.cell? ⟨gr, 1, none⟩ = some (.int .i64 0) := (blk_cell BKgr.out 1).trans rfl; have hz55 : w44.cell? ⟨gr, 2, none⟩ = some (.int .i64 0) := (blk_cell BKgr.out 2).trans rfl; have hz56 : w44.cell? ⟨gr, 3, none⟩ = some (.slice none 0 0) := (blk_cell BKgr.out 3).trans rfl; have hf57 := blk_frozen BKgr.out 0; have hf58 := blk_frozen BKgr.out 1; have hf59 := blk_frozen BKgr.out 2; have hf60 := blk_frozen BKgr.out 3))
  refine bodyPost_ret (results_ct rfl _ _ gr 27 #[.int .i64 0, .int .i64 0, .int .i64 0, .slice none 0 0] (0, 0) _ rfl (by exact bP BKgr.out) Try.underlying27 rfl (by kernel_rfl)) rfl ?_
  exact ⟨_, by first | rfl | (simp; done), Kd.R_nil _ _ _ _ _, by exact qW HB.out⟩
 by_cases k2 : n ≤ 4
 case neg =>
  rw [if_neg (by omega)] at h
  simp only [Option.some.injEq, Prod.mk.injEq] at h
  obtain ⟨rfl, rfl, rfl, rfl, rfl⟩ := h
  have k1z : ¬ (n : Int) < 1 := by omega
  have k2z : (4 : Int) < (n : Int) := by omega
  go_enter Try.func13, Try.ntmps13
  go_wp2_with (first | ((with_reducible refine gate_dst (N := 1) rfl ?_); (try (refine gate_guard (by rfl) ?_; dsimp only)); refine bxE (N := 1) (cs := #[.slice A0 n c0]) (t := 23) ?_; intro gl hg w61 hbox hb; have n62 := bS HB hb; have n63 := aM hbox; have n64 := aM ((by rw [hg]; exact (below_size (qW HB.out))) : w.heap.size ≤ gl); clear HB; have HB := n62; have BKgl := n63; have GEgl := n64; clear n62 n63 n64; clear hb hbox hg; have hz65 : w61.cell? ⟨gl, 0, none⟩ = some (.slice A0 n c0) := (blk_cell BKgl.out 0).trans rfl; have hf66 := blk_frozen BKgl.out 0) | ((with_reducible refine gate_dst (N := 2) rfl ?_); (try (refine gate_guard (by rfl) ?_; dsimp only)); refine bxE (N := 2) (cs := #[.int .i64 0, .int .i64 0, .int .i64 0, .slice none 0 0]) (t := 27) ?_; intro gr hg w67 hbox hb; have n68 := bB BKgl hb; have n69 := bS HB hb; have n70 := aM hbox; have n71 := aM ((by rw [hg]; exact (below_size (qW HB.out))) : w.heap.size ≤ gr); have n72 := aM ((by rw [hg]; exact Nat.ne_of_lt (blk_lt (g := gl) (o := .cells #[.slice A0 n c0] 23 (0, 0)) (qB BKgl.out))) : gl ≠ gr); have n73 := aM ((by rw [hg]; exact Nat.ne_of_gt (blk_lt (g := gl) (o := .cells #[.slice A0 n c0] 23 (0, 0)) (qB BKgl.out))) : gr ≠ gl); clear HB BKgl; have BKgl := n68; have HB := n69; have BKgr := n70; have GEgr := n71; have NBgl_gr := n72; have NBgr_gl := n73; clear n68 n69 n70 n71 n72 n73; clear hb hbox hg; have hz74 : w67.cell? ⟨gl, 0, none⟩ = some (.slice A0 n c0) := (blk_cell BKgl.out 0).trans rfl; have hf75 := blk_frozen BKgl.out 0; have hz76 : w67.cell? ⟨gr, 0, none⟩ = some (.int .i64 0) := (blk_cell BKgr.out 0).trans rfl; have hz77 : w67.cell? ⟨gr, 1, none⟩ = some (.int .i64 0) := (blk_cell BKgr.out 1).trans rfl; have hz78 : w67.cell? ⟨gr, 2, none⟩ = some (.int .i64 0) := (blk_cell BKgr.out 2).trans rfl; have hz79 : w67.cell? ⟨gr, 3, none⟩ = some (.slice none 0 0) := (blk_cell BKgr.out 3).trans rfl; have hf80 := blk_frozen BKgr.out 0; have hf81 := blk_frozen BKgr.out 1; have hf82 := blk_frozen BKgr.out 2; have hf83 := blk_frozen BKgr.out 3))
  refine bodyPost_ret (results_ct rfl _ _ gr 27 #[.int .i64 0, .int .i64 0, .int .i64 0, .slice none 0 0] (0, 0) _ rfl (by exact bP BKgr.out) Try.underlying27 rfl (by kernel_rfl)) rfl ?_
  exact ⟨_, by first | rfl | (simp; done), Kd.R_nil _ _ _ _ _, by exact qW HB.out⟩
 rw [if_pos ⟨k1, k2⟩] at h
 obtain ⟨t, ht, h⟩ := Option.bind_eq_some_iff.mp h
 have HF := aM h
 have HT := aM ht
 clear h
 have k1z : ¬ (n : Int) < 1 := by omega
 have k2z : ¬ (4 : Int) < (n : Int) := by omega
 have k0z : (0 : Int) < (n : Int) := by omega
 have k0n : 0 < n := by omega
 obtain ⟨ad, Ay, cy, eA, y0, y1, y2, y3, _, _⟩ := at_T27 HR0.out 0 (by omega) k0z
 cases eA
 simp only [show (0 : Int).toNat = 0 from rfl, Nat.zero_mul, Addr.add_zero'] at y0 y1
 have Y0 := aM y0
 have Y1 := aM y1
 clear y0 y1 y2 y3
 go_enter Try.func13, Try.ntmps13
 go_wp2_with (first | ((with_reducible refine gate_dst (N := 1) rfl ?_); (try (refine gate_guard (by rfl) ?_; dsimp only)); refine bxE (N := 1) (cs := #[.slice (some ad) n c0]) (t := 23) ?_; intro gl hg w84 hbox hb; have n85 := bS HB hb; have n86 := aM hbox; have n87 := aM ((by rw [hg]; exact (below_size (qW HB.out))) : w.heap.size ≤ gl); clear HB; have HB := n85; have BKgl := n86; have GEgl := n87; clear n85 n86 n87; clear hb hbox hg; have hz88 : w84.cell? ⟨gl, 0, none⟩ = some (.slice (some ad) n c0) := (blk_cell BKgl.out 0).trans rfl; have hf89 := blk_frozen BKgl.out 0) | ((with_reducible refine gate_dst (N := 2) rfl ?_); (try (refine gate_guard (by rfl) ?_; dsimp only)); refine bxE (N := 2) (cs := #[.int .i64 0, .int .i64 0, .int .i64 0, .slice none 0 0]) (t := 27) ?_; intro gr hg w90 hbox hb; have n91 := bB BKgl hb; have n92 := bS HB hb; have n93 := aM hbox; have n94 := aM ((by rw [hg]; exact (below_size (qW HB.out))) : w.heap.size ≤ gr); have n95 := aM ((by rw [hg]; exact Nat.ne_of_lt (blk_lt (g := gl) (o := .cells #[.slice (some ad) n c0] 23 (0, 0)) (qB BKgl.out))) : gl ≠ gr); have n96 := aM ((by rw [hg]; exact Nat.ne_of_gt (blk_lt (g := gl) (o := .cells #[.slice (some ad) n c0] 23 (0, 0)) (qB BKgl.out))) : gr ≠ gl); clear HB BKgl; have BKgl := n91; have HB := n92; have BKgr := n93; have GEgr := n94; have NBgl_gr := n95; have NBgr_gl := n96; clear n91 n92 n93 n94 n95 n96; clear hb hbox hg; have hz97 : w90.cell? ⟨gl, 0, none⟩ = some (.slice (some ad) n c0) := (blk_cell BKgl.out 0).trans rfl; have hf98 := blk_frozen BKgl.out 0; have hz99 : w90.cell? ⟨gr, 0, none⟩ = some (.int .i64 0) := (blk_cell BKgr.out 0).trans rfl; have hz100 : w90.cell? ⟨gr, 1, none⟩ = some (.int .i64 0) := (blk_cell BKgr.out 1).trans rfl; have hz101 : w90.cell? ⟨gr, 2, none⟩ = some (.int .i64 0) := (blk_cell BKgr.out 2).trans rfl; have hz102 : w90.cell? ⟨gr, 3, none⟩ = some (.slice none 0 0) := (blk_cell BKgr.out 3).trans rfl; have hf103 := blk_frozen BKgr.out 0; have hf104 := blk_frozen BKgr.out 1; have hf105 := blk_frozen BKgr.out 2; have hf106 := blk_frozen BKgr.out 3))
 go_loopg [17] n (fun gg s17 w' => ∃ (i : Nat), i ≤ n ∧ n - i ≤ gg ∧ s17 = .int .i64 i ∧ Aside0 (mrgGo l0 (n - i) i = some t) ∧ Aside0 (w'.heap[gl]? = some (.cells #[.slice (some ad) n c0] 23 (0, 0))) ∧ Aside0 (w'.heap[gr]? = some (.cells #[.int .i64 0, .int .i64 0, .int .i64 0, .slice none 0 0] 27 (0, 0))) ∧ Aside0 (Below w.heap.size w w'))
 case atStart => exact ⟨0, Nat.zero_le _, by omega, rfl, ⟨ht⟩, ⟨by refine qB ?_; exact BKgl.out⟩, ⟨by refine qB ?_; exact BKgr.out⟩, ⟨by exact qW HB.out⟩⟩
 case round =>
  clear HB BKgl BKgr ht
  obtain ⟨i, hi, hg, rfl, HM, BKgl, BKgr, HB⟩ := hrel
  obtain ⟨wo, ewo⟩ : ∃ wo : World, wo = wr := ⟨_, rfl⟩
  subst ewo
  have hz107 : wo.cell? ⟨gl, 0, none⟩ = some (.slice (some ad) n c0) := (blk_cell BKgl.out 0).trans rfl
  have hf108 := blk_frozen BKgl.out 0
  have hz109 : wo.cell? ⟨gr, 0, none⟩ = some (.int .i64 0) := (blk_cell BKgr.out 0).trans rfl
  have hz110 : wo.cell? ⟨gr, 1, none⟩ = some (.int .i64 0) := (blk_cell BKgr.out 1).trans rfl
  have hz111 : wo.cell? ⟨gr, 2, none⟩ = some (.int .i64 0) := (blk_cell BKgr.out 2).trans rfl
  have hz112 : wo.cell? ⟨gr, 3, none⟩ = some (.slice none 0 0) := (blk_cell BKgr.out 3).trans rfl
  have hf113 := blk_frozen BKgr.out 0
  have hf114 := blk_frozen BKgr.out 1
  have hf115 := blk_frozen BKgr.out 2
  have hf116 := blk_frozen BKgr.out 3
  by_cases hlt : i < n
  case neg =>
   have hltz : ¬ (i : Int) < (n : Int) := by omega
   have ek : n - i = 0 := by omega
   have h_ := HM.out
   rw [ek, mrgGo] at h_
   obtain rfl := Option.some.inj h_
   have h_ := HF.out
   rw [if_pos rfl] at h_
   simp only [Option.some.injEq, Prod.mk.injEq] at h_
   obtain ⟨rfl, rfl, rfl, hy, rfl⟩ := h_
   have hall := mrgGo_all l0 n 0 HT.out
   have V0 := hall 0 (by omega) (by omega)
   rw [show (((0 : Nat)) : Int) = 0 from rfl] at V0
   have hok : ∀ m ∈ l0, ImgOk m.f0 m.f1 m.f2 m.f3 ∧ m.f0 = (rd_T27 l0 0).f0 ∧ m.f1 = (rd_T27 l0 0).f1 ∧ m.f2 = 1 := fun m hm => by
    obtain ⟨j, hj, rfl⟩ := List.getElem_of_mem hm
    have e : rd_T27 l0 (j : Int) = l0[j] := by
     unfold rd_T27
     rw [Int.toNat_natCast, List.getD_eq_getElem?_getD, List.getElem?_eq_getElem hj]
     rfl
    rw [← e]
    exact hall j (by omega) (by have := HN.out; omega)
   obtain ⟨⟨v0, v1, _⟩, _⟩ := V0
   obtain ⟨v0a, v0b⟩ := v0
   obtain ⟨v1a, v1b⟩ := v1
   have HF2 : Aside0 (∀ x y : Int, ((fun x y => mrgPix l0 x y l0.length) x y).length ≤ 100) := ⟨fun x y => mrgPix_len1 l0 x y (fun m hm => by have := (hok m hm).2.2.2; omega) (by have := HN.out; omega)⟩
   have HOK := aM hok
   have HNZ := aM (congrArg (fun z : Nat => (z : Int)) HN.out)
   obtain ⟨a0, ha0⟩ : ∃ z, (rd_T27 l0 0).f0 = z := ⟨_, rfl⟩
   obtain ⟨a1, ha1⟩ : ∃ z, (rd_T27 l0 0).f1 = z := ⟨_, rfl⟩
   rw [ha0] at v0a v0b Y0 hy HOK
   rw [ha1] at v1a v1b Y1 hy HOK
   have HA0 := aM ha0
   have HA1 := aM ha1
   clear ha0 ha1
   clear hall hok HM HF HT ek
   generalize hyl : imgOf (fun x y => mrgPix l0 x y n) a0.toNat a1.toNat = yl at hy
   have HY := aM hy
   have HYL := aM hyl
   clear hy hyl
   go_wp2
   refine start_ (n := 14) (S := fun w' => Below wo.heap.size wo w') (ds := [12]) (bA 14 0) (by kernel_rfl) rfl rfl (below_drew (Below.refl _ _)) (fun hHeld => ?_)
   have HS := aM hHeld
   clear hHeld
   generalize wo.drew = w117 at HS ⊢
   refine take_ (i := 0) (N := some 49) (v := ?_) (a' := ?_) (bA 14 1) rfl rfl (by kernel_rfl) (fun _ _ _ h => h) (Or.inl ⟨by rfl, ?_⟩) HS.out ?_ ?_
   rotate_left
   ·intro w' s0
    have z : w'.cell? ⟨gl, 0, none⟩ = some (.slice (some ad) n c0) := (blk_cell (blk_below BKgl.out s0) 0).trans rfl
    go_simp
    with_reducible rfl
   rotate_left
   ·refine pZ ?_
    rfl
   refine pure_ (i := 1) (N := some 50) (v := ?_) (a' := ?_) (bA 14 3) rfl rfl (by kernel_rfl) (fun _ _ _ h => h) (Or.inl ⟨by rfl, ?_⟩) ?_ ?_
   rotate_left
   ·intro w'
    go_simp
    with_reducible rfl
   rotate_left
   ·refine pZ ?_
    rfl
   refine pure_ (i := 2) (N := some 51) (v := ?_) (a' := ?_) (bA 14 7) rfl rfl (by kernel_rfl) (fun _ _ _ h => h) (Or.inl ⟨by rfl, ?_⟩) ?_ ?_
   rotate_left
   ·intro w'
    go_simp
    with_reducible rfl
   rotate_left
   ·refine pZ ?_
    rfl
   refine take_ (i := 3) (N := some 52) (v := ?_) (a' := ?_) (bA 14 15) rfl rfl (by kernel_rfl) (fun _ _ _ h => h) (Or.inl ⟨by rfl, ?_⟩) HS.out ?_ ?_
   rotate_left
   ·intro w' s0
    have z0 := pw_cell_below (below_step HB.out s0) Y0.out
    have z1 := pw_cell_below (below_step HB.out s0) Y1.out
    go_simp
    with_reducible rfl
   rotate_left
   ·refine pZ ?_
    rfl
   refine take_ (i := 4) (N := some 53) (v := ?_) (a' := ?_) (bA 14 31) rfl rfl (by kernel_rfl) (fun _ _ _ h => h) (Or.inl ⟨by rfl, ?_⟩) HS.out ?_ ?_
   rotate_left
   ·intro w' s0
    have z : w'.cell? ⟨gl, 0, none⟩ = some (.slice (some ad) n c0) := (blk_cell (blk_below BKgl.out s0) 0).trans rfl
    go_simp
    with_reducible rfl
   rotate_left
   ·refine pZ ?_
    rfl
   refine pure_ (i := 5) (N := some 54) (v := ?_) (a' := ?_) (bA 14 63) rfl rfl (by kernel_rfl) (fun _ _ _ h => h) (Or.inl ⟨by rfl, ?_⟩) ?_ ?_
   rotate_left
   ·intro w'
    go_simp
    with_reducible rfl
   rotate_left
   ·refine pZ ?_
    rfl
   refine pure_ (i := 6) (N := some 55) (v := ?_) (a' := ?_) (bA 14 127) rfl rfl (by kernel_rfl) (fun _ _ _ h => h) (Or.inl ⟨by rfl, ?_⟩) ?_ ?_
   rotate_left
   ·intro w'
    go_simp
    with_reducible rfl
   rotate_left
   ·refine pZ ?_
    rfl
   refine take_ (i := 7) (N := some 56) (v := ?_) (a' := ?_) (bA 14 255) rfl rfl (by kernel_rfl) (fun _ _ _ h => h) (Or.inl ⟨by rfl, ?_⟩) HS.out ?_ ?_
   rotate_left
   ·intro w' s0
    have z0 := pw_cell_below (below_step HB.out s0) Y0.out
    have z1 := pw_cell_below (below_step HB.out s0) Y1.out
    go_simp
    with_reducible rfl
   rotate_left
   ·refine pZ ?_
    rfl
   refine take_ (i := 8) (N := some 57) (v := ?_) (a' := ?_) (bA 14 511) rfl rfl (by kernel_rfl) (fun _ _ _ h => h) (Or.inl ⟨by rfl, ?_⟩) HS.out ?_ ?_
   rotate_left
   ·intro w' s0
    have z : w'.cell? ⟨gl, 0, none⟩ = some (.slice (some ad) n c0) := (blk_cell (blk_below BKgl.out s0) 0).trans rfl
    go_simp
    with_reducible rfl
   rotate_left
   ·refine pZ ?_
    rfl
   refine pure_ (i := 9) (N := some 58) (v := ?_) (a' := ?_) (bA 14 1023) rfl rfl (by kernel_rfl) (fun _ _ _ h => h) (Or.inl ⟨by rfl, ?_⟩) ?_ ?_
   rotate_left
   ·intro w'
    go_simp
    with_reducible rfl
   rotate_left
   ·refine pZ ?_
    rfl
   refine pure_ (i := 10) (N := some 59) (v := ?_) (a' := ?_) (bA 14 2047) rfl rfl (by kernel_rfl) (fun _ _ _ h => h) (Or.inl ⟨by rfl, ?_⟩) ?_ ?_
   rotate_left
   ·intro w'
    go_simp
    with_reducible rfl
   rotate_left
   ·refine pZ ?_
    rfl
   refine one_ (i := 11) (N := some 60) (bA 14 4095) rfl rfl (by kernel_rfl) (by decide) (fun K hK => ?_)
   refine goes_ Try.func48 (by kernel_rfl) rfl #[.int .i64 a0, .int .i64 a1, .int .i64 (n : Int), .func (.func 49) #[] #[.pointer (some ⟨gl, 0, none⟩)]] (by rfl) rfl rfl (by (try simp only [List.map_toArray, List.map_cons, List.map_nil]); first | done | rfl) ?_
   refine (impl_imageBy.calls 49 #[.pointer (some ⟨gl, 0, none⟩)] (enters_of Try.func49 (by kernel_rfl) rfl) (fun x y => mrgPix l0 x y l0.length) a0 a1 (n : Int) _ (by omega) v0b (by omega) v1b HF2.out (mergePlanesPix _ gl a0 a1 (some ad) c0 l0 (by rw [HN.out]; exact blk_below BKgl.out HS.out) (by rw [HN.out]; exact Kd.C_below HR0.out (below_step HB.out HS.out)) (by rw [HN.out]; exact HC0.out) (by have := HN.out; omega) HOK.out)).mono ?_
   rintro e w118 ⟨v3, rfl, ho, hb⟩
   refine ⟨_, rfl, ?_⟩
   rw [HN.out, HYL.out] at ho
   have HS3 := aM (below_step HS.out hb)
   have ho := Kd.R_lower ho (below_size (below_step HB.out HS.out))
   obtain ⟨Ao, co, eo⟩ := Kd.R_slice ho
   subst eo
   have HO := aM ho
   have b1_ := aM (blk_below BKgl.out HS3.out)
   have b2_ := aM (blk_below BKgr.out HS3.out)
   have b3_ := aM (below_step HB.out HS3.out)
   clear ho hb HS BKgl BKgr HB
   have BKgl := b1_
   have BKgr := b2_
   have HB := b3_
   clear b1_ b2_ b3_
   refine hK.out _ _ HS3.out (fun hHeld => ?_)
   clear hK K hHeld
   refine norm_ (a' := ?_) ?_ ?_
   rotate_left
   ·show Act.put _ (some 60) _ = _
    refine pZ ?_
    rfl
   have hz119 : w118.cell? ⟨gl, 0, none⟩ = some (.slice (some ad) n c0) := (blk_cell BKgl.out 0).trans rfl
   have hf120 := blk_frozen BKgl.out 0
   have hz121 : w118.cell? ⟨gr, 0, none⟩ = some (.int .i64 0) := (blk_cell BKgr.out 0).trans rfl
   have hz122 : w118.cell? ⟨gr, 1, none⟩ = some (.int .i64 0) := (blk_cell BKgr.out 1).trans rfl
   have hz123 : w118.cell? ⟨gr, 2, none⟩ = some (.int .i64 0) := (blk_cell BKgr.out 2).trans rfl
   have hz124 : w118.cell? ⟨gr, 3, none⟩ = some (.slice none 0 0) := (blk_cell BKgr.out 3).trans rfl
   have hf125 := blk_frozen BKgr.out 0
   have hf126 := blk_frozen BKgr.out 1
   have hf127 := blk_frozen BKgr.out 2
   have hf128 := blk_frozen BKgr.out 3
   refine last_ (i := 12) (N := none) (bA 14 8191) rfl rfl (by kernel_rfl) (by decide) (fun K hK => ?_)
   refine skip_ (w1 := ?_) (by rfl) rfl ?_ ?_
   rotate_left
   ·go_simp
    rfl
   refine hK.out _ _ ?_
   clear hK K
   refine pure_ (i := 13) (N := some 3) (v := ?_) (a' := ?_) (bA 14 16383) rfl rfl (by kernel_rfl) (fun _ _ _ h => h) (Or.inl ⟨by rfl, ?_⟩) ?_ ?_
   rotate_left
   ·intro w'
    go_simp
    with_reducible rfl
   rotate_left
   ·refine pZ ?_
    rfl
   refine done_ (by kernel_rfl) ?_
   try go_wp2
   refine bodyPost_ret (results_ct rfl _ _ gr 27 #[.int .i64 a0, .int .i64 a1, .int .i64 (n : Int), .slice Ao yl.length co] (0, 0) _ rfl (by exact bP BKgr.out) Try.underlying27 rfl (by kernel_rfl)) rfl ?_
   exact ⟨.slice Ao yl.length co, by rw [HA0.out, HA1.out]; first | rfl | (simp; done), by rw [← HY.out]; refine qR ?_; exact Kd.R_mono (Kd.R_far (p := ⟨gr, 3, none⟩) (Kd.R_far (p := ⟨gr, 2, none⟩) (Kd.R_far (p := ⟨gr, 1, none⟩) (Kd.R_far (p := ⟨gr, 0, none⟩) (Kd.R_types HO.out BKgr.out (by decide)) (fun _ hk => hk.2) _) (fun _ hk => hk.2) _) (fun _ hk => hk.2) _) (fun _ hk => hk.2) _) (fun _ hk => trivial), by exact qW HB.out⟩
  case pos =>
   have hltz : (i : Int) < (n : Int) := by omega
   have hi0 : 0 ≤ (i : Int) := by omega
   have hi4 : (i : Int) ≤ 4 := by omega
   obtain ⟨j, hj⟩ : ∃ j, n - i = j + 1 := ⟨n - i - 1, by omega⟩
   have H := HM.out
   rw [hj, mrgGo] at H
   have HJ := aM hj
   clear hj HM
   obtain ⟨ad2, A3, c3, eA2, z0, z1, z2, z3, hl3, hC3⟩ := at_T27 HR0.out (i : Int) hi0 hltz
   cases eA2
   simp only [Int.toNat_natCast] at z0 z1 z2 z3
   replace z0 := pw_cell_below HB.out z0
   replace z1 := pw_cell_below HB.out z1
   replace z2 := pw_cell_below HB.out z2
   replace z3 := pw_cell_below HB.out z3
   generalize rd_T27 l0 (i : Int) = m at z0 z1 z2 z3 hl3 hC3 H
   generalize rd_T27 l0 0 = m0 at Y0 Y1 HF H
   have HC3 := aM hC3
   have HL3 := aM hl3
   clear hC3 hl3
   obtain ⟨tv, q0, H⟩ := Option.bind_eq_some_iff.mp H
   have AI := aM q0
   clear q0
   cases tv with
   | false =>
    rw [if_neg (by decide)] at H
    obtain rfl := Option.some.inj H
    have h := HF.out
    rw [if_neg (by decide)] at h
    simp only [Option.some.injEq, Prod.mk.injEq] at h
    obtain ⟨rfl, rfl, rfl, rfl, rfl⟩ := h
    go_wp2_with (first | ((with_reducible refine gate_dst (N := 5) rfl ?_); (try (refine gate_guard (by rfl) ?_; dsimp only)); refine bxE (N := 5) (cs := #[.int .i64 0, .int .i64 0, .int .i64 0, .slice none 0 0]) (t := 27) ?_; intro gm hg w129 hbox hb; have n130 := bB BKgl hb; have n131 := bB BKgr hb; have n132 := bS HB hb; have n133 := aM hbox; have n134 := aM ((by rw [hg]; exact (below_size (qW HB.out))) : w.heap.size ≤ gm); have n135 := aM ((by rw [hg]; exact Nat.ne_of_lt (blk_lt (g := gl) (o := .cells #[.slice (some ad) n c0] 23 (0, 0)) (qB BKgl.out))) : gl ≠ gm); have n136 := aM ((by rw [hg]; exact Nat.ne_of_gt (blk_lt (g := gl) (o := .cells #[.slice (some ad) n c0] 23 (0, 0)) (qB BKgl.out))) : gm ≠ gl); have n137 := aM ((by rw [hg]; exact Nat.ne_of_lt (blk_lt (g := gr) (o := .cells #[.int .i64 0, .int .i64 0, .int .i64 0, .slice none 0 0] 27 (0, 0)) (qB BKgr.out))) : gr ≠ gm); have n138 := aM ((by rw [hg]; exact Nat.ne_of_gt (blk_lt (g := gr) (o := .cells #[.int .i64 0, .int .i64 0, .int .i64 0, .slice none 0 0] 27 (0, 0)) (qB BKgr.out))) : gm ≠ gr); clear HB BKgl BKgr; have BKgl := n130; have BKgr := n131; have HB := n132; have BKgm := n133; have GEgm := n134; have NBgl_gm := n135; have NBgm_gl := n136; have NBgr_gm := n137; have NBgm_gr := n138; clear n130 n131 n132 n133 n134 n135 n136 n137 n138; clear hb hbox hg; have hz139 : w129.cell? ⟨gl, 0, none⟩ = some (.slice (some ad) n c0) := (blk_cell BKgl.out 0).trans rfl; have hf140 := blk_frozen BKgl.out 0; have hz141 : w129.cell? ⟨gr, 0, none⟩ = some (.int .i64 0) := (blk_cell BKgr.out 0).trans rfl; have hz142 : w129.cell? ⟨gr, 1, none⟩ = some (.int .i64 0) := (blk_cell BKgr.out 1).trans rfl; have hz143 : w129.cell? ⟨gr, 2, none⟩ = some (.int .i64 0) := (blk_cell BKgr.out 2).trans rfl; have hz144 : w129.cell? ⟨gr, 3, none⟩ = some (.slice none 0 0) := (blk_cell BKgr.out 3).trans rfl; have hf145 := blk_frozen BKgr.out 0; have hf146 := blk_frozen BKgr.out 1; have hf147 := blk_frozen BKgr.out 2; have hf148 := blk_frozen BKgr.out 3) | ((with_reducible refine gate_store (t := 27) (p := 5) rfl ?_); have hzs0_ : w129.cell? ⟨gm, 0, none⟩ = some (.int .i64 0) := (blk_cell BKgm.out 0).trans rfl; have hfs0_ := blk_frozen BKgm.out 0; have hzs1_ : w129.cell? ⟨gm, 1, none⟩ = some (.int .i64 0) := (blk_cell BKgm.out 1).trans rfl; have hfs1_ := blk_frozen BKgm.out 1; have hzs2_ : w129.cell? ⟨gm, 2, none⟩ = some (.int .i64 0) := (blk_cell BKgm.out 2).trans rfl; have hfs2_ := blk_frozen BKgm.out 2; have hzs3_ : w129.cell? ⟨gm, 3, none⟩ = some (.slice none 0 0) := (blk_cell BKgm.out 3).trans rfl; have hfs3_ := blk_frozen BKgm.out 3; refine store_event (t := 27) (p := 5) (v := ?vo_w157) (w1 := ((((w129.setCell ⟨gm, 0, none⟩ (.int .i64 m.f0)).setCell ⟨gm, 1, none⟩ (.int .i64 m.f1)).setCell ⟨gm, 2, none⟩ (.int .i64 m.f2)).setCell ⟨gm, 3, none⟩ (.slice A3 m.f3.length c3))) ?hg ?ho ?hn ?hr ?_; (case ho => rfl); (case hg => rfl); (case hn => rfl); (case hr => first | (go_simp; done) | (go_simp; rfl)); intro w157 hw; have n158 := aM (show w157.heap[gl]? = some (.cells #[.slice (some ad) n c0] 23 (0, 0)) by rw [hw]; exact blk_far (blk_far (blk_far (blk_far (BKgl.out) NBgl_gm.out _) NBgl_gm.out _) NBgl_gm.out _) NBgl_gm.out _); have n159 := aM (show w157.heap[gr]? = some (.cells #[.int .i64 0, .int .i64 0, .int .i64 0, .slice none 0 0] 27 (0, 0)) by rw [hw]; exact blk_far (blk_far (blk_far (blk_far (BKgr.out) NBgr_gm.out _) NBgr_gm.out _) NBgr_gm.out _) NBgr_gm.out _); have n160 := aM (show w157.heap[gm]? = some (.cells #[.int .i64 m.f0, .int .i64 m.f1, .int .i64 m.f2, .slice A3 m.f3.length c3] 27 (0, 0)) by rw [hw]; refine blk_put (cs := #[.int .i64 m.f0, .int .i64 m.f1, .int .i64 m.f2, .slice none 0 0]) ?_ 3 _ rfl; refine blk_put (cs := #[.int .i64 m.f0, .int .i64 m.f1, .int .i64 0, .slice none 0 0]) ?_ 2 _ rfl; refine blk_put (cs := #[.int .i64 m.f0, .int .i64 0, .int .i64 0, .slice none 0 0]) ?_ 1 _ rfl; refine blk_put (cs := #[.int .i64 0, .int .i64 0, .int .i64 0, .slice none 0 0]) ?_ 0 _ rfl; exact BKgm.out); have n161 := aM (show Below w.heap.size w w157 by rw [hw]; exact below_set (below_set (below_set (below_set (HB.out) GEgm.out) GEgm.out) GEgm.out) GEgm.out); clear hzs0_ hfs0_ hzs1_ hfs1_ hzs2_ hfs2_ hzs3_ hfs3_; clear HB BKgl BKgr BKgm hw; have BKgl := n158; have BKgr := n159; have BKgm := n160; have HB := n161; clear n158 n159 n160 n161; have hz162 : w157.cell? ⟨gl, 0, none⟩ = some (.slice (some ad) n c0) := (blk_cell BKgl.out 0).trans rfl; have hf163 := blk_frozen BKgl.out 0; have hz164 : w157.cell? ⟨gr, 0, none⟩ = some (.int .i64 0) := (blk_cell BKgr.out 0).trans rfl; have hz165 : w157.cell? ⟨gr, 1, none⟩ = some (.int .i64 0) := (blk_cell BKgr.out 1).trans rfl; have hz166 : w157.cell? ⟨gr, 2, none⟩ = some (.int .i64 0) := (blk_cell BKgr.out 2).trans rfl; have hz167 : w157.cell? ⟨gr, 3, none⟩ = some (.slice none 0 0) := (blk_cell BKgr.out 3).trans rfl; have hf168 := blk_frozen BKgr.out 0; have hf169 := blk_frozen BKgr.out 1; have hf170 := blk_frozen BKgr.out 2; have hf171 := blk_frozen BKgr.out 3; have hz172 : w157.cell? ⟨gm, 0, none⟩ = some (.int .i64 m.f0) := (blk_cell BKgm.out 0).trans rfl; have hz173 : w157.cell? ⟨gm, 1, none⟩ = some (.int .i64 m.f1) := (blk_cell BKgm.out 1).trans rfl; have hz174 : w157.cell? ⟨gm, 2, none⟩ = some (.int .i64 m.f2) := (blk_cell BKgm.out 2).trans rfl; have hz175 : w157.cell? ⟨gm, 3, none⟩ = some (.slice A3 m.f3.length c3) := (blk_cell BKgm.out 3).trans rfl; have hf176 := blk_frozen BKgm.out 0; have hf177 := blk_frozen BKgm.out 1; have hf178 := blk_frozen BKgm.out 2; have hf179 := blk_frozen BKgm.out 3))
    refine start_ (n := 26) (S := fun w' => Below w157.heap.size w157 w') (ds := []) (bA 26 0) (by kernel_rfl) rfl rfl (below_drew (Below.refl _ _)) (fun hHeld => ?_)
    have HS := aM hHeld
    clear hHeld
    generalize w157.drew = w180 at HS ⊢
    refine take_ (i := 0) (N := some 21) (v := ?_) (a' := ?_) (bA 26 1) rfl rfl (by kernel_rfl) (fun _ _ _ h => h) (Or.inl ⟨by rfl, ?_⟩) HS.out ?_ ?_
    rotate_left
    ·intro w' s0
     have z0 : w'.cell? ⟨gm, 0, none⟩ = some (.int .i64 m.f0) := (blk_cell (blk_below BKgm.out s0) 0).trans rfl
     have z1 : w'.cell? ⟨gm, 1, none⟩ = some (.int .i64 m.f1) := (blk_cell (blk_below BKgm.out s0) 1).trans rfl
     have z2 : w'.cell? ⟨gm, 2, none⟩ = some (.int .i64 m.f2) := (blk_cell (blk_below BKgm.out s0) 2).trans rfl
     have z3 : w'.cell? ⟨gm, 3, none⟩ = some (.slice A3 m.f3.length c3) := (blk_cell (blk_below BKgm.out s0) 3).trans rfl
     go_simp
     with_reducible rfl
    rotate_left
    ·refine pZ ?_
     rfl
    refine one_ (i := 1) (N := some 22) (bA 26 3) rfl rfl (by kernel_rfl) (by decide) (fun K hK => ?_)
    refine goes_ Try.func47 (by kernel_rfl) rfl #[.agg #[.int .i64 m.f0, .int .i64 m.f1, .int .i64 m.f2, .slice A3 m.f3.length c3]] (by rfl) rfl rfl (by (try simp only [List.map_toArray, List.map_cons, List.map_nil]); first | done | rfl) ?_
    refine (impl_isImage.calls m.f0 m.f1 m.f2 _ _ m.f3 false _ (Kd.C_below HC3.out (below_step (qW HB.out) HS.out)) HL3.out AI.out).mono ?_
    rintro e w181 ⟨rfl, hb⟩
    refine ⟨_, rfl, ?_⟩
    have HS3 := aM (below_step HS.out hb)
    clear hb
    clear HS
    have HS := HS3
    clear HS3
    refine hK.out _ _ HS.out (fun hHeld => ?_)
    clear hK K hHeld
    refine norm_ (a' := ?_) ?_ ?_
    rotate_left
    ·show Act.put _ (some 22) _ = _
     refine pZ ?_
     rfl
    refine pure_ (i := 2) (N := some 23) (v := ?_) (a' := ?_) (bA 26 7) rfl rfl (by kernel_rfl) (fun _ _ _ h => h) (Or.inl ⟨by rfl, ?_⟩) ?_ ?_
    rotate_left
    ·intro w'
     go_simp
     with_reducible rfl
    rotate_left
    ·refine pZ ?_
     rfl
    refine pure_ (i := 3) (N := some 24) (v := ?_) (a' := ?_) (bA 26 15) rfl rfl (by kernel_rfl) (fun _ _ _ h => h) (Or.inl ⟨by rfl, ?_⟩) ?_ ?_
    rotate_left
    ·intro w'
     go_simp
     with_reducible rfl
    rotate_left
    ·refine pZ ?_
     rfl
    refine pure_ (i := 4) (N := some 25) (v := _) (a' := ?_) (bA 26 31) rfl rfl (by kernel_rfl) (fun _ _ _ h => h) (Or.inr ⟨by rfl, rfl⟩) ?_ ?_
    rotate_left
    ·refine pZ ?_
     rfl
    refine take_ (i := 5) (N := some 26) (v := _) (a' := ?_) (bA 26 63) rfl rfl (by kernel_rfl) (fun _ _ _ h => h) (Or.inr ⟨by rfl, rfl⟩) HS.out ?_ ?_
    rotate_left
    ·refine pZ ?_
     rfl
    refine pure_ (i := 6) (N := some 27) (v := _) (a' := ?_) (bA 26 127) rfl rfl (by kernel_rfl) (fun _ _ _ h => h) (Or.inr ⟨by rfl, rfl⟩) ?_ ?_
    rotate_left
    ·refine pZ ?_
     rfl
    refine pure_ (i := 7) (N := some 28) (v := ?_) (a' := ?_) (bA 26 255) rfl rfl (by kernel_rfl) (fun _ _ _ h => h) (Or.inl ⟨by rfl, ?_⟩) ?_ ?_
    rotate_left
    ·intro w'
     go_simp
     with_reducible rfl
    rotate_left
    ·refine pZ ?_
     rfl
    refine pure_ (i := 8) (N := some 29) (v := ?_) (a' := ?_) (bA 26 511) rfl rfl (by kernel_rfl) (fun _ _ _ h => h) (Or.inl ⟨by rfl, ?_⟩) ?_ ?_
    rotate_left
    ·intro w'
     go_simp
     with_reducible rfl
    rotate_left
    ·refine pZ ?_
     rfl
    refine pure_ (i := 9) (N := some 30) (v := _) (a' := ?_) (bA 26 1023) rfl rfl (by kernel_rfl) (fun _ _ _ h => h) (Or.inr ⟨by rfl, rfl⟩) ?_ ?_
    rotate_left
    ·refine pZ ?_
     rfl
    refine take_ (i := 10) (N := some 31) (v := _) (a' := ?_) (bA 26 2047) rfl rfl (by kernel_rfl) (fun _ _ _ h => h) (Or.inr ⟨by rfl, rfl⟩) HS.out ?_ ?_
    rotate_left
    ·refine pZ ?_
     rfl
    refine take_ (i := 11) (N := some 32) (v := _) (a' := ?_) (bA 26 4095) rfl rfl (by kernel_rfl) (fun _ _ _ h => h) (Or.inr ⟨by rfl, rfl⟩) HS.out ?_ ?_
    rotate_left
    ·refine pZ ?_
     rfl
    refine pure_ (i := 12) (N := some 33) (v := _) (a' := ?_) (bA 26 8191) rfl rfl (by kernel_rfl) (fun _ _ _ h => h) (Or.inr ⟨by rfl, rfl⟩) ?_ ?_
    rotate_left
    ·refine pZ ?_
     rfl
    refine pure_ (i := 13) (N := some 34) (v := _) (a' := ?_) (bA 26 16383) rfl rfl (by kernel_rfl) (fun _ _ _ h => h) (Or.inr ⟨by rfl, rfl⟩) ?_ ?_
    rotate_left
    ·refine pZ ?_
     rfl
    refine take_ (i := 14) (N := some 35) (v := _) (a' := ?_) (bA 26 32767) rfl rfl (by kernel_rfl) (fun _ _ _ h => h) (Or.inr ⟨by rfl, rfl⟩) HS.out ?_ ?_
    rotate_left
    ·refine pZ ?_
     rfl
    refine pure_ (i := 15) (N := some 36) (v := _) (a' := ?_) (bA 26 65535) rfl rfl (by kernel_rfl) (fun _ _ _ h => h) (Or.inr ⟨by rfl, rfl⟩) ?_ ?_
    rotate_left
    ·refine pZ ?_
     rfl
    refine pure_ (i := 16) (N := some 37) (v := ?_) (a' := ?_) (bA 26 131071) rfl rfl (by kernel_rfl) (fun _ _ _ h => h) (Or.inl ⟨by rfl, ?_⟩) ?_ ?_
    rotate_left
    ·intro w'
     go_simp
     with_reducible rfl
    rotate_left
    ·refine pZ ?_
     rfl
    refine pure_ (i := 17) (N := some 38) (v := ?_) (a' := ?_) (bA 26 262143) rfl rfl (by kernel_rfl) (fun _ _ _ h => h) (Or.inl ⟨by rfl, ?_⟩) ?_ ?_
    rotate_left
    ·intro w'
     go_simp
     with_reducible rfl
    rotate_left
    ·refine pZ ?_
     rfl
    refine pure_ (i := 18) (N := some 39) (v := _) (a' := ?_) (bA 26 524287) rfl rfl (by kernel_rfl) (fun _ _ _ h => h) (Or.inr ⟨by rfl, rfl⟩) ?_ ?_
    rotate_left
    ·refine pZ ?_
     rfl
    refine take_ (i := 19) (N := some 40) (v := _) (a' := ?_) (bA 26 1048575) rfl rfl (by kernel_rfl) (fun _ _ _ h => h) (Or.inr ⟨by rfl, rfl⟩) HS.out ?_ ?_
    rotate_left
    ·refine pZ ?_
     rfl
    refine take_ (i := 20) (N := some 41) (v := _) (a' := ?_) (bA 26 2097151) rfl rfl (by kernel_rfl) (fun _ _ _ h => h) (Or.inr ⟨by rfl, rfl⟩) HS.out ?_ ?_
    rotate_left
    ·refine pZ ?_
     rfl
    refine pure_ (i := 21) (N := some 42) (v := _) (a' := ?_) (bA 26 4194303) rfl rfl (by kernel_rfl) (fun _ _ _ h => h) (Or.inr ⟨by rfl, rfl⟩) ?_ ?_
    rotate_left
    ·refine pZ ?_
     rfl
    refine pure_ (i := 22) (N := some 43) (v := _) (a' := ?_) (bA 26 8388607) rfl rfl (by kernel_rfl) (fun _ _ _ h => h) (Or.inr ⟨by rfl, rfl⟩) ?_ ?_
    rotate_left
    ·refine pZ ?_
     rfl
    refine take_ (i := 23) (N := some 44) (v := _) (a' := ?_) (bA 26 16777215) rfl rfl (by kernel_rfl) (fun _ _ _ h => h) (Or.inr ⟨by rfl, rfl⟩) HS.out ?_ ?_
    rotate_left
    ·refine pZ ?_
     rfl
    refine pure_ (i := 24) (N := some 45) (v := _) (a' := ?_) (bA 26 33554431) rfl rfl (by kernel_rfl) (fun _ _ _ h => h) (Or.inr ⟨by rfl, rfl⟩) ?_ ?_
    rotate_left
    ·refine pZ ?_
     rfl
    refine pure_ (i := 25) (N := some 46) (v := ?_) (a' := ?_) (bA 26 67108863) rfl rfl (by kernel_rfl) (fun _ _ _ h => h) (Or.inl ⟨by rfl, ?_⟩) ?_ ?_
    rotate_left
    ·intro w'
     go_simp
     with_reducible rfl
    rotate_left
    ·refine pZ ?_
     rfl
    have hb := HS.out
    clear HS
    have n182 := bB BKgl hb
    have n183 := bB BKgr hb
    have n184 := bB BKgm hb
    have n185 := bS HB hb
    clear HB BKgl BKgr BKgm
    have BKgl := n182
    have BKgr := n183
    have BKgm := n184
    have HB := n185
    clear n182 n183 n184 n185 hb
    have hz186 : w181.cell? ⟨gl, 0, none⟩ = some (.slice (some ad) n c0) := (blk_cell BKgl.out 0).trans rfl
    have hf187 := blk_frozen BKgl.out 0
    have hz188 : w181.cell? ⟨gr, 0, none⟩ = some (.int .i64 0) := (blk_cell BKgr.out 0).trans rfl
    have hz189 : w181.cell? ⟨gr, 1, none⟩ = some (.int .i64 0) := (blk_cell BKgr.out 1).trans rfl
    have hz190 : w181.cell? ⟨gr, 2, none⟩ = some (.int .i64 0) := (blk_cell BKgr.out 2).trans rfl
    have hz191 : w181.cell? ⟨gr, 3, none⟩ = some (.slice none 0 0) := (blk_cell BKgr.out 3).trans rfl
    have hf192 := blk_frozen BKgr.out 0
    have hf193 := blk_frozen BKgr.out 1
    have hf194 := blk_frozen BKgr.out 2
    have hf195 := blk_frozen BKgr.out 3
    have hz196 : w181.cell? ⟨gm, 0, none⟩ = some (.int .i64 m.f0) := (blk_cell BKgm.out 0).trans rfl
    have hz197 : w181.cell? ⟨gm, 1, none⟩ = some (.int .i64 m.f1) := (blk_cell BKgm.out 1).trans rfl
    have hz198 : w181.cell? ⟨gm, 2, none⟩ = some (.int .i64 m.f2) := (blk_cell BKgm.out 2).trans rfl
    have hz199 : w181.cell? ⟨gm, 3, none⟩ = some (.slice A3 m.f3.length c3) := (blk_cell BKgm.out 3).trans rfl
    have hf200 := blk_frozen BKgm.out 0
    have hf201 := blk_frozen BKgm.out 1
    have hf202 := blk_frozen BKgm.out 2
    have hf203 := blk_frozen BKgm.out 3
    refine done_ (by kernel_rfl) ?_
    go_wp2
    refine bodyPost_ret (results_ct rfl _ _ gr 27 #[.int .i64 0, .int .i64 0, .int .i64 0, .slice none 0 0] (0, 0) _ rfl (by exact bP BKgr.out) Try.underlying27 rfl (by kernel_rfl)) rfl ?_
    exact ⟨_, by first | rfl | (simp; done), Kd.R_nil _ _ _ _ _, by exact qW HB.out⟩
   | true =>
    rw [if_pos rfl] at H
    by_cases c0 : m.f2 = 1
    case neg =>
     rw [if_neg c0] at H
     obtain rfl := Option.some.inj H
     have h := HF.out
     rw [if_neg (by decide)] at h
     simp only [Option.some.injEq, Prod.mk.injEq] at h
     obtain ⟨rfl, rfl, rfl, rfl, rfl⟩ := h
     have c0a : (m.f2 == 1) = false := beq_eq_false_iff_ne.mpr c0
     have c0b : (m.f2 != 1) = true := bne_iff_ne.mpr c0
     clear c0
     go_wp2_with (first | ((with_reducible refine gate_dst (N := 5) rfl ?_); (try (refine gate_guard (by rfl) ?_; dsimp only)); refine bxE (N := 5) (cs := #[.int .i64 0, .int .i64 0, .int .i64 0, .slice none 0 0]) (t := 27) ?_; intro gm hg w204 hbox hb; have n205 := bB BKgl hb; have n206 := bB BKgr hb; have n207 := bS HB hb; have n208 := aM hbox; have n209 := aM ((by rw [hg]; exact (below_size (qW HB.out))) : w.heap.size ≤ gm); have n210 := aM ((by rw [hg]; exact Nat.ne_of_lt (blk_lt (g := gl) (o := .cells #[.slice (some ad) n c0] 23 (0, 0)) (qB BKgl.out))) : gl ≠ gm); have n211 := aM ((by rw [hg]; exact Nat.ne_of_gt (blk_lt (g := gl) (o := .cells #[.slice (some ad) n c0] 23 (0, 0)) (qB BKgl.out))) : gm ≠ gl); have n212 := aM ((by rw [hg]; exact Nat.ne_of_lt (blk_lt (g := gr) (o := .cells #[.int .i64 0, .int .i64 0, .int .i64 0, .slice none 0 0] 27 (0, 0)) (qB BKgr.out))) : gr ≠ gm); have n213 := aM ((by rw [hg]; exact Nat.ne_of_gt (blk_lt (g := gr) (o := .cells #[.int .i64 0, .int .i64 0, .int .i64 0, .slice none 0 0] 27 (0, 0)) (qB BKgr.out))) : gm ≠ gr); clear HB BKgl BKgr; have BKgl := n205; have BKgr := n206; have HB := n207; have BKgm := n208; have GEgm := n209; have NBgl_gm := n210; have NBgm_gl := n211; have NBgr_gm := n212; have NBgm_gr := n213; clear n205 n206 n207 n208 n209 n210 n211 n212 n213; clear hb hbox hg; have hz214 : w204.cell? ⟨gl, 0, none⟩ = some (.slice (some ad) n c0) := (blk_cell BKgl.out 0).trans rfl; have hf215 := blk_frozen BKgl.out 0; have hz216 : w204.cell? ⟨gr, 0, none⟩ = some (.int .i64 0) := (blk_cell BKgr.out 0).trans rfl; have hz217 : w204.cell? ⟨gr, 1, none⟩ = some (.int .i64 0) := (blk_cell BKgr.out 1).trans rfl; have hz218 : w204.cell? ⟨gr, 2, none⟩ = some (.int .i64 0) := (blk_cell BKgr.out 2).trans rfl; have hz219 : w204.cell? ⟨gr, 3, none⟩ = some (.slice none 0 0) := (blk_cell BKgr.out 3).trans rfl; have hf220 := blk_frozen BKgr.out 0; have hf221 := blk_frozen BKgr.out 1; have hf222 := blk_frozen BKgr.out 2; have hf223 := blk_frozen BKgr.out 3) | ((with_reducible refine gate_store (t := 27) (p := 5) rfl ?_); have hzs0_ : w204.cell? ⟨gm, 0, none⟩ = some (.int .i64 0) := (blk_cell BKgm.out 0).trans rfl; have hfs0_ := blk_frozen BKgm.out 0; have hzs1_ : w204.cell? ⟨gm, 1, none⟩ = some (.int .i64 0) := (blk_cell BKgm.out 1).trans rfl; have hfs1_ := blk_frozen BKgm.out 1; have hzs2_ : w204.cell? ⟨gm, 2, none⟩ = some (.int .i64 0) := (blk_cell BKgm.out 2).trans rfl; have hfs2_ := blk_frozen BKgm.out 2; have hzs3_ : w204.cell? ⟨gm, 3, none⟩ = some (.slice none 0 0) := (blk_cell BKgm.out 3).trans rfl; have hfs3_ := blk_frozen BKgm.out 3; refine store_event (t := 27) (p := 5) (v := ?vo_w232) (w1 := ((((w204.setCell ⟨gm, 0, none⟩ (.int .i64 m.f0)).setCell ⟨gm, 1, none⟩ (.int .i64 m.f1)).setCell ⟨gm, 2, none⟩ (.int .i64 m.f2)).setCell ⟨gm, 3, none⟩ (.slice A3 m.f3.length c3))) ?hg ?ho ?hn ?hr ?_; (case ho => rfl); (case hg => rfl); (case hn => rfl); (case hr => first | (go_simp; done) | (go_simp; rfl)); intro w232 hw; have n233 := aM (show w232.heap[gl]? = some (.cells #[.slice (some ad) n c0] 23 (0, 0)) by rw [hw]; exact blk_far (blk_far (blk_far (blk_far (BKgl.out) NBgl_gm.out _) NBgl_gm.out _) NBgl_gm.out _) NBgl_gm.out _); have n234 := aM (show w232.heap[gr]? = some (.cells #[.int .i64 0, .int .i64 0, .int .i64 0, .slice none 0 0] 27 (0, 0)) by rw [hw]; exact blk_far (blk_far (blk_far (blk_far (BKgr.out) NBgr_gm.out _) NBgr_gm.out _) NBgr_gm.out _) NBgr_gm.out _); have n235 := aM (show w232.heap[gm]? = some (.cells #[.int .i64 m.f0, .int .i64 m.f1, .int .i64 m.f2, .slice A3 m.f3.length c3] 27 (0, 0)) by rw [hw]; refine blk_put (cs := #[.int .i64 m.f0, .int .i64 m.f1, .int .i64 m.f2, .slice none 0 0]) ?_ 3 _ rfl; refine blk_put (cs := #[.int .i64 m.f0, .int .i64 m.f1, .int .i64 0, .slice none 0 0]) ?_ 2 _ rfl; refine blk_put (cs := #[.int .i64 m.f0, .int .i64 0, .int .i64 0, .slice none 0 0]) ?_ 1 _ rfl; refine blk_put (cs := #[.int .i64 0, .int .i64 0, .int .i64 0, .slice none 0 0]) ?_ 0 _ rfl; exact BKgm.out); have n236 := aM (show Below w.heap.size w w232 by rw [hw]; exact below_set (below_set (below_set (below_set (HB.out) GEgm.out) GEgm.out) GEgm.out) GEgm.out); clear hzs0_ hfs0_ hzs1_ hfs1_ hzs2_ hfs2_ hzs3_ hfs3_; clear HB BKgl BKgr BKgm hw; have BKgl := n233; have BKgr := n234; have BKgm := n235; have HB := n236; clear n233 n234 n235 n236; have hz237 : w232.cell? ⟨gl, 0, none⟩ = some (.slice (some ad) n c0) := (blk_cell BKgl.out 0).trans rfl; have hf238 := blk_frozen BKgl.out 0; have hz239 : w232.cell? ⟨gr, 0, none⟩ = some (.int .i64 0) := (blk_cell BKgr.out 0).trans rfl; have hz240 : w232.cell? ⟨gr, 1, none⟩ = some (.int .i64 0) := (blk_cell BKgr.out 1).trans rfl; have hz241 : w232.cell? ⟨gr, 2, none⟩ = some (.int .i64 0) := (blk_cell BKgr.out 2).trans rfl; have hz242 : w232.cell? ⟨gr, 3, none⟩ = some (.slice none 0 0) := (blk_cell BKgr.out 3).trans rfl; have hf243 := blk_frozen BKgr.out 0; have hf244 := blk_frozen BKgr.out 1; have hf245 := blk_frozen BKgr.out 2; have hf246 := blk_frozen BKgr.out 3; have hz247 : w232.cell? ⟨gm, 0, none⟩ = some (.int .i64 m.f0) := (blk_cell BKgm.out 0).trans rfl; have hz248 : w232.cell? ⟨gm, 1, none⟩ = some (.int .i64 m.f1) := (blk_cell BKgm.out 1).trans rfl; have hz249 : w232.cell? ⟨gm, 2, none⟩ = some (.int .i64 m.f2) := (blk_cell BKgm.out 2).trans rfl; have hz250 : w232.cell? ⟨gm, 3, none⟩ = some (.slice A3 m.f3.length c3) := (blk_cell BKgm.out 3).trans rfl; have hf251 := blk_frozen BKgm.out 0; have hf252 := blk_frozen BKgm.out 1; have hf253 := blk_frozen BKgm.out 2; have hf254 := blk_frozen BKgm.out 3))
     refine start_ (n := 26) (S := fun w' => Below w232.heap.size w232 w') (ds := []) (bA 26 0) (by kernel_rfl) rfl rfl (below_drew (Below.refl _ _)) (fun hHeld => ?_)
     have HS := aM hHeld
     clear hHeld
     generalize w232.drew = w255 at HS ⊢
     refine take_ (i := 0) (N := some 21) (v := ?_) (a' := ?_) (bA 26 1) rfl rfl (by kernel_rfl) (fun _ _ _ h => h) (Or.inl ⟨by rfl, ?_⟩) HS.out ?_ ?_
     rotate_left
     ·intro w' s0
      have z0 : w'.cell? ⟨gm, 0, none⟩ = some (.int .i64 m.f0) := (blk_cell (blk_below BKgm.out s0) 0).trans rfl
      have z1 : w'.cell? ⟨gm, 1, none⟩ = some (.int .i64 m.f1) := (blk_cell (blk_below BKgm.out s0) 1).trans rfl
      have z2 : w'.cell? ⟨gm, 2, none⟩ = some (.int .i64 m.f2) := (blk_cell (blk_below BKgm.out s0) 2).trans rfl
      have z3 : w'.cell? ⟨gm, 3, none⟩ = some (.slice A3 m.f3.length c3) := (blk_cell (blk_below BKgm.out s0) 3).trans rfl
      go_simp
      with_reducible rfl
     rotate_left
     ·refine pZ ?_
      rfl
     refine one_ (i := 1) (N := some 22) (bA 26 3) rfl rfl (by kernel_rfl) (by decide) (fun K hK => ?_)
     refine goes_ Try.func47 (by kernel_rfl) rfl #[.agg #[.int .i64 m.f0, .int .i64 m.f1, .int .i64 m.f2, .slice A3 m.f3.length c3]] (by rfl) rfl rfl (by (try simp only [List.map_toArray, List.map_cons, List.map_nil]); first | done | rfl) ?_
     refine (impl_isImage.calls m.f0 m.f1 m.f2 _ _ m.f3 true _ (Kd.C_below HC3.out (below_step (qW HB.out) HS.out)) HL3.out AI.out).mono ?_
     rintro e w256 ⟨rfl, hb⟩
     refine ⟨_, rfl, ?_⟩
     have HS3 := aM (below_step HS.out hb)
     clear hb
     clear HS
     have HS := HS3
     clear HS3
     refine hK.out _ _ HS.out (fun hHeld => ?_)
     clear hK K hHeld
     refine norm_ (a' := ?_) ?_ ?_
     rotate_left
     ·show Act.put _ (some 22) _ = _
      refine pZ ?_
      rfl
     refine pure_ (i := 2) (N := some 23) (v := ?_) (a' := ?_) (bA 26 7) rfl rfl (by kernel_rfl) (fun _ _ _ h => h) (Or.inl ⟨by rfl, ?_⟩) ?_ ?_
     rotate_left
     ·intro w'
      go_simp
      with_reducible rfl
     rotate_left
     ·refine pZ ?_
      rfl
     refine pure_ (i := 3) (N := some 24) (v := ?_) (a' := ?_) (bA 26 15) rfl rfl (by kernel_rfl) (fun _ _ _ h => h) (Or.inl ⟨by rfl, ?_⟩) ?_ ?_
     rotate_left
     ·intro w'
      go_simp
      with_reducible rfl
     rotate_left
     ·refine pZ ?_
      rfl
     refine pure_ (i := 4) (N := some 25) (v := ?_) (a' := ?_) (bA 26 31) rfl rfl (by kernel_rfl) (fun _ _ _ h => h) (Or.inl ⟨by rfl, ?_⟩) ?_ ?_
     rotate_left
     ·intro w'
      go_simp
      with_reducible rfl
     rotate_left
     ·refine pZ ?_
      rfl
     refine take_ (i := 5) (N := some 26) (v := ?_) (a' := ?_) (bA 26 63) rfl rfl (by kernel_rfl) (fun _ _ _ h => h) (Or.inl ⟨by rfl, ?_⟩) HS.out ?_ ?_
     rotate_left
     ·intro w' s0
      have z0 : w'.cell? ⟨gm, 0, none⟩ = some (.int .i64 m.f0) := (blk_cell (blk_below BKgm.out s0) 0).trans rfl
      have z1 : w'.cell? ⟨gm, 1, none⟩ = some (.int .i64 m.f1) := (blk_cell (blk_below BKgm.out s0) 1).trans rfl
      have z2 : w'.cell? ⟨gm, 2, none⟩ = some (.int .i64 m.f2) := (blk_cell (blk_below BKgm.out s0) 2).trans rfl
      have z3 : w'.cell? ⟨gm, 3, none⟩ = some (.slice A3 m.f3.length c3) := (blk_cell (blk_below BKgm.out s0) 3).trans rfl
      go_simp
      with_reducible rfl
     rotate_left
     ·refine pZ ?_
      rfl
     refine pure_ (i := 6) (N := some 27) (v := ?_) (a' := ?_) (bA 26 127) rfl rfl (by kernel_rfl) (fun _ _ _ h => h) (Or.inl ⟨by rfl, ?_⟩) ?_ ?_
     rotate_left
     ·intro w'
      go_simp
      with_reducible rfl
     rotate_left
     ·refine pZ ?_
      rfl
     refine pure_ (i := 7) (N := some 28) (v := ?_) (a' := ?_) (bA 26 255) rfl rfl (by kernel_rfl) (fun _ _ _ h => h) (Or.inl ⟨by rfl, ?_⟩) ?_ ?_
     rotate_left
     ·intro w'
      go_simp
      with_reducible rfl
     rotate_left
     ·refine pZ ?_
      rfl
     refine pure_ (i := 8) (N := some 29) (v := ?_) (a' := ?_) (bA 26 511) rfl rfl (by kernel_rfl) (fun _ _ _ h => h) (Or.inl ⟨by rfl, ?_⟩) ?_ ?_
     rotate_left
     ·intro w'
      go_simp
      with_reducible rfl
     rotate_left
     ·refine pZ ?_
      rfl
     refine pure_ (i := 9) (N := some 30) (v := _) (a' := ?_) (bA 26 1023) rfl rfl (by kernel_rfl) (fun _ _ _ h => h) (Or.inr ⟨by rfl, rfl⟩) ?_ ?_
     rotate_left
     ·refine pZ ?_
      rfl
     refine take_ (i := 10) (N := some 31) (v := _) (a' := ?_) (bA 26 2047) rfl rfl (by kernel_rfl) (fun _ _ _ h => h) (Or.inr ⟨by rfl, rfl⟩) HS.out ?_ ?_
     rotate_left
     ·refine pZ ?_
      rfl
     refine take_ (i := 11) (N := some 32) (v := _) (a' := ?_) (bA 26 4095) rfl rfl (by kernel_rfl) (fun _ _ _ h => h) (Or.inr ⟨by rfl, rfl⟩) HS.out ?_ ?_
     rotate_left
     ·refine pZ ?_
      rfl
     refine pure_ (i := 12) (N := some 33) (v := _) (a' := ?_) (bA 26 8191) rfl rfl (by kernel_rfl) (fun _ _ _ h => h) (Or.inr ⟨by rfl, rfl⟩) ?_ ?_
     rotate_left
     ·refine pZ ?_
      rfl
     refine pure_ (i := 13) (N := some 34) (v := _) (a' := ?_) (bA 26 16383) rfl rfl (by kernel_rfl) (fun _ _ _ h => h) (Or.inr ⟨by rfl, rfl⟩) ?_ ?_
     rotate_left
     ·refine pZ ?_
      rfl
     refine take_ (i := 14) (N := some 35) (v := _) (a' := ?_) (bA 26 32767) rfl rfl (by kernel_rfl) (fun _ _ _ h => h) (Or.inr ⟨by rfl, rfl⟩) HS.out ?_ ?_
     rotate_left
     ·refine pZ ?_
      rfl
     refine pure_ (i := 15) (N := some 36) (v := _) (a' := ?_) (bA 26 65535) rfl rfl (by kernel_rfl) (fun _ _ _ h => h) (Or.inr ⟨by rfl, rfl⟩) ?_ ?_
     rotate_left
     ·refine pZ ?_
      rfl
     refine pure_ (i := 16) (N := some 37) (v := ?_) (a' := ?_) (bA 26 131071) rfl rfl (by kernel_rfl) (fun _ _ _ h => h) (Or.inl ⟨by rfl, ?_⟩) ?_ ?_
     rotate_left
     ·intro w'
      go_simp
      with_reducible rfl
     rotate_left
     ·refine pZ ?_
      rfl
     refine pure_ (i := 17) (N := some 38) (v := ?_) (a' := ?_) (bA 26 262143) rfl rfl (by kernel_rfl) (fun _ _ _ h => h) (Or.inl ⟨by rfl, ?_⟩) ?_ ?_
     rotate_left
     ·intro w'
      go_simp
      with_reducible rfl
     rotate_left
     ·refine pZ ?_
      rfl
     refine pure_ (i := 18) (N := some 39) (v := _) (a' := ?_) (bA 26 524287) rfl rfl (by kernel_rfl) (fun _ _ _ h => h) (Or.inr ⟨by rfl, rfl⟩) ?_ ?_
     rotate_left
     ·refine pZ ?_
      rfl
     refine take_ (i := 19) (N := some 40) (v := _) (a' := ?_) (bA 26 1048575) rfl rfl (by kernel_rfl) (fun _ _ _ h => h) (Or.inr ⟨by rfl, rfl⟩) HS.out ?_ ?_
     rotate_left
     ·refine pZ ?_
      rfl
     refine take_ (i := 20) (N := some 41) (v := _) (a' := ?_) (bA 26 2097151) rfl rfl (by kernel_rfl) (fun _ _ _ h => h) (Or.inr ⟨by rfl, rfl⟩) HS.out ?_ ?_
     rotate_left
     ·refine pZ ?_
      rfl
     refine pure_ (i := 21) (N := some 42) (v := _) (a' := ?_) (bA 26 4194303) rfl rfl (by kernel_rfl) (fun _ _ _ h => h) (Or.inr ⟨by rfl, rfl⟩) ?_ ?_
     rotate_left
     ·refine pZ ?_
      rfl
     refine pure_ (i := 22) (N := some 43) (v := _) (a' := ?_) (bA 26 8388607) rfl rfl (by kernel_rfl) (fun _ _ _ h => h) (Or.inr ⟨by rfl, rfl⟩) ?_ ?_
     rotate_left
     ·refine pZ ?_
      rfl
     refine take_ (i := 23) (N := some 44) (v := _) (a' := ?_) (bA 26 16777215) rfl rfl (by kernel_rfl) (fun _ _ _ h => h) (Or.inr ⟨by rfl, rfl⟩) HS.out ?_ ?_
     rotate_left
     ·refine pZ ?_
      rfl
     refine pure_ (i := 24) (N := some 45) (v := _) (a' := ?_) (bA 26 33554431) rfl rfl (by kernel_rfl) (fun _ _ _ h => h) (Or.inr ⟨by rfl, rfl⟩) ?_ ?_
     rotate_left
     ·refine pZ ?_
      rfl
     refine pure_ (i := 25) (N := some 46) (v := ?_) (a' := ?_) (bA 26 67108863) rfl rfl (by kernel_rfl) (fun _ _ _ h => h) (Or.inl ⟨by rfl, ?_⟩) ?_ ?_
     rotate_left
     ·intro w'
      go_simp
      with_reducible rfl
     rotate_left
     ·refine pZ ?_
      rfl
     have hb := HS.out
     clear HS
     have n257 := bB BKgl hb
     have n258 := bB BKgr hb
     have n259 := bB BKgm hb
     have n260 := bS HB hb
     clear HB BKgl BKgr BKgm
     have BKgl := n257
     have BKgr := n258
     have BKgm := n259
     have HB := n260
     clear n257 n258 n259 n260 hb
     have hz261 : w256.cell? ⟨gl, 0, none⟩ = some (.slice (some ad) n c0) := (blk_cell BKgl.out 0).trans rfl
     have hf262 := blk_frozen BKgl.out 0
     have hz263 : w256.cell? ⟨gr, 0, none⟩ = some (.int .i64 0) := (blk_cell BKgr.out 0).trans rfl
     have hz264 : w256.cell? ⟨gr, 1, none⟩ = some (.int .i64 0) := (blk_cell BKgr.out 1).trans rfl
     have hz265 : w256.cell? ⟨gr, 2, none⟩ = some (.int .i64 0) := (blk_cell BKgr.out 2).trans rfl
     have hz266 : w256.cell? ⟨gr, 3, none⟩ = some (.slice none 0 0) := (blk_cell BKgr.out 3).trans rfl
     have hf267 := blk_frozen BKgr.out 0
     have hf268 := blk_frozen BKgr.out 1
     have hf269 := blk_frozen BKgr.out 2
     have hf270 := blk_frozen BKgr.out 3
     have hz271 : w256.cell? ⟨gm, 0, none⟩ = some (.int .i64 m.f0) := (blk_cell BKgm.out 0).trans rfl
     have hz272 : w256.cell? ⟨gm, 1, none⟩ = some (.int .i64 m.f1) := (blk_cell BKgm.out 1).trans rfl
     have hz273 : w256.cell? ⟨gm, 2, none⟩ = some (.int .i64 m.f2) := (blk_cell BKgm.out 2).trans rfl
     have hz274 : w256.cell? ⟨gm, 3, none⟩ = some (.slice A3 m.f3.length c3) := (blk_cell BKgm.out 3).trans rfl
     have hf275 := blk_frozen BKgm.out 0
     have hf276 := blk_frozen BKgm.out 1
     have hf277 := blk_frozen BKgm.out 2
     have hf278 := blk_frozen BKgm.out 3
     refine done_ (by kernel_rfl) ?_
     go_wp2
     refine bodyPost_ret (results_ct rfl _ _ gr 27 #[.int .i64 0, .int .i64 0, .int .i64 0, .slice none 0 0] (0, 0) _ rfl (by exact bP BKgr.out) Try.underlying27 rfl (by kernel_rfl)) rfl ?_
     exact ⟨_, by first | rfl | (simp; done), Kd.R_nil _ _ _ _ _, by exact qW HB.out⟩
    rw [if_pos c0] at H
    have c0a : (m.f2 == 1) = true := beq_iff_eq.mpr c0
    have c0b : (m.f2 != 1) = false := bne_eq_false_iff_eq.mpr c0
    clear c0
    by_cases c1 : m.f0 = m0.f0
    case neg =>
     rw [if_neg c1] at H
     obtain rfl := Option.some.inj H
     have h := HF.out
     rw [if_neg (by decide)] at h
     simp only [Option.some.injEq, Prod.mk.injEq] at h
     obtain ⟨rfl, rfl, rfl, rfl, rfl⟩ := h
     have c1a : (m.f0 == m0.f0) = false := beq_eq_false_iff_ne.mpr c1
     have c1b : (m.f0 != m0.f0) = true := bne_iff_ne.mpr c1
     clear c1
     go_wp2_with (first | ((with_reducible refine gate_dst (N := 5) rfl ?_); (try (refine gate_guard (by rfl) ?_; dsimp only)); refine bxE (N := 5) (cs := #[.int .i64 0, .int .i64 0, .int .i64 0, .slice none 0 0]) (t := 27) ?_; intro gm hg w279 hbox hb; have n280 := bB BKgl hb; have n281 := bB BKgr hb; have n282 := bS HB hb; have n283 := aM hbox; have n284 := aM ((by rw [hg]; exact (below_size (qW HB.out))) : w.heap.size ≤ gm); have n285 := aM ((by rw [hg]; exact Nat.ne_of_lt (blk_lt (g := gl) (o := .cells #[.slice (some ad) n c0] 23 (0, 0)) (qB BKgl.out))) : gl ≠ gm); have n286 := aM ((by rw [hg]; exact Nat.ne_of_gt (blk_lt (g := gl) (o := .cells #[.slice (some ad) n c0] 23 (0, 0)) (qB BKgl.out))) : gm ≠ gl); have n287 := aM ((by rw [hg]; exact Nat.ne_of_lt (blk_lt (g := gr) (o := .cells #[.int .i64 0, .int .i64 0, .int .i64 0, .slice none 0 0] 27 (0, 0)) (qB BKgr.out))) : gr ≠ gm); have n288 := aM ((by rw [hg]; exact Nat.ne_of_gt (blk_lt (g := gr) (o := .cells #[.int .i64 0, .int .i64 0, .int .i64 0, .slice none 0 0] 27 (0, 0)) (qB BKgr.out))) : gm ≠ gr); clear HB BKgl BKgr; have BKgl := n280; have BKgr := n281; have HB := n282; have BKgm := n283; have GEgm := n284; have NBgl_gm := n285; have NBgm_gl := n286; have NBgr_gm := n287; have NBgm_gr := n288; clear n280 n281 n282 n283 n284 n285 n286 n287 n288; clear hb hbox hg; have hz289 : w279.cell? ⟨gl, 0, none⟩ = some (.slice (some ad) n c0) := (blk_cell BKgl.out 0).trans rfl; have hf290 := blk_frozen BKgl.out 0; have hz291 : w279.cell? ⟨gr, 0, none⟩ = some (.int .i64 0) := (blk_cell BKgr.out 0).trans rfl; have hz292 : w279.cell? ⟨gr, 1, none⟩ = some (.int .i64 0) := (blk_cell BKgr.out 1).trans rfl; have hz293 : w279.cell? ⟨gr, 2, none⟩ = some (.int .i64 0) := (blk_cell BKgr.out 2).trans rfl; have hz294 : w279.cell? ⟨gr, 3, none⟩ = some (.slice none 0 0) := (blk_cell BKgr.out 3).trans rfl; have hf295 := blk_frozen BKgr.out 0; have hf296 := blk_frozen BKgr.out 1; have hf297 := blk_frozen BKgr.out 2; have hf298 := blk_frozen BKgr.out 3) | ((with_reducible refine gate_store (t := 27) (p := 5) rfl ?_); have hzs0_ : w279.cell? ⟨gm, 0, none⟩ = some (.int .i64 0) := (blk_cell BKgm.out 0).trans rfl; have hfs0_ := blk_frozen BKgm.out 0; have hzs1_ : w279.cell? ⟨gm, 1, none⟩ = some (.int .i64 0) := (blk_cell BKgm.out 1).trans rfl; have hfs1_ := blk_frozen BKgm.out 1; have hzs2_ : w279.cell? ⟨gm, 2, none⟩ = some (.int .i64 0) := (blk_cell BKgm.out 2).trans rfl; have hfs2_ := blk_frozen BKgm.out 2; have hzs3_ : w279.cell? ⟨gm, 3, none⟩ = some (.slice none 0 0) := (blk_cell BKgm.out 3).trans rfl; have hfs3_ := blk_frozen BKgm.out 3; refine store_event (t := 27) (p := 5) (v := ?vo_w307) (w1 := ((((w279.setCell ⟨gm, 0, none⟩ (.int .i64 m.f0)).setCell ⟨gm, 1, none⟩ (.int .i64 m.f1)).setCell ⟨gm, 2, none⟩ (.int .i64 m.f2)).setCell ⟨gm, 3, none⟩ (.slice A3 m.f3.length c3))) ?hg ?ho ?hn ?hr ?_; (case ho => rfl); (case hg => rfl); (case hn => rfl); (case hr => first | (go_simp; done) | (go_simp; rfl)); intro w307 hw; have n308 := aM (show w307.heap[gl]? = some (.cells #[.slice (some ad) n c0] 23 (0, 0)) by rw [hw]; exact blk_far (blk_far (blk_far (blk_far (BKgl.out) NBgl_gm.out _) NBgl_gm.out _) NBgl_gm.out _) NBgl_gm.out _); have n309 := aM (show w307.heap[gr]? = some (.cells #[.int .i64 0, .int .i64 0, .int .i64 0, .slice none 0 0] 27 (0, 0)) by rw [hw]; exact blk_far (blk_far (blk_far (blk_far (BKgr.out) NBgr_gm.out _) NBgr_gm.out _) NBgr_gm.out _) NBgr_gm.out _); have n310 := aM (show w307.heap[gm]? = some (.cells #[.int .i64 m.f0, .int .i64 m.f1, .int .i64 m.f2, .slice A3 m.f3.length c3] 27 (0, 0)) by rw [hw]; refine blk_put (cs := #[.int .i64 m.f0, .int .i64 m.f1, .int .i64 m.f2, .slice none 0 0]) ?_ 3 _ rfl; refine blk_put (cs := #[.int .i64 m.f0, .int .i64 m.f1, .int .i64 0, .slice none 0 0]) ?_ 2 _ rfl; refine blk_put (cs := #[.int .i64 m.f0, .int .i64 0, .int .i64 0, .slice none 0 0]) ?_ 1 _ rfl; refine blk_put (cs := #[.int .i64 0, .int .i64 0, .int .i64 0, .slice none 0 0]) ?_ 0 _ rfl; exact BKgm.out); have n311 := aM (show Below w.heap.size w w307 by rw [hw]; exact below_set (below_set (below_set (below_set (HB.out) GEgm.out) GEgm.out) GEgm.out) GEgm.out); clear hzs0_ hfs0_ hzs1_ hfs1_ hzs2_ hfs2_ hzs3_ hfs3_; clear HB BKgl BKgr BKgm hw; have BKgl := n308; have BKgr := n309; have BKgm := n310; have HB := n311; clear n308 n309 n310 n311; have hz312 : w307.cell? ⟨gl, 0, none⟩ = some (.slice (some ad) n c0) := (blk_cell BKgl.out 0).trans rfl; have hf313 := blk_frozen BKgl.out 0; have hz314 : w307.cell? ⟨gr, 0, none⟩ = some (.int .i64 0) := (blk_cell BKgr.out 0).trans rfl; have hz315 : w307.cell? ⟨gr, 1, none⟩ = some (.int .i64 0) := (blk_cell BKgr.out 1).trans rfl; have hz316 : w307.cell? ⟨gr, 2, none⟩ = some (.int .i64 0) := (blk_cell BKgr.out 2).trans rfl; have hz317 : w307.cell? ⟨gr, 3, none⟩ = some (.slice none 0 0) := (blk_cell BKgr.out 3).trans rfl; have hf318 := blk_frozen BKgr.out 0; have hf319 := blk_frozen BKgr.out 1; have hf320 := blk_frozen BKgr.out 2; have hf321 := blk_frozen BKgr.out 3; have hz322 : w307.cell? ⟨gm, 0, none⟩ = some (.int .i64 m.f0) := (blk_cell BKgm.out 0).trans rfl; have hz323 : w307.cell? ⟨gm, 1, none⟩ = some (.int .i64 m.f1) := (blk_cell BKgm.out 1).trans rfl; have hz324 : w307.cell? ⟨gm, 2, none⟩ = some (.int .i64 m.f2) := (blk_cell BKgm.out 2).trans rfl; have hz325 : w307.cell? ⟨gm, 3, none⟩ = some (.slice A3 m.f3.length c3) := (blk_cell BKgm.out 3).trans rfl; have hf326 := blk_frozen BKgm.out 0; have hf327 := blk_frozen BKgm.out 1; have hf328 := blk_frozen BKgm.out 2; have hf329 := blk_frozen BKgm.out 3))
     refine start_ (n := 26) (S := fun w' => Below w307.heap.size w307 w') (ds := []) (bA 26 0) (by kernel_rfl) rfl rfl (below_drew (Below.refl _ _)) (fun hHeld => ?_)
     have HS := aM hHeld
     clear hHeld
     generalize w307.drew = w330 at HS ⊢
     refine take_ (i := 0) (N := some 21) (v := ?_) (a' := ?_) (bA 26 1) rfl rfl (by kernel_rfl) (fun _ _ _ h => h) (Or.inl ⟨by rfl, ?_⟩) HS.out ?_ ?_
     rotate_left
     ·intro w' s0
      have z0 : w'.cell? ⟨gm, 0, none⟩ = some (.int .i64 m.f0) := (blk_cell (blk_below BKgm.out s0) 0).trans rfl
      have z1 : w'.cell? ⟨gm, 1, none⟩ = some (.int .i64 m.f1) := (blk_cell (blk_below BKgm.out s0) 1).trans rfl
      have z2 : w'.cell? ⟨gm, 2, none⟩ = some (.int .i64 m.f2) := (blk_cell (blk_below BKgm.out s0) 2).trans rfl
      have z3 : w'.cell? ⟨gm, 3, none⟩ = some (.slice A3 m.f3.length c3) := (blk_cell (blk_below BKgm.out s0) 3).trans rfl
      go_simp
      with_reducible rfl
     rotate_left
     ·refine pZ ?_
      rfl
     refine one_ (i := 1) (N := some 22) (bA 26 3) rfl rfl (by kernel_rfl) (by decide) (fun K hK => ?_)
     refine goes_ Try.func47 (by kernel_rfl) rfl #[.agg #[.int .i64 m.f0, .int .i64 m.f1, .int .i64 m.f2, .slice A3 m.f3.length c3]] (by rfl) rfl rfl (by (try simp only [List.map_toArray, List.map_cons, List.map_nil]); first | done | rfl) ?_
     refine (impl_isImage.calls m.f0 m.f1 m.f2 _ _ m.f3 true _ (Kd.C_below HC3.out (below_step (qW HB.out) HS.out)) HL3.out AI.out).mono ?_
     rintro e w331 ⟨rfl, hb⟩
     refine ⟨_, rfl, ?_⟩
     have HS3 := aM (below_step HS.out hb)
     clear hb
     clear HS
     have HS := HS3
     clear HS3
     refine hK.out _ _ HS.out (fun hHeld => ?_)
     clear hK K hHeld
     refine norm_ (a' := ?_) ?_ ?_
     rotate_left
     ·show Act.put _ (some 22) _ = _
      refine pZ ?_
      rfl
     refine pure_ (i := 2) (N := some 23) (v := ?_) (a' := ?_) (bA 26 7) rfl rfl (by kernel_rfl) (fun _ _ _ h => h) (Or.inl ⟨by rfl, ?_⟩) ?_ ?_
     rotate_left
     ·intro w'
      go_simp
      with_reducible rfl
     rotate_left
     ·refine pZ ?_
      rfl
     refine pure_ (i := 3) (N := some 24) (v := ?_) (a' := ?_) (bA 26 15) rfl rfl (by kernel_rfl) (fun _ _ _ h => h) (Or.inl ⟨by rfl, ?_⟩) ?_ ?_
     rotate_left
     ·intro w'
      go_simp
      with_reducible rfl
     rotate_left
     ·refine pZ ?_
      rfl
     refine pure_ (i := 4) (N := some 25) (v := ?_) (a' := ?_) (bA 26 31) rfl rfl (by kernel_rfl) (fun _ _ _ h => h) (Or.inl ⟨by rfl, ?_⟩) ?_ ?_
     rotate_left
     ·intro w'
      go_simp
      with_reducible rfl
     rotate_left
     ·refine pZ ?_
      rfl
     refine take_ (i := 5) (N := some 26) (v := ?_) (a' := ?_) (bA 26 63) rfl rfl (by kernel_rfl) (fun _ _ _ h => h) (Or.inl ⟨by rfl, ?_⟩) HS.out ?_ ?_
     rotate_left
     ·intro w' s0
      have z0 : w'.cell? ⟨gm, 0, none⟩ = some (.int .i64 m.f0) := (blk_cell (blk_below BKgm.out s0) 0).trans rfl
      have z1 : w'.cell? ⟨gm, 1, none⟩ = some (.int .i64 m.f1) := (blk_cell (blk_below BKgm.out s0) 1).trans rfl
      have z2 : w'.cell? ⟨gm, 2, none⟩ = some (.int .i64 m.f2) := (blk_cell (blk_below BKgm.out s0) 2).trans rfl
      have z3 : w'.cell? ⟨gm, 3, none⟩ = some (.slice A3 m.f3.length c3) := (blk_cell (blk_below BKgm.out s0) 3).trans rfl
      go_simp
      with_reducible rfl
     rotate_left
     ·refine pZ ?_
      rfl
     refine pure_ (i := 6) (N := some 27) (v := ?_) (a' := ?_) (bA 26 127) rfl rfl (by kernel_rfl) (fun _ _ _ h => h) (Or.inl ⟨by rfl, ?_⟩) ?_ ?_
     rotate_left
     ·intro w'
      go_simp
      with_reducible rfl
     rotate_left
     ·refine pZ ?_
      rfl
     refine pure_ (i := 7) (N := some 28) (v := ?_) (a' := ?_) (bA 26 255) rfl rfl (by kernel_rfl) (fun _ _ _ h => h) (Or.inl ⟨by rfl, ?_⟩) ?_ ?_
     rotate_left
     ·intro w'
      go_simp
      with_reducible rfl
     rotate_left
     ·refine pZ ?_
      rfl
     refine pure_ (i := 8) (N := some 29) (v := ?_) (a' := ?_) (bA 26 511) rfl rfl (by kernel_rfl) (fun _ _ _ h => h) (Or.inl ⟨by rfl, ?_⟩) ?_ ?_
     rotate_left
     ·intro w'
      go_simp
      with_reducible rfl
     rotate_left
     ·refine pZ ?_
      rfl
     refine pure_ (i := 9) (N := some 30) (v := ?_) (a' := ?_) (bA 26 1023) rfl rfl (by kernel_rfl) (fun _ _ _ h => h) (Or.inl ⟨by rfl, ?_⟩) ?_ ?_
     rotate_left
     ·intro w'
      go_simp
      with_reducible rfl
     rotate_left
     ·refine pZ ?_
      rfl
     refine take_ (i := 10) (N := some 31) (v := ?_) (a' := ?_) (bA 26 2047) rfl rfl (by kernel_rfl) (fun _ _ _ h => h) (Or.inl ⟨by rfl, ?_⟩) HS.out ?_ ?_
     rotate_left
     ·intro w' s0
      have z0 : w'.cell? ⟨gm, 0, none⟩ = some (.int .i64 m.f0) := (blk_cell (blk_below BKgm.out s0) 0).trans rfl
      have z1 : w'.cell? ⟨gm, 1, none⟩ = some (.int .i64 m.f1) := (blk_cell (blk_below BKgm.out s0) 1).trans rfl
      have z2 : w'.cell? ⟨gm, 2, none⟩ = some (.int .i64 m.f2) := (blk_cell (blk_below BKgm.out s0) 2).trans rfl
      have z3 : w'.cell? ⟨gm, 3, none⟩ = some (.slice A3 m.f3.length c3) := (blk_cell (blk_below BKgm.out s0) 3).trans rfl
      go_simp
      with_reducible rfl
     rotate_left
     ·refine pZ ?_
      rfl
     refine take_ (i := 11) (N := some 32) (v := ?_) (a' := ?_) (bA 26 4095) rfl rfl (by kernel_rfl) (fun _ _ _ h => h) (Or.inl ⟨by rfl, ?_⟩) HS.out ?_ ?_
     rotate_left
     ·intro w' s0
      have z : w'.cell? ⟨gl, 0, none⟩ = some (.slice (some ad) n c0) := (blk_cell (blk_below BKgl.out s0) 0).trans rfl
      go_simp
      with_reducible rfl
     rotate_left
     ·refine pZ ?_
      rfl
     refine pure_ (i := 12) (N := some 33) (v := ?_) (a' := ?_) (bA 26 8191) rfl rfl (by kernel_rfl) (fun _ _ _ h => h) (Or.inl ⟨by rfl, ?_⟩) ?_ ?_
     rotate_left
     ·intro w'
      go_simp
      with_reducible rfl
     rotate_left
     ·refine pZ ?_
      rfl
     refine pure_ (i := 13) (N := some 34) (v := ?_) (a' := ?_) (bA 26 16383) rfl rfl (by kernel_rfl) (fun _ _ _ h => h) (Or.inl ⟨by rfl, ?_⟩) ?_ ?_
     rotate_left
     ·intro w'
      go_simp
      with_reducible rfl
     rotate_left
     ·refine pZ ?_
      rfl
     refine take_ (i := 14) (N := some 35) (v := ?_) (a' := ?_) (bA 26 32767) rfl rfl (by kernel_rfl) (fun _ _ _ h => h) (Or.inl ⟨by rfl, ?_⟩) HS.out ?_ ?_
     rotate_left
     ·intro w' s0
      have y0 := pw_cell_below (below_step (qW HB.out) s0) Y0.out
      have y1 := pw_cell_below (below_step (qW HB.out) s0) Y1.out
      go_simp
      with_reducible rfl
     rotate_left
     ·refine pZ ?_
      rfl
     refine pure_ (i := 15) (N := some 36) (v := ?_) (a' := ?_) (bA 26 65535) rfl rfl (by kernel_rfl) (fun _ _ _ h => h) (Or.inl ⟨by rfl, ?_⟩) ?_ ?_
     rotate_left
     ·intro w'
      go_simp
      with_reducible rfl
     rotate_left
     ·refine pZ ?_
      rfl
     refine pure_ (i := 16) (N := some 37) (v := ?_) (a' := ?_) (bA 26 131071) rfl rfl (by kernel_rfl) (fun _ _ _ h => h) (Or.inl ⟨by rfl, ?_⟩) ?_ ?_
     rotate_left
     ·intro w'
      go_simp
      with_reducible rfl
     rotate_left
     ·refine pZ ?_
      rfl
     refine pure_ (i := 17) (N := some 38) (v := ?_) (a' := ?_) (bA 26 262143) rfl rfl (by kernel_rfl) (fun _ _ _ h => h) (Or.inl ⟨by rfl, ?_⟩) ?_ ?_
     rotate_left
     ·intro w'
      go_simp
      with_reducible rfl
     rotate_left
     ·refine pZ ?_
      rfl
     refine pure_ (i := 18) (N := some 39) (v := _) (a' := ?_) (bA 26 524287) rfl rfl (by kernel_rfl) (fun _ _ _ h => h) (Or.inr ⟨by rfl, rfl⟩) ?_ ?_
     rotate_left
     ·refine pZ ?_
      rfl
     refine take_ (i := 19) (N := some 40) (v := _) (a' := ?_) (bA 26 1048575) rfl rfl (by kernel_rfl) (fun _ _ _ h => h) (Or.inr ⟨by rfl, rfl⟩) HS.out ?_ ?_
     rotate_left
     ·refine pZ ?_
      rfl
     refine take_ (i := 20) (N := some 41) (v := _) (a' := ?_) (bA 26 2097151) rfl rfl (by kernel_rfl) (fun _ _ _ h => h) (Or.inr ⟨by rfl, rfl⟩) HS.out ?_ ?_
     rotate_left
     ·refine pZ ?_
      rfl
     refine pure_ (i := 21) (N := some 42) (v := _) (a' := ?_) (bA 26 4194303) rfl rfl (by kernel_rfl) (fun _ _ _ h => h) (Or.inr ⟨by rfl, rfl⟩) ?_ ?_
     rotate_left
     ·refine pZ ?_
      rfl
     refine pure_ (i := 22) (N := some 43) (v := _) (a' := ?_) (bA 26 8388607) rfl rfl (by kernel_rfl) (fun _ _ _ h => h) (Or.inr ⟨by rfl, rfl⟩) ?_ ?_
     rotate_left
     ·refine pZ ?_
      rfl
     refine take_ (i := 23) (N := some 44) (v := _) (a' := ?_) (bA 26 16777215) rfl rfl (by kernel_rfl) (fun _ _ _ h => h) (Or.inr ⟨by rfl, rfl⟩) HS.out ?_ ?_
     rotate_left
     ·refine pZ ?_
      rfl
     refine pure_ (i := 24) (N := some 45) (v := _) (a' := ?_) (bA 26 33554431) rfl rfl (by kernel_rfl) (fun _ _ _ h => h) (Or.inr ⟨by rfl, rfl⟩) ?_ ?_
     rotate_left
     ·refine pZ ?_
      rfl
     refine pure_ (i := 25) (N := some 46) (v := ?_) (a' := ?_) (bA 26 67108863) rfl rfl (by kernel_rfl) (fun _ _ _ h => h) (Or.inl ⟨by rfl, ?_⟩) ?_ ?_
     rotate_left
     ·intro w'
      go_simp
      with_reducible rfl
     rotate_left
     ·refine pZ ?_
      rfl
     have hb := HS.out
     clear HS
     have n332 := bB BKgl hb
     have n333 := bB BKgr hb
     have n334 := bB BKgm hb
     have n335 := bS HB hb
     clear HB BKgl BKgr BKgm
     have BKgl := n332
     have BKgr := n333
     have BKgm := n334
     have HB := n335
     clear n332 n333 n334 n335 hb
     have hz336 : w331.cell? ⟨gl, 0, none⟩ = some (.slice (some ad) n c0) := (blk_cell BKgl.out 0).trans rfl
     have hf337 := blk_frozen BKgl.out 0
     have hz338 : w331.cell? ⟨gr, 0, none⟩ = some (.int .i64 0) := (blk_cell BKgr.out 0).trans rfl
     have hz339 : w331.cell? ⟨gr, 1, none⟩ = some (.int .i64 0) := (blk_cell BKgr.out 1).trans rfl
     have hz340 : w331.cell? ⟨gr, 2, none⟩ = some (.int .i64 0) := (blk_cell BKgr.out 2).trans rfl
     have hz341 : w331.cell? ⟨gr, 3, none⟩ = some (.slice none 0 0) := (blk_cell BKgr.out 3).trans rfl
     have hf342 := blk_frozen BKgr.out 0
     have hf343 := blk_frozen BKgr.out 1
     have hf344 := blk_frozen BKgr.out 2
     have hf345 := blk_frozen BKgr.out 3
     have hz346 : w331.cell? ⟨gm, 0, none⟩ = some (.int .i64 m.f0) := (blk_cell BKgm.out 0).trans rfl
     have hz347 : w331.cell? ⟨gm, 1, none⟩ = some (.int .i64 m.f1) := (blk_cell BKgm.out 1).trans rfl
     have hz348 : w331.cell? ⟨gm, 2, none⟩ = some (.int .i64 m.f2) := (blk_cell BKgm.out 2).trans rfl
     have hz349 : w331.cell? ⟨gm, 3, none⟩ = some (.slice A3 m.f3.length c3) := (blk_cell BKgm.out 3).trans rfl
     have hf350 := blk_frozen BKgm.out 0
     have hf351 := blk_frozen BKgm.out 1
     have hf352 := blk_frozen BKgm.out 2
     have hf353 := blk_frozen BKgm.out 3
     refine done_ (by kernel_rfl) ?_
     go_wp2
     refine bodyPost_ret (results_ct rfl _ _ gr 27 #[.int .i64 0, .int .i64 0, .int .i64 0, .slice none 0 0] (0, 0) _ rfl (by exact bP BKgr.out) Try.underlying27 rfl (by kernel_rfl)) rfl ?_
     exact ⟨_, by first | rfl | (simp; done), Kd.R_nil _ _ _ _ _, by exact qW HB.out⟩
    rw [if_pos c1] at H
    have c1a : (m.f0 == m0.f0) = true := beq_iff_eq.mpr c1
    have c1b : (m.f0 != m0.f0) = false := bne_eq_false_iff_eq.mpr c1
    clear c1
    by_cases c2 : m.f1 = m0.f1
    case neg =>
     rw [if_neg c2] at H
     obtain rfl := Option.some.inj H
     have h := HF.out
     rw [if_neg (by decide)] at h
     simp only [Option.some.injEq, Prod.mk.injEq] at h
     obtain ⟨rfl, rfl, rfl, rfl, rfl⟩ := h
     have c2a : (m.f1 == m0.f1) = false := beq_eq_false_iff_ne.mpr c2
     have c2b : (m.f1 != m0.f1) = true := bne_iff_ne.mpr c2
     clear c2
     go_wp2_with (first | ((with_reducible refine gate_dst (N := 5) rfl ?_); (try (refine gate_guard (by rfl) ?_; dsimp only)); refine bxE (N := 5) (cs := #[.int .i64 0, .int .i64 0, .int .i64 0, .slice none 0 0]) (t := 27) ?_; intro gm hg w354 hbox hb; have n355 := bB BKgl hb; have n356 := bB BKgr hb; have n357 := bS HB hb; have n358 := aM hbox; have n359 := aM ((by rw [hg]; exact (below_size (qW HB.out))) : w.heap.size ≤ gm); have n360 := aM ((by rw [hg]; exact Nat.ne_of_lt (blk_lt (g := gl) (o := .cells #[.slice (some ad) n c0] 23 (0, 0)) (qB BKgl.out))) : gl ≠ gm); have n361 := aM ((by rw [hg]; exact Nat.ne_of_gt (blk_lt (g := gl) (o := .cells #[.slice (some ad) n c0] 23 (0, 0)) (qB BKgl.out))) : gm ≠ gl); have n362 := aM ((by rw [hg]; exact Nat.ne_of_lt (blk_lt (g := gr) (o := .cells #[.int .i64 0, .int .i64 0, .int .i64 0, .slice none 0 0] 27 (0, 0)) (qB BKgr.out))) : gr ≠ gm); have n363 := aM ((by rw [hg]; exact Nat.ne_of_gt (blk_lt (g := gr) (o := .cells #[.int .i64 0, .int .i64 0, .int .i64 0, .slice none 0 0] 27 (0, 0)) (qB BKgr.out))) : gm ≠ gr); clear HB BKgl BKgr; have BKgl := n355; have BKgr := n356; have HB := n357; have BKgm := n358; have GEgm := n359; have NBgl_gm := n360; have NBgm_gl := n361; have NBgr_gm := n362; have NBgm_gr := n363; clear n355 n356 n357 n358 n359 n360 n361 n362 n363; clear hb hbox hg; have hz364 : w354.cell? ⟨gl, 0, none⟩ = some (.slice (some ad) n c0) := (blk_cell BKgl.out 0).trans rfl; have hf365 := blk_frozen BKgl.out 0; have hz366 : w354.cell? ⟨gr, 0, none⟩ = some (.int .i64 0) := (blk_cell BKgr.out 0).trans rfl; have hz367 : w354.cell? ⟨gr, 1, none⟩ = some (.int .i64 0) := (blk_cell BKgr.out 1).trans rfl; have hz368 : w354.cell? ⟨gr, 2, none⟩ = some (.int .i64 0) := (blk_cell BKgr.out 2).trans rfl; have hz369 : w354.cell? ⟨gr, 3, none⟩ = some (.slice none 0 0) := (blk_cell BKgr.out 3).trans rfl; have hf370 := blk_frozen BKgr.out 0; have hf371 := blk_frozen BKgr.out 1; have hf372 := blk_frozen BKgr.out 2; have hf373 := blk_frozen BKgr.out 3) | ((with_reducible refine gate_store (t := 27) (p := 5) rfl ?_); have hzs0_ : w354.cell? ⟨gm, 0, none⟩ = some (.int .i64 0) := (blk_cell BKgm.out 0).trans rfl; have hfs0_ := blk_frozen BKgm.out 0; have hzs1_ : w354.cell? ⟨gm, 1, none⟩ = some (.int .i64 0) := (blk_cell BKgm.out 1).trans rfl; have hfs1_ := blk_frozen BKgm.out 1; have hzs2_ : w354.cell? ⟨gm, 2, none⟩ = some (.int .i64 0) := (blk_cell BKgm.out 2).trans rfl; have hfs2_ := blk_frozen BKgm.out 2; have hzs3_ : w354.cell? ⟨gm, 3, none⟩ = some (.slice none 0 0) := (blk_cell BKgm.out 3).trans rfl; have hfs3_ := blk_frozen BKgm.out 3; refine store_event (t := 27) (p := 5) (v := ?vo_w382) (w1 := ((((w354.setCell ⟨gm, 0, none⟩ (.int .i64 m.f0)).setCell ⟨gm, 1, none⟩ (.int .i64 m.f1)).setCell ⟨gm, 2, none⟩ (.int .i64 m.f2)).setCell ⟨gm, 3, none⟩ (.slice A3 m.f3.length c3))) ?hg ?ho ?hn ?hr ?_; (case ho => rfl); (case hg => rfl); (case hn => rfl); (case hr => first | (go_simp; done) | (go_simp; rfl)); intro w382 hw; have n383 := aM (show w382.heap[gl]? = some (.cells #[.slice (some ad) n c0] 23 (0, 0)) by rw [hw]; exact blk_far (blk_far (blk_far (blk_far (BKgl.out) NBgl_gm.out _) NBgl_gm.out _) NBgl_gm.out _) NBgl_gm.out _); have n384 := aM (show w382.heap[gr]? = some (.cells #[.int .i64 0, .int .i64 0, .int .i64 0, .slice none 0 0] 27 (0, 0)) by rw [hw]; exact blk_far (blk_far (blk_far (blk_far (BKgr.out) NBgr_gm.out _) NBgr_gm.out _) NBgr_gm.out _) NBgr_gm.out _); have n385 := aM (show w382.heap[gm]? = some (.cells #[.int .i64 m.f0, .int .i64 m.f1, .int .i64 m.f2, .slice A3 m.f3.length c3] 27 (0, 0)) by rw [hw]; refine blk_put (cs := #[.int .i64 m.f0, .int .i64 m.f1, .int .i64 m.f2, .slice none 0 0]) ?_ 3 _ rfl; refine blk_put (cs := #[.int .i64 m.f0, .int .i64 m.f1, .int .i64 0, .slice none 0 0]) ?_ 2 _ rfl; refine blk_put (cs := #[.int .i64 m.f0, .int .i64 0, .int .i64 0, .slice none 0 0]) ?_ 1 _ rfl; refine blk_put (cs := #[.int .i64 0, .int .i64 0, .int .i64 0, .slice none 0 0]) ?_ 0 _ rfl; exact BKgm.out); have n386 := aM (show Below w.heap.size w w382 by rw [hw]; exact below_set (below_set (below_set (below_set (HB.out) GEgm.out) GEgm.out) GEgm.out) GEgm.out); clear hzs0_ hfs0_ hzs1_ hfs1_ hzs2_ hfs2_ hzs3_ hfs3_; clear HB BKgl BKgr BKgm hw; have BKgl := n383; have BKgr := n384; have BKgm := n385; have HB := n386; clear n383 n384 n385 n386; have hz387 : w382.cell? ⟨gl, 0, none⟩ = some (.slice (some ad) n c0) := (blk_cell BKgl.out 0).trans rfl; have hf388 := blk_frozen BKgl.out 0; have hz389 : w382.cell? ⟨gr, 0, none⟩ = some (.int .i64 0) := (blk_cell BKgr.out 0).trans rfl; have hz390 : w382.cell? ⟨gr, 1, none⟩ = some (.int .i64 0) := (blk_cell BKgr.out 1).trans rfl; have hz391 : w382.cell? ⟨gr, 2, none⟩ = some (.int .i64 0) := (blk_cell BKgr.out 2).trans rfl; have hz392 : w382.cell? ⟨gr, 3, none⟩ = some (.slice none 0 0) := (blk_cell BKgr.out 3).trans rfl; have hf393 := blk_frozen BKgr.out 0; have hf394 := blk_frozen BKgr.out 1; have hf395 := blk_frozen BKgr.out 2; have hf396 := blk_frozen BKgr.out 3; have hz397 : w382.cell? ⟨gm, 0, none⟩ = some (.int .i64 m.f0) := (blk_cell BKgm.out 0).trans rfl; have hz398 : w382.cell? ⟨gm, 1, none⟩ = some (.int .i64 m.f1) := (blk_cell BKgm.out 1).trans rfl; have hz399 : w382.cell? ⟨gm, 2, none⟩ = some (.int .i64 m.f2) := (blk_cell BKgm.out 2).trans rfl; have hz400 : w382.cell? ⟨gm, 3, none⟩ = some (.slice A3 m.f3.length c3) := (blk_cell BKgm.out 3).trans rfl; have hf401 := blk_frozen BKgm.out 0; have hf402 := blk_frozen BKgm.out 1; have hf403 := blk_frozen BKgm.out 2; have hf404 := blk_frozen BKgm.out 3))
     refine start_ (n := 26) (S := fun w' => Below w382.heap.size w382 w') (ds := []) (bA 26 0) (by kernel_rfl) rfl rfl (below_drew (Below.refl _ _)) (fun hHeld => ?_)
     have HS := aM hHeld
     clear hHeld
     generalize w382.drew = w405 at HS ⊢
     refine take_ (i := 0) (N := some 21) (v := ?_) (a' := ?_) (bA 26 1) rfl rfl (by kernel_rfl) (fun _ _ _ h => h) (Or.inl ⟨by rfl, ?_⟩) HS.out ?_ ?_
     rotate_left
     ·intro w' s0
      have z0 : w'.cell? ⟨gm, 0, none⟩ = some (.int .i64 m.f0) := (blk_cell (blk_below BKgm.out s0) 0).trans rfl
      have z1 : w'.cell? ⟨gm, 1, none⟩ = some (.int .i64 m.f1) := (blk_cell (blk_below BKgm.out s0) 1).trans rfl
      have z2 : w'.cell? ⟨gm, 2, none⟩ = some (.int .i64 m.f2) := (blk_cell (blk_below BKgm.out s0) 2).trans rfl
      have z3 : w'.cell? ⟨gm, 3, none⟩ = some (.slice A3 m.f3.length c3) := (blk_cell (blk_below BKgm.out s0) 3).trans rfl
      go_simp
      with_reducible rfl
     rotate_left
     ·refine pZ ?_
      rfl
     refine one_ (i := 1) (N := some 22) (bA 26 3) rfl rfl (by kernel_rfl) (by decide) (fun K hK => ?_)
     refine goes_ Try.func47 (by kernel_rfl) rfl #[.agg #[.int .i64 m.f0, .int .i64 m.f1, .int .i64 m.f2, .slice A3 m.f3.length c3]] (by rfl) rfl rfl (by (try simp only [List.map_toArray, List.map_cons, List.map_nil]); first | done | rfl) ?_
     refine (impl_isImage.calls m.f0 m.f1 m.f2 _ _ m.f3 true _ (Kd.C_below HC3.out (below_step (qW HB.out) HS.out)) HL3.out AI.out).mono ?_
     rintro e w406 ⟨rfl, hb⟩
     refine ⟨_, rfl, ?_⟩
     have HS3 := aM (below_step HS.out hb)
     clear hb
     clear HS
     have HS := HS3
     clear HS3
     refine hK.out _ _ HS.out (fun hHeld => ?_)
     clear hK K hHeld
     refine norm_ (a' := ?_) ?_ ?_
     rotate_left
     ·show Act.put _ (some 22) _ = _
      refine pZ ?_
      rfl
     refine pure_ (i := 2) (N := some 23) (v := ?_) (a' := ?_) (bA 26 7) rfl rfl (by kernel_rfl) (fun _ _ _ h => h) (Or.inl ⟨by rfl, ?_⟩) ?_ ?_
     rotate_left
     ·intro w'
      go_simp
      with_reducible rfl
     rotate_left
     ·refine pZ ?_
      rfl
     refine pure_ (i := 3) (N := some 24) (v := ?_) (a' := ?_) (bA 26 15) rfl rfl (by kernel_rfl) (fun _ _ _ h => h) (Or.inl ⟨by rfl, ?_⟩) ?_ ?_
     rotate_left
     ·intro w'
      go_simp
      with_reducible rfl
     rotate_left
     ·refine pZ ?_
      rfl
     refine pure_ (i := 4) (N := some 25) (v := ?_) (a' := ?_) (bA 26 31) rfl rfl (by kernel_rfl) (fun _ _ _ h => h) (Or.inl ⟨by rfl, ?_⟩) ?_ ?_
     rotate_left
     ·intro w'
      go_simp
      with_reducible rfl
     rotate_left
     ·refine pZ ?_
      rfl
     refine take_ (i := 5) (N := some 26) (v := ?_) (a' := ?_) (bA 26 63) rfl rfl (by kernel_rfl) (fun _ _ _ h => h) (Or.inl ⟨by rfl, ?_⟩) HS.out ?_ ?_
     rotate_left
     ·intro w' s0
      have z0 : w'.cell? ⟨gm, 0, none⟩ = some (.int .i64 m.f0) := (blk_cell (blk_below BKgm.out s0) 0).trans rfl
      have z1 : w'.cell? ⟨gm, 1, none⟩ = some (.int .i64 m.f1) := (blk_cell (blk_below BKgm.out s0) 1).trans rfl
      have z2 : w'.cell? ⟨gm, 2, none⟩ = some (.int .i64 m.f2) := (blk_cell (blk_below BKgm.out s0) 2).trans rfl
      have z3 : w'.cell? ⟨gm, 3, none⟩ = some (.slice A3 m.f3.length c3) := (blk_cell (blk_below BKgm.out s0) 3).trans rfl
      go_simp
      with_reducible rfl
     rotate_left
     ·refine pZ ?_
      rfl
     refine pure_ (i := 6) (N := some 27) (v := ?_) (a' := ?_) (bA 26 127) rfl rfl (by kernel_rfl) (fun _ _ _ h => h) (Or.inl ⟨by rfl, ?_⟩) ?_ ?_
     rotate_left
     ·intro w'
      go_simp
      with_reducible rfl
     rotate_left
     ·refine pZ ?_
      rfl
     refine pure_ (i := 7) (N := some 28) (v := ?_) (a' := ?_) (bA 26 255) rfl rfl (by kernel_rfl) (fun _ _ _ h => h) (Or.inl ⟨by rfl, ?_⟩) ?_ ?_
     rotate_left
     ·intro w'
      go_simp
      with_reducible rfl
     rotate_left
     ·refine pZ ?_
      rfl
     refine pure_ (i := 8) (N := some 29) (v := ?_) (a' := ?_) (bA 26 511) rfl rfl (by kernel_rfl) (fun _ _ _ h => h) (Or.inl ⟨by rfl, ?_⟩) ?_ ?_
     rotate_left
     ·intro w'
      go_simp
      with_reducible rfl
     rotate_left
     ·refine pZ ?_
      rfl
     refine pure_ (i := 9) (N := some 30) (v := ?_) (a' := ?_) (bA 26 1023) rfl rfl (by kernel_rfl) (fun _ _ _ h => h) (Or.inl ⟨by rfl, ?_⟩) ?_ ?_
     rotate_left
     ·intro w'
      go_simp
      with_reducible rfl
     rotate_left
     ·refine pZ ?_
      rfl
     refine take_ (i := 10) (N := some 31) (v := ?_) (a' := ?_) (bA 26 2047) rfl rfl (by kernel_rfl) (fun _ _ _ h => h) (Or.inl ⟨by rfl, ?_⟩) HS.out ?_ ?_
     rotate_left
     ·intro w' s0
      have z0 : w'.cell? ⟨gm, 0, none⟩ = some (.int .i64 m.f0) := (blk_cell (blk_below BKgm.out s0) 0).trans rfl
      have z1 : w'.cell? ⟨gm, 1, none⟩ = some (.int .i64 m.f1) := (blk_cell (blk_below BKgm.out s0) 1).trans rfl
      have z2 : w'.cell? ⟨gm, 2, none⟩ = some (.int .i64 m.f2) := (blk_cell (blk_below BKgm.out s0) 2).trans rfl
      have z3 : w'.cell? ⟨gm, 3, none⟩ = some (.slice A3 m.f3.length c3) := (blk_cell (blk_below BKgm.out s0) 3).trans rfl
      go_simp
      with_reducible rfl
     rotate_left
     ·refine pZ ?_
      rfl
     refine take_ (i := 11) (N := some 32) (v := ?_) (a' := ?_) (bA 26 4095) rfl rfl (by kernel_rfl) (fun _ _ _ h => h) (Or.inl ⟨by rfl, ?_⟩) HS.out ?_ ?_
     rotate_left
     ·intro w' s0
      have z : w'.cell? ⟨gl, 0, none⟩ = some (.slice (some ad) n c0) := (blk_cell (blk_below BKgl.out s0) 0).trans rfl
      go_simp
      with_reducible rfl
     rotate_left
     ·refine pZ ?_
      rfl
     refine pure_ (i := 12) (N := some 33) (v := ?_) (a' := ?_) (bA 26 8191) rfl rfl (by kernel_rfl) (fun _ _ _ h => h) (Or.inl ⟨by rfl, ?_⟩) ?_ ?_
     rotate_left
     ·intro w'
      go_simp
      with_reducible rfl
     rotate_left
     ·refine pZ ?_
      rfl
     refine pure_ (i := 13) (N := some 34) (v := ?_) (a' := ?_) (bA 26 16383) rfl rfl (by kernel_rfl) (fun _ _ _ h => h) (Or.inl ⟨by rfl, ?_⟩) ?_ ?_
     rotate_left
     ·intro w'
      go_simp
      with_reducible rfl
     rotate_left
     ·refine pZ ?_
      rfl
     refine take_ (i := 14) (N := some 35) (v := ?_) (a' := ?_) (bA 26 32767) rfl rfl (by kernel_rfl) (fun _ _ _ h => h) (Or.inl ⟨by rfl, ?_⟩) HS.out ?_ ?_
     rotate_left
     ·intro w' s0
      have y0 := pw_cell_below (below_step (qW HB.out) s0) Y0.out
      have y1 := pw_cell_below (below_step (qW HB.out) s0) Y1.out
      go_simp
      with_reducible rfl
     rotate_left
     ·refine pZ ?_
      rfl
     refine pure_ (i := 15) (N := some 36) (v := ?_) (a' := ?_) (bA 26 65535) rfl rfl (by kernel_rfl) (fun _ _ _ h => h) (Or.inl ⟨by rfl, ?_⟩) ?_ ?_
     rotate_left
     ·intro w'
      go_simp
      with_reducible rfl
     rotate_left
     ·refine pZ ?_
      rfl
     refine pure_ (i := 16) (N := some 37) (v := ?_) (a' := ?_) (bA 26 131071) rfl rfl (by kernel_rfl) (fun _ _ _ h => h) (Or.inl ⟨by rfl, ?_⟩) ?_ ?_
     rotate_left
     ·intro w'
      go_simp
      with_reducible rfl
     rotate_left
     ·refine pZ ?_
      rfl
     refine pure_ (i := 17) (N := some 38) (v := ?_) (a' := ?_) (bA 26 262143) rfl rfl (by kernel_rfl) (fun _ _ _ h => h) (Or.inl ⟨by rfl, ?_⟩) ?_ ?_
     rotate_left
     ·intro w'
      go_simp
      with_reducible rfl
     rotate_left
     ·refine pZ ?_
      rfl
     refine pure_ (i := 18) (N := some 39) (v := ?_) (a' := ?_) (bA 26 524287) rfl rfl (by kernel_rfl) (fun _ _ _ h => h) (Or.inl ⟨by rfl, ?_⟩) ?_ ?_
     rotate_left
     ·intro w'
      go_simp
      with_reducible rfl
     rotate_left
     ·refine pZ ?_
      rfl
     refine take_ (i := 19) (N := some 40) (v := ?_) (a' := ?_) (bA 26 1048575) rfl rfl (by kernel_rfl) (fun _ _ _ h => h) (Or.inl ⟨by rfl, ?_⟩) HS.out ?_ ?_
     rotate_left
     ·intro w' s0
      have z0 : w'.cell? ⟨gm, 0, none⟩ = some (.int .i64 m.f0) := (blk_cell (blk_below BKgm.out s0) 0).trans rfl
      have z1 : w'.cell? ⟨gm, 1, none⟩ = some (.int .i64 m.f1) := (blk_cell (blk_below BKgm.out s0) 1).trans rfl
      have z2 : w'.cell? ⟨gm, 2, none⟩ = some (.int .i64 m.f2) := (blk_cell (blk_below BKgm.out s0) 2).trans rfl
      have z3 : w'.cell? ⟨gm, 3, none⟩ = some (.slice A3 m.f3.length c3) := (blk_cell (blk_below BKgm.out s0) 3).trans rfl
      go_simp
      with_reducible rfl
     rotate_left
     ·refine pZ ?_
      rfl
     refine take_ (i := 20) (N := some 41) (v := ?_) (a' := ?_) (bA 26 2097151) rfl rfl (by kernel_rfl) (fun _ _ _ h => h) (Or.inl ⟨by rfl, ?_⟩) HS.out ?_ ?_
     rotate_left
     ·intro w' s0
      have z : w'.cell? ⟨gl, 0, none⟩ = some (.slice (some ad) n c0) := (blk_cell (blk_below BKgl.out s0) 0).trans rfl
      go_simp
      with_reducible rfl
     rotate_left
     ·refine pZ ?_
      rfl
     refine pure_ (i := 21) (N := some 42) (v := ?_) (a' := ?_) (bA 26 4194303) rfl rfl (by kernel_rfl) (fun _ _ _ h => h) (Or.inl ⟨by rfl, ?_⟩) ?_ ?_
     rotate_left
     ·intro w'
      go_simp
      with_reducible rfl
     rotate_left
     ·refine pZ ?_
      rfl
     refine pure_ (i := 22) (N := some 43) (v := ?_) (a' := ?_) (bA 26 8388607) rfl rfl (by kernel_rfl) (fun _ _ _ h => h) (Or.inl ⟨by rfl, ?_⟩) ?_ ?_
     rotate_left
     ·intro w'
      go_simp
      with_reducible rfl
     rotate_left
     ·refine pZ ?_
      rfl
     refine take_ (i := 23) (N := some 44) (v := ?_) (a' := ?_) (bA 26 16777215) rfl rfl (by kernel_rfl) (fun _ _ _ h => h) (Or.inl ⟨by rfl, ?_⟩) HS.out ?_ ?_
     rotate_left
     ·intro w' s0
      have y0 := pw_cell_below (below_step (qW HB.out) s0) Y0.out
      have y1 := pw_cell_below (below_step (qW HB.out) s0) Y1.out
      go_simp
      with_reducible rfl
     rotate_left
     ·refine pZ ?_
      rfl
     refine pure_ (i := 24) (N := some 45) (v := ?_) (a' := ?_) (bA 26 33554431) rfl rfl (by kernel_rfl) (fun _ _ _ h => h) (Or.inl ⟨by rfl, ?_⟩) ?_ ?_
     rotate_left
     ·intro w'
      go_simp
      with_reducible rfl
     rotate_left
     ·refine pZ ?_
      rfl
     refine pure_ (i := 25) (N := some 46) (v := ?_) (a' := ?_) (bA 26 67108863) rfl rfl (by kernel_rfl) (fun _ _ _ h => h) (Or.inl ⟨by rfl, ?_⟩) ?_ ?_
     rotate_left
     ·intro w'
      go_simp
      with_reducible rfl
     rotate_left
     ·refine pZ ?_
      rfl
     have hb := HS.out
     clear HS
     have n407 := bB BKgl hb
     have n408 := bB BKgr hb
     have n409 := bB BKgm hb
     have n410 := bS HB hb
     clear HB BKgl BKgr BKgm
     have BKgl := n407
     have BKgr := n408
     have BKgm := n409
     have HB := n410
     clear n407 n408 n409 n410 hb
     have hz411 : w406.cell? ⟨gl, 0, none⟩ = some (.slice (some ad) n c0) := (blk_cell BKgl.out 0).trans rfl
     have hf412 := blk_frozen BKgl.out 0
     have hz413 : w406.cell? ⟨gr, 0, none⟩ = some (.int .i64 0) := (blk_cell BKgr.out 0).trans rfl
     have hz414 : w406.cell? ⟨gr, 1, none⟩ = some (.int .i64 0) := (blk_cell BKgr.out 1).trans rfl
     have hz415 : w406.cell? ⟨gr, 2, none⟩ = some (.int .i64 0) := (blk_cell BKgr.out 2).trans rfl
     have hz416 : w406.cell? ⟨gr, 3, none⟩ = some (.slice none 0 0) := (blk_cell BKgr.out 3).trans rfl
     have hf417 := blk_frozen BKgr.out 0
     have hf418 := blk_frozen BKgr.out 1
     have hf419 := blk_frozen BKgr.out 2
     have hf420 := blk_frozen BKgr.out 3
     have hz421 : w406.cell? ⟨gm, 0, none⟩ = some (.int .i64 m.f0) := (blk_cell BKgm.out 0).trans rfl
     have hz422 : w406.cell? ⟨gm, 1, none⟩ = some (.int .i64 m.f1) := (blk_cell BKgm.out 1).trans rfl
     have hz423 : w406.cell? ⟨gm, 2, none⟩ = some (.int .i64 m.f2) := (blk_cell BKgm.out 2).trans rfl
     have hz424 : w406.cell? ⟨gm, 3, none⟩ = some (.slice A3 m.f3.length c3) := (blk_cell BKgm.out 3).trans rfl
     have hf425 := blk_frozen BKgm.out 0
     have hf426 := blk_frozen BKgm.out 1
     have hf427 := blk_frozen BKgm.out 2
     have hf428 := blk_frozen BKgm.out 3
     refine done_ (by kernel_rfl) ?_
     go_wp2
     refine bodyPost_ret (results_ct rfl _ _ gr 27 #[.int .i64 0, .int .i64 0, .int .i64 0, .slice none 0 0] (0, 0) _ rfl (by exact bP BKgr.out) Try.underlying27 rfl (by kernel_rfl)) rfl ?_
     exact ⟨_, by first | rfl | (simp; done), Kd.R_nil _ _ _ _ _, by exact qW HB.out⟩
    rw [if_pos c2] at H
    have c2a : (m.f1 == m0.f1) = true := beq_iff_eq.mpr c2
    have c2b : (m.f1 != m0.f1) = false := bne_eq_false_iff_eq.mpr c2
    clear c2
    go_wp2_with (first | ((with_reducible refine gate_dst (N := 5) rfl ?_); (try (refine gate_guard (by rfl) ?_; dsimp only)); refine bxE (N := 5) (cs := #[.int .i64 0, .int .i64 0, .int .i64 0, .slice none 0 0]) (t := 27) ?_; intro gm hg w429 hbox hb; have n430 := bB BKgl hb; have n431 := bB BKgr hb; have n432 := bS HB hb; have n433 := aM hbox; have n434 := aM ((by rw [hg]; exact (below_size (qW HB.out))) : w.heap.size ≤ gm); have n435 := aM ((by rw [hg]; exact Nat.ne_of_lt (blk_lt (g := gl) (o := .cells #[.slice (some ad) n c0] 23 (0, 0)) (qB BKgl.out))) : gl ≠ gm); have n436 := aM ((by rw [hg]; exact Nat.ne_of_gt (blk_lt (g := gl) (o := .cells #[.slice (some ad) n c0] 23 (0, 0)) (qB BKgl.out))) : gm ≠ gl); have n437 := aM ((by rw [hg]; exact Nat.ne_of_lt (blk_lt (g := gr) (o := .cells #[.int .i64 0, .int .i64 0, .int .i64 0, .slice none 0 0] 27 (0, 0)) (qB BKgr.out))) : gr ≠ gm); have n438 := aM ((by rw [hg]; exact Nat.ne_of_gt (blk_lt (g := gr) (o := .cells #[.int .i64 0, .int .i64 0, .int .i64 0, .slice none 0 0] 27 (0, 0)) (qB BKgr.out))) : gm ≠ gr); clear HB BKgl BKgr; have BKgl := n430; have BKgr := n431; have HB := n432; have BKgm := n433; have GEgm := n434; have NBgl_gm := n435; have NBgm_gl := n436; have NBgr_gm := n437; have NBgm_gr := n438; clear n430 n431 n432 n433 n434 n435 n436 n437 n438; clear hb hbox hg; have hz439 : w429.cell? ⟨gl, 0, none⟩ = some (.slice (some ad) n c0) := (blk_cell BKgl.out 0).trans rfl; have hf440 := blk_frozen BKgl.out 0; have hz441 : w429.cell? ⟨gr, 0, none⟩ = some (.int .i64 0) := (blk_cell BKgr.out 0).trans rfl; have hz442 : w429.cell? ⟨gr, 1, none⟩ = some (.int .i64 0) := (blk_cell BKgr.out 1).trans rfl; have hz443 : w429.cell? ⟨gr, 2, none⟩ = some (.int .i64 0) := (blk_cell BKgr.out 2).trans rfl; have hz444 : w429.cell? ⟨gr, 3, none⟩ = some (.slice none 0 0) := (blk_cell BKgr.out 3).trans rfl; have hf445 := blk_frozen BKgr.out 0; have hf446 := blk_frozen BKgr.out 1; have hf447 := blk_frozen BKgr.out 2; have hf448 := blk_frozen BKgr.out 3) | ((with_reducible refine gate_store (t := 27) (p := 5) rfl ?_); have hzs0_ : w429.cell? ⟨gm, 0, none⟩ = some (.int .i64 0) := (blk_cell BKgm.out 0).trans rfl; have hfs0_ := blk_frozen BKgm.out 0; have hzs1_ : w429.cell? ⟨gm, 1, none⟩ = some (.int .i64 0) := (blk_cell BKgm.out 1).trans rfl; have hfs1_ := blk_frozen BKgm.out 1; have hzs2_ : w429.cell? ⟨gm, 2, none⟩ = some (.int .i64 0) := (blk_cell BKgm.out 2).trans rfl; have hfs2_ := blk_frozen BKgm.out 2; have hzs3_ : w429.cell? ⟨gm, 3, none⟩ = some (.slice none 0 0) := (blk_cell BKgm.out 3).trans rfl; have hfs3_ := blk_frozen BKgm.out 3; refine store_event (t := 27) (p := 5) (v := ?vo_w457) (w1 := ((((w429.setCell ⟨gm, 0, none⟩ (.int .i64 m.f0)).setCell ⟨gm, 1, none⟩ (.int .i64 m.f1)).setCell ⟨gm, 2, none⟩ (.int .i64 m.f2)).setCell ⟨gm, 3, none⟩ (.slice A3 m.f3.length c3))) ?hg ?ho ?hn ?hr ?_; (case ho => rfl); (case hg => rfl); (case hn => rfl); (case hr => first | (go_simp; done) | (go_simp; rfl)); intro w457 hw; have n458 := aM (show w457.heap[gl]? = some (.cells #[.slice (some ad) n c0] 23 (0, 0)) by rw [hw]; exact blk_far (blk_far (blk_far (blk_far (BKgl.out) NBgl_gm.out _) NBgl_gm.out _) NBgl_gm.out _) NBgl_gm.out _); have n459 := aM (show w457.heap[gr]? = some (.cells #[.int .i64 0, .int .i64 0, .int .i64 0, .slice none 0 0] 27 (0, 0)) by rw [hw]; exact blk_far (blk_far (blk_far (blk_far (BKgr.out) NBgr_gm.out _) NBgr_gm.out _) NBgr_gm.out _) NBgr_gm.out _); have n460 := aM (show w457.heap[gm]? = some (.cells #[.int .i64 m.f0, .int .i64 m.f1, .int .i64 m.f2, .slice A3 m.f3.length c3] 27 (0, 0)) by rw [hw]; refine blk_put (cs := #[.int .i64 m.f0, .int .i64 m.f1, .int .i64 m.f2, .slice none 0 0]) ?_ 3 _ rfl; refine blk_put (cs := #[.int .i64 m.f0, .int .i64 m.f1, .int .i64 0, .slice none 0 0]) ?_ 2 _ rfl; refine blk_put (cs := #[.int .i64 m.f0, .int .i64 0, .int .i64 0, .slice none 0 0]) ?_ 1 _ rfl; refine blk_put (cs := #[.int .i64 0, .int .i64 0, .int .i64 0, .slice none 0 0]) ?_ 0 _ rfl; exact BKgm.out); have n461 := aM (show Below w.heap.size w w457 by rw [hw]; exact below_set (below_set (below_set (below_set (HB.out) GEgm.out) GEgm.out) GEgm.out) GEgm.out); clear hzs0_ hfs0_ hzs1_ hfs1_ hzs2_ hfs2_ hzs3_ hfs3_; clear HB BKgl BKgr BKgm hw; have BKgl := n458; have BKgr := n459; have BKgm := n460; have HB := n461; clear n458 n459 n460 n461; have hz462 : w457.cell? ⟨gl, 0, none⟩ = some (.slice (some ad) n c0) := (blk_cell BKgl.out 0).trans rfl; have hf463 := blk_frozen BKgl.out 0; have hz464 : w457.cell? ⟨gr, 0, none⟩ = some (.int .i64 0) := (blk_cell BKgr.out 0).trans rfl; have hz465 : w457.cell? ⟨gr, 1, none⟩ = some (.int .i64 0) := (blk_cell BKgr.out 1).trans rfl; have hz466 : w457.cell? ⟨gr, 2, none⟩ = some (.int .i64 0) := (blk_cell BKgr.out 2).trans rfl; have hz467 : w457.cell? ⟨gr, 3, none⟩ = some (.slice none 0 0) := (blk_cell BKgr.out 3).trans rfl; have hf468 := blk_frozen BKgr.out 0; have hf469 := blk_frozen BKgr.out 1; have hf470 := blk_frozen BKgr.out 2; have hf471 := blk_frozen BKgr.out 3; have hz472 : w457.cell? ⟨gm, 0, none⟩ = some (.int .i64 m.f0) := (blk_cell BKgm.out 0).trans rfl; have hz473 : w457.cell? ⟨gm, 1, none⟩ = some (.int .i64 m.f1) := (blk_cell BKgm.out 1).trans rfl; have hz474 : w457.cell? ⟨gm, 2, none⟩ = some (.int .i64 m.f2) := (blk_cell BKgm.out 2).trans rfl; have hz475 : w457.cell? ⟨gm, 3, none⟩ = some (.slice A3 m.f3.length c3) := (blk_cell BKgm.out 3).trans rfl; have hf476 := blk_frozen BKgm.out 0; have hf477 := blk_frozen BKgm.out 1; have hf478 := blk_frozen BKgm.out 2; have hf479 := blk_frozen BKgm.out 3))
    refine start_ (n := 26) (S := fun w' => Below w457.heap.size w457 w') (ds := []) (bA 26 0) (by kernel_rfl) rfl rfl (below_drew (Below.refl _ _)) (fun hHeld => ?_)
    have HS := aM hHeld
    clear hHeld
    generalize w457.drew = w480 at HS ⊢
    refine take_ (i := 0) (N := some 21) (v := ?_) (a' := ?_) (bA 26 1) rfl rfl (by kernel_rfl) (fun _ _ _ h => h) (Or.inl ⟨by rfl, ?_⟩) HS.out ?_ ?_
    rotate_left
    ·intro w' s0
     have z0 : w'.cell? ⟨gm, 0, none⟩ = some (.int .i64 m.f0) := (blk_cell (blk_below BKgm.out s0) 0).trans rfl
     have z1 : w'.cell? ⟨gm, 1, none⟩ = some (.int .i64 m.f1) := (blk_cell (blk_below BKgm.out s0) 1).trans rfl
     have z2 : w'.cell? ⟨gm, 2, none⟩ = some (.int .i64 m.f2) := (blk_cell (blk_below BKgm.out s0) 2).trans rfl
     have z3 : w'.cell? ⟨gm, 3, none⟩ = some (.slice A3 m.f3.length c3) := (blk_cell (blk_below BKgm.out s0) 3).trans rfl
     go_simp
     with_reducible rfl
    rotate_left
    ·refine pZ ?_
     rfl
    refine one_ (i := 1) (N := some 22) (bA 26 3) rfl rfl (by kernel_rfl) (by decide) (fun K hK => ?_)
    refine goes_ Try.func47 (by kernel_rfl) rfl #[.agg #[.int .i64 m.f0, .int .i64 m.f1, .int .i64 m.f2, .slice A3 m.f3.length c3]] (by rfl) rfl rfl (by (try simp only [List.map_toArray, List.map_cons, List.map_nil]); first | done | rfl) ?_
    refine (impl_isImage.calls m.f0 m.f1 m.f2 _ _ m.f3 true _ (Kd.C_below HC3.out (below_step (qW HB.out) HS.out)) HL3.out AI.out).mono ?_
    rintro e w481 ⟨rfl, hb⟩
    refine ⟨_, rfl, ?_⟩
    have HS3 := aM (below_step HS.out hb)
    clear hb
    clear HS
    have HS := HS3
    clear HS3
    refine hK.out _ _ HS.out (fun hHeld => ?_)
    clear hK K hHeld
    refine norm_ (a' := ?_) ?_ ?_
    rotate_left
    ·show Act.put _ (some 22) _ = _
     refine pZ ?_
     rfl
    refine pure_ (i := 2) (N := some 23) (v := ?_) (a' := ?_) (bA 26 7) rfl rfl (by kernel_rfl) (fun _ _ _ h => h) (Or.inl ⟨by rfl, ?_⟩) ?_ ?_
    rotate_left
    ·intro w'
     go_simp
     with_reducible rfl
    rotate_left
    ·refine pZ ?_
     rfl
    refine pure_ (i := 3) (N := some 24) (v := ?_) (a' := ?_) (bA 26 15) rfl rfl (by kernel_rfl) (fun _ _ _ h => h) (Or.inl ⟨by rfl, ?_⟩) ?_ ?_
    rotate_left
    ·intro w'
     go_simp
     with_reducible rfl
    rotate_left
    ·refine pZ ?_
     rfl
    refine pure_ (i := 4) (N := some 25) (v := ?_) (a' := ?_) (bA 26 31) rfl rfl (by kernel_rfl) (fun _ _ _ h => h) (Or.inl ⟨by rfl, ?_⟩) ?_ ?_
    rotate_left
    ·intro w'
     go_simp
     with_reducible rfl
    rotate_left
    ·refine pZ ?_
     rfl
    refine take_ (i := 5) (N := some 26) (v := ?_) (a' := ?_) (bA 26 63) rfl rfl (by kernel_rfl) (fun _ _ _ h => h) (Or.inl ⟨by rfl, ?_⟩) HS.out ?_ ?_
    rotate_left
    ·intro w' s0
     have z0 : w'.cell? ⟨gm, 0, none⟩ = some (.int .i64 m.f0) := (blk_cell (blk_below BKgm.out s0) 0).trans rfl
     have z1 : w'.cell? ⟨gm, 1, none⟩ = some (.int .i64 m.f1) := (blk_cell (blk_below BKgm.out s0) 1).trans rfl
     have z2 : w'.cell? ⟨gm, 2, none⟩ = some (.int .i64 m.f2) := (blk_cell (blk_below BKgm.out s0) 2).trans rfl
     have z3 : w'.cell? ⟨gm, 3, none⟩ = some (.slice A3 m.f3.length c3) := (blk_cell (blk_below BKgm.out s0) 3).trans rfl
     go_simp
     with_reducible rfl
    rotate_left
    ·refine pZ ?_
     rfl
    refine pure_ (i := 6) (N := some 27) (v := ?_) (a' := ?_) (bA 26 127) rfl rfl (by kernel_rfl) (fun _ _ _ h => h) (Or.inl ⟨by rfl, ?_⟩) ?_ ?_
    rotate_left
    ·intro w'
     go_simp
     with_reducible rfl
    rotate_left
    ·refine pZ ?_
     rfl
    refine pure_ (i := 7) (N := some 28) (v := ?_) (a' := ?_) (bA 26 255) rfl rfl (by kernel_rfl) (fun _ _ _ h => h) (Or.inl ⟨by rfl, ?_⟩) ?_ ?_
    rotate_left
    ·intro w'
     go_simp
     with_reducible rfl
    rotate_left
    ·refine pZ ?_
     rfl
    refine pure_ (i := 8) (N := some 29) (v := ?_) (a' := ?_) (bA 26 511) rfl rfl (by kernel_rfl) (fun _ _ _ h => h) (Or.inl ⟨by rfl, ?_⟩) ?_ ?_
    rotate_left
    ·intro w'
     go_simp
     with_reducible rfl
    rotate_left
    ·refine pZ ?_
     rfl
    refine pure_ (i := 9) (N := some 30) (v := ?_) (a' := ?_) (bA 26 1023) rfl rfl (by kernel_rfl) (fun _ _ _ h => h) (Or.inl ⟨by rfl, ?_⟩) ?_ ?_
    rotate_left
    ·intro w'
     go_simp
     with_reducible rfl
    rotate_left
    ·refine pZ ?_
     rfl
    refine take_ (i := 10) (N := some 31) (v := ?_) (a' := ?_) (bA 26 2047) rfl rfl (by kernel_rfl) (fun _ _ _ h => h) (Or.inl ⟨by rfl, ?_⟩) HS.out ?_ ?_
    rotate_left
    ·intro w' s0
     have z0 : w'.cell? ⟨gm, 0, none⟩ = some (.int .i64 m.f0) := (blk_cell (blk_below BKgm.out s0) 0).trans rfl
     have z1 : w'.cell? ⟨gm, 1, none⟩ = some (.int .i64 m.f1) := (blk_cell (blk_below BKgm.out s0) 1).trans rfl
     have z2 : w'.cell? ⟨gm, 2, none⟩ = some (.int .i64 m.f2) := (blk_cell (blk_below BKgm.out s0) 2).trans rfl
     have z3 : w'.cell? ⟨gm, 3, none⟩ = some (.slice A3 m.f3.length c3) := (blk_cell (blk_below BKgm.out s0) 3).trans rfl
     go_simp
     with_reducible rfl
    rotate_left
    ·refine pZ ?_
     rfl
    refine take_ (i := 11) (N := some 32) (v := ?_) (a' := ?_) (bA 26 4095) rfl rfl (by kernel_rfl) (fun _ _ _ h => h) (Or.inl ⟨by rfl, ?_⟩) HS.out ?_ ?_
    rotate_left
    ·intro w' s0
     have z : w'.cell? ⟨gl, 0, none⟩ = some (.slice (some ad) n c0) := (blk_cell (blk_below BKgl.out s0) 0).trans rfl
     go_simp
     with_reducible rfl
    rotate_left
    ·refine pZ ?_
     rfl
    refine pure_ (i := 12) (N := some 33) (v := ?_) (a' := ?_) (bA 26 8191) rfl rfl (by kernel_rfl) (fun _ _ _ h => h) (Or.inl ⟨by rfl, ?_⟩) ?_ ?_
    rotate_left
    ·intro w'
     go_simp
     with_reducible rfl
    rotate_left
    ·refine pZ ?_
     rfl
    refine pure_ (i := 13) (N := some 34) (v := ?_) (a' := ?_) (bA 26 16383) rfl rfl (by kernel_rfl) (fun _ _ _ h => h) (Or.inl ⟨by rfl, ?_⟩) ?_ ?_
    rotate_left
    ·intro w'
     go_simp
     with_reducible rfl
    rotate_left
    ·refine pZ ?_
     rfl
    refine take_ (i := 14) (N := some 35) (v := ?_) (a' := ?_) (bA 26 32767) rfl rfl (by kernel_rfl) (fun _ _ _ h => h) (Or.inl ⟨by rfl, ?_⟩) HS.out ?_ ?_
    rotate_left
    ·intro w' s0
     have y0 := pw_cell_below (below_step (qW HB.out) s0) Y0.out
     have y1 := pw_cell_below (below_step (qW HB.out) s0) Y1.out
     go_simp
     with_reducible rfl
    rotate_left
    ·refine pZ ?_
     rfl
    refine pure_ (i := 15) (N := some 36) (v := ?_) (a' := ?_) (bA 26 65535) rfl rfl (by kernel_rfl) (fun _ _ _ h => h) (Or.inl ⟨by rfl, ?_⟩) ?_ ?_
    rotate_left
    ·intro w'
     go_simp
     with_reducible rfl
    rotate_left
    ·refine pZ ?_
     rfl
    refine pure_ (i := 16) (N := some 37) (v := ?_) (a' := ?_) (bA 26 131071) rfl rfl (by kernel_rfl) (fun _ _ _ h => h) (Or.inl ⟨by rfl, ?_⟩) ?_ ?_
    rotate_left
    ·intro w'
     go_simp
     with_reducible rfl
    rotate_left
    ·refine pZ ?_
     rfl
    refine pure_ (i := 17) (N := some 38) (v := ?_) (a' := ?_) (bA 26 262143) rfl rfl (by kernel_rfl) (fun _ _ _ h => h) (Or.inl ⟨by rfl, ?_⟩) ?_ ?_
    rotate_left
    ·intro w'
     go_simp
     with_reducible rfl
    rotate_left
    ·refine pZ ?_
     rfl
    refine pure_ (i := 18) (N := some 39) (v := ?_) (a' := ?_) (bA 26 524287) rfl rfl (by kernel_rfl) (fun _ _ _ h => h) (Or.inl ⟨by rfl, ?_⟩) ?_ ?_
    rotate_left
    ·intro w'
     go_simp
     with_reducible rfl
    rotate_left
    ·refine pZ ?_
     rfl
    refine take_ (i := 19) (N := some 40) (v := ?_) (a' := ?_) (bA 26 1048575) rfl rfl (by kernel_rfl) (fun _ _ _ h => h) (Or.inl ⟨by rfl, ?_⟩) HS.out ?_ ?_
    rotate_left
    ·intro w' s0
     have z0 : w'.cell? ⟨gm, 0, none⟩ = some (.int .i64 m.f0) := (blk_cell (blk_below BKgm.out s0) 0).trans rfl
     have z1 : w'.cell? ⟨gm, 1, none⟩ = some (.int .i64 m.f1) := (blk_cell (blk_below BKgm.out s0) 1).trans rfl
     have z2 : w'.cell? ⟨gm, 2, none⟩ = some (.int .i64 m.f2) := (blk_cell (blk_below BKgm.out s0) 2).trans rfl
     have z3 : w'.cell? ⟨gm, 3, none⟩ = some (.slice A3 m.f3.length c3) := (blk_cell (blk_below BKgm.out s0) 3).trans rfl
     go_simp
     with_reducible rfl
    rotate_left
    ·refine pZ ?_
     rfl
    refine take_ (i := 20) (N := some 41) (v := ?_) (a' := ?_) (bA 26 2097151) rfl rfl (by kernel_rfl) (fun _ _ _ h => h) (Or.inl ⟨by rfl, ?_⟩) HS.out ?_ ?_
    rotate_left
    ·intro w' s0
     have z : w'.cell? ⟨gl, 0, none⟩ = some (.slice (some ad) n c0) := (blk_cell (blk_below BKgl.out s0) 0).trans rfl
     go_simp
     with_reducible rfl
    rotate_left
    ·refine pZ ?_
     rfl
    refine pure_ (i := 21) (N := some 42) (v := ?_) (a' := ?_) (bA 26 4194303) rfl rfl (by kernel_rfl) (fun _ _ _ h => h) (Or.inl ⟨by rfl, ?_⟩) ?_ ?_
    rotate_left
    ·intro w'
     go_simp
     with_reducible rfl
    rotate_left
    ·refine pZ ?_
     rfl
    refine pure_ (i := 22) (N := some 43) (v := ?_) (a' := ?_) (bA 26 8388607) rfl rfl (by kernel_rfl) (fun _ _ _ h => h) (Or.inl ⟨by rfl, ?_⟩) ?_ ?_
    rotate_left
    ·intro w'
     go_simp
     with_reducible rfl
    rotate_left
    ·refine pZ ?_
     rfl
    refine take_ (i := 23) (N := some 44) (v := ?_) (a' := ?_) (bA 26 16777215) rfl rfl (by kernel_rfl) (fun _ _ _ h => h) (Or.inl ⟨by rfl, ?_⟩) HS.out ?_ ?_
    rotate_left
    ·intro w' s0
     have y0 := pw_cell_below (below_step (qW HB.out) s0) Y0.out
     have y1 := pw_cell_below (below_step (qW HB.out) s0) Y1.out
     go_simp
     with_reducible rfl
    rotate_left
    ·refine pZ ?_
     rfl
    refine pure_ (i := 24) (N := some 45) (v := ?_) (a' := ?_) (bA 26 33554431) rfl rfl (by kernel_rfl) (fun _ _ _ h => h) (Or.inl ⟨by rfl, ?_⟩) ?_ ?_
    rotate_left
    ·intro w'
     go_simp
     with_reducible rfl
    rotate_left
    ·refine pZ ?_
     rfl
    refine pure_ (i := 25) (N := some 46) (v := ?_) (a' := ?_) (bA 26 67108863) rfl rfl (by kernel_rfl) (fun _ _ _ h => h) (Or.inl ⟨by rfl, ?_⟩) ?_ ?_
    rotate_left
    ·intro w'
     go_simp
     with_reducible rfl
    rotate_left
    ·refine pZ ?_
     rfl
    have hb := HS.out
    clear HS
    have n482 := bB BKgl hb
    have n483 := bB BKgr hb
    have n484 := bB BKgm hb
    have n485 := bS HB hb
    clear HB BKgl BKgr BKgm
    have BKgl := n482
    have BKgr := n483
    have BKgm := n484
    have HB := n485
    clear n482 n483 n484 n485 hb
    have hz486 : w481.cell? ⟨gl, 0, none⟩ = some (.slice (some ad) n c0) := (blk_cell BKgl.out 0).trans rfl
    have hf487 := blk_frozen BKgl.out 0
    have hz488 : w481.cell? ⟨gr, 0, none⟩ = some (.int .i64 0) := (blk_cell BKgr.out 0).trans rfl
    have hz489 : w481.cell? ⟨gr, 1, none⟩ = some (.int .i64 0) := (blk_cell BKgr.out 1).trans rfl
    have hz490 : w481.cell? ⟨gr, 2, none⟩ = some (.int .i64 0) := (blk_cell BKgr.out 2).trans rfl
    have hz491 : w481.cell? ⟨gr, 3, none⟩ = some (.slice none 0 0) := (blk_cell BKgr.out 3).trans rfl
    have hf492 := blk_frozen BKgr.out 0
    have hf493 := blk_frozen BKgr.out 1
    have hf494 := blk_frozen BKgr.out 2
    have hf495 := blk_frozen BKgr.out 3
    have hz496 : w481.cell? ⟨gm, 0, none⟩ = some (.int .i64 m.f0) := (blk_cell BKgm.out 0).trans rfl
    have hz497 : w481.cell? ⟨gm, 1, none⟩ = some (.int .i64 m.f1) := (blk_cell BKgm.out 1).trans rfl
    have hz498 : w481.cell? ⟨gm, 2, none⟩ = some (.int .i64 m.f2) := (blk_cell BKgm.out 2).trans rfl
    have hz499 : w481.cell? ⟨gm, 3, none⟩ = some (.slice A3 m.f3.length c3) := (blk_cell BKgm.out 3).trans rfl
    have hf500 := blk_frozen BKgm.out 0
    have hf501 := blk_frozen BKgm.out 1
    have hf502 := blk_frozen BKgm.out 2
    have hf503 := blk_frozen BKgm.out 3
    refine done_ (by kernel_rfl) ?_
    try go_wp2
    go_roundg (n - (i + 1))
    case measure => omega
    case rel => exact ⟨i + 1, by omega, by omega, by go_num, ⟨by rw [show n - (i + 1) = j by have := HJ.out; omega]; exact H⟩, ⟨by refine qB ?_; exact BKgl.out⟩, ⟨by refine qB ?_; exact BKgr.out⟩, ⟨by exact qW HB.out⟩⟩
end Go.Proofs.Yteeeedmmcdlhjaa.P
