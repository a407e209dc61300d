/- Contracts and row, written by a program of this place out of the translation: the call answers true and its argument reads as before, for every input; no condition. -/
import Derived.Test.YtchahbdmdcllaaaK0
import Derived.Test.YtchahbdmdcllaaaK1
import Derived.Test.YtchahbdmdcllaaaK2
import Derived.Test.YtchahbdmdcllaaaK3
import Derived.Test.YtchahbdmdcllaaaK4
namespace Go.Proofs.Ytchahbdmdcllaaa.P
open Go.RowKit Go.Proofs.YtchahbdmdcllaaaW.PrintWords Go.Proofs.YtchahbdmdcllaaaW.PrintLast Go.Proofs.YtchahbdmdcllaaaW.PrintMore
attribute [local go_sem] max2_int min2_int max_two min_two max_three min_three max_four min_four   -- for this text's walks alone
set_option linter.unusedVariables false
set_option linter.unusedSimpArgs false

/-! ### laws_toImage: function 26 -/
def laws_toImage.f (k : Nat) (a0_0 : Int) (a0_1 : Int) (a0_2 : Int) (l0_3 : List Int) : Option (Int × Int × Int × List Int) := (laws_toIntS.f k l0_3).bind fun t838 => (some (a0_0, a0_1, a0_2, t838))
theorem laws_toImage.mono : ∀ a0 a1 a2 a3 k, LeO (laws_toImage.f k a0 a1 a2 a3) (laws_toImage.f (k + 1) a0 a1 a2 a3) := by
 intro a0 a1 a2 a3 k
 unfold laws_toImage.f
 repeat' first
   | (with_reducible exact laws_toIntS.mono _ _)
   | (with_reducible exact LeO.refl _)
   | (with_reducible exact LeO.none _)
   | (with_reducible refine LeO.ite ?_ ?_)
   | (with_reducible refine LeO.bind ?_ (fun _ => ?_))
   | exact laws_toIntS.mono _ _
   | exact LeO.none _
   | refine LeO.ite ?_ ?_
   | refine LeO.bind ?_ (fun _ => ?_)
set_option maxHeartbeats 8000000 in
set_option maxRecDepth 100000 in
theorem laws_toImage.calls (k : Nat) (a0_0 : Int) (a0_1 : Int) (a0_2 : Int) (A0_3 : Option Addr) (c0_3 : Nat) (l0_3 : List Int) (r1 : Int) (r2 : Int) (r3 : Int) (r4 : List Int) (w : World) (hr0_3 : Kd.C (Kd.int .i64) w A0_3 l0_3.length l0_3) (hc0_3 : l0_3.length ≤ c0_3) (h : laws_toImage.f k a0_0 a0_1 a0_2 l0_3 = some (r1, r2, r3, r4)) :
  Calls Try.prog 26 #[.agg #[.int .i64 a0_0, .int .i64 a0_1, .int .i64 a0_2, .slice A0_3 l0_3.length c0_3]] w fun e w' => ∃ v3_ : Value, e = .returned (.agg #[.int .i64 r1, .int .i64 r2, .int .i64 r3, v3_]) ∧ Kd.R (Kd.int .i64) 3 w' w.heap.size (fun _ => True) v3_ r4 ∧ Below w.heap.size w w' := by
 have hu38 := Try.underlying38
 have hu24 := Try.underlying24
 have HR0_3 := aM hr0_3
 have HC0_3 := aM hc0_3
 clear hr0_3 hc0_3
 have HB := aM (Below.refl w.heap.size w)
 have H : ((laws_toIntS.f k l0_3).bind fun t838 => (some (a0_0, a0_1, a0_2, t838))) = some (r1, r2, r3, r4) := h
 clear h
 replace H := Option.bind_eq_some_iff.mp H
 obtain ⟨t838, A20, H⟩ := H
 replace H : (some (a0_0, a0_1, a0_2, t838)) = some (r1, r2, r3, r4) := H
 have A2 := aM A20
 clear A20
 simp only [Option.some.injEq, Prod.mk.injEq] at H
 obtain ⟨rfl, rfl, rfl, rfl⟩ := H
 go_enter Try.func26, Try.ntmps26
 go_wp2_with (first | ((with_reducible refine gate_dst (N := 1) rfl ?_); refine box_event ?hg (N := 1) ?hd (cs := #[.int .i64 a0_0, .int .i64 a0_1, .int .i64 a0_2, .slice A0_3 l0_3.length c0_3]) (t := 38) ?hr ?_; (case hd => rfl); (case hg => rfl); (case hr => first | (go_simp; done) | (go_simp; rfl)); intro gb835 hg w3 hbox hb; have BK835 := aM (hbox); have GW835 := aM ((by rw [hg]; exact (below_size (qW HB.out)) : w.heap.size ≤ gb835)); have GE835 := aM ((by rw [hg]; exact (below_size (qW HB.out)) : w.heap.size ≤ gb835)); replace HB := aM (below_step (qW HB.out) hb); clear hb hbox hg) | ((with_reducible refine gate_dst (N := 2) rfl ?_); refine box_event ?hg (N := 2) ?hd (cs := #[.int .i64 0, .int .i64 0, .int .i64 0, .slice none 0 0]) (t := 24) ?hr ?_; (case hd => rfl); (case hg => rfl); (case hr => first | (go_simp; done) | (go_simp; rfl)); intro gb836 hg w4 hbox hb; have BK836 := aM (hbox); have GW836 := aM ((by rw [hg]; exact (below_size (qW HB.out)) : w.heap.size ≤ gb836)); have GE836 := aM ((by rw [hg]; exact (below_size (qW HB.out)) : w.heap.size ≤ gb836)); replace HB := aM (below_step (qW HB.out) hb); have NB835_836 := aM ((by rw [hg]; exact Nat.ne_of_lt (blk_lt (g := gb835) (o := .cells #[.int .i64 a0_0, .int .i64 a0_1, .int .i64 a0_2, .slice A0_3 l0_3.length c0_3] 38 (0, 0)) (qB BK835.out)) : gb835 ≠ gb836)); have NB836_835 := aM ((by rw [hg]; exact Nat.ne_of_gt (blk_lt (g := gb835) (o := .cells #[.int .i64 a0_0, .int .i64 a0_1, .int .i64 a0_2, .slice A0_3 l0_3.length c0_3] 38 (0, 0)) (qB BK835.out)) : gb836 ≠ gb835)); replace BK835 := bB BK835 hb; clear hb hbox hg) | ((with_reducible refine gate_dst (N := 3) rfl ?_); refine box_event ?hg (N := 3) ?hd (cs := #[.int .i64 0, .int .i64 0, .int .i64 0, .slice none 0 0]) (t := 24) ?hr ?_; (case hd => rfl); (case hg => rfl); (case hr => first | (go_simp; done) | (go_simp; rfl)); intro gb837 hg w5 hbox hb; have BK837 := aM (hbox); have GW837 := aM ((by rw [hg]; exact (below_size (qW HB.out)) : w.heap.size ≤ gb837)); have GE837 := aM ((by rw [hg]; exact (below_size (qW HB.out)) : w.heap.size ≤ gb837)); replace HB := aM (below_step (qW HB.out) hb); have NB835_837 := aM ((by rw [hg]; exact Nat.ne_of_lt (blk_lt (g := gb835) (o := .cells #[.int .i64 a0_0, .int .i64 a0_1, .int .i64 a0_2, .slice A0_3 l0_3.length c0_3] 38 (0, 0)) (qB BK835.out)) : gb835 ≠ gb837)); have NB837_835 := aM ((by rw [hg]; exact Nat.ne_of_gt (blk_lt (g := gb835) (o := .cells #[.int .i64 a0_0, .int .i64 a0_1, .int .i64 a0_2, .slice A0_3 l0_3.length c0_3] 38 (0, 0)) (qB BK835.out)) : gb837 ≠ gb835)); replace BK835 := bB BK835 hb; have NB836_837 := aM ((by rw [hg]; exact Nat.ne_of_lt (blk_lt (g := gb836) (o := .cells #[.int .i64 0, .int .i64 0, .int .i64 0, .slice none 0 0] 24 (0, 0)) (qB BK836.out)) : gb836 ≠ gb837)); have NB837_836 := aM ((by rw [hg]; exact Nat.ne_of_gt (blk_lt (g := gb836) (o := .cells #[.int .i64 0, .int .i64 0, .int .i64 0, .slice none 0 0] 24 (0, 0)) (qB BK836.out)) : gb837 ≠ gb836)); replace BK836 := bB BK836 hb; clear hb hbox hg; have hnb6 := NB835_836.out; have hnc6 := NB836_835.out; have hnb7 := NB835_837.out; have hnc7 := NB837_835.out; obtain ⟨hcz8_0, hcz8_1, hcz8_2, hcz8_3⟩ := cz4 BK835.out; obtain ⟨hfz8_0, hfz8_1, hfz8_2, hfz8_3⟩ := fz4 BK835.out; have hnb9 := NB837_836.out; have hnc9 := NB836_837.out; obtain ⟨hcz10_0, hcz10_1, hcz10_2, hcz10_3⟩ := cz4 BK837.out; obtain ⟨hfz10_0, hfz10_1, hfz10_2, hfz10_3⟩ := fz4 BK837.out) | ((with_reducible refine gate_callee (f := 13) rfl ?_); refine goesL_ (some 15) rfl rfl Try.func13 (by kernel_rfl) rfl #[.slice A0_3 l0_3.length c0_3] rfl qM ?_; (with_reducible refine (laws_toIntS.calls k _ _ l0_3 t838 _ ?side1 ?side2 A2.out).mono ?_); (case side1 => exact Kd.C_below HR0_3.out (qW HB.out)); (case side2 => exact HC0_3.out); rintro e w11 ⟨v839, rfl, ho0, hb⟩; refine ⟨_, rfl, ?_⟩; have HO840 := aM (Kd.R_lower ho0 (below_size (qW HB.out))); replace BK835 := aM (blk_below (g := gb835) (o := .cells #[.int .i64 a0_0, .int .i64 a0_1, .int .i64 a0_2, .slice A0_3 l0_3.length c0_3] 38 (0, 0)) (by refine qB ?_; refine blk_far ?_ NB835_837.out _; refine qB ?_; refine blk_far ?_ NB835_837.out _; refine qB ?_; refine blk_far ?_ NB835_837.out _; refine qB ?_; exact BK835.out) hb); replace BK836 := aM (blk_below (g := gb836) (o := .cells #[.int .i64 0, .int .i64 0, .int .i64 0, .slice none 0 0] 24 (0, 0)) (by refine qB ?_; refine blk_far ?_ NB836_837.out _; refine qB ?_; refine blk_far ?_ NB836_837.out _; refine qB ?_; refine blk_far ?_ NB836_837.out _; refine qB ?_; exact BK836.out) hb); replace BK837 := aM (blk_below (g := gb837) (o := .cells #[.int .i64 a0_0, .int .i64 a0_1, .int .i64 a0_2, .slice none 0 0] 24 (0, 0)) (by refine qB ?_; refine blk_put (cs := #[.int .i64 a0_0, .int .i64 a0_1, .int .i64 0, .slice none 0 0]) ?_ 2 _ rfl; refine qB ?_; refine blk_put (cs := #[.int .i64 a0_0, .int .i64 0, .int .i64 0, .slice none 0 0]) ?_ 1 _ rfl; refine qB ?_; refine blk_put (cs := #[.int .i64 0, .int .i64 0, .int .i64 0, .slice none 0 0]) ?_ 0 _ rfl; refine qB ?_; exact BK837.out) hb); replace HB := aM (below_step (qW HB.out) hb); (try clear hb); (try clear hb2); (try clear hk); (try clear hi); (try clear ho0); obtain ⟨Ao12, co12, eo12⟩ := Kd.R_slice HO840.out; subst eo12; obtain ⟨hcz13_0, hcz13_1, hcz13_2, hcz13_3⟩ := cz4 BK837.out; obtain ⟨hfz13_0, hfz13_1, hfz13_2, hfz13_3⟩ := fz4 BK837.out; obtain ⟨hcz14_0, hcz14_1, hcz14_2, hcz14_3⟩ := cz4 BK836.out; obtain ⟨hfz14_0, hfz14_1, hfz14_2, hfz14_3⟩ := fz4 BK836.out))
 refine bodyPost_ret (results_cell_row rfl _ _ gb836 24 #[.int .i64 a0_0, .int .i64 a0_1, .int .i64 a0_2, .slice Ao12 t838.length co12] (0, 0) _ rfl (by refine qB ?_; refine blk_put (cs := #[.int .i64 a0_0, .int .i64 a0_1, .int .i64 a0_2, .slice none 0 0]) ?_ 3 _ rfl; refine qB ?_; refine blk_put (cs := #[.int .i64 a0_0, .int .i64 a0_1, .int .i64 0, .slice none 0 0]) ?_ 2 _ rfl; refine qB ?_; refine blk_put (cs := #[.int .i64 a0_0, .int .i64 0, .int .i64 0, .slice none 0 0]) ?_ 1 _ rfl; refine qB ?_; refine blk_put (cs := #[.int .i64 0, .int .i64 0, .int .i64 0, .slice none 0 0]) ?_ 0 _ rfl; refine qB ?_; refine blk_far ?_ NB836_837.out _; refine qB ?_; exact BK836.out) Try.underlying24 rfl (by kernel_rfl)) rfl ?_
 exact ⟨_, qX, by refine qR ?_; exact Kd.R_mono (Kd.R_far (p := ⟨gb836, 3, none⟩) (Kd.R_far (p := ⟨gb836, 2, none⟩) (Kd.R_far (p := ⟨gb836, 1, none⟩) (Kd.R_far (p := ⟨gb836, 0, none⟩) (Kd.R_far (p := ⟨gb837, 3, none⟩) (Kd.R_types (Kd.R_types HO840.out BK837.out (by decide)) BK836.out (by decide)) (fun _ hk => hk.1.2) (.slice Ao12 t838.length co12)) (fun _ hk => hk.2) (.int .i64 a0_0)) (fun _ hk => hk.2) (.int .i64 a0_1)) (fun _ hk => hk.2) (.int .i64 a0_2)) (fun _ hk => hk.2) (.slice Ao12 t838.length co12)) (fun _ hk => trivial), by exact qW HB.out⟩

/-! ### laws_FnExactReadImage: function 3 -/
mutual
def laws_FnExactReadImage.j0 : Nat → List Int → Bool → List Int → Bool → Bool → Int → Int → Int → List Int → Int → Int → Int → List Int → Option (Bool)
 | 0, _, _, _, _, _, _, _, _, _, _, _, _, _ => none
 | k + 1, x0, x4, x5, x7, x37, x543000, x543001, x543002, x543003, x554000, x554001, x554002, x554003 => if x37 = true then (some false) else ((laws_toIntS.f k x0).bind fun t555 => ((laws_eqIntS.f k x5 t555).bind fun t558 => (if t558 = true then ((laws_markIntS.f k x5 1).bind fun bt559 => (if bt559.1 < 0 then (laws_FnExactReadImage.j1 k x0 x4 true x543000 x543001 x543002 x543003 x554000 x554001 x554002 x554003) else ((laws_eqImage.f k x554000 x554001 x554002 x554003 x543000 x543001 x543002 x543003).bind fun t561 => (if t561 = true then (laws_FnExactReadImage.j1 k x0 x4 (x7 != x4) x543000 x543001 x543002 x543003 x554000 x554001 x554002 x554003) else (laws_FnExactReadImage.j1 k x0 x4 true x543000 x543001 x543002 x543003 x554000 x554001 x554002 x554003))))) else (some false))))
def laws_FnExactReadImage.j1 : Nat → List Int → Bool → Bool → Int → Int → Int → List Int → Int → Int → Int → List Int → Option (Bool)
 | 0, _, _, _, _, _, _, _, _, _, _, _ => none
 | k + 1, x0, x4, x58, x543000, x543001, x543002, x543003, x554000, x554001, x554002, x554003 => if x58 = true then (some false) else ((laws_markImage.f k x554000 x554001 x554002 x554003 1).bind fun bt562 => ((laws_heldImage.f k x554000 x554001 x554002 bt562.2 1).bind fun t564 => (if t564 < 0 then (some false) else (if t564 = bt562.1 then ((laws_toIntS.f k x0).bind fun t565 => ((impl_ReadImage.f k t565).bind fun bt568 => ((laws_eqImage.f k bt568.1 bt568.2.1 bt568.2.2.1 bt568.2.2.2.1 x543000 x543001 x543002 x543003).bind fun t576 => (if t576 = true then (laws_FnExactReadImage.j2 k bt562.1 (bt568.2.2.2.2 != x4) x554000 x554001 x554002 bt562.2) else (laws_FnExactReadImage.j2 k bt562.1 true x554000 x554001 x554002 bt562.2))))) else (some false)))))
def laws_FnExactReadImage.j2 : Nat → Int → Bool → Int → Int → Int → List Int → Option (Bool)
 | 0, _, _, _, _, _, _ => none
 | k + 1, x9, x84, x554000, x554001, x554002, x554003 => if x84 = true then (some false) else ((laws_heldImage.f k x554000 x554001 x554002 x554003 1).bind fun t577 => (if t577 < 0 then (some false) else (if t577 = x9 then (some true) else (some false))))
end
def laws_FnExactReadImage.f (k : Nat) (l0 : List Int) : Option (Bool) := if (l0.length : Int) > 1048576 then (some true) else ((laws_toIntS.f k l0).bind fun t532 => ((spec_ReadImage.f k t532).bind fun bt535 => ((laws_toIntS.f k l0).bind fun t543 => ((impl_ReadImage.f k t543).bind fun bt546 => ((laws_eqImage.f k bt546.1 bt546.2.1 bt546.2.2.1 bt546.2.2.2.1 bt535.1 bt535.2.1 bt535.2.2.1 bt535.2.2.2.1).bind fun t554 => (if t554 = true then (laws_FnExactReadImage.j0 k l0 bt535.2.2.2.2 t543 bt546.2.2.2.2 (bt546.2.2.2.2 != bt535.2.2.2.2) bt535.1 bt535.2.1 bt535.2.2.1 bt535.2.2.2.1 bt546.1 bt546.2.1 bt546.2.2.1 bt546.2.2.2.1) else (laws_FnExactReadImage.j0 k l0 bt535.2.2.2.2 t543 bt546.2.2.2.2 true bt535.1 bt535.2.1 bt535.2.2.1 bt535.2.2.2.1 bt546.1 bt546.2.1 bt546.2.2.1 bt546.2.2.2.1)))))))
theorem laws_FnExactReadImage.mono_l : ∀ k, (∀ y0 y1 y2 y3 y4 y5 y6 y7 y8 y9 y10 y11 y12, LeO (laws_FnExactReadImage.j0 k y0 y1 y2 y3 y4 y5 y6 y7 y8 y9 y10 y11 y12) (laws_FnExactReadImage.j0 (k + 1) y0 y1 y2 y3 y4 y5 y6 y7 y8 y9 y10 y11 y12)) ∧ (∀ y0 y1 y2 y3 y4 y5 y6 y7 y8 y9 y10, LeO (laws_FnExactReadImage.j1 k y0 y1 y2 y3 y4 y5 y6 y7 y8 y9 y10) (laws_FnExactReadImage.j1 (k + 1) y0 y1 y2 y3 y4 y5 y6 y7 y8 y9 y10)) ∧ (∀ y0 y1 y2 y3 y4 y5, LeO (laws_FnExactReadImage.j2 k y0 y1 y2 y3 y4 y5) (laws_FnExactReadImage.j2 (k + 1) y0 y1 y2 y3 y4 y5))
 | 0 => ⟨fun _ _ _ _ _ _ _ _ _ _ _ _ _ r h => by simp [laws_FnExactReadImage.j0] at h, fun _ _ _ _ _ _ _ _ _ _ _ r h => by simp [laws_FnExactReadImage.j1] at h, fun _ _ _ _ _ _ r h => by simp [laws_FnExactReadImage.j2] at h⟩
 | k + 1 => by
  obtain ⟨ih0, ih1, ih2⟩ := laws_FnExactReadImage.mono_l k
  refine ⟨?_, ?_, ?_⟩
  ·
   intro y0 y1 y2 y3 y4 y5 y6 y7 y8 y9 y10 y11 y12
   unfold laws_FnExactReadImage.j0
   repeat' first
   | (with_reducible exact ih0 _ _ _ _ _ _ _ _ _ _ _ _ _)
   | (with_reducible exact ih1 _ _ _ _ _ _ _ _ _ _ _)
   | (with_reducible exact ih2 _ _ _ _ _ _)
   | (with_reducible exact impl_ReadImage.mono _ _)
   | (with_reducible exact laws_eqImage.mono _ _ _ _ _ _ _ _ _)
   | (with_reducible exact laws_eqIntS.mono _ _ _)
   | (with_reducible exact laws_heldImage.mono _ _ _ _ _ _)
   | (with_reducible exact laws_markImage.mono _ _ _ _ _ _)
   | (with_reducible exact laws_markIntS.mono _ _ _)
   | (with_reducible exact laws_toIntS.mono _ _)
   | (with_reducible exact spec_ReadImage.mono _ _)
   | (with_reducible exact LeO.refl _)
   | (with_reducible exact LeO.none _)
   | (with_reducible refine LeO.ite ?_ ?_)
   | (with_reducible refine LeO.bind ?_ (fun _ => ?_))
   | exact ih0 _ _ _ _ _ _ _ _ _ _ _ _ _
   | exact ih1 _ _ _ _ _ _ _ _ _ _ _
   | exact ih2 _ _ _ _ _ _
   | exact impl_ReadImage.mono _ _
   | exact laws_eqImage.mono _ _ _ _ _ _ _ _ _
   | exact laws_eqIntS.mono _ _ _
   | exact laws_heldImage.mono _ _ _ _ _ _
   | exact laws_markImage.mono _ _ _ _ _ _
   | exact laws_markIntS.mono _ _ _
   | exact laws_toIntS.mono _ _
   | exact spec_ReadImage.mono _ _
   | exact LeO.none _
   | refine LeO.ite ?_ ?_
   | refine LeO.bind ?_ (fun _ => ?_)
  ·
   intro y0 y1 y2 y3 y4 y5 y6 y7 y8 y9 y10
   unfold laws_FnExactReadImage.j1
   repeat' first
   | (with_reducible exact ih0 _ _ _ _ _ _ _ _ _ _ _ _ _)
   | (with_reducible exact ih1 _ _ _ _ _ _ _ _ _ _ _)
   | (with_reducible exact ih2 _ _ _ _ _ _)
   | (with_reducible exact impl_ReadImage.mono _ _)
   | (with_reducible exact laws_eqImage.mono _ _ _ _ _ _ _ _ _)
   | (with_reducible exact laws_eqIntS.mono _ _ _)
   | (with_reducible exact laws_heldImage.mono _ _ _ _ _ _)
   | (with_reducible exact laws_markImage.mono _ _ _ _ _ _)
   | (with_reducible exact laws_markIntS.mono _ _ _)
   | (with_reducible exact laws_toIntS.mono _ _)
   | (with_reducible exact spec_ReadImage.mono _ _)
   | (with_reducible exact LeO.refl _)
   | (with_reducible exact LeO.none _)
   | (with_reducible refine LeO.ite ?_ ?_)
   | (with_reducible refine LeO.bind ?_ (fun _ => ?_))
   | exact ih0 _ _ _ _ _ _ _ _ _ _ _ _ _
   | exact ih1 _ _ _ _ _ _ _ _ _ _ _
   | exact ih2 _ _ _ _ _ _
   | exact impl_ReadImage.mono _ _
   | exact laws_eqImage.mono _ _ _ _ _ _ _ _ _
   | exact laws_eqIntS.mono _ _ _
   | exact laws_heldImage.mono _ _ _ _ _ _
   | exact laws_markImage.mono _ _ _ _ _ _
   | exact laws_markIntS.mono _ _ _
   | exact laws_toIntS.mono _ _
   | exact spec_ReadImage.mono _ _
   | exact LeO.none _
   | refine LeO.ite ?_ ?_
   | refine LeO.bind ?_ (fun _ => ?_)
  ·
   intro y0 y1 y2 y3 y4 y5
   unfold laws_FnExactReadImage.j2
   repeat' first
   | (with_reducible exact ih0 _ _ _ _ _ _ _ _ _ _ _ _ _)
   | (with_reducible exact ih1 _ _ _ _ _ _ _ _ _ _ _)
   | (with_reducible exact ih2 _ _ _ _ _ _)
   | (with_reducible exact impl_ReadImage.mono _ _)
   | (with_reducible exact laws_eqImage.mono _ _ _ _ _ _ _ _ _)
   | (with_reducible exact laws_eqIntS.mono _ _ _)
   | (with_reducible exact laws_heldImage.mono _ _ _ _ _ _)
   | (with_reducible exact laws_markImage.mono _ _ _ _ _ _)
   | (with_reducible exact laws_markIntS.mono _ _ _)
   | (with_reducible exact laws_toIntS.mono _ _)
   | (with_reducible exact spec_ReadImage.mono _ _)
   | (with_reducible exact LeO.refl _)
   | (with_reducible exact LeO.none _)
   | (with_reducible refine LeO.ite ?_ ?_)
   | (with_reducible refine LeO.bind ?_ (fun _ => ?_))
   | exact ih0 _ _ _ _ _ _ _ _ _ _ _ _ _
   | exact ih1 _ _ _ _ _ _ _ _ _ _ _
   | exact ih2 _ _ _ _ _ _
   | exact impl_ReadImage.mono _ _
   | exact laws_eqImage.mono _ _ _ _ _ _ _ _ _
   | exact laws_eqIntS.mono _ _ _
   | exact laws_heldImage.mono _ _ _ _ _ _
   | exact laws_markImage.mono _ _ _ _ _ _
   | exact laws_markIntS.mono _ _ _
   | exact laws_toIntS.mono _ _
   | exact spec_ReadImage.mono _ _
   | exact LeO.none _
   | refine LeO.ite ?_ ?_
   | refine LeO.bind ?_ (fun _ => ?_)
theorem laws_FnExactReadImage.mono : ∀ a0 k, LeO (laws_FnExactReadImage.f k a0) (laws_FnExactReadImage.f (k + 1) a0) := by
 intro a0 k
 obtain ⟨ih0, ih1, ih2⟩ := laws_FnExactReadImage.mono_l k
 unfold laws_FnExactReadImage.f
 repeat' first
   | (with_reducible exact ih0 _ _ _ _ _ _ _ _ _ _ _ _ _)
   | (with_reducible exact ih1 _ _ _ _ _ _ _ _ _ _ _)
   | (with_reducible exact ih2 _ _ _ _ _ _)
   | (with_reducible exact impl_ReadImage.mono _ _)
   | (with_reducible exact laws_eqImage.mono _ _ _ _ _ _ _ _ _)
   | (with_reducible exact laws_eqIntS.mono _ _ _)
   | (with_reducible exact laws_heldImage.mono _ _ _ _ _ _)
   | (with_reducible exact laws_markImage.mono _ _ _ _ _ _)
   | (with_reducible exact laws_markIntS.mono _ _ _)
   | (with_reducible exact laws_toIntS.mono _ _)
   | (with_reducible exact spec_ReadImage.mono _ _)
   | (with_reducible exact LeO.refl _)
   | (with_reducible exact LeO.none _)
   | (with_reducible refine LeO.ite ?_ ?_)
   | (with_reducible refine LeO.bind ?_ (fun _ => ?_))
   | exact ih0 _ _ _ _ _ _ _ _ _ _ _ _ _
   | exact ih1 _ _ _ _ _ _ _ _ _ _ _
   | exact ih2 _ _ _ _ _ _
   | exact impl_ReadImage.mono _ _
   | exact laws_eqImage.mono _ _ _ _ _ _ _ _ _
   | exact laws_eqIntS.mono _ _ _
   | exact laws_heldImage.mono _ _ _ _ _ _
   | exact laws_markImage.mono _ _ _ _ _ _
   | exact laws_markIntS.mono _ _ _
   | exact laws_toIntS.mono _ _
   | exact spec_ReadImage.mono _ _
   | exact LeO.none _
   | refine LeO.ite ?_ ?_
   | refine LeO.bind ?_ (fun _ => ?_)
set_option maxHeartbeats 8000000 in
set_option maxRecDepth 100000 in
theorem laws_FnExactReadImage.calls (k : Nat) (A0 : Option Addr) (c0 : Nat) (l0 : List Int) (r : Bool) (w : World) (hr0 : Kd.C (Kd.int .i64) w A0 l0.length l0) (hc0 : l0.length ≤ c0) (h : laws_FnExactReadImage.f k l0 = some r) (hrt : r = true) :
  Calls Try.prog 3 #[.slice A0 l0.length c0] w fun e w' => e = .returned (.bool r) ∧ Below w.heap.size w w' := by
 have hu24 := Try.underlying24
 have HR0 := aM hr0
 have HC0 := aM hc0
 clear hr0 hc0
 have HB := aM (Below.refl w.heap.size w)
 have H : (if (l0.length : Int) > 1048576 then (some true) else ((laws_toIntS.f k l0).bind fun t532 => ((spec_ReadImage.f k t532).bind fun bt535 => ((laws_toIntS.f k l0).bind fun t543 => ((impl_ReadImage.f k t543).bind fun bt546 => ((laws_eqImage.f k bt546.1 bt546.2.1 bt546.2.2.1 bt546.2.2.2.1 bt535.1 bt535.2.1 bt535.2.2.1 bt535.2.2.2.1).bind fun t554 => (if t554 = true then (laws_FnExactReadImage.j0 k l0 bt535.2.2.2.2 t543 bt546.2.2.2.2 (bt546.2.2.2.2 != bt535.2.2.2.2) bt535.1 bt535.2.1 bt535.2.2.1 bt535.2.2.2.1 bt546.1 bt546.2.1 bt546.2.2.1 bt546.2.2.2.1) else (laws_FnExactReadImage.j0 k l0 bt535.2.2.2.2 t543 bt546.2.2.2.2 true bt535.1 bt535.2.1 bt535.2.2.1 bt535.2.2.2.1 bt546.1 bt546.2.1 bt546.2.2.1 bt546.2.2.2.1)))))))) = some r := h
 clear h
 by_cases c2 : (l0.length : Int) > 1048576
 ·
  rw [if_pos c2] at H
  have c2b0 : decide (1048576 < (l0.length : Int)) = true := decide_eq_true c2
  have c2b1 : decide (1048576 < l0.length) = true := decide_eq_true (by omega)
  clear c2
  obtain rfl := Option.some.inj H
  go_enter Try.func3, Try.ntmps3
  go_wp2
  go_ret
  exact ⟨qX, by exact qW HB.out⟩
 rw [if_neg c2] at H
 have c2b0 : decide (1048576 < (l0.length : Int)) = false := decide_eq_false c2
 have c2b1 : decide (1048576 < l0.length) = false := decide_eq_false (by omega)
 clear c2
 replace H := Option.bind_eq_some_iff.mp H
 obtain ⟨t532, A30, H⟩ := H
 replace H : ((spec_ReadImage.f k t532).bind fun bt535 => ((laws_toIntS.f k l0).bind fun t543 => ((impl_ReadImage.f k t543).bind fun bt546 => ((laws_eqImage.f k bt546.1 bt546.2.1 bt546.2.2.1 bt546.2.2.2.1 bt535.1 bt535.2.1 bt535.2.2.1 bt535.2.2.2.1).bind fun t554 => (if t554 = true then (laws_FnExactReadImage.j0 k l0 bt535.2.2.2.2 t543 bt546.2.2.2.2 (bt546.2.2.2.2 != bt535.2.2.2.2) bt535.1 bt535.2.1 bt535.2.2.1 bt535.2.2.2.1 bt546.1 bt546.2.1 bt546.2.2.1 bt546.2.2.2.1) else (laws_FnExactReadImage.j0 k l0 bt535.2.2.2.2 t543 bt546.2.2.2.2 true bt535.1 bt535.2.1 bt535.2.2.1 bt535.2.2.2.1 bt546.1 bt546.2.1 bt546.2.2.1 bt546.2.2.2.1)))))) = some r := H
 have A3 := aM A30
 clear A30
 replace H := Option.bind_eq_some_iff.mp H
 obtain ⟨⟨t535, t536, t537, t538, t541⟩, A40, H⟩ := H
 replace H : ((laws_toIntS.f k l0).bind fun t543 => ((impl_ReadImage.f k t543).bind fun bt546 => ((laws_eqImage.f k bt546.1 bt546.2.1 bt546.2.2.1 bt546.2.2.2.1 t535 t536 t537 t538).bind fun t554 => (if t554 = true then (laws_FnExactReadImage.j0 k l0 t541 t543 bt546.2.2.2.2 (bt546.2.2.2.2 != t541) t535 t536 t537 t538 bt546.1 bt546.2.1 bt546.2.2.1 bt546.2.2.2.1) else (laws_FnExactReadImage.j0 k l0 t541 t543 bt546.2.2.2.2 true t535 t536 t537 t538 bt546.1 bt546.2.1 bt546.2.2.1 bt546.2.2.2.1))))) = some r := H
 have A4 := aM A40
 clear A40
 replace H := Option.bind_eq_some_iff.mp H
 obtain ⟨t543, A50, H⟩ := H
 replace H : ((impl_ReadImage.f k t543).bind fun bt546 => ((laws_eqImage.f k bt546.1 bt546.2.1 bt546.2.2.1 bt546.2.2.2.1 t535 t536 t537 t538).bind fun t554 => (if t554 = true then (laws_FnExactReadImage.j0 k l0 t541 t543 bt546.2.2.2.2 (bt546.2.2.2.2 != t541) t535 t536 t537 t538 bt546.1 bt546.2.1 bt546.2.2.1 bt546.2.2.2.1) else (laws_FnExactReadImage.j0 k l0 t541 t543 bt546.2.2.2.2 true t535 t536 t537 t538 bt546.1 bt546.2.1 bt546.2.2.1 bt546.2.2.2.1)))) = some r := H
 have A5 := aM A50
 clear A50
 replace H := Option.bind_eq_some_iff.mp H
 obtain ⟨⟨t546, t547, t548, t549, t552⟩, A60, H⟩ := H
 replace H : ((laws_eqImage.f k t546 t547 t548 t549 t535 t536 t537 t538).bind fun t554 => (if t554 = true then (laws_FnExactReadImage.j0 k l0 t541 t543 t552 (t552 != t541) t535 t536 t537 t538 t546 t547 t548 t549) else (laws_FnExactReadImage.j0 k l0 t541 t543 t552 true t535 t536 t537 t538 t546 t547 t548 t549))) = some r := H
 have A6 := aM A60
 clear A60
 have HC7 := aM H
 clear H
 go_enter Try.func3, Try.ntmps3
 go_upto_region 6 with (first | ((with_reducible refine gate_callee (f := 13) rfl ?_); refine goesL_ (some 18) rfl rfl Try.func13 (by kernel_rfl) rfl #[.slice A0 l0.length c0] rfl qM ?_; (with_reducible refine (laws_toIntS.calls k _ _ l0 t532 _ ?side1 ?side2 A3.out).mono ?_); (case side1 => exact qC HR0.out); (case side2 => exact HC0.out); rintro e w8 ⟨v533, rfl, ho0, hb⟩; refine ⟨_, rfl, ?_⟩; have HO534 := aM (Kd.R_lower ho0 (below_size (qW HB.out))); replace HB := aM (below_step (qW HB.out) hb); (try clear hb); (try clear hb2); (try clear hk); (try clear hi); (try clear ho0); obtain ⟨Ao9, co9, eo9⟩ := Kd.R_slice HO534.out; subst eo9) | ((with_reducible refine gate_callee (f := 12) rfl ?_); refine goesL_ (some 19) rfl rfl Try.func12 (by kernel_rfl) rfl #[.slice Ao9 t532.length co9] rfl qM ?_; (with_reducible refine (spec_ReadImage.calls k _ _ t532 t535 t536 t537 t538 t541 _ ?side1 ?side2 A4.out).mono ?_); (case side1 => exact qC (Kd.R_reads' HO534.out).2.2); (case side2 => exact (Kd.R_reads' HO534.out).2.1); rintro e w10 ⟨v539, rfl, ho0, hb⟩; refine ⟨_, rfl, ?_⟩; have HO540 := aM (Kd.R_lower (Kd.R_new' ho0 (Kd.R_lt (qR HO534.out))) (below_size (qW HB.out))); replace HO534 := aM (Kd.R_elder' (qR HO534.out) (Kd.R_base ho0) hb); replace HB := aM (below_step (qW HB.out) hb); (try clear hb); (try clear hb2); (try clear hk); (try clear hi); (try clear ho0)) | ((with_reducible refine gate_dst (N := 3) rfl ?_); refine box_event ?hg (N := 3) ?hd (cs := #[.int .i64 0, .int .i64 0, .int .i64 0, .slice none 0 0]) (t := 24) ?hr ?_; (case hd => rfl); (case hg => rfl); (case hr => first | (go_simp; done) | (go_simp; rfl)); intro gb542 hg w11 hbox hb; replace HO534 := aM (Kd.R_below (qR HO534.out) hb); replace HO540 := aM (Kd.R_below (qR HO540.out) hb); have BK542 := aM (hbox); have GW542 := aM ((by rw [hg]; exact (below_size (qW HB.out)) : w.heap.size ≤ gb542)); have GE542 := aM ((by rw [hg]; exact (below_size (qW HB.out)) : w.heap.size ≤ gb542)); replace HB := aM (below_step (qW HB.out) hb); clear hb hbox hg; obtain ⟨hcz12_0, hcz12_1, hcz12_2, hcz12_3⟩ := cz4 BK542.out; obtain ⟨hfz12_0, hfz12_1, hfz12_2, hfz12_3⟩ := fz4 BK542.out; obtain ⟨Ao13, co13, eo13⟩ := Kd.R_slice HO540.out; subst eo13) | ((with_reducible refine gate_callee (f := 13) rfl ?_); refine goesL_ (some 23) rfl rfl Try.func13 (by kernel_rfl) rfl #[.slice A0 l0.length c0] rfl qM ?_; (with_reducible refine (laws_toIntS.calls k _ _ l0 t543 _ ?side1 ?side2 A5.out).mono ?_); (case side1 => exact Kd.C_below HR0.out (qW HB.out)); (case side2 => exact HC0.out); rintro e w14 ⟨v544, rfl, ho0, hb⟩; refine ⟨_, rfl, ?_⟩; have HO545 := aM (Kd.R_lower (Kd.R_new' (Kd.R_new' ho0 (Kd.R_lt (by refine qR ?_; exact (fr4 HO534 BK542)))) (Kd.R_lt (by refine qR ?_; exact (fr4 HO540 BK542)))) (below_size (qW HB.out))); replace HO534 := aM (Kd.R_elder' (by refine qR ?_; exact (fr4 HO534 BK542)) (Kd.R_base ho0) hb); replace HO540 := aM (Kd.R_elder' (by refine qR ?_; exact (fr4 HO540 BK542)) (Kd.R_base ho0) hb); replace BK542 := aM (blk_below (g := gb542) (o := .cells #[.int .i64 t535, .int .i64 t536, .int .i64 t537, .slice Ao13 t538.length co13] 24 (0, 0)) (by refine qB ?_; refine blk_put (cs := #[.int .i64 t535, .int .i64 t536, .int .i64 t537, .slice none 0 0]) ?_ 3 _ rfl; refine qB ?_; refine blk_put (cs := #[.int .i64 t535, .int .i64 t536, .int .i64 0, .slice none 0 0]) ?_ 2 _ rfl; refine qB ?_; refine blk_put (cs := #[.int .i64 t535, .int .i64 0, .int .i64 0, .slice none 0 0]) ?_ 1 _ rfl; refine qB ?_; refine blk_put (cs := #[.int .i64 0, .int .i64 0, .int .i64 0, .slice none 0 0]) ?_ 0 _ rfl; refine qB ?_; exact BK542.out) hb); replace HB := aM (below_step (qW HB.out) hb); (try clear hb); (try clear hb2); (try clear hk); (try clear hi); (try clear ho0); obtain ⟨Ao15, co15, eo15⟩ := Kd.R_slice HO545.out; subst eo15) | ((with_reducible refine gate_callee (f := 14) rfl ?_); refine goesL_ (some 26) rfl rfl Try.func14 (by kernel_rfl) rfl #[.slice Ao15 t543.length co15] rfl qM ?_; (with_reducible refine (impl_ReadImage.calls k _ _ t543 t546 t547 t548 t549 t552 _ ?side1 ?side2 A6.out).mono ?_); (case side1 => exact qC (Kd.R_reads' HO545.out).2.2); (case side2 => exact (Kd.R_reads' HO545.out).2.1); rintro e w16 ⟨v550, rfl, ho0, hb⟩; refine ⟨_, rfl, ?_⟩; have HO551 := aM (Kd.R_lower (Kd.R_new' (Kd.R_new' (Kd.R_new' ho0 (Kd.R_lt (qR HO534.out))) (Kd.R_lt (qR HO540.out))) (Kd.R_lt (qR HO545.out))) (below_size (qW HB.out))); replace HO534 := aM (Kd.R_elder' (qR HO534.out) (Kd.R_base ho0) hb); replace HO540 := aM (Kd.R_elder' (qR HO540.out) (Kd.R_base ho0) hb); replace HO545 := aM (Kd.R_elder' (qR HO545.out) (Kd.R_base ho0) hb); replace BK542 := bB BK542 hb; replace HB := aM (below_step (qW HB.out) hb); (try clear hb); (try clear hb2); (try clear hk); (try clear hi); (try clear ho0)) | ((with_reducible refine gate_dst (N := 6) rfl ?_); refine box_event ?hg (N := 6) ?hd (cs := #[.int .i64 0, .int .i64 0, .int .i64 0, .slice none 0 0]) (t := 24) ?hr ?_; (case hd => rfl); (case hg => rfl); (case hr => first | (go_simp; done) | (go_simp; rfl)); intro gb553 hg w17 hbox hb; replace HO534 := aM (Kd.R_below (qR HO534.out) hb); replace HO540 := aM (Kd.R_below (qR HO540.out) hb); replace HO545 := aM (Kd.R_below (qR HO545.out) hb); replace HO551 := aM (Kd.R_below (qR HO551.out) hb); have BK553 := aM (hbox); have GW553 := aM ((by rw [hg]; exact (below_size (qW HB.out)) : w.heap.size ≤ gb553)); have GE553 := aM ((by rw [hg]; exact (below_size (qW HB.out)) : w.heap.size ≤ gb553)); replace HB := aM (below_step (qW HB.out) hb); have NB542_553 := aM ((by rw [hg]; exact Nat.ne_of_lt (blk_lt (g := gb542) (o := .cells #[.int .i64 t535, .int .i64 t536, .int .i64 t537, .slice Ao13 t538.length co13] 24 (0, 0)) (qB BK542.out)) : gb542 ≠ gb553)); have NB553_542 := aM ((by rw [hg]; exact Nat.ne_of_gt (blk_lt (g := gb542) (o := .cells #[.int .i64 t535, .int .i64 t536, .int .i64 t537, .slice Ao13 t538.length co13] 24 (0, 0)) (qB BK542.out)) : gb553 ≠ gb542)); replace BK542 := bB BK542 hb; clear hb hbox hg; have hnb18 := NB553_542.out; have hnc18 := NB542_553.out; obtain ⟨hcz19_0, hcz19_1, hcz19_2, hcz19_3⟩ := cz4 BK553.out; obtain ⟨hfz19_0, hfz19_1, hfz19_2, hfz19_3⟩ := fz4 BK553.out; obtain ⟨Ao20, co20, eo20⟩ := Kd.R_slice HO551.out; subst eo20))
 (try simp only [Act.put, List.setIfInBounds_toArray, List.set_cons_zero, List.set_cons_succ])
 go_cut [37] (fun v37 wc => ∃ (kq : Nat) (x37_6 : Bool), v37 = .bool x37_6 ∧ Aside0 (laws_FnExactReadImage.j0 kq l0 t541 t543 t552 x37_6 t535 t536 t537 t538 t546 t547 t548 t549 = some r) ∧ Aside0 (kq ≤ k) ∧ Aside0 (Kd.R (Kd.int .i64) 3 wc w.heap.size (fun k_ => some k_ ≠ ((.slice Ao13 t538.length co13) : Value).ownBlock ∧ some k_ ≠ ((.slice Ao20 t549.length co20) : Value).ownBlock) (.slice Ao15 t543.length co15) t543) ∧ Aside0 (Kd.R (Kd.int .i64) 3 wc w.heap.size (fun k_ => some k_ ≠ ((.slice Ao15 t543.length co15) : Value).ownBlock ∧ some k_ ≠ ((.slice Ao20 t549.length co20) : Value).ownBlock) (.slice Ao13 t538.length co13) t538) ∧ Aside0 (Kd.R (Kd.int .i64) 3 wc w.heap.size (fun k_ => some k_ ≠ ((.slice Ao15 t543.length co15) : Value).ownBlock ∧ some k_ ≠ ((.slice Ao13 t538.length co13) : Value).ownBlock) (.slice Ao20 t549.length co20) t549) ∧ Aside0 (wc.heap[gb542]? = some (.cells #[.int .i64 t535, .int .i64 t536, .int .i64 t537, (.slice Ao13 t538.length co13)] 24 (0, 0))) ∧ Aside0 (wc.heap[gb553]? = some (.cells #[.int .i64 t546, .int .i64 t547, .int .i64 t548, (.slice Ao20 t549.length co20)] 24 (0, 0))) ∧ Aside0 (Below w.heap.size w wc))
 case first =>
  have H := HC7.out
  clear HC7
  replace H := Option.bind_eq_some_iff.mp H
  obtain ⟨t554, A210, H⟩ := H
  replace H : (if t554 = true then (laws_FnExactReadImage.j0 k l0 t541 t543 t552 (t552 != t541) t535 t536 t537 t538 t546 t547 t548 t549) else (laws_FnExactReadImage.j0 k l0 t541 t543 t552 true t535 t536 t537 t538 t546 t547 t548 t549)) = some r := H
  have A21 := aM A210
  clear A210
  by_cases c22 : t554 = true
  ·
   subst c22
   have H1 : (laws_FnExactReadImage.j0 k l0 t541 t543 t552 (t552 != t541) t535 t536 t537 t538 t546 t547 t548 t549) = some r := by rw [if_pos rfl] at H; exact H
   clear H
   have H := H1
   clear H1
   have H' := aM H
   clear H
   have hnb23 := NB553_542.out
   have hnc23 := NB542_553.out
   obtain ⟨hcz24_0, hcz24_1, hcz24_2, hcz24_3⟩ := cz4 BK553.out
   obtain ⟨hfz24_0, hfz24_1, hfz24_2, hfz24_3⟩ := fz4 BK553.out
   obtain ⟨hcz25_0, hcz25_1, hcz25_2, hcz25_3⟩ := cz4 BK542.out
   obtain ⟨hfz25_0, hfz25_1, hfz25_2, hfz25_3⟩ := fz4 BK542.out
   go_wp2_with (first | ((with_reducible refine gate_callee (f := 15) rfl ?_); refine goesL_ (some 31) rfl rfl Try.func15 (by kernel_rfl) rfl #[.agg #[.int .i64 t546, .int .i64 t547, .int .i64 t548, .slice Ao20 t549.length co20], .agg #[.int .i64 t535, .int .i64 t536, .int .i64 t537, .slice Ao13 t538.length co13]] rfl qM ?_; (with_reducible refine (laws_eqImage.calls k t546 t547 t548 _ _ t549 t535 t536 t537 _ _ t538 true _ ?side1 ?side2 ?side3 ?side4 A21.out).mono ?_); (case side1 => refine (Kd.R_reads' (e := 3) (base := w.heap.size) (ok := fun k_ => (((True ∧ some k_ ≠ (.slice Ao9 t532.length co9 : Value).ownBlock) ∧ some k_ ≠ (.slice Ao13 t538.length co13 : Value).ownBlock) ∧ some k_ ≠ (.slice Ao15 t543.length co15 : Value).ownBlock)) (n := t549.length) (c := co20) ?_).2.2; exact (by refine qR ?_; exact (fr4 HO551 BK553))); (case side2 => exact (Kd.R_reads' HO551.out).2.1); (case side3 => refine (Kd.R_reads' (e := 3) (base := w.heap.size) (ok := fun k_ => (((True ∧ some k_ ≠ (.slice Ao9 t532.length co9 : Value).ownBlock) ∧ some k_ ≠ (.slice Ao15 t543.length co15 : Value).ownBlock) ∧ some k_ ≠ (.slice Ao20 t549.length co20 : Value).ownBlock)) (n := t538.length) (c := co13) ?_).2.2; exact (by refine qR ?_; exact (fr4 HO540 BK553))); (case side4 => exact (Kd.R_reads' HO540.out).2.1); rintro e w26 ⟨rfl, hb⟩; refine ⟨_, rfl, ?_⟩; replace HO534 := aM (Kd.R_below (by refine qR ?_; exact (fr4 HO534 BK553)) hb); replace HO540 := aM (Kd.R_below (by refine qR ?_; exact (fr4 HO540 BK553)) hb); replace HO545 := aM (Kd.R_below (by refine qR ?_; exact (fr4 HO545 BK553)) hb); replace HO551 := aM (Kd.R_below (by refine qR ?_; exact (fr4 HO551 BK553)) hb); replace BK542 := aM (blk_below (g := gb542) (o := .cells #[.int .i64 t535, .int .i64 t536, .int .i64 t537, .slice Ao13 t538.length co13] 24 (0, 0)) (by refine qB ?_; refine blk_far ?_ NB542_553.out _; refine qB ?_; refine blk_far ?_ NB542_553.out _; refine qB ?_; refine blk_far ?_ NB542_553.out _; refine qB ?_; refine blk_far ?_ NB542_553.out _; refine qB ?_; exact BK542.out) hb); replace BK553 := aM (blk_below (g := gb553) (o := .cells #[.int .i64 t546, .int .i64 t547, .int .i64 t548, .slice Ao20 t549.length co20] 24 (0, 0)) (by refine qB ?_; refine blk_put (cs := #[.int .i64 t546, .int .i64 t547, .int .i64 t548, .slice none 0 0]) ?_ 3 _ rfl; refine qB ?_; refine blk_put (cs := #[.int .i64 t546, .int .i64 t547, .int .i64 0, .slice none 0 0]) ?_ 2 _ rfl; refine qB ?_; refine blk_put (cs := #[.int .i64 t546, .int .i64 0, .int .i64 0, .slice none 0 0]) ?_ 1 _ rfl; refine qB ?_; refine blk_put (cs := #[.int .i64 0, .int .i64 0, .int .i64 0, .slice none 0 0]) ?_ 0 _ rfl; refine qB ?_; exact BK553.out) hb); replace HB := aM (below_step (qW HB.out) hb); (try clear hb); (try clear hb2); (try clear hk); (try clear hi)))
   go_meet
   case rel => exact ⟨_, ((t552 != t541)), qE, H', ⟨by first | omega | exact Nat.le_refl _⟩, ⟨by refine qR ?_; exact Kd.R_mono HO545.out (fun _ hk => ⟨hk.1.2, hk.2⟩)⟩, ⟨by refine qR ?_; exact Kd.R_mono HO540.out (fun _ hk => ⟨hk.1.2, hk.2⟩)⟩, ⟨by refine qR ?_; exact Kd.R_mono HO551.out (fun _ hk => ⟨hk.2, hk.1.2⟩)⟩, ⟨by refine qB ?_; exact BK542.out⟩, ⟨by refine qB ?_; exact BK553.out⟩, ⟨by exact qW HB.out⟩⟩
  replace c22 := Bool.eq_false_iff.mpr c22
  subst c22
  have H1 : (laws_FnExactReadImage.j0 k l0 t541 t543 t552 true t535 t536 t537 t538 t546 t547 t548 t549) = some r := by rw [if_neg (show ¬ (false = true) by decide)] at H; exact H
  clear H
  have H := H1
  clear H1
  have H' := aM H
  clear H
  have hnb27 := NB553_542.out
  have hnc27 := NB542_553.out
  obtain ⟨hcz28_0, hcz28_1, hcz28_2, hcz28_3⟩ := cz4 BK553.out
  obtain ⟨hfz28_0, hfz28_1, hfz28_2, hfz28_3⟩ := fz4 BK553.out
  obtain ⟨hcz29_0, hcz29_1, hcz29_2, hcz29_3⟩ := cz4 BK542.out
  obtain ⟨hfz29_0, hfz29_1, hfz29_2, hfz29_3⟩ := fz4 BK542.out
  go_wp2_with (first | ((with_reducible refine gate_callee (f := 15) rfl ?_); refine goesL_ (some 31) rfl rfl Try.func15 (by kernel_rfl) rfl #[.agg #[.int .i64 t546, .int .i64 t547, .int .i64 t548, .slice Ao20 t549.length co20], .agg #[.int .i64 t535, .int .i64 t536, .int .i64 t537, .slice Ao13 t538.length co13]] rfl qM ?_; (with_reducible refine (laws_eqImage.calls k t546 t547 t548 _ _ t549 t535 t536 t537 _ _ t538 false _ ?side1 ?side2 ?side3 ?side4 A21.out).mono ?_); (case side1 => refine (Kd.R_reads' (e := 3) (base := w.heap.size) (ok := fun k_ => (((True ∧ some k_ ≠ (.slice Ao9 t532.length co9 : Value).ownBlock) ∧ some k_ ≠ (.slice Ao13 t538.length co13 : Value).ownBlock) ∧ some k_ ≠ (.slice Ao15 t543.length co15 : Value).ownBlock)) (n := t549.length) (c := co20) ?_).2.2; exact (by refine qR ?_; exact (fr4 HO551 BK553))); (case side2 => exact (Kd.R_reads' HO551.out).2.1); (case side3 => refine (Kd.R_reads' (e := 3) (base := w.heap.size) (ok := fun k_ => (((True ∧ some k_ ≠ (.slice Ao9 t532.length co9 : Value).ownBlock) ∧ some k_ ≠ (.slice Ao15 t543.length co15 : Value).ownBlock) ∧ some k_ ≠ (.slice Ao20 t549.length co20 : Value).ownBlock)) (n := t538.length) (c := co13) ?_).2.2; exact (by refine qR ?_; exact (fr4 HO540 BK553))); (case side4 => exact (Kd.R_reads' HO540.out).2.1); rintro e w30 ⟨rfl, hb⟩; refine ⟨_, rfl, ?_⟩; replace HO534 := aM (Kd.R_below (by refine qR ?_; exact (fr4 HO534 BK553)) hb); replace HO540 := aM (Kd.R_below (by refine qR ?_; exact (fr4 HO540 BK553)) hb); replace HO545 := aM (Kd.R_below (by refine qR ?_; exact (fr4 HO545 BK553)) hb); replace HO551 := aM (Kd.R_below (by refine qR ?_; exact (fr4 HO551 BK553)) hb); replace BK542 := aM (blk_below (g := gb542) (o := .cells #[.int .i64 t535, .int .i64 t536, .int .i64 t537, .slice Ao13 t538.length co13] 24 (0, 0)) (by refine qB ?_; refine blk_far ?_ NB542_553.out _; refine qB ?_; refine blk_far ?_ NB542_553.out _; refine qB ?_; refine blk_far ?_ NB542_553.out _; refine qB ?_; refine blk_far ?_ NB542_553.out _; refine qB ?_; exact BK542.out) hb); replace BK553 := aM (blk_below (g := gb553) (o := .cells #[.int .i64 t546, .int .i64 t547, .int .i64 t548, .slice Ao20 t549.length co20] 24 (0, 0)) (by refine qB ?_; refine blk_put (cs := #[.int .i64 t546, .int .i64 t547, .int .i64 t548, .slice none 0 0]) ?_ 3 _ rfl; refine qB ?_; refine blk_put (cs := #[.int .i64 t546, .int .i64 t547, .int .i64 0, .slice none 0 0]) ?_ 2 _ rfl; refine qB ?_; refine blk_put (cs := #[.int .i64 t546, .int .i64 0, .int .i64 0, .slice none 0 0]) ?_ 1 _ rfl; refine qB ?_; refine blk_put (cs := #[.int .i64 0, .int .i64 0, .int .i64 0, .slice none 0 0]) ?_ 0 _ rfl; refine qB ?_; exact BK553.out) hb); replace HB := aM (below_step (qW HB.out) hb); (try clear hb); (try clear hb2); (try clear hk); (try clear hi)))
  go_meet
  case rel => exact ⟨_, (true), qE, H', ⟨by first | omega | exact Nat.le_refl _⟩, ⟨by refine qR ?_; exact Kd.R_mono HO545.out (fun _ hk => ⟨hk.1.2, hk.2⟩)⟩, ⟨by refine qR ?_; exact Kd.R_mono HO540.out (fun _ hk => ⟨hk.1.2, hk.2⟩)⟩, ⟨by refine qR ?_; exact Kd.R_mono HO551.out (fun _ hk => ⟨hk.2, hk.1.2⟩)⟩, ⟨by refine qB ?_; exact BK542.out⟩, ⟨by refine qB ?_; exact BK553.out⟩, ⟨by exact qW HB.out⟩⟩
 case rest =>
  clear HC7
  try clear c1
  try clear c2
  try clear c2b0
  try clear c2b1
  try clear p2
  try clear c3
  try clear c12
  try clear c13
  try clear c14
  try clear c15
  try clear c18
  try clear c22
  try clear c23
  try clear c27
  try clear hcz12_0 hcz12_1 hcz12_2 hcz12_3 hfz12_0 hfz12_1 hfz12_2 hfz12_3
  try clear hcz19_0 hcz19_1 hcz19_2 hcz19_3 hfz19_0 hfz19_1 hfz19_2 hfz19_3
  try clear hcz24_0 hcz24_1 hcz24_2 hcz24_3 hfz24_0 hfz24_1 hfz24_2 hfz24_3
  try clear hcz25_0 hcz25_1 hcz25_2 hcz25_3 hfz25_0 hfz25_1 hfz25_2 hfz25_3
  try clear hcz28_0 hcz28_1 hcz28_2 hcz28_3 hfz28_0 hfz28_1 hfz28_2 hfz28_3
  try clear hcz29_0 hcz29_1 hcz29_2 hcz29_3 hfz29_0 hfz29_1 hfz29_2 hfz29_3
  obtain ⟨kq, x37_6, rfl, HA, HJ6, HO_5, HO_543003, HO_554003, BK542, BK553, HB⟩ := hcut
  cases kq with
  | zero => exact absurd HA.out (by simp [laws_FnExactReadImage.j0])
  | succ kj6 =>
   have H := HA.out
   clear HA
   simp only [laws_FnExactReadImage.j0] at H
   by_cases c31 : x37_6 = true
   ·
    subst c31
    have H1 : (some false) = some r := by rw [if_pos rfl] at H; exact H
    clear H
    have H := H1
    clear H1
    obtain rfl := Option.some.inj H
    exact absurd hrt (by decide)
   replace c31 := Bool.eq_false_iff.mpr c31
   subst c31
   have H1 : ((laws_toIntS.f kj6 l0).bind fun t555 => ((laws_eqIntS.f kj6 t543 t555).bind fun t558 => (if t558 = true then ((laws_markIntS.f kj6 t543 1).bind fun bt559 => (if bt559.1 < 0 then (laws_FnExactReadImage.j1 kj6 l0 t541 true t535 t536 t537 t538 t546 t547 t548 t549) else ((laws_eqImage.f kj6 t546 t547 t548 t549 t535 t536 t537 t538).bind fun t561 => (if t561 = true then (laws_FnExactReadImage.j1 kj6 l0 t541 (t552 != t541) t535 t536 t537 t538 t546 t547 t548 t549) else (laws_FnExactReadImage.j1 kj6 l0 t541 true t535 t536 t537 t538 t546 t547 t548 t549))))) else (some false)))) = some r := by rw [if_neg (show ¬ (false = true) by decide)] at H; exact H
   clear H
   have H := H1
   clear H1
   replace H := Option.bind_eq_some_iff.mp H
   obtain ⟨t555, A320, H⟩ := H
   replace H : ((laws_eqIntS.f kj6 t543 t555).bind fun t558 => (if t558 = true then ((laws_markIntS.f kj6 t543 1).bind fun bt559 => (if bt559.1 < 0 then (laws_FnExactReadImage.j1 kj6 l0 t541 true t535 t536 t537 t538 t546 t547 t548 t549) else ((laws_eqImage.f kj6 t546 t547 t548 t549 t535 t536 t537 t538).bind fun t561 => (if t561 = true then (laws_FnExactReadImage.j1 kj6 l0 t541 (t552 != t541) t535 t536 t537 t538 t546 t547 t548 t549) else (laws_FnExactReadImage.j1 kj6 l0 t541 true t535 t536 t537 t538 t546 t547 t548 t549))))) else (some false))) = some r := H
   have A32 := aM A320
   clear A320
   replace H := Option.bind_eq_some_iff.mp H
   obtain ⟨t558, A330, H⟩ := H
   replace H : (if t558 = true then ((laws_markIntS.f kj6 t543 1).bind fun bt559 => (if bt559.1 < 0 then (laws_FnExactReadImage.j1 kj6 l0 t541 true t535 t536 t537 t538 t546 t547 t548 t549) else ((laws_eqImage.f kj6 t546 t547 t548 t549 t535 t536 t537 t538).bind fun t561 => (if t561 = true then (laws_FnExactReadImage.j1 kj6 l0 t541 (t552 != t541) t535 t536 t537 t538 t546 t547 t548 t549) else (laws_FnExactReadImage.j1 kj6 l0 t541 true t535 t536 t537 t538 t546 t547 t548 t549))))) else (some false)) = some r := H
   have A33 := aM A330
   clear A330
   by_cases c34 : t558 = true
   rotate_left
   ·
    replace c34 := Bool.eq_false_iff.mpr c34
    subst c34
    have H1 : (some false) = some r := by rw [if_neg (show ¬ (false = true) by decide)] at H; exact H
    clear H
    have H := H1
    clear H1
    obtain rfl := Option.some.inj H
    exact absurd hrt (by decide)
   subst c34
   have H1 : ((laws_markIntS.f kj6 t543 1).bind fun bt559 => (if bt559.1 < 0 then (laws_FnExactReadImage.j1 kj6 l0 t541 true t535 t536 t537 t538 t546 t547 t548 t549) else ((laws_eqImage.f kj6 t546 t547 t548 t549 t535 t536 t537 t538).bind fun t561 => (if t561 = true then (laws_FnExactReadImage.j1 kj6 l0 t541 (t552 != t541) t535 t536 t537 t538 t546 t547 t548 t549) else (laws_FnExactReadImage.j1 kj6 l0 t541 true t535 t536 t537 t538 t546 t547 t548 t549))))) = some r := by rw [if_pos rfl] at H; exact H
   clear H
   have H := H1
   clear H1
   replace H := Option.bind_eq_some_iff.mp H
   obtain ⟨⟨t559, t560⟩, A350, H⟩ := H
   replace H : (if t559 < 0 then (laws_FnExactReadImage.j1 kj6 l0 t541 true t535 t536 t537 t538 t546 t547 t548 t549) else ((laws_eqImage.f kj6 t546 t547 t548 t549 t535 t536 t537 t538).bind fun t561 => (if t561 = true then (laws_FnExactReadImage.j1 kj6 l0 t541 (t552 != t541) t535 t536 t537 t538 t546 t547 t548 t549) else (laws_FnExactReadImage.j1 kj6 l0 t541 true t535 t536 t537 t538 t546 t547 t548 t549)))) = some r := H
   have A35 := aM A350
   clear A350
   have HC36 := aM H
   clear H
   go_upto_region 12 with (first | ((with_reducible refine gate_callee (f := 13) rfl ?_); refine goesL_ (some 40) rfl rfl Try.func13 (by kernel_rfl) rfl #[.slice A0 l0.length c0] rfl qM ?_; (with_reducible refine (laws_toIntS.calls kj6 _ _ l0 t555 _ ?side1 ?side2 A32.out).mono ?_); (case side1 => exact qC (Kd.C_below HR0.out HB.out)); (case side2 => exact HC0.out); rintro e w37 ⟨v556, rfl, ho0, hb⟩; refine ⟨_, rfl, ?_⟩; have HO557 := aM (Kd.R_lower (Kd.R_new' (Kd.R_new' (Kd.R_new' ho0 (Kd.R_lt (qR HO_5.out))) (Kd.R_lt (qR HO_543003.out))) (Kd.R_lt (qR HO_554003.out))) (below_size (qW HB.out))); replace HO_5 := aM (Kd.R_elder' (qR HO_5.out) (Kd.R_base ho0) hb); replace HO_543003 := aM (Kd.R_elder' (qR HO_543003.out) (Kd.R_base ho0) hb); replace HO_554003 := aM (Kd.R_elder' (qR HO_554003.out) (Kd.R_base ho0) hb); replace BK542 := bB BK542 hb; replace BK553 := bB BK553 hb; replace HB := aM (below_step (qW HB.out) hb); (try clear hb); (try clear hb2); (try clear hk); (try clear hi); (try clear ho0); obtain ⟨Ao38, co38, eo38⟩ := Kd.R_slice HO557.out; subst eo38) | ((with_reducible refine gate_callee (f := 16) rfl ?_); refine goesL_ (some 41) rfl rfl Try.func16 (by kernel_rfl) rfl #[.slice Ao15 t543.length co15, .slice Ao38 t555.length co38] rfl qM ?_; (with_reducible refine (laws_eqIntS.calls kj6 _ _ t543 _ _ t555 true _ ?side1 ?side2 ?side3 ?side4 A33.out).mono ?_); (case side1 => exact qC (Kd.R_reads' HO_5.out).2.2); (case side2 => exact (Kd.R_reads' HO_5.out).2.1); (case side3 => exact qC (Kd.R_reads' HO557.out).2.2); (case side4 => exact (Kd.R_reads' HO557.out).2.1); rintro e w' ⟨rfl, ⟨nd, rfl⟩⟩; refine ⟨_, rfl, ?_⟩) | ((with_reducible refine gate_callee (f := 17) rfl ?_); refine goesL_ (some 45) rfl rfl Try.func17 (by kernel_rfl) rfl #[.slice Ao15 t543.length co15, .int .i64 1] rfl qM ?_; (with_reducible refine (laws_markIntS.calls kj6 (fun k_ => some k_ = (.slice Ao15 t543.length co15 : Value).ownBlock) (.slice Ao15 t543.length co15) t543 1 t559 t560 w _ ?side1 ?side2 A35.out).mono ?_); (case side1 => exact qW HB.out); (case side2 => exact Kd.R_tight rfl HO_5.out); rintro e w39 ⟨rfl, hy0, hb, hkp⟩; refine ⟨_, rfl, ?_⟩; replace HO_543003 := aM (Kd.R_mono (ok' := fun k_ => some k_ ≠ (.slice Ao15 t543.length co15 : Value).ownBlock ∧ some k_ ≠ (.slice Ao20 t549.length co20 : Value).ownBlock ∧ some k_ ≠ (.slice Ao38 t555.length co38 : Value).ownBlock) (Kd.R_keptB (HO_543003.out) hkp (fun k_ hk_ hs_ => by first | exact hk_.1.1 hs_ | (revert hk_; simp only [and_imp]; intros; contradiction))) (fun k_ hk_ => by first | exact ⟨hk_.1.1.1, hk_.1.1.2, hk_.1.2⟩ | (revert hk_; simp only [and_imp]; intros; and_intros <;> assumption))); replace HO_554003 := aM (Kd.R_mono (ok' := fun k_ => some k_ ≠ (.slice Ao15 t543.length co15 : Value).ownBlock ∧ some k_ ≠ (.slice Ao13 t538.length co13 : Value).ownBlock ∧ some k_ ≠ (.slice Ao38 t555.length co38 : Value).ownBlock) (Kd.R_keptB (HO_554003.out) hkp (fun k_ hk_ hs_ => by first | exact hk_.1.1 hs_ | (revert hk_; simp only [and_imp]; intros; contradiction))) (fun k_ hk_ => by first | exact ⟨hk_.1.1.1, hk_.1.1.2, hk_.1.2⟩ | (revert hk_; simp only [and_imp]; intros; and_intros <;> assumption))); replace BK542 := aM (blk_kept (qB BK542.out) hkp (fun hs_ => (fun e_ => (Kd.R_ne HO_5.out BK542.out (by decide)) e_) hs_)); replace BK553 := aM (blk_kept (qB BK553.out) hkp (fun hs_ => (fun e_ => (Kd.R_ne HO_5.out BK553.out (by decide)) e_) hs_)); replace HO_5 := aM (Kd.R_reok rfl hy0 (fun k_ e_ => HO_5.out.1 k_ e_)); replace HO557 := aM (Kd.R_mono (ok' := fun k_ => some k_ ≠ (.slice Ao15 t543.length co15 : Value).ownBlock ∧ some k_ ≠ (.slice Ao13 t538.length co13 : Value).ownBlock ∧ some k_ ≠ (.slice Ao20 t549.length co20 : Value).ownBlock) (Kd.R_keptB (HO557.out) hkp (fun k_ hk_ hs_ => by first | exact hk_.1.1.2 hs_ | (revert hk_; simp only [and_imp]; intros; contradiction))) (fun k_ hk_ => by first | exact ⟨hk_.1.1.1.2, hk_.1.1.2, hk_.1.2⟩ | (revert hk_; simp only [and_imp]; intros; and_intros <;> assumption))); replace HB := aM (hb); (try clear hb); (try clear hkp); (try clear hy0)))
   (try simp only [Act.put, List.setIfInBounds_toArray, List.set_cons_zero, List.set_cons_succ])
   go_cut [58] (fun v58 wc => ∃ (kq : Nat) (x58_35 : Bool), v58 = .bool x58_35 ∧ Aside0 (laws_FnExactReadImage.j1 kq l0 t541 x58_35 t535 t536 t537 t538 t546 t547 t548 t549 = some r) ∧ Aside0 (kq ≤ kj6) ∧ Aside0 (Kd.R (Kd.int .i64) 3 wc w.heap.size (fun k_ => some k_ ≠ ((.slice Ao20 t549.length co20) : Value).ownBlock) (.slice Ao13 t538.length co13) t538) ∧ Aside0 (Kd.R (Kd.int .i64) 3 wc w.heap.size (fun k_ => some k_ ≠ ((.slice Ao13 t538.length co13) : Value).ownBlock) (.slice Ao20 t549.length co20) t549) ∧ Aside0 (wc.heap[gb542]? = some (.cells #[.int .i64 t535, .int .i64 t536, .int .i64 t537, (.slice Ao13 t538.length co13)] 24 (0, 0))) ∧ Aside0 (wc.heap[gb553]? = some (.cells #[.int .i64 t546, .int .i64 t547, .int .i64 t548, (.slice Ao20 t549.length co20)] 24 (0, 0))) ∧ Aside0 (Below w.heap.size w wc))
   case first =>
    have H := HC36.out
    clear HC36
    by_cases c40 : t559 < 0
    ·
     rw [if_pos c40] at H
     have c40b0 : decide (t559 < 0) = true := decide_eq_true c40
     clear c40
     (first | rw [c40b0] | (simp only [i64_w, i32_w]; rw [c40b0]) | skip)
     have H' := aM H
     clear H
     go_wp2
     go_meet
     case rel => exact ⟨_, (true), qE, H', ⟨by have := HJ6.out; first | omega | exact Nat.le_refl _⟩, ⟨by refine qR ?_; exact Kd.R_mono HO_543003.out (fun _ hk => hk.2.1)⟩, ⟨by refine qR ?_; exact Kd.R_mono HO_554003.out (fun _ hk => hk.2.1)⟩, ⟨by refine qB ?_; exact BK542.out⟩, ⟨by refine qB ?_; exact BK553.out⟩, ⟨by exact qW HB.out⟩⟩
    rw [if_neg c40] at H
    have c40b0 : decide (t559 < 0) = false := decide_eq_false c40
    clear c40
    (first | rw [c40b0] | (simp only [i64_w, i32_w]; rw [c40b0]) | skip)
    replace H := Option.bind_eq_some_iff.mp H
    obtain ⟨t561, A410, H⟩ := H
    replace H : (if t561 = true then (laws_FnExactReadImage.j1 kj6 l0 t541 (t552 != t541) t535 t536 t537 t538 t546 t547 t548 t549) else (laws_FnExactReadImage.j1 kj6 l0 t541 true t535 t536 t537 t538 t546 t547 t548 t549)) = some r := H
    have A41 := aM A410
    clear A410
    by_cases c42 : t561 = true
    ·
     subst c42
     have H1 : (laws_FnExactReadImage.j1 kj6 l0 t541 (t552 != t541) t535 t536 t537 t538 t546 t547 t548 t549) = some r := by rw [if_pos rfl] at H; exact H
     clear H
     have H := H1
     clear H1
     have H' := aM H
     clear H
     have hnb43 := NB553_542.out
     have hnc43 := NB542_553.out
     obtain ⟨hcz44_0, hcz44_1, hcz44_2, hcz44_3⟩ := cz4 BK553.out
     obtain ⟨hfz44_0, hfz44_1, hfz44_2, hfz44_3⟩ := fz4 BK553.out
     obtain ⟨hcz45_0, hcz45_1, hcz45_2, hcz45_3⟩ := cz4 BK542.out
     obtain ⟨hfz45_0, hfz45_1, hfz45_2, hfz45_3⟩ := fz4 BK542.out
     go_wp2_with (first | (go_at_call 15; (with_reducible refine (laws_eqImage.calls kj6 t546 t547 t548 _ _ t549 t535 t536 t537 _ _ t538 true _ ?side1 ?side2 ?side3 ?side4 A41.out).mono ?_); (case side1 => exact qC (Kd.R_reads' HO_554003.out).2.2); (case side2 => exact (Kd.R_reads' HO_554003.out).2.1); (case side3 => exact qC (Kd.R_reads' HO_543003.out).2.2); (case side4 => exact (Kd.R_reads' HO_543003.out).2.1); rintro e w46 ⟨rfl, hb⟩; replace HO_5 := aM (Kd.R_below (qR HO_5.out) hb); replace HO_543003 := aM (Kd.R_below (qR HO_543003.out) hb); replace HO_554003 := aM (Kd.R_below (qR HO_554003.out) hb); replace HO557 := aM (Kd.R_below (qR HO557.out) hb); replace BK542 := bB BK542 hb; replace BK553 := bB BK553 hb; replace HB := aM (below_step (qW HB.out) hb); (try clear hb); (try clear hb2); (try clear hk); (try clear hi)))
     go_meet
     case rel => exact ⟨_, ((t552 != t541)), qE, H', ⟨by have := HJ6.out; first | omega | exact Nat.le_refl _⟩, ⟨by refine qR ?_; exact Kd.R_mono HO_543003.out (fun _ hk => hk.2.1)⟩, ⟨by refine qR ?_; exact Kd.R_mono HO_554003.out (fun _ hk => hk.2.1)⟩, ⟨by refine qB ?_; exact BK542.out⟩, ⟨by refine qB ?_; exact BK553.out⟩, ⟨by exact qW HB.out⟩⟩
    replace c42 := Bool.eq_false_iff.mpr c42
    subst c42
    have H1 : (laws_FnExactReadImage.j1 kj6 l0 t541 true t535 t536 t537 t538 t546 t547 t548 t549) = some r := by rw [if_neg (show ¬ (false = true) by decide)] at H; exact H
    clear H
    have H := H1
    clear H1
    have H' := aM H
    clear H
    have hnb47 := NB553_542.out
    have hnc47 := NB542_553.out
    obtain ⟨hcz48_0, hcz48_1, hcz48_2, hcz48_3⟩ := cz4 BK553.out
    obtain ⟨hfz48_0, hfz48_1, hfz48_2, hfz48_3⟩ := fz4 BK553.out
    obtain ⟨hcz49_0, hcz49_1, hcz49_2, hcz49_3⟩ := cz4 BK542.out
    obtain ⟨hfz49_0, hfz49_1, hfz49_2, hfz49_3⟩ := fz4 BK542.out
    go_wp2_with (first | (go_at_call 15; (with_reducible refine (laws_eqImage.calls kj6 t546 t547 t548 _ _ t549 t535 t536 t537 _ _ t538 false _ ?side1 ?side2 ?side3 ?side4 A41.out).mono ?_); (case side1 => exact qC (Kd.R_reads' HO_554003.out).2.2); (case side2 => exact (Kd.R_reads' HO_554003.out).2.1); (case side3 => exact qC (Kd.R_reads' HO_543003.out).2.2); (case side4 => exact (Kd.R_reads' HO_543003.out).2.1); rintro e w50 ⟨rfl, hb⟩; replace HO_5 := aM (Kd.R_below (qR HO_5.out) hb); replace HO_543003 := aM (Kd.R_below (qR HO_543003.out) hb); replace HO_554003 := aM (Kd.R_below (qR HO_554003.out) hb); replace HO557 := aM (Kd.R_below (qR HO557.out) hb); replace BK542 := bB BK542 hb; replace BK553 := bB BK553 hb; replace HB := aM (below_step (qW HB.out) hb); (try clear hb); (try clear hb2); (try clear hk); (try clear hi)))
    go_meet
    case rel => exact ⟨_, (true), qE, H', ⟨by have := HJ6.out; first | omega | exact Nat.le_refl _⟩, ⟨by refine qR ?_; exact Kd.R_mono HO_543003.out (fun _ hk => hk.2.1)⟩, ⟨by refine qR ?_; exact Kd.R_mono HO_554003.out (fun _ hk => hk.2.1)⟩, ⟨by refine qB ?_; exact BK542.out⟩, ⟨by refine qB ?_; exact BK553.out⟩, ⟨by exact qW HB.out⟩⟩
   case rest =>
    clear HC36
    try clear c1
    try clear c2
    try clear c2b0
    try clear c2b1
    try clear p2
    try clear c3
    try clear c4
    try clear c12
    try clear c13
    try clear c14
    try clear c15
    try clear c16
    try clear c17
    try clear c18
    try clear c22
    try clear c23
    try clear c27
    try clear c31
    try clear c34
    try clear c40
    try clear c40b0
    try clear c42
    try clear c43
    try clear c47
    try clear hcz12_0 hcz12_1 hcz12_2 hcz12_3 hfz12_0 hfz12_1 hfz12_2 hfz12_3
    try clear hcz19_0 hcz19_1 hcz19_2 hcz19_3 hfz19_0 hfz19_1 hfz19_2 hfz19_3
    try clear hcz24_0 hcz24_1 hcz24_2 hcz24_3 hfz24_0 hfz24_1 hfz24_2 hfz24_3
    try clear hcz25_0 hcz25_1 hcz25_2 hcz25_3 hfz25_0 hfz25_1 hfz25_2 hfz25_3
    try clear hcz28_0 hcz28_1 hcz28_2 hcz28_3 hfz28_0 hfz28_1 hfz28_2 hfz28_3
    try clear hcz29_0 hcz29_1 hcz29_2 hcz29_3 hfz29_0 hfz29_1 hfz29_2 hfz29_3
    try clear hcz44_0 hcz44_1 hcz44_2 hcz44_3 hfz44_0 hfz44_1 hfz44_2 hfz44_3
    try clear hcz45_0 hcz45_1 hcz45_2 hcz45_3 hfz45_0 hfz45_1 hfz45_2 hfz45_3
    try clear hcz48_0 hcz48_1 hcz48_2 hcz48_3 hfz48_0 hfz48_1 hfz48_2 hfz48_3
    try clear hcz49_0 hcz49_1 hcz49_2 hcz49_3 hfz49_0 hfz49_1 hfz49_2 hfz49_3
    try clear p2
    obtain ⟨kq, x58_35, rfl, HA, HJ35, HO_543003, HO_554003, BK542, BK553, HB⟩ := hcut
    cases kq with
    | zero => exact absurd HA.out (by simp [laws_FnExactReadImage.j1])
    | succ kj35 =>
     have H := HA.out
     clear HA
     simp only [laws_FnExactReadImage.j1] at H
     by_cases c51 : x58_35 = true
     ·
      subst c51
      have H1 : (some false) = some r := by rw [if_pos rfl] at H; exact H
      clear H
      have H := H1
      clear H1
      obtain rfl := Option.some.inj H
      exact absurd hrt (by decide)
     replace c51 := Bool.eq_false_iff.mpr c51
     subst c51
     have H1 : ((laws_markImage.f kj35 t546 t547 t548 t549 1).bind fun bt562 => ((laws_heldImage.f kj35 t546 t547 t548 bt562.2 1).bind fun t564 => (if t564 < 0 then (some false) else (if t564 = bt562.1 then ((laws_toIntS.f kj35 l0).bind fun t565 => ((impl_ReadImage.f kj35 t565).bind fun bt568 => ((laws_eqImage.f kj35 bt568.1 bt568.2.1 bt568.2.2.1 bt568.2.2.2.1 t535 t536 t537 t538).bind fun t576 => (if t576 = true then (laws_FnExactReadImage.j2 kj35 bt562.1 (bt568.2.2.2.2 != t541) t546 t547 t548 bt562.2) else (laws_FnExactReadImage.j2 kj35 bt562.1 true t546 t547 t548 bt562.2))))) else (some false))))) = some r := by rw [if_neg (show ¬ (false = true) by decide)] at H; exact H
     clear H
     have H := H1
     clear H1
     replace H := Option.bind_eq_some_iff.mp H
     obtain ⟨⟨t562, t563⟩, A520, H⟩ := H
     replace H : ((laws_heldImage.f kj35 t546 t547 t548 t563 1).bind fun t564 => (if t564 < 0 then (some false) else (if t564 = t562 then ((laws_toIntS.f kj35 l0).bind fun t565 => ((impl_ReadImage.f kj35 t565).bind fun bt568 => ((laws_eqImage.f kj35 bt568.1 bt568.2.1 bt568.2.2.1 bt568.2.2.2.1 t535 t536 t537 t538).bind fun t576 => (if t576 = true then (laws_FnExactReadImage.j2 kj35 t562 (bt568.2.2.2.2 != t541) t546 t547 t548 t563) else (laws_FnExactReadImage.j2 kj35 t562 true t546 t547 t548 t563))))) else (some false)))) = some r := H
     have A52 := aM A520
     clear A520
     replace H := Option.bind_eq_some_iff.mp H
     obtain ⟨t564, A530, H⟩ := H
     replace H : (if t564 < 0 then (some false) else (if t564 = t562 then ((laws_toIntS.f kj35 l0).bind fun t565 => ((impl_ReadImage.f kj35 t565).bind fun bt568 => ((laws_eqImage.f kj35 bt568.1 bt568.2.1 bt568.2.2.1 bt568.2.2.2.1 t535 t536 t537 t538).bind fun t576 => (if t576 = true then (laws_FnExactReadImage.j2 kj35 t562 (bt568.2.2.2.2 != t541) t546 t547 t548 t563) else (laws_FnExactReadImage.j2 kj35 t562 true t546 t547 t548 t563))))) else (some false))) = some r := H
     have A53 := aM A530
     clear A530
     by_cases c54 : t564 < 0
     ·
      rw [if_pos c54] at H
      have c54b0 : decide (t564 < 0) = true := decide_eq_true c54
      clear c54
      obtain rfl := Option.some.inj H
      exact absurd hrt (by decide)
     rw [if_neg c54] at H
     have c54b0 : decide (t564 < 0) = false := decide_eq_false c54
     clear c54
     by_cases c60 : t564 = t562
     rotate_left
     ·
      rw [if_neg c60] at H
      have c60b0 : (t564 == t562) = false := beq_eq_false_iff_ne.mpr c60
      have c60b1 : (t564 != t562) = true := bne_iff_ne.mpr c60
      obtain rfl := Option.some.inj H
      exact absurd hrt (by decide)
     rw [if_pos c60] at H
     have c60b0 : (t564 == t562) = true := beq_iff_eq.mpr c60
     have c60b1 : (t564 != t562) = false := bne_eq_false_iff_eq.mpr c60
     clear c60
     replace H := Option.bind_eq_some_iff.mp H
     obtain ⟨t565, A610, H⟩ := H
     replace H : ((impl_ReadImage.f kj35 t565).bind fun bt568 => ((laws_eqImage.f kj35 bt568.1 bt568.2.1 bt568.2.2.1 bt568.2.2.2.1 t535 t536 t537 t538).bind fun t576 => (if t576 = true then (laws_FnExactReadImage.j2 kj35 t562 (bt568.2.2.2.2 != t541) t546 t547 t548 t563) else (laws_FnExactReadImage.j2 kj35 t562 true t546 t547 t548 t563)))) = some r := H
     have A61 := aM A610
     clear A610
     replace H := Option.bind_eq_some_iff.mp H
     obtain ⟨⟨t568, t569, t570, t571, t574⟩, A620, H⟩ := H
     replace H : ((laws_eqImage.f kj35 t568 t569 t570 t571 t535 t536 t537 t538).bind fun t576 => (if t576 = true then (laws_FnExactReadImage.j2 kj35 t562 (t574 != t541) t546 t547 t548 t563) else (laws_FnExactReadImage.j2 kj35 t562 true t546 t547 t548 t563))) = some r := H
     have A62 := aM A620
     clear A620
     have HC63 := aM H
     clear H
     have hnb64 := NB553_542.out
     have hnc64 := NB542_553.out
     obtain ⟨hcz65_0, hcz65_1, hcz65_2, hcz65_3⟩ := cz4 BK553.out
     obtain ⟨hfz65_0, hfz65_1, hfz65_2, hfz65_3⟩ := fz4 BK553.out
     go_upto_region 23 with (first | ((with_reducible refine gate_callee (f := 18) rfl ?_); refine goesL_ (some 61) rfl rfl Try.func18 (by kernel_rfl) rfl #[.agg #[.int .i64 t546, .int .i64 t547, .int .i64 t548, .slice Ao20 t549.length co20], .int .i64 1] rfl qM ?_; (with_reducible refine (laws_markImage.calls kj35 t546 t547 t548 (fun k_ => some k_ = (.slice Ao20 t549.length co20 : Value).ownBlock) (.slice Ao20 t549.length co20) t549 1 t562 t563 w _ ?side1 ?side2 A52.out).mono ?_); (case side1 => exact qW HB.out); (case side2 => exact Kd.R_tight rfl HO_554003.out); rintro e w66 ⟨rfl, hy0, hb, hkp⟩; refine ⟨_, rfl, ?_⟩; replace HO_543003 := aM (Kd.R_mono (ok' := fun k_ => some k_ ≠ (.slice Ao20 t549.length co20 : Value).ownBlock) (Kd.R_keptB (HO_543003.out) hkp (fun k_ hk_ hs_ => (hk_) hs_)) (fun k_ hk_ => hk_.1)); replace BK542 := aM (blk_kept (qB BK542.out) hkp (fun hs_ => (fun e_ => (Kd.R_ne HO_554003.out BK542.out (by decide)) e_) hs_)); replace BK553 := aM (blk_kept (qB BK553.out) hkp (fun hs_ => (fun e_ => (Kd.R_ne HO_554003.out BK553.out (by decide)) e_) hs_)); replace HO_554003 := aM (Kd.R_reok rfl hy0 (fun k_ e_ => HO_554003.out.1 k_ e_)); replace HB := aM (hb); (try clear hb); (try clear hkp); (try clear hy0); obtain ⟨hcz67_0, hcz67_1, hcz67_2, hcz67_3⟩ := cz4 BK553.out; obtain ⟨hfz67_0, hfz67_1, hfz67_2, hfz67_3⟩ := fz4 BK553.out) | ((with_reducible refine gate_callee (f := 19) rfl ?_); refine goesL_ (some 64) rfl rfl Try.func19 (by kernel_rfl) rfl #[.agg #[.int .i64 t546, .int .i64 t547, .int .i64 t548, .slice Ao20 t563.length co20], .int .i64 1] rfl (by (try simp only [List.map_toArray, List.map_cons, List.map_nil]); first | done | (rw [show t563.length = t549.length from (Kd.R_reads' HO_554003.out).1.symm] <;> rfl) | rfl | (simp only [List.length_drop, List.length_take]; rfl)) ?_; (with_reducible refine (laws_heldImage.calls kj35 t546 t547 t548 _ _ t563 1 t564 _ ?side1 ?side2 A53.out).mono ?_); (case side1 => exact qC (Kd.R_reads' HO_554003.out).2.2); (case side2 => rw [show t563.length = t549.length from (Kd.R_reads' HO_554003.out).1.symm]; exact (Kd.R_reads' HO_554003.out).2.1); rintro e w68 ⟨rfl, hb⟩; refine ⟨_, rfl, ?_⟩; replace HO_543003 := aM (Kd.R_below (qR HO_543003.out) hb); replace HO_554003 := aM (Kd.R_below (qR HO_554003.out) hb); replace BK542 := bB BK542 hb; replace BK553 := bB BK553 hb; replace HB := aM (below_step (qW HB.out) hb); (try clear hb); (try clear hb2); (try clear hk); (try clear hi)) | ((with_reducible refine gate_callee (f := 13) rfl ?_); refine goesL_ (some 72) rfl rfl Try.func13 (by kernel_rfl) rfl #[.slice A0 l0.length c0] rfl qM ?_; (with_reducible refine (laws_toIntS.calls kj35 _ _ l0 t565 _ ?side1 ?side2 A61.out).mono ?_); (case side1 => exact qC (Kd.C_below HR0.out HB.out)); (case side2 => exact HC0.out); rintro e w69 ⟨v566, rfl, ho0, hb⟩; refine ⟨_, rfl, ?_⟩; have HO567 := aM (Kd.R_lower (Kd.R_new' (Kd.R_new' ho0 (Kd.R_lt (qR HO_543003.out))) (Kd.R_lt (qR HO_554003.out))) (below_size (qW HB.out))); replace HO_543003 := aM (Kd.R_elder' (qR HO_543003.out) (Kd.R_base ho0) hb); replace HO_554003 := aM (Kd.R_elder' (qR HO_554003.out) (Kd.R_base ho0) hb); replace BK542 := bB BK542 hb; replace BK553 := bB BK553 hb; replace HB := aM (below_step (qW HB.out) hb); (try clear hb); (try clear hb2); (try clear hk); (try clear hi); (try clear ho0); obtain ⟨Ao70, co70, eo70⟩ := Kd.R_slice HO567.out; subst eo70) | ((with_reducible refine gate_callee (f := 14) rfl ?_); refine goesL_ (some 73) rfl rfl Try.func14 (by kernel_rfl) rfl #[.slice Ao70 t565.length co70] rfl qM ?_; (with_reducible refine (impl_ReadImage.calls kj35 _ _ t565 t568 t569 t570 t571 t574 _ ?side1 ?side2 A62.out).mono ?_); (case side1 => exact qC (Kd.R_reads' HO567.out).2.2); (case side2 => exact (Kd.R_reads' HO567.out).2.1); rintro e w71 ⟨v572, rfl, ho0, hb⟩; refine ⟨_, rfl, ?_⟩; have HO573 := aM (Kd.R_lower (Kd.R_new' (Kd.R_new' (Kd.R_new' ho0 (Kd.R_lt (qR HO_543003.out))) (Kd.R_lt (qR HO_554003.out))) (Kd.R_lt (qR HO567.out))) (below_size (qW HB.out))); replace HO_543003 := aM (Kd.R_elder' (qR HO_543003.out) (Kd.R_base ho0) hb); replace HO_554003 := aM (Kd.R_elder' (qR HO_554003.out) (Kd.R_base ho0) hb); replace HO567 := aM (Kd.R_elder' (qR HO567.out) (Kd.R_base ho0) hb); replace BK542 := bB BK542 hb; replace BK553 := bB BK553 hb; replace HB := aM (below_step (qW HB.out) hb); (try clear hb); (try clear hb2); (try clear hk); (try clear hi); (try clear ho0)) | ((with_reducible refine gate_dst (N := 11) rfl ?_); refine box_event ?hg (N := 11) ?hd (cs := #[.int .i64 0, .int .i64 0, .int .i64 0, .slice none 0 0]) (t := 24) ?hr ?_; (case hd => rfl); (case hg => rfl); (case hr => first | (go_simp; done) | (go_simp; rfl)); intro gb575 hg w72 hbox hb; replace HO_543003 := aM (Kd.R_below (qR HO_543003.out) hb); replace HO_554003 := aM (Kd.R_below (qR HO_554003.out) hb); replace HO567 := aM (Kd.R_below (qR HO567.out) hb); replace HO573 := aM (Kd.R_below (qR HO573.out) hb); have BK575 := aM (hbox); have GW575 := aM ((by rw [hg]; exact (below_size (qW HB.out)) : w.heap.size ≤ gb575)); have GE575 := aM ((by rw [hg]; exact (below_size (qW HB.out)) : w.heap.size ≤ gb575)); replace HB := aM (below_step (qW HB.out) hb); have NB542_575 := aM ((by rw [hg]; exact Nat.ne_of_lt (blk_lt (g := gb542) (o := .cells #[.int .i64 t535, .int .i64 t536, .int .i64 t537, .slice Ao13 t538.length co13] 24 (0, 0)) (qB BK542.out)) : gb542 ≠ gb575)); have NB575_542 := aM ((by rw [hg]; exact Nat.ne_of_gt (blk_lt (g := gb542) (o := .cells #[.int .i64 t535, .int .i64 t536, .int .i64 t537, .slice Ao13 t538.length co13] 24 (0, 0)) (qB BK542.out)) : gb575 ≠ gb542)); replace BK542 := bB BK542 hb; have NB553_575 := aM ((by rw [hg]; exact Nat.ne_of_lt (blk_lt (g := gb553) (o := .cells #[.int .i64 t546, .int .i64 t547, .int .i64 t548, .slice Ao20 t549.length co20] 24 (0, 0)) (qB BK553.out)) : gb553 ≠ gb575)); have NB575_553 := aM ((by rw [hg]; exact Nat.ne_of_gt (blk_lt (g := gb553) (o := .cells #[.int .i64 t546, .int .i64 t547, .int .i64 t548, .slice Ao20 t549.length co20] 24 (0, 0)) (qB BK553.out)) : gb575 ≠ gb553)); replace BK553 := bB BK553 hb; clear hb hbox hg; have hnb73 := NB575_542.out; have hnc73 := NB542_575.out; have hnb74 := NB575_553.out; have hnc74 := NB553_575.out; obtain ⟨hcz75_0, hcz75_1, hcz75_2, hcz75_3⟩ := cz4 BK575.out; obtain ⟨hfz75_0, hfz75_1, hfz75_2, hfz75_3⟩ := fz4 BK575.out; obtain ⟨Ao76, co76, eo76⟩ := Kd.R_slice HO573.out; subst eo76))
     (try simp only [Act.put, List.setIfInBounds_toArray, List.set_cons_zero, List.set_cons_succ])
     go_cut [84] (fun v84 wc => ∃ (kq : Nat) (x84_62 : Bool), v84 = .bool x84_62 ∧ Aside0 (laws_FnExactReadImage.j2 kq t562 x84_62 t546 t547 t548 t563 = some r) ∧ Aside0 (kq ≤ kj35) ∧ Aside0 (Kd.R (Kd.int .i64) 3 wc w.heap.size (fun k_ => some k_ ≠ ((.slice Ao20 t549.length co20) : Value).ownBlock ∧ some k_ ≠ ((.slice Ao76 t571.length co76) : Value).ownBlock) (.slice Ao13 t538.length co13) t538) ∧ Aside0 (Kd.R (Kd.int .i64) 3 wc w.heap.size (fun k_ => some k_ ≠ ((.slice Ao13 t538.length co13) : Value).ownBlock ∧ some k_ ≠ ((.slice Ao76 t571.length co76) : Value).ownBlock) (.slice Ao20 t549.length co20) t563) ∧ Aside0 (Kd.R (Kd.int .i64) 3 wc w.heap.size (fun k_ => some k_ ≠ ((.slice Ao13 t538.length co13) : Value).ownBlock ∧ some k_ ≠ ((.slice Ao20 t549.length co20) : Value).ownBlock) (.slice Ao76 t571.length co76) t571) ∧ Aside0 (wc.heap[gb542]? = some (.cells #[.int .i64 t535, .int .i64 t536, .int .i64 t537, (.slice Ao13 t538.length co13)] 24 (0, 0))) ∧ Aside0 (wc.heap[gb553]? = some (.cells #[.int .i64 t546, .int .i64 t547, .int .i64 t548, (.slice Ao20 t549.length co20)] 24 (0, 0))) ∧ Aside0 (wc.heap[gb575]? = some (.cells #[.int .i64 t568, .int .i64 t569, .int .i64 t570, (.slice Ao76 t571.length co76)] 24 (0, 0))) ∧ Aside0 (Below w.heap.size w wc))
     case first =>
      have H := HC63.out
      clear HC63
      replace H := Option.bind_eq_some_iff.mp H
      obtain ⟨t576, A770, H⟩ := H
      replace H : (if t576 = true then (laws_FnExactReadImage.j2 kj35 t562 (t574 != t541) t546 t547 t548 t563) else (laws_FnExactReadImage.j2 kj35 t562 true t546 t547 t548 t563)) = some r := H
      have A77 := aM A770
      clear A770
      by_cases c78 : t576 = true
      ·
       subst c78
       have H1 : (laws_FnExactReadImage.j2 kj35 t562 (t574 != t541) t546 t547 t548 t563) = some r := by rw [if_pos rfl] at H; exact H
       clear H
       have H := H1
       clear H1
       have H' := aM H
       clear H
       have hnb79 := NB575_542.out
       have hnc79 := NB542_575.out
       have hnb80 := NB575_553.out
       have hnc80 := NB553_575.out
       obtain ⟨hcz81_0, hcz81_1, hcz81_2, hcz81_3⟩ := cz4 BK575.out
       obtain ⟨hfz81_0, hfz81_1, hfz81_2, hfz81_3⟩ := fz4 BK575.out
       have hnb82 := NB542_553.out
       have hnc82 := NB553_542.out
       obtain ⟨hcz83_0, hcz83_1, hcz83_2, hcz83_3⟩ := cz4 BK542.out
       obtain ⟨hfz83_0, hfz83_1, hfz83_2, hfz83_3⟩ := fz4 BK542.out
       go_wp2_with (first | ((with_reducible refine gate_callee (f := 15) rfl ?_); refine goesL_ (some 78) rfl rfl Try.func15 (by kernel_rfl) rfl #[.agg #[.int .i64 t568, .int .i64 t569, .int .i64 t570, .slice Ao76 t571.length co76], .agg #[.int .i64 t535, .int .i64 t536, .int .i64 t537, .slice Ao13 t538.length co13]] rfl qM ?_; (with_reducible refine (laws_eqImage.calls kj35 t568 t569 t570 _ _ t571 t535 t536 t537 _ _ t538 true _ ?side1 ?side2 ?side3 ?side4 A77.out).mono ?_); (case side1 => refine (Kd.R_reads' (e := 3) (base := w.heap.size) (ok := fun k_ => (((True ∧ some k_ ≠ (.slice Ao13 t538.length co13 : Value).ownBlock) ∧ some k_ ≠ (.slice Ao20 t549.length co20 : Value).ownBlock) ∧ some k_ ≠ (.slice Ao70 t565.length co70 : Value).ownBlock)) (n := t571.length) (c := co76) ?_).2.2; exact (by refine qR ?_; exact (fr4 HO573 BK575))); (case side2 => exact (Kd.R_reads' HO573.out).2.1); (case side3 => refine (Kd.R_reads' (e := 3) (base := w.heap.size) (ok := fun k_ => ((some k_ ≠ (.slice Ao20 t549.length co20 : Value).ownBlock ∧ some k_ ≠ (.slice Ao70 t565.length co70 : Value).ownBlock) ∧ some k_ ≠ (.slice Ao76 t571.length co76 : Value).ownBlock)) (n := t538.length) (c := co13) ?_).2.2; exact (by refine qR ?_; exact (fr4 HO_543003 BK575))); (case side4 => exact (Kd.R_reads' HO_543003.out).2.1); rintro e w84 ⟨rfl, hb⟩; refine ⟨_, rfl, ?_⟩; replace HO_543003 := aM (Kd.R_below (by refine qR ?_; exact (fr4 HO_543003 BK575)) hb); replace HO_554003 := aM (Kd.R_below (by refine qR ?_; exact (fr4 HO_554003 BK575)) hb); replace HO567 := aM (Kd.R_below (by refine qR ?_; exact (fr4 HO567 BK575)) hb); replace HO573 := aM (Kd.R_below (by refine qR ?_; exact (fr4 HO573 BK575)) hb); replace BK542 := aM (blk_below (g := gb542) (o := .cells #[.int .i64 t535, .int .i64 t536, .int .i64 t537, .slice Ao13 t538.length co13] 24 (0, 0)) (by refine qB ?_; refine blk_far ?_ NB542_575.out _; refine qB ?_; refine blk_far ?_ NB542_575.out _; refine qB ?_; refine blk_far ?_ NB542_575.out _; refine qB ?_; refine blk_far ?_ NB542_575.out _; refine qB ?_; exact BK542.out) hb); replace BK553 := aM (blk_below (g := gb553) (o := .cells #[.int .i64 t546, .int .i64 t547, .int .i64 t548, .slice Ao20 t549.length co20] 24 (0, 0)) (by refine qB ?_; refine blk_far ?_ NB553_575.out _; refine qB ?_; refine blk_far ?_ NB553_575.out _; refine qB ?_; refine blk_far ?_ NB553_575.out _; refine qB ?_; refine blk_far ?_ NB553_575.out _; refine qB ?_; exact BK553.out) hb); replace BK575 := aM (blk_below (g := gb575) (o := .cells #[.int .i64 t568, .int .i64 t569, .int .i64 t570, .slice Ao76 t571.length co76] 24 (0, 0)) (by refine qB ?_; refine blk_put (cs := #[.int .i64 t568, .int .i64 t569, .int .i64 t570, .slice none 0 0]) ?_ 3 _ rfl; refine qB ?_; refine blk_put (cs := #[.int .i64 t568, .int .i64 t569, .int .i64 0, .slice none 0 0]) ?_ 2 _ rfl; refine qB ?_; refine blk_put (cs := #[.int .i64 t568, .int .i64 0, .int .i64 0, .slice none 0 0]) ?_ 1 _ rfl; refine qB ?_; refine blk_put (cs := #[.int .i64 0, .int .i64 0, .int .i64 0, .slice none 0 0]) ?_ 0 _ rfl; refine qB ?_; exact BK575.out) hb); replace HB := aM (below_step (qW HB.out) hb); (try clear hb); (try clear hb2); (try clear hk); (try clear hi)))
       go_meet
       case rel => exact ⟨_, ((t574 != t541)), qE, H', ⟨by have := HJ6.out; have := HJ35.out; first | omega | exact Nat.le_refl _⟩, ⟨by refine qR ?_; exact Kd.R_mono HO_543003.out (fun _ hk => ⟨hk.1.1, hk.2⟩)⟩, ⟨by refine qR ?_; exact Kd.R_mono HO_554003.out (fun _ hk => ⟨hk.1.1, hk.2⟩)⟩, ⟨by refine qR ?_; exact Kd.R_mono HO573.out (fun _ hk => by first | exact ⟨hk.1.1.2, hk.1.2⟩ | (revert hk; simp only [and_imp]; intros; and_intros <;> assumption))⟩, ⟨by refine qB ?_; exact BK542.out⟩, ⟨by refine qB ?_; exact BK553.out⟩, ⟨by refine qB ?_; exact BK575.out⟩, ⟨by exact qW HB.out⟩⟩
      replace c78 := Bool.eq_false_iff.mpr c78
      subst c78
      have H1 : (laws_FnExactReadImage.j2 kj35 t562 true t546 t547 t548 t563) = some r := by rw [if_neg (show ¬ (false = true) by decide)] at H; exact H
      clear H
      have H := H1
      clear H1
      have H' := aM H
      clear H
      have hnb85 := NB575_542.out
      have hnc85 := NB542_575.out
      have hnb86 := NB575_553.out
      have hnc86 := NB553_575.out
      obtain ⟨hcz87_0, hcz87_1, hcz87_2, hcz87_3⟩ := cz4 BK575.out
      obtain ⟨hfz87_0, hfz87_1, hfz87_2, hfz87_3⟩ := fz4 BK575.out
      have hnb88 := NB542_553.out
      have hnc88 := NB553_542.out
      obtain ⟨hcz89_0, hcz89_1, hcz89_2, hcz89_3⟩ := cz4 BK542.out
      obtain ⟨hfz89_0, hfz89_1, hfz89_2, hfz89_3⟩ := fz4 BK542.out
      go_wp2_with (first | ((with_reducible refine gate_callee (f := 15) rfl ?_); refine goesL_ (some 78) rfl rfl Try.func15 (by kernel_rfl) rfl #[.agg #[.int .i64 t568, .int .i64 t569, .int .i64 t570, .slice Ao76 t571.length co76], .agg #[.int .i64 t535, .int .i64 t536, .int .i64 t537, .slice Ao13 t538.length co13]] rfl qM ?_; (with_reducible refine (laws_eqImage.calls kj35 t568 t569 t570 _ _ t571 t535 t536 t537 _ _ t538 false _ ?side1 ?side2 ?side3 ?side4 A77.out).mono ?_); (case side1 => refine (Kd.R_reads' (e := 3) (base := w.heap.size) (ok := fun k_ => (((True ∧ some k_ ≠ (.slice Ao13 t538.length co13 : Value).ownBlock) ∧ some k_ ≠ (.slice Ao20 t549.length co20 : Value).ownBlock) ∧ some k_ ≠ (.slice Ao70 t565.length co70 : Value).ownBlock)) (n := t571.length) (c := co76) ?_).2.2; exact (by refine qR ?_; exact (fr4 HO573 BK575))); (case side2 => exact (Kd.R_reads' HO573.out).2.1); (case side3 => refine (Kd.R_reads' (e := 3) (base := w.heap.size) (ok := fun k_ => ((some k_ ≠ (.slice Ao20 t549.length co20 : Value).ownBlock ∧ some k_ ≠ (.slice Ao70 t565.length co70 : Value).ownBlock) ∧ some k_ ≠ (.slice Ao76 t571.length co76 : Value).ownBlock)) (n := t538.length) (c := co13) ?_).2.2; exact (by refine qR ?_; exact (fr4 HO_543003 BK575))); (case side4 => exact (Kd.R_reads' HO_543003.out).2.1); rintro e w90 ⟨rfl, hb⟩; refine ⟨_, rfl, ?_⟩; replace HO_543003 := aM (Kd.R_below (by refine qR ?_; exact (fr4 HO_543003 BK575)) hb); replace HO_554003 := aM (Kd.R_below (by refine qR ?_; exact (fr4 HO_554003 BK575)) hb); replace HO567 := aM (Kd.R_below (by refine qR ?_; exact (fr4 HO567 BK575)) hb); replace HO573 := aM (Kd.R_below (by refine qR ?_; exact (fr4 HO573 BK575)) hb); replace BK542 := aM (blk_below (g := gb542) (o := .cells #[.int .i64 t535, .int .i64 t536, .int .i64 t537, .slice Ao13 t538.length co13] 24 (0, 0)) (by refine qB ?_; refine blk_far ?_ NB542_575.out _; refine qB ?_; refine blk_far ?_ NB542_575.out _; refine qB ?_; refine blk_far ?_ NB542_575.out _; refine qB ?_; refine blk_far ?_ NB542_575.out _; refine qB ?_; exact BK542.out) hb); replace BK553 := aM (blk_below (g := gb553) (o := .cells #[.int .i64 t546, .int .i64 t547, .int .i64 t548, .slice Ao20 t549.length co20] 24 (0, 0)) (by refine qB ?_; refine blk_far ?_ NB553_575.out _; refine qB ?_; refine blk_far ?_ NB553_575.out _; refine qB ?_; refine blk_far ?_ NB553_575.out _; refine qB ?_; refine blk_far ?_ NB553_575.out _; refine qB ?_; exact BK553.out) hb); replace BK575 := aM (blk_below (g := gb575) (o := .cells #[.int .i64 t568, .int .i64 t569, .int .i64 t570, .slice Ao76 t571.length co76] 24 (0, 0)) (by refine qB ?_; refine blk_put (cs := #[.int .i64 t568, .int .i64 t569, .int .i64 t570, .slice none 0 0]) ?_ 3 _ rfl; refine qB ?_; refine blk_put (cs := #[.int .i64 t568, .int .i64 t569, .int .i64 0, .slice none 0 0]) ?_ 2 _ rfl; refine qB ?_; refine blk_put (cs := #[.int .i64 t568, .int .i64 0, .int .i64 0, .slice none 0 0]) ?_ 1 _ rfl; refine qB ?_; refine blk_put (cs := #[.int .i64 0, .int .i64 0, .int .i64 0, .slice none 0 0]) ?_ 0 _ rfl; refine qB ?_; exact BK575.out) hb); replace HB := aM (below_step (qW HB.out) hb); (try clear hb); (try clear hb2); (try clear hk); (try clear hi)))
      go_meet
      case rel => exact ⟨_, (true), qE, H', ⟨by have := HJ6.out; have := HJ35.out; first | omega | exact Nat.le_refl _⟩, ⟨by refine qR ?_; exact Kd.R_mono HO_543003.out (fun _ hk => ⟨hk.1.1, hk.2⟩)⟩, ⟨by refine qR ?_; exact Kd.R_mono HO_554003.out (fun _ hk => ⟨hk.1.1, hk.2⟩)⟩, ⟨by refine qR ?_; exact Kd.R_mono HO573.out (fun _ hk => by first | exact ⟨hk.1.1.2, hk.1.2⟩ | (revert hk; simp only [and_imp]; intros; and_intros <;> assumption))⟩, ⟨by refine qB ?_; exact BK542.out⟩, ⟨by refine qB ?_; exact BK553.out⟩, ⟨by refine qB ?_; exact BK575.out⟩, ⟨by exact qW HB.out⟩⟩
     case rest =>
      clear HC63
      try clear c1
      try clear c2
      try clear c2b0
      try clear c2b1
      try clear p2
      try clear c3
      try clear c4
      try clear c5
      try clear c6
      try clear c7
      try clear c8
      try clear c12
      try clear c13
      try clear c14
      try clear c15
      try clear c16
      try clear c17
      try clear c18
      try clear c19
      try clear c22
      try clear c23
      try clear c27
      try clear c31
      try clear c34
      try clear c40
      try clear c40b0
      try clear c42
      try clear c43
      try clear c47
      try clear c51
      try clear c54
      try clear c54b0
      try clear c55
      try clear c60
      try clear c60b0
      try clear c60b1
      try clear c64
      try clear c73
      try clear c74
      try clear c78
      try clear c79
      try clear c80
      try clear c82
      try clear c85
      try clear c86
      try clear c88
      try clear hcz12_0 hcz12_1 hcz12_2 hcz12_3 hfz12_0 hfz12_1 hfz12_2 hfz12_3
      try clear hcz19_0 hcz19_1 hcz19_2 hcz19_3 hfz19_0 hfz19_1 hfz19_2 hfz19_3
      try clear hcz24_0 hcz24_1 hcz24_2 hcz24_3 hfz24_0 hfz24_1 hfz24_2 hfz24_3
      try clear hcz25_0 hcz25_1 hcz25_2 hcz25_3 hfz25_0 hfz25_1 hfz25_2 hfz25_3
      try clear hcz28_0 hcz28_1 hcz28_2 hcz28_3 hfz28_0 hfz28_1 hfz28_2 hfz28_3
      try clear hcz29_0 hcz29_1 hcz29_2 hcz29_3 hfz29_0 hfz29_1 hfz29_2 hfz29_3
      try clear hcz44_0 hcz44_1 hcz44_2 hcz44_3 hfz44_0 hfz44_1 hfz44_2 hfz44_3
      try clear hcz45_0 hcz45_1 hcz45_2 hcz45_3 hfz45_0 hfz45_1 hfz45_2 hfz45_3
      try clear hcz48_0 hcz48_1 hcz48_2 hcz48_3 hfz48_0 hfz48_1 hfz48_2 hfz48_3
      try clear hcz49_0 hcz49_1 hcz49_2 hcz49_3 hfz49_0 hfz49_1 hfz49_2 hfz49_3
      try clear hcz56_0 hcz56_1 hcz56_2 hcz56_3 hfz56_0 hfz56_1 hfz56_2 hfz56_3
      try clear hcz58_0 hcz58_1 hcz58_2 hcz58_3 hfz58_0 hfz58_1 hfz58_2 hfz58_3
      try clear hcz65_0 hcz65_1 hcz65_2 hcz65_3 hfz65_0 hfz65_1 hfz65_2 hfz65_3
      try clear hcz67_0 hcz67_1 hcz67_2 hcz67_3 hfz67_0 hfz67_1 hfz67_2 hfz67_3
      try clear hcz75_0 hcz75_1 hcz75_2 hcz75_3 hfz75_0 hfz75_1 hfz75_2 hfz75_3
      try clear hcz81_0 hcz81_1 hcz81_2 hcz81_3 hfz81_0 hfz81_1 hfz81_2 hfz81_3
      try clear hcz83_0 hcz83_1 hcz83_2 hcz83_3 hfz83_0 hfz83_1 hfz83_2 hfz83_3
      try clear hcz87_0 hcz87_1 hcz87_2 hcz87_3 hfz87_0 hfz87_1 hfz87_2 hfz87_3
      try clear hcz89_0 hcz89_1 hcz89_2 hcz89_3 hfz89_0 hfz89_1 hfz89_2 hfz89_3
      try clear p2
      obtain ⟨kq, x84_62, rfl, HA, HJ62, HO_543003, HO_554003, HO_576003, BK542, BK553, BK575, HB⟩ := hcut
      have hl554003_62 := (Kd.R_reads' HO_554003.out).1
      rw [hl554003_62] at HO_554003
      (try simp only [hl554003_62])
      (try simp only [hl554003_62] at BK542)
      (try simp only [hl554003_62] at BK553)
      (try simp only [hl554003_62] at BK575)
      (try simp only [hl554003_62] at HO_543003)
      (try simp only [hl554003_62] at HO_576003)
      cases kq with
      | zero => exact absurd HA.out (by simp [laws_FnExactReadImage.j2])
      | succ kj62 =>
       have H := HA.out
       clear HA
       simp only [laws_FnExactReadImage.j2] at H
       by_cases c91 : x84_62 = true
       ·
        subst c91
        have H1 : (some false) = some r := by rw [if_pos rfl] at H; exact H
        clear H
        have H := H1
        clear H1
        obtain rfl := Option.some.inj H
        exact absurd hrt (by decide)
       replace c91 := Bool.eq_false_iff.mpr c91
       subst c91
       have H1 : ((laws_heldImage.f kj62 t546 t547 t548 t563 1).bind fun t577 => (if t577 < 0 then (some false) else (if t577 = t562 then (some true) else (some false)))) = some r := by rw [if_neg (show ¬ (false = true) by decide)] at H; exact H
       clear H
       have H := H1
       clear H1
       replace H := Option.bind_eq_some_iff.mp H
       obtain ⟨t577, A920, H⟩ := H
       replace H : (if t577 < 0 then (some false) else (if t577 = t562 then (some true) else (some false))) = some r := H
       have A92 := aM A920
       clear A920
       by_cases c93 : t577 < 0
       ·
        rw [if_pos c93] at H
        have c93b0 : decide (t577 < 0) = true := decide_eq_true c93
        clear c93
        obtain rfl := Option.some.inj H
        exact absurd hrt (by decide)
       rw [if_neg c93] at H
       have c93b0 : decide (t577 < 0) = false := decide_eq_false c93
       clear c93
       by_cases c98 : t577 = t562
       rotate_left
       ·
        rw [if_neg c98] at H
        have c98b0 : (t577 == t562) = false := beq_eq_false_iff_ne.mpr c98
        have c98b1 : (t577 != t562) = true := bne_iff_ne.mpr c98
        obtain rfl := Option.some.inj H
        exact absurd hrt (by decide)
       rw [if_pos c98] at H
       have c98b0 : (t577 == t562) = true := beq_iff_eq.mpr c98
       have c98b1 : (t577 != t562) = false := bne_eq_false_iff_eq.mpr c98
       clear c98
       obtain rfl := Option.some.inj H
       have hnb99 := NB553_542.out
       have hnc99 := NB542_553.out
       have hnb100 := NB553_575.out
       have hnc100 := NB575_553.out
       obtain ⟨hcz101_0, hcz101_1, hcz101_2, hcz101_3⟩ := cz4 BK553.out
       obtain ⟨hfz101_0, hfz101_1, hfz101_2, hfz101_3⟩ := fz4 BK553.out
       go_wp2_with (first | ((with_reducible refine gate_callee (f := 19) rfl ?_); refine goesL_ (some 87) rfl rfl Try.func19 (by kernel_rfl) rfl #[.agg #[.int .i64 t546, .int .i64 t547, .int .i64 t548, .slice Ao20 t563.length co20], .int .i64 1] rfl qM ?_; (with_reducible refine (laws_heldImage.calls kj62 t546 t547 t548 _ _ t563 1 t577 _ ?side1 ?side2 A92.out).mono ?_); (case side1 => exact qC (Kd.R_reads' HO_554003.out).2.2); (case side2 => exact (Kd.R_reads' HO_554003.out).2.1); rintro e w102 ⟨rfl, hb⟩; refine ⟨_, rfl, ?_⟩; replace HO_543003 := aM (Kd.R_below (qR HO_543003.out) hb); replace HO_554003 := aM (Kd.R_below (qR HO_554003.out) hb); replace HO_576003 := aM (Kd.R_below (qR HO_576003.out) hb); replace BK542 := bB BK542 hb; replace BK553 := bB BK553 hb; replace BK575 := bB BK575 hb; replace HB := aM (below_step (qW HB.out) hb); (try clear hb); (try clear hb2); (try clear hk); (try clear hi)))
       go_ret
       exact ⟨qX, by exact qW HB.out⟩
/-- THE ONE PURE STATEMENT of laws_FnExactReadImage: yours. -/
def laws_FnExactReadImage.Pure : Prop := ∀ (l0 : List Int), l0.length ≤ maxLen → l0.length * 8 ≤ 140737488351232 → (∀ x ∈ l0, (Lit.int .i64 x).wf = true) → ∃ k, laws_FnExactReadImage.f k l0 = some true
theorem laws_FnExactReadImage.walk (P : laws_FnExactReadImage.Pure) (a0 : Option Addr) (len0 cap0 : Nat) (z0 : List Int) (w : World) (w0 : (a0 = none ∧ len0 = 0 ∧ cap0 = 0 ∧ z0 = []) ∨ ∃ x, a0 = some x ∧ len0 ≤ cap0 ∧ cap0 ≤ maxLen ∧ z0.length = cap0 ∧ (∀ i, i < z0.length → w.cell? (x.add i) = some (.int .i64 (z0.getD i 0))) ∧ ∀ n ∈ z0, (Lit.int .i64 n).wf = true) (y0 : len0 * 8 ≤ 140737488351232) :
  Calls Try.prog 3 #[.slice a0 len0 cap0] w fun e w' => e = .returned (.bool true) ∧ Below w.heap.size w w' := by
 obtain ⟨l0, rfl, hr0, hm0, hw0, hc0⟩ := ReadsInt.ofRowC w0
 obtain ⟨k, h⟩ := P l0 hm0 y0 hw0
 refine (laws_FnExactReadImage.calls k _ _ l0 true w (Kd.C_of_reads (d := (0 : Int)) (h1 := fun _ => rfl) hr0) hc0 h rfl).mono ?_
 rintro e w' ⟨rfl, hd⟩
 exact ⟨rfl, hd⟩

end Go.Proofs.Ytchahbdmdcllaaa.P
