/- Contracts and row, written by a program of this place out of the translation: the call answers true and its argument reads as before, for every input; no condition. -/
import Derived.Test.YteeeedmmcdlhjaaK0
import Derived.Test.YteeeedmmcdlhjaaK1
import Derived.Test.YteeeedmmcdlhjaaK2
import Derived.Test.YteeeedmmcdlhjaaK3
import Derived.Test.YteeeedmmcdlhjaaK4
namespace Go.Proofs.Yteeeedmmcdlhjaa.P
open Go.RowKit Go.Proofs.YteeeedmmcdlhjaaW.PrintWords Go.Proofs.YteeeedmmcdlhjaaW.PrintLast Go.Proofs.YteeeedmmcdlhjaaW.PrintMore
attribute [local go_sem] max2_int min2_int max_two min_two max_three min_three max_four min_four   -- for this text's walks alone
set_option linter.unusedVariables false
set_option linter.unusedSimpArgs false
def spec_DrawDiffuseImage.f (k : Nat) (l0 : List Int) : Option (Int × Int × Int × List Int × Int) := (spec_newReader.f l0).bind fun bt447 => ((spec_grayImage.f k bt447.1 bt447.2).bind fun bt450 => ((spec_anyLevels.f k bt447.1 bt450.2.2.2.2).bind fun bt458 => (some (bt450.1, bt450.2.1, bt450.2.2.1, bt450.2.2.2.1, bt458.1))))
theorem spec_DrawDiffuseImage.mono : ∀ a0 k, LeO (spec_DrawDiffuseImage.f k a0) (spec_DrawDiffuseImage.f (k + 1) a0) := by
 intro a0 k
 unfold spec_DrawDiffuseImage.f
 repeat' first | (with_reducible first | exact spec_anyLevels.mono _ _ _ | exact spec_grayImage.mono _ _ _ | exact lR | exact lN | refine lI ?_ ?_ | refine lB ?_ fun _ => ?_) | exact spec_anyLevels.mono _ _ _ | exact spec_grayImage.mono _ _ _ | exact lN | refine lI ?_ ?_ | refine lB ?_ fun _ => ?_
set_option maxHeartbeats 8000000 in
set_option maxRecDepth 100000 in
theorem spec_DrawDiffuseImage.calls (k : Nat) (A0 : Option Addr) (c0 : Nat) (l0 : List Int) (r1 : Int) (r2 : Int) (r3 : Int) (r4 : List Int) (r5 : Int) (w : World) (hr0 : Kd.C (Kd.int .u8) w A0 l0.length l0) (hc0 : l0.length ≤ c0) (h : spec_DrawDiffuseImage.f k l0 = some (r1, r2, r3, r4, r5)) :
  Calls Try.prog 29 #[.slice A0 l0.length c0] w fun e w' => ∃ v3_ : Value, e = .returned (.tuple #[.agg #[.int .i64 r1, .int .i64 r2, .int .i64 r3, v3_], .int .i64 r5]) ∧ Kd.Q (Kd.int .i64) 3 w' w.heap.size (fun _ => True) v3_ r4 ∧ Below w.heap.size w w' := by
 have hu27 := Try.underlying27
 have HR0 := aM hr0
 have HC0 := aM hc0
 clear hr0 hc0
 have HB := aM (Below.refl w.heap.size w)
 unfold spec_DrawDiffuseImage.f at h
 have H := h
 clear h
 replace H := Option.bind_eq_some_iff.mp H
 obtain ⟨⟨t447, t448⟩, A20, H⟩ := H
 replace H : ((spec_grayImage.f k t447 t448).bind fun bt450 => ((spec_anyLevels.f k t447 bt450.2.2.2.2).bind fun bt458 => (some (bt450.1, bt450.2.1, bt450.2.2.1, bt450.2.2.2.1, bt458.1)))) = some (r1, r2, r3, r4, r5) := H
 have A2 := aM A20
 clear A20
 replace H := Option.bind_eq_some_iff.mp H
 obtain ⟨⟨t450, t451, t452, t453, t456⟩, A30, H⟩ := H
 replace H : ((spec_anyLevels.f k t447 t456).bind fun bt458 => (some (t450, t451, t452, t453, bt458.1))) = some (r1, r2, r3, r4, r5) := H
 have A3 := aM A30
 clear A30
 replace H := Option.bind_eq_some_iff.mp H
 obtain ⟨⟨t458, t459⟩, A40, H⟩ := H
 replace H : (some (t450, t451, t452, t453, t458)) = some (r1, r2, r3, r4, r5) := H
 have A4 := aM A40
 clear A40
 simp only [Option.some.injEq, Prod.mk.injEq] at H
 obtain ⟨rfl, rfl, rfl, rfl, rfl⟩ := H
 go_enter Try.func29, Try.ntmps29
 try go_wp2_with (first | ((with_reducible refine gate_dst (N := 2) rfl ?_); refine bxE (N := 2) (cs := #[.int .i64 0, .int .i64 0, .int .i64 0, .slice none 0 0]) (t := 27) ?_; intro gb446 hg w5 hbox hb; have BK446 := aM (hbox); have GW446 := gW hg HB; have GE446 := gW hg HB; replace HB := bS HB hb; clear hb hbox hg) | ((with_reducible refine gate_callee (f := 42) rfl ?_); refine gL (some 7) Try.func42 #[.slice A0 l0.length c0] ?_; (with_reducible refine (spec_newReader.calls _ _ l0 t447 t448 w _ ?side1 ?side2 ?side3 A2.out).mono ?_); (case side1 => exact qW HB.out); (case side2 => exact HR0.out); (case side3 => exact HC0.out); rintro e w6 ⟨g449, rfl, hi, hb, hb2⟩; refine ⟨_, rfl, ?_⟩; replace HB := aM (hb); have HI449 := aM (hi); have NB449_446 := aM (IsS85.ne_blk hi (blk_below (g := gb446) (o := .cells #[.int .i64 0, .int .i64 0, .int .i64 0, .slice none 0 0] 27 (0, 0)) (qB BK446.out) hb2) (by decide)); have NB446_449 := aM (Ne.symm (IsS85.ne_blk hi (blk_below (g := gb446) (o := .cells #[.int .i64 0, .int .i64 0, .int .i64 0, .slice none 0 0] 27 (0, 0)) (qB BK446.out) hb2) (by decide))); replace BK446 := bB BK446 hb2; clear hb hb2 hi) | ((with_reducible refine gate_callee (f := 46) rfl ?_); refine gL (some 9) Try.func46 #[.pointer (some ⟨g449, 0, none⟩)] ?_; (with_reducible refine (spec_grayImage.calls k g449 t447 t448 t450 t451 t452 t453 t456 w _ ?side1 ?side2 A3.out).mono ?_); (case side1 => exact iS85 HI449.out); (case side2 => exact wS85 HB.out); rintro e w7 ⟨v454, rfl, ho0, hi, hb, hk⟩; refine ⟨_, rfl, ?_⟩; replace BK446 := bK hk BK446 NB446_449; have HO455 := aM (Kd.Q_lower ho0 (below_size (wS85 HB.out))); replace HB := aM (hb); replace HI449 := aM (hi); clear hb hk hi ho0) | ((with_reducible refine gate_dst (N := 5) rfl ?_); refine bxE (N := 5) (cs := #[.int .i64 0, .int .i64 0, .int .i64 0, .slice none 0 0]) (t := 27) ?_; intro gb457 hg w8 hbox hb; replace HO455 := aM (Kd.Q_below (qQ HO455.out) hb); have BK457 := aM (hbox); have GW457 := aM ((by rw [hg]; exact (below_size (wS85 HB.out)) : w.heap.size ≤ gb457)); have GE457 := aM ((by rw [hg]; exact (below_size (wS85 HB.out)) : w.heap.size ≤ gb457)); replace HB := aM (below_step (wS85 HB.out) hb); have NB446_457 := nL hg BK446; have NB457_446 := nG hg BK446; replace BK446 := bB BK446 hb; have NB449_457 := aM ((by rw [hg]; exact Nat.ne_of_lt (IsS85.lt (show IsS85 w _ g449 t447 t456 from iS85 HI449.out)) : g449 ≠ gb457)); have NB457_449 := aM ((by rw [hg]; exact Nat.ne_of_gt (IsS85.lt (show IsS85 w _ g449 t447 t456 from iS85 HI449.out)) : gb457 ≠ g449)); replace HI449 := aM (IsS85.below (iS85 HI449.out) hb); clear hb hbox hg; have hnb9 := NB457_446.out; have hnc9 := NB446_457.out; have hnb10 := NB457_449.out; have hnc10 := NB449_457.out; obtain ⟨⟨hcz11_0, hcz11_1, hcz11_2, hcz11_3⟩, hfz11_0, hfz11_1, hfz11_2, hfz11_3⟩ := cf4 BK457; obtain ⟨Ao12, co12, eo12, _⟩ := Kd.Q_slice HO455.out; subst eo12))
 have n0_ : Aside0 (Kd.Q (Kd.int .i64) 3 ((((w8.setCell ⟨gb457, 0, none⟩ (.int .i64 t450)).setCell ⟨gb457, 1, none⟩ (.int .i64 t451)).setCell ⟨gb457, 2, none⟩ (.int .i64 t452)).setCell ⟨gb457, 3, none⟩ (.slice Ao12 t453.length co12)) w.heap.size (fun _ => True) (.slice Ao12 t453.length co12) t453) := ⟨by (with_reducible repeat (first | apply Kd.Q_alloc | apply Kd.Q_drewN | apply Kd.Q_drew)); exact Kd.Q_mono (qT HO455 BK457) (fun _ hk => trivial)⟩
 have n1_ : Aside0 (((((w8.setCell ⟨gb457, 0, none⟩ (.int .i64 t450)).setCell ⟨gb457, 1, none⟩ (.int .i64 t451)).setCell ⟨gb457, 2, none⟩ (.int .i64 t452)).setCell ⟨gb457, 3, none⟩ (.slice Ao12 t453.length co12)).heap[gb446]? = some (.cells #[.int .i64 0, .int .i64 0, .int .i64 0, .slice none 0 0] 27 (0, 0))) := ⟨by refine qB ?_; refine blk_far ?_ NB446_457.out _; refine qB ?_; refine blk_far ?_ NB446_457.out _; refine qB ?_; refine blk_far ?_ NB446_457.out _; refine qB ?_; refine blk_far ?_ NB446_457.out _; refine qB ?_; exact BK446.out⟩
 have n2_ : Aside0 (((((w8.setCell ⟨gb457, 0, none⟩ (.int .i64 t450)).setCell ⟨gb457, 1, none⟩ (.int .i64 t451)).setCell ⟨gb457, 2, none⟩ (.int .i64 t452)).setCell ⟨gb457, 3, none⟩ (.slice Ao12 t453.length co12)).heap[gb457]? = some (.cells #[.int .i64 t450, .int .i64 t451, .int .i64 t452, .slice Ao12 t453.length co12] 27 (0, 0))) := ⟨by exact bP BK457.out⟩
 have n3_ : Aside0 (IsS85 w ((((w8.setCell ⟨gb457, 0, none⟩ (.int .i64 t450)).setCell ⟨gb457, 1, none⟩ (.int .i64 t451)).setCell ⟨gb457, 2, none⟩ (.int .i64 t452)).setCell ⟨gb457, 3, none⟩ (.slice Ao12 t453.length co12)) g449 t447 t456) := ⟨iS85 HI449.out⟩
 have n4_ : Aside0 (Below w.heap.size w ((((w8.setCell ⟨gb457, 0, none⟩ (.int .i64 t450)).setCell ⟨gb457, 1, none⟩ (.int .i64 t451)).setCell ⟨gb457, 2, none⟩ (.int .i64 t452)).setCell ⟨gb457, 3, none⟩ (.slice Ao12 t453.length co12))) := ⟨wS85 HB.out⟩
 (try clear HO455)
 (try clear BK446)
 (try clear BK457)
 (try clear HI449)
 (try clear HB)
 generalize ((((w8.setCell ⟨gb457, 0, none⟩ (.int .i64 t450)).setCell ⟨gb457, 1, none⟩ (.int .i64 t451)).setCell ⟨gb457, 2, none⟩ (.int .i64 t452)).setCell ⟨gb457, 3, none⟩ (.slice Ao12 t453.length co12)) = w13 at n0_ n1_ n2_ n3_ n4_ ⊢
 have HO455 := n0_
 have BK446 := n1_
 have BK457 := n2_
 have HI449 := n3_
 have HB := n4_
 clear n0_ n1_ n2_ n3_ n4_
 replace HO455 := aM (Kd.Q_drew HO455.out)
 replace BK446 := aM (blk_drew BK446.out)
 replace BK457 := aM (blk_drew BK457.out)
 replace HI449 := aM (IsS85.drew HI449.out)
 replace HB := aM (below_drew1 HB.out)
 refine start_ (n := 5) (S := fun w' => w'.cell? ⟨gb457, 0, none⟩ = some (.int .i64 t450) ∧ w'.cell? ⟨gb457, 1, none⟩ = some (.int .i64 t451) ∧ w'.cell? ⟨gb457, 2, none⟩ = some (.int .i64 t452) ∧ w'.cell? ⟨gb457, 3, none⟩ = some (.slice Ao12 t453.length co12)) (ds := []) (bA 5 0) (by kernel_rfl) rfl rfl ⟨(blk_cell BK457.out 0).trans rfl, (blk_cell BK457.out 1).trans rfl, (blk_cell BK457.out 2).trans rfl, (blk_cell BK457.out 3).trans rfl⟩ (fun hHeld => ?_)
 generalize w13.drew = w14 at HO455 BK446 BK457 HI449 HB hHeld ⊢
 refine pure_ (i := 1) (N := some 11) (v := ?_) (a' := ?_) (bA 5 2) rfl rfl (by kernel_rfl) (fun _ _ _ h => h) (Or.inl ⟨by rfl, ?_⟩) ?_ ?_
 rotate_left
 ·intro w'
  go_simp
  with_reducible rfl
 rotate_left
 ·refine pZ ?_
  rfl
 refine take_ (i := 0) (N := some 10) (v := ?_) (a' := ?_) (bA 5 3) rfl rfl (by kernel_rfl) (fun _ _ _ h => h) (Or.inl ⟨by rfl, ?_⟩) hHeld ?_ ?_
 rotate_left
 ·rintro w' ⟨s0, s1, s2, s3⟩
  go_simp
  with_reducible rfl
 rotate_left
 ·refine pZ ?_
  rfl
 refine one_ (i := 2) (N := some 12) (bA 5 7) rfl rfl (by kernel_rfl) (by decide) (fun K hK => ?_)
 refine goes_ Try.func75 (by kernel_rfl) rfl #[.pointer (some ⟨g449, 0, none⟩)] (by rfl) rfl rfl qM ?_
 with_reducible refine (spec_anyLevels.calls k g449 t447 t456 t458 t459 w _ ?side1 ?side2 A4.out).mono ?_
 (case side1 => exact iS85 HI449.out)
 (case side2 => exact wS85 HB.out)
 rintro e w15 ⟨rfl, hi, hb, hk⟩
 refine ⟨_, rfl, ?_⟩
 replace BK446 := bK hk BK446 NB446_449
 replace HO455 := aM (Kd.Q_mono (Kd.Q_keep (IsS85.apartQ (show IsS85 w _ g449 t447 t456 from iS85 HI449.out) (qQ HO455.out) (by decide)) hk (fun _ h => h.2)) (fun _ h => h.1))
 replace BK457 := bK hk BK457 NB457_449
 replace HB := aM (hb)
 replace HI449 := aM (hi)
 (try clear hb)
 (try clear hb2)
 (try clear hk)
 (try clear hi)
 refine hK.out _ _ ⟨(blk_cell BK457.out 0).trans rfl, (blk_cell BK457.out 1).trans rfl, (blk_cell BK457.out 2).trans rfl, (blk_cell BK457.out 3).trans rfl⟩ (fun hHeld => ?_)
 clear hK K
 refine norm_ (a' := ?_) ?_ ?_
 rotate_left
 ·show Act.put _ (some 12) _ = _
  refine pZ ?_
  rfl
 refine one_ (i := 3) (N := none) (bA 5 15) rfl rfl (by kernel_rfl) (by decide) (fun K hK => ?_)
 have hs16 : w15.cell? ⟨gb446, 0, none⟩ = some (.int .i64 0) := (blk_cell BK446.out 0).trans rfl
 have hfs16 := blk_frozen BK446.out 0
 have hns16_1 := NB457_446.out
 have hms16_1 := NB446_457.out
 have hs17 : w15.cell? ⟨gb446, 1, none⟩ = some (.int .i64 0) := (blk_cell BK446.out 1).trans rfl
 have hfs17 := blk_frozen BK446.out 1
 have hns17_1 := NB457_446.out
 have hms17_1 := NB446_457.out
 have hs18 : w15.cell? ⟨gb446, 2, none⟩ = some (.int .i64 0) := (blk_cell BK446.out 2).trans rfl
 have hfs18 := blk_frozen BK446.out 2
 have hns18_1 := NB457_446.out
 have hms18_1 := NB446_457.out
 have hs19 : w15.cell? ⟨gb446, 3, none⟩ = some (.slice none 0 0) := (blk_cell BK446.out 3).trans rfl
 have hfs19 := blk_frozen BK446.out 3
 have hns19_1 := NB457_446.out
 have hms19_1 := NB446_457.out
 refine skip_ (w1 := ?_) (by rfl) rfl ?_ ?_
 rotate_left
 ·go_simp
  rfl
 refine hK.out _ _ ⟨((cell_far (p := ⟨gb446, _, none⟩) NB457_446.out _).trans (((cell_far (p := ⟨gb446, _, none⟩) NB457_446.out _).trans (((cell_far (p := ⟨gb446, _, none⟩) NB457_446.out _).trans (((cell_far (p := ⟨gb446, _, none⟩) NB457_446.out _).trans (hHeld.1)))))))), ((cell_far (p := ⟨gb446, _, none⟩) NB457_446.out _).trans (((cell_far (p := ⟨gb446, _, none⟩) NB457_446.out _).trans (((cell_far (p := ⟨gb446, _, none⟩) NB457_446.out _).trans (((cell_far (p := ⟨gb446, _, none⟩) NB457_446.out _).trans (hHeld.2.1)))))))), ((cell_far (p := ⟨gb446, _, none⟩) NB457_446.out _).trans (((cell_far (p := ⟨gb446, _, none⟩) NB457_446.out _).trans (((cell_far (p := ⟨gb446, _, none⟩) NB457_446.out _).trans (((cell_far (p := ⟨gb446, _, none⟩) NB457_446.out _).trans (hHeld.2.2.1)))))))), ((cell_far (p := ⟨gb446, _, none⟩) NB457_446.out _).trans (((cell_far (p := ⟨gb446, _, none⟩) NB457_446.out _).trans (((cell_far (p := ⟨gb446, _, none⟩) NB457_446.out _).trans (((cell_far (p := ⟨gb446, _, none⟩) NB457_446.out _).trans (hHeld.2.2.2))))))))⟩ (fun hHeld => ?_)
 clear hK K
 refine pure_ (i := 4) (N := some 3) (v := ?_) (a' := ?_) (bA 5 31) rfl rfl (by kernel_rfl) (fun _ _ _ h => h) (Or.inl ⟨by rfl, ?_⟩) ?_ ?_
 rotate_left
 ·intro w'
  go_simp
  with_reducible rfl
 rotate_left
 ·refine pZ ?_
  rfl
 refine done_ (by kernel_rfl) ?_
 try go_wp2
 refine bodyPost_ret (results_ct rfl _ _ gb446 27 #[.int .i64 t450, .int .i64 t451, .int .i64 t452, .slice Ao12 t453.length co12] (0, 0) _ rfl (by exact bP BK446.out) Try.underlying27 rfl (by kernel_rfl)) rfl ?_
 exact ⟨_, qX, by (with_reducible repeat (first | apply Kd.Q_alloc | apply Kd.Q_drewN | apply Kd.Q_drew)); exact Kd.Q_mono (qT HO455 BK446) (fun _ hk => trivial), wS85 HB.out⟩
def spec_DrawOrderImage.f (k : Nat) (l0 : List Int) : Option (Int × Int × Int × List Int × Int) := (spec_DrawDiffuseImage.f k l0).bind fun bt461 => (some (bt461.1, bt461.2.1, bt461.2.2.1, bt461.2.2.2.1, bt461.2.2.2.2))
theorem spec_DrawOrderImage.mono : ∀ a0 k, LeO (spec_DrawOrderImage.f k a0) (spec_DrawOrderImage.f (k + 1) a0) := by
 intro a0 k
 unfold spec_DrawOrderImage.f
 repeat' first | (with_reducible first | exact spec_DrawDiffuseImage.mono _ _ | exact lR | exact lN | refine lI ?_ ?_ | refine lB ?_ fun _ => ?_) | exact spec_DrawDiffuseImage.mono _ _ | exact lN | refine lI ?_ ?_ | refine lB ?_ fun _ => ?_
set_option maxHeartbeats 8000000 in
set_option maxRecDepth 100000 in
theorem spec_DrawOrderImage.calls (k : Nat) (A0 : Option Addr) (c0 : Nat) (l0 : List Int) (r1 : Int) (r2 : Int) (r3 : Int) (r4 : List Int) (r5 : Int) (w : World) (hr0 : Kd.C (Kd.int .u8) w A0 l0.length l0) (hc0 : l0.length ≤ c0) (h : spec_DrawOrderImage.f k l0 = some (r1, r2, r3, r4, r5)) :
  Calls Try.prog 25 #[.slice A0 l0.length c0] w fun e w' => ∃ v3_ : Value, e = .returned (.tuple #[.agg #[.int .i64 r1, .int .i64 r2, .int .i64 r3, v3_], .int .i64 r5]) ∧ Kd.Q (Kd.int .i64) 3 w' w.heap.size (fun _ => True) v3_ r4 ∧ Below w.heap.size w w' := by
 have hu27 := Try.underlying27
 have HR0 := aM hr0
 have HC0 := aM hc0
 clear hr0 hc0
 have HB := aM (Below.refl w.heap.size w)
 unfold spec_DrawOrderImage.f at h
 have H := h
 clear h
 replace H := Option.bind_eq_some_iff.mp H
 obtain ⟨⟨t461, t462, t463, t464, t467⟩, A20, H⟩ := H
 replace H : (some (t461, t462, t463, t464, t467)) = some (r1, r2, r3, r4, r5) := H
 have A2 := aM A20
 clear A20
 simp only [Option.some.injEq, Prod.mk.injEq] at H
 obtain ⟨rfl, rfl, rfl, rfl, rfl⟩ := H
 go_enter Try.func25, Try.ntmps25
 go_wp2_with (first | ((with_reducible refine gate_dst (N := 2) rfl ?_); refine bxE (N := 2) (cs := #[.int .i64 0, .int .i64 0, .int .i64 0, .slice none 0 0]) (t := 27) ?_; intro gb460 hg w3 hbox hb; have BK460 := aM (hbox); have GW460 := gW hg HB; have GE460 := gW hg HB; replace HB := bS HB hb; clear hb hbox hg) | ((with_reducible refine gate_callee (f := 29) rfl ?_); refine gL (some 5) Try.func29 #[.slice A0 l0.length c0] ?_; (with_reducible refine (spec_DrawDiffuseImage.calls k _ _ l0 t461 t462 t463 t464 t467 _ ?side1 ?side2 A2.out).mono ?_); (case side1 => exact qC (Kd.C_below HR0.out HB.out)); (case side2 => exact HC0.out); rintro e w4 ⟨v465, rfl, ho0, hb⟩; refine ⟨_, rfl, ?_⟩; have HO466 := aM (Kd.Q_lower ho0 (below_size (qW HB.out))); replace BK460 := bB BK460 hb; replace HB := bS HB hb; clear hb ho0; obtain ⟨⟨hcz5_0, hcz5_1, hcz5_2, hcz5_3⟩, hfz5_0, hfz5_1, hfz5_2, hfz5_3⟩ := cf4 BK460; obtain ⟨Ao6, co6, eo6, _⟩ := Kd.Q_slice HO466.out; subst eo6))
 refine bodyPost_ret (results_ct rfl _ _ gb460 27 #[.int .i64 t461, .int .i64 t462, .int .i64 t463, .slice Ao6 t464.length co6] (0, 0) _ rfl (by exact bP BK460.out) Try.underlying27 rfl (by kernel_rfl)) rfl ?_
 exact ⟨_, qX, by (with_reducible repeat (first | apply Kd.Q_alloc | apply Kd.Q_drewN | apply Kd.Q_drew)); exact Kd.Q_mono (qT HO466 BK460) (fun _ hk => trivial), by exact qW HB.out⟩
def laws_equalImage.f (k : Nat) (a0_0 : Int) (a0_1 : Int) (a0_2 : Int) (l0_3 : List Int) (a1_0 : Int) (a1_1 : Int) (a1_2 : Int) (l1_3 : List Int) : Option (Bool) := if a0_0 = a1_0 then (if a0_1 = a1_1 then (if a0_2 = a1_2 then ((laws_equalInts.f k l0_3 l1_3).bind fun t295 => (some t295)) else (some false)) else (some false)) else (some false)
theorem laws_equalImage.mono : ∀ a0 a1 a2 a3 a4 a5 a6 a7 k, LeO (laws_equalImage.f k a0 a1 a2 a3 a4 a5 a6 a7) (laws_equalImage.f (k + 1) a0 a1 a2 a3 a4 a5 a6 a7) := by
 intro a0 a1 a2 a3 a4 a5 a6 a7 k
 unfold laws_equalImage.f
 repeat' first | (with_reducible first | exact laws_equalInts.mono _ _ _ | exact lR | exact lN | refine lI ?_ ?_ | refine lB ?_ fun _ => ?_) | exact laws_equalInts.mono _ _ _ | exact lN | refine lI ?_ ?_ | refine lB ?_ fun _ => ?_
set_option maxHeartbeats 8000000 in
set_option maxRecDepth 100000 in
theorem laws_equalImage.calls (k : Nat) (a0_0 : Int) (a0_1 : Int) (a0_2 : Int) (A0_3 : Option Addr) (c0_3 : Nat) (l0_3 : List Int) (a1_0 : Int) (a1_1 : Int) (a1_2 : Int) (A1_3 : Option Addr) (c1_3 : Nat) (l1_3 : List Int) (r : Bool) (w : World) (hr0_3 : Kd.C (Kd.int .i64) w A0_3 l0_3.length l0_3) (hc0_3 : l0_3.length ≤ c0_3) (hr1_3 : Kd.C (Kd.int .i64) w A1_3 l1_3.length l1_3) (hc1_3 : l1_3.length ≤ c1_3) (h : laws_equalImage.f k a0_0 a0_1 a0_2 l0_3 a1_0 a1_1 a1_2 l1_3 = some r) :
  Calls Try.prog 15 #[.agg #[.int .i64 a0_0, .int .i64 a0_1, .int .i64 a0_2, .slice A0_3 l0_3.length c0_3], .agg #[.int .i64 a1_0, .int .i64 a1_1, .int .i64 a1_2, .slice A1_3 l1_3.length c1_3]] w fun e w' => e = .returned (.bool r) ∧ Below w.heap.size w w' := by
 have hu27 := Try.underlying27
 have HR0_3 := aM hr0_3
 have HC0_3 := aM hc0_3
 clear hr0_3 hc0_3
 have HR1_3 := aM hr1_3
 have HC1_3 := aM hc1_3
 clear hr1_3 hc1_3
 have HB := aM (Below.refl w.heap.size w)
 unfold laws_equalImage.f at h
 have H := h
 clear h
 by_cases c3 : a0_0 = a1_0
 rotate_left
 ·rw [if_neg c3] at H
  have c3b0 : (a0_0 == a1_0) = false := beq_eq_false_iff_ne.mpr c3
  have c3b1 : (a0_0 != a1_0) = true := bne_iff_ne.mpr c3
  obtain rfl := Option.some.inj H
  go_enter Try.func15, Try.ntmps15
  go_wp2_with (first | ((with_reducible refine gate_dst (N := 2) rfl ?_); refine bxE (N := 2) (cs := #[.int .i64 a0_0, .int .i64 a0_1, .int .i64 a0_2, .slice A0_3 l0_3.length c0_3]) (t := 27) ?_; intro gb293 hg w22 hbox hb; have BK293 := aM (hbox); have GW293 := gW hg HB; have GE293 := gW hg HB; replace HB := bS HB hb; clear hb hbox hg) | ((with_reducible refine gate_dst (N := 3) rfl ?_); refine bxE (N := 3) (cs := #[.int .i64 a1_0, .int .i64 a1_1, .int .i64 a1_2, .slice A1_3 l1_3.length c1_3]) (t := 27) ?_; intro gb294 hg w23 hbox hb; have BK294 := aM (hbox); have GW294 := gW hg HB; have GE294 := gW hg HB; replace HB := bS HB hb; have NB293_294 := nL hg BK293; have NB294_293 := nG hg BK293; replace BK293 := bB BK293 hb; clear hb hbox hg; have hnb24 := NB293_294.out; have hnc24 := NB294_293.out; obtain ⟨⟨hcz25_0, hcz25_1, hcz25_2, hcz25_3⟩, hfz25_0, hfz25_1, hfz25_2, hfz25_3⟩ := cf4 BK293; obtain ⟨⟨hcz26_0, hcz26_1, hcz26_2, hcz26_3⟩, hfz26_0, hfz26_1, hfz26_2, hfz26_3⟩ := cf4 BK294))
  go_ret
  exact ⟨qX, by exact qW HB.out⟩
 rw [if_pos c3] at H
 have c3b0 : (a0_0 == a1_0) = true := beq_iff_eq.mpr c3
 have c3b1 : (a0_0 != a1_0) = false := bne_eq_false_iff_eq.mpr c3
 clear c3
 by_cases c4 : a0_1 = a1_1
 rotate_left
 ·rw [if_neg c4] at H
  have c4b0 : (a0_1 == a1_1) = false := beq_eq_false_iff_ne.mpr c4
  have c4b1 : (a0_1 != a1_1) = true := bne_iff_ne.mpr c4
  obtain rfl := Option.some.inj H
  go_enter Try.func15, Try.ntmps15
  go_wp2_with (first | ((with_reducible refine gate_dst (N := 2) rfl ?_); refine bxE (N := 2) (cs := #[.int .i64 a0_0, .int .i64 a0_1, .int .i64 a0_2, .slice A0_3 l0_3.length c0_3]) (t := 27) ?_; intro gb293 hg w17 hbox hb; have BK293 := aM (hbox); have GW293 := gW hg HB; have GE293 := gW hg HB; replace HB := bS HB hb; clear hb hbox hg) | ((with_reducible refine gate_dst (N := 3) rfl ?_); refine bxE (N := 3) (cs := #[.int .i64 a1_0, .int .i64 a1_1, .int .i64 a1_2, .slice A1_3 l1_3.length c1_3]) (t := 27) ?_; intro gb294 hg w18 hbox hb; have BK294 := aM (hbox); have GW294 := gW hg HB; have GE294 := gW hg HB; replace HB := bS HB hb; have NB293_294 := nL hg BK293; have NB294_293 := nG hg BK293; replace BK293 := bB BK293 hb; clear hb hbox hg; have hnb19 := NB293_294.out; have hnc19 := NB294_293.out; obtain ⟨⟨hcz20_0, hcz20_1, hcz20_2, hcz20_3⟩, hfz20_0, hfz20_1, hfz20_2, hfz20_3⟩ := cf4 BK293; obtain ⟨⟨hcz21_0, hcz21_1, hcz21_2, hcz21_3⟩, hfz21_0, hfz21_1, hfz21_2, hfz21_3⟩ := cf4 BK294))
  go_ret
  exact ⟨qX, by exact qW HB.out⟩
 rw [if_pos c4] at H
 have c4b0 : (a0_1 == a1_1) = true := beq_iff_eq.mpr c4
 have c4b1 : (a0_1 != a1_1) = false := bne_eq_false_iff_eq.mpr c4
 clear c4
 by_cases c5 : a0_2 = a1_2
 rotate_left
 ·rw [if_neg c5] at H
  have c5b0 : (a0_2 == a1_2) = false := beq_eq_false_iff_ne.mpr c5
  have c5b1 : (a0_2 != a1_2) = true := bne_iff_ne.mpr c5
  obtain rfl := Option.some.inj H
  go_enter Try.func15, Try.ntmps15
  go_wp2_with (first | ((with_reducible refine gate_dst (N := 2) rfl ?_); refine bxE (N := 2) (cs := #[.int .i64 a0_0, .int .i64 a0_1, .int .i64 a0_2, .slice A0_3 l0_3.length c0_3]) (t := 27) ?_; intro gb293 hg w12 hbox hb; have BK293 := aM (hbox); have GW293 := gW hg HB; have GE293 := gW hg HB; replace HB := bS HB hb; clear hb hbox hg) | ((with_reducible refine gate_dst (N := 3) rfl ?_); refine bxE (N := 3) (cs := #[.int .i64 a1_0, .int .i64 a1_1, .int .i64 a1_2, .slice A1_3 l1_3.length c1_3]) (t := 27) ?_; intro gb294 hg w13 hbox hb; have BK294 := aM (hbox); have GW294 := gW hg HB; have GE294 := gW hg HB; replace HB := bS HB hb; have NB293_294 := nL hg BK293; have NB294_293 := nG hg BK293; replace BK293 := bB BK293 hb; clear hb hbox hg; have hnb14 := NB293_294.out; have hnc14 := NB294_293.out; obtain ⟨⟨hcz15_0, hcz15_1, hcz15_2, hcz15_3⟩, hfz15_0, hfz15_1, hfz15_2, hfz15_3⟩ := cf4 BK293; obtain ⟨⟨hcz16_0, hcz16_1, hcz16_2, hcz16_3⟩, hfz16_0, hfz16_1, hfz16_2, hfz16_3⟩ := cf4 BK294))
  go_ret
  exact ⟨qX, by exact qW HB.out⟩
 rw [if_pos c5] at H
 have c5b0 : (a0_2 == a1_2) = true := beq_iff_eq.mpr c5
 have c5b1 : (a0_2 != a1_2) = false := bne_eq_false_iff_eq.mpr c5
 clear c5
 replace H := Option.bind_eq_some_iff.mp H
 obtain ⟨t295, A60, H⟩ := H
 replace H : (some t295) = some r := H
 have A6 := aM A60
 clear A60
 obtain rfl := Option.some.inj H
 go_enter Try.func15, Try.ntmps15
 go_wp2_with (first | ((with_reducible refine gate_dst (N := 2) rfl ?_); refine bxE (N := 2) (cs := #[.int .i64 a0_0, .int .i64 a0_1, .int .i64 a0_2, .slice A0_3 l0_3.length c0_3]) (t := 27) ?_; intro gb293 hg w7 hbox hb; have BK293 := aM (hbox); have GW293 := gW hg HB; have GE293 := gW hg HB; replace HB := bS HB hb; clear hb hbox hg) | ((with_reducible refine gate_dst (N := 3) rfl ?_); refine bxE (N := 3) (cs := #[.int .i64 a1_0, .int .i64 a1_1, .int .i64 a1_2, .slice A1_3 l1_3.length c1_3]) (t := 27) ?_; intro gb294 hg w8 hbox hb; have BK294 := aM (hbox); have GW294 := gW hg HB; have GE294 := gW hg HB; replace HB := bS HB hb; have NB293_294 := nL hg BK293; have NB294_293 := nG hg BK293; replace BK293 := bB BK293 hb; clear hb hbox hg; have hnb9 := NB293_294.out; have hnc9 := NB294_293.out; obtain ⟨⟨hcz10_0, hcz10_1, hcz10_2, hcz10_3⟩, hfz10_0, hfz10_1, hfz10_2, hfz10_3⟩ := cf4 BK293; obtain ⟨⟨hcz11_0, hcz11_1, hcz11_2, hcz11_3⟩, hfz11_0, hfz11_1, hfz11_2, hfz11_3⟩ := cf4 BK294) | (go_at_call 54; (with_reducible refine (laws_equalInts.calls k _ _ l0_3 _ _ l1_3 t295 _ ?side1 ?side2 ?side3 ?side4 A6.out).mono ?_); (case side1 => exact qC (Kd.C_below HR0_3.out HB.out)); (case side2 => exact HC0_3.out); (case side3 => exact qC (Kd.C_below HR1_3.out HB.out)); (case side4 => exact HC1_3.out); rintro e w' ⟨rfl, ⟨nd, rfl⟩⟩))
 go_ret
 exact ⟨qX, by exact qW HB.out⟩
def impl_ValidImage.f (a0_0 : Int) (a0_1 : Int) (a0_2 : Int) (l0_3 : List Int) : Option (Bool) := (impl_isImage.f a0_0 a0_1 a0_2 l0_3).bind fun t636 => (some t636)
set_option maxHeartbeats 8000000 in
set_option maxRecDepth 100000 in
theorem impl_ValidImage.calls (a0_0 : Int) (a0_1 : Int) (a0_2 : Int) (A0_3 : Option Addr) (c0_3 : Nat) (l0_3 : List Int) (r : Bool) (w : World) (hr0_3 : Kd.C (Kd.int .i64) w A0_3 l0_3.length l0_3) (hc0_3 : l0_3.length ≤ c0_3) (h : impl_ValidImage.f a0_0 a0_1 a0_2 l0_3 = some r) :
  Calls Try.prog 30 #[.agg #[.int .i64 a0_0, .int .i64 a0_1, .int .i64 a0_2, .slice A0_3 l0_3.length c0_3]] w fun e w' => e = .returned (.bool r) ∧ Below w.heap.size w w' := by
 have hu27 := Try.underlying27
 have HR0_3 := aM hr0_3
 have HC0_3 := aM hc0_3
 clear hr0_3 hc0_3
 have HB := aM (Below.refl w.heap.size w)
 unfold impl_ValidImage.f at h
 have H := h
 clear h
 replace H := Option.bind_eq_some_iff.mp H
 obtain ⟨t636, A20, H⟩ := H
 replace H : (some t636) = some r := H
 have A2 := aM A20
 clear A20
 obtain rfl := Option.some.inj H
 go_enter Try.func30, Try.ntmps30
 go_wp2_with (first | ((with_reducible refine gate_dst (N := 1) rfl ?_); refine bxE (N := 1) (cs := #[.int .i64 a0_0, .int .i64 a0_1, .int .i64 a0_2, .slice A0_3 l0_3.length c0_3]) (t := 27) ?_; intro gb635 hg w3 hbox hb; have BK635 := aM (hbox); have GW635 := gW hg HB; have GE635 := gW hg HB; replace HB := bS HB hb; clear hb hbox hg; obtain ⟨⟨hcz4_0, hcz4_1, hcz4_2, hcz4_3⟩, hfz4_0, hfz4_1, hfz4_2, hfz4_3⟩ := cf4 BK635) | ((with_reducible refine gate_callee (f := 47) rfl ?_); refine gL (some 4) Try.func47 #[.agg #[.int .i64 a0_0, .int .i64 a0_1, .int .i64 a0_2, .slice A0_3 l0_3.length c0_3]] ?_; (with_reducible refine (impl_isImage.calls a0_0 a0_1 a0_2 _ _ l0_3 t636 _ ?side1 ?side2 A2.out).mono ?_); (case side1 => exact qC (Kd.C_below HR0_3.out HB.out)); (case side2 => exact HC0_3.out); rintro e w5 ⟨rfl, hb⟩; refine ⟨_, rfl, ?_⟩; replace BK635 := bB BK635 hb; replace HB := bS HB hb; clear hb))
 go_ret
 exact ⟨qX, by exact qW HB.out⟩
mutual
def laws_FnDiffuseImage.j0 : Nat → Int → Bool → Bool → Bool → Int → Int → Int → List Int → Int → Int → Int → List Int → Option (Bool)
 | 0, _, _, _, _, _, _, _, _, _, _, _, _ => none
 | k + 1, x4, x6, x8, x44, x653000, x653001, x653002, x653003, x661000, x661001, x661002, x661003 => if x44 = true then ((laws_equalImage.f k x653000 x653001 x653002 x653003 x661000 x661001 x661002 x661003).bind fun t662 => (if t662 = true then (some (x6 == x8)) else (some false))) else (laws_FnDiffuseImage.l0 k x4 0 x653000 x653001 x653002 x653003)
def laws_FnDiffuseImage.l0 : Nat → Int → Int → Int → Int → Int → List Int → Option (Bool)
 | 0, _, _, _, _, _, _ => none
 | k + 1, x4, x9, x653000, x653001, x653002, x653003 => if x9 < (x653003.length : Int) then (if 0 ≤ x9 then ((impl_LevelOf.f k (rd x653003 x9) x4).bind fun t665 => (if (wrap64 (x4 - 1)) = 0 then (none) else (if (rd x653003 x9) = (wrap64 (Int.tdiv (wrap64 (255 * t665)) (wrap64 (x4 - 1)))) then (laws_FnDiffuseImage.l0 k x4 (wrap64 (x9 + 1)) x653000 x653001 x653002 x653003) else (some false)))) else (none)) else ((impl_DiffuseImage.f k x653000 x653001 x653002 x653003 x4).bind fun bt666 => (if bt666.2.2.2.2 = true then ((laws_equalImage.f k bt666.1 bt666.2.1 bt666.2.2.1 bt666.2.2.2.1 x653000 x653001 x653002 x653003).bind fun t674 => (if t674 = true then ((impl_ValidImage.f x653000 x653001 x653002 x653003).bind fun t675 => (some t675)) else (some false))) else (some false)))
end
def laws_FnDiffuseImage.f (k : Nat) (l0 : List Int) : Option (Bool) := if (l0.length : Int) > 1048576 then (some true) else ((spec_DrawDiffuseImage.f k l0).bind fun bt637 => ((impl_DiffuseImage.f k bt637.1 bt637.2.1 bt637.2.2.1 bt637.2.2.2.1 bt637.2.2.2.2).bind fun bt645 => ((spec_DiffuseImage.f k bt637.1 bt637.2.1 bt637.2.2.1 bt637.2.2.2.1 bt637.2.2.2.2).bind fun bt653 => ((laws_equalImage.f k bt645.1 bt645.2.1 bt645.2.2.1 bt645.2.2.2.1 bt653.1 bt653.2.1 bt653.2.2.1 bt653.2.2.2.1).bind fun t661 => (if t661 = true then (if (bt645.2.2.2.2 != bt653.2.2.2.2) = true then (laws_FnDiffuseImage.j0 k bt637.2.2.2.2 bt645.2.2.2.2 bt653.2.2.2.2 true bt645.1 bt645.2.1 bt645.2.2.1 bt645.2.2.2.1 bt653.1 bt653.2.1 bt653.2.2.1 bt653.2.2.2.1) else (laws_FnDiffuseImage.j0 k bt637.2.2.2.2 bt645.2.2.2.2 bt653.2.2.2.2 (!bt645.2.2.2.2) bt645.1 bt645.2.1 bt645.2.2.1 bt645.2.2.2.1 bt653.1 bt653.2.1 bt653.2.2.1 bt653.2.2.2.1)) else (laws_FnDiffuseImage.j0 k bt637.2.2.2.2 bt645.2.2.2.2 bt653.2.2.2.2 true bt645.1 bt645.2.1 bt645.2.2.1 bt645.2.2.2.1 bt653.1 bt653.2.1 bt653.2.2.1 bt653.2.2.2.1))))))
theorem laws_FnDiffuseImage.mono_l : ∀ k, (∀ y0 y1 y2 y3 y4 y5 y6 y7 y8 y9 y10 y11, LeO (laws_FnDiffuseImage.j0 k y0 y1 y2 y3 y4 y5 y6 y7 y8 y9 y10 y11) (laws_FnDiffuseImage.j0 (k + 1) y0 y1 y2 y3 y4 y5 y6 y7 y8 y9 y10 y11)) ∧ (∀ y0 y1 y2 y3 y4 y5, LeO (laws_FnDiffuseImage.l0 k y0 y1 y2 y3 y4 y5) (laws_FnDiffuseImage.l0 (k + 1) y0 y1 y2 y3 y4 y5))
 | 0 => ⟨fun _ _ _ _ _ _ _ _ _ _ _ _ r h => by simp [laws_FnDiffuseImage.j0] at h, fun _ _ _ _ _ _ r h => by simp [laws_FnDiffuseImage.l0] at h⟩
 | k + 1 => by
  obtain ⟨ih0, ih1⟩ := laws_FnDiffuseImage.mono_l k
  refine ⟨?_, ?_⟩
  all_goals intros
  all_goals first | unfold laws_FnDiffuseImage.j0 | unfold laws_FnDiffuseImage.l0
  all_goals repeat' first | (with_reducible first | exact ih0 _ _ _ _ _ _ _ _ _ _ _ _ | exact ih1 _ _ _ _ _ _ | exact impl_DiffuseImage.mono _ _ _ _ _ _ | exact impl_LevelOf.mono _ _ _ | exact laws_equalImage.mono _ _ _ _ _ _ _ _ _ | exact spec_DiffuseImage.mono _ _ _ _ _ _ | exact spec_DrawDiffuseImage.mono _ _ | exact lR | exact lN | refine lI ?_ ?_ | refine lB ?_ fun _ => ?_) | exact ih0 _ _ _ _ _ _ _ _ _ _ _ _ | exact ih1 _ _ _ _ _ _ | exact impl_DiffuseImage.mono _ _ _ _ _ _ | exact impl_LevelOf.mono _ _ _ | exact laws_equalImage.mono _ _ _ _ _ _ _ _ _ | exact spec_DiffuseImage.mono _ _ _ _ _ _ | exact spec_DrawDiffuseImage.mono _ _ | exact lN | refine lI ?_ ?_ | refine lB ?_ fun _ => ?_
theorem laws_FnDiffuseImage.mono : ∀ a0 k, LeO (laws_FnDiffuseImage.f k a0) (laws_FnDiffuseImage.f (k + 1) a0) := by
 intro a0 k
 obtain ⟨ih0, ih1⟩ := laws_FnDiffuseImage.mono_l k
 unfold laws_FnDiffuseImage.f
 repeat' first | (with_reducible first | exact ih0 _ _ _ _ _ _ _ _ _ _ _ _ | exact ih1 _ _ _ _ _ _ | exact impl_DiffuseImage.mono _ _ _ _ _ _ | exact impl_LevelOf.mono _ _ _ | exact laws_equalImage.mono _ _ _ _ _ _ _ _ _ | exact spec_DiffuseImage.mono _ _ _ _ _ _ | exact spec_DrawDiffuseImage.mono _ _ | exact lR | exact lN | refine lI ?_ ?_ | refine lB ?_ fun _ => ?_) | exact ih0 _ _ _ _ _ _ _ _ _ _ _ _ | exact ih1 _ _ _ _ _ _ | exact impl_DiffuseImage.mono _ _ _ _ _ _ | exact impl_LevelOf.mono _ _ _ | exact laws_equalImage.mono _ _ _ _ _ _ _ _ _ | exact spec_DiffuseImage.mono _ _ _ _ _ _ | exact spec_DrawDiffuseImage.mono _ _ | exact lN | refine lI ?_ ?_ | refine lB ?_ fun _ => ?_
def laws_FnDiffuseImage.T11 : Bool × List (List Nat × List Nat) := (true, [([], []), ([0], [0]), ([], []), ([1, 2], [1, 2]), ([3], [3]), ([], []), ([5], [5]), ([], []), ([6, 7], [6, 7]), ([8], [8]), ([], []), ([9, 10], [9, 10]), ([11], [11]), ([], []), ([13], [13]), ([12, 14], [12, 14]), ([4, 15], [4, 15])])
def laws_FnDiffuseImage.B11 : List Nat := [0, 1, 0, 7, 15, 0, 32, 0, 224, 480, 0, 2016, 4064, 0, 8192, 32736, 65535]
theorem laws_FnDiffuseImage.tab11 : rtab .any (opsOf Try.f7 11) = laws_FnDiffuseImage.T11 := by kernel_rfl
theorem laws_FnDiffuseImage.bits11 : waitsOk laws_FnDiffuseImage.T11.2 laws_FnDiffuseImage.B11 = true := by kernel_rfl
set_option maxHeartbeats 8000000 in
set_option maxRecDepth 100000 in
theorem laws_FnDiffuseImage.calls (k : Nat) (A0 : Option Addr) (c0 : Nat) (l0 : List Int) (r : Bool) (w : World) (hr0 : Kd.C (Kd.int .u8) w A0 l0.length l0) (hc0 : l0.length ≤ c0) (h : laws_FnDiffuseImage.f k l0 = some r) (hrt : r = true) :
  Calls Try.prog 7 #[.slice A0 l0.length c0] w fun e w' => e = .returned (.bool r) ∧ Below w.heap.size w w' := by
 have hu27 := Try.underlying27
 have HR0 := aM hr0
 have HC0 := aM hc0
 clear hr0 hc0
 have HB := aM (Below.refl w.heap.size w)
 unfold laws_FnDiffuseImage.f at h
 have H := h
 clear h
 by_cases c2 : (l0.length : Int) > 1048576
 ·rw [if_pos c2] at H
  have c2b0 : decide (1048576 < (l0.length : Int)) = true := decide_eq_true c2
  have c2b1 : decide (1048576 < l0.length) = true := decide_eq_true (by omega)
  clear c2
  obtain rfl := Option.some.inj H
  go_enter Try.func7, Try.ntmps7
  go_wp2
  go_ret
  exact ⟨qX, by exact qW HB.out⟩
 rw [if_neg c2] at H
 have c2b0 : decide (1048576 < (l0.length : Int)) = false := decide_eq_false c2
 have c2b1 : decide (1048576 < l0.length) = false := decide_eq_false (by omega)
 clear c2
 replace H := Option.bind_eq_some_iff.mp H
 obtain ⟨⟨t637, t638, t639, t640, t643⟩, A30, H⟩ := H
 replace H : ((impl_DiffuseImage.f k t637 t638 t639 t640 t643).bind fun bt645 => ((spec_DiffuseImage.f k t637 t638 t639 t640 t643).bind fun bt653 => ((laws_equalImage.f k bt645.1 bt645.2.1 bt645.2.2.1 bt645.2.2.2.1 bt653.1 bt653.2.1 bt653.2.2.1 bt653.2.2.2.1).bind fun t661 => (if t661 = true then (if (bt645.2.2.2.2 != bt653.2.2.2.2) = true then (laws_FnDiffuseImage.j0 k t643 bt645.2.2.2.2 bt653.2.2.2.2 true bt645.1 bt645.2.1 bt645.2.2.1 bt645.2.2.2.1 bt653.1 bt653.2.1 bt653.2.2.1 bt653.2.2.2.1) else (laws_FnDiffuseImage.j0 k t643 bt645.2.2.2.2 bt653.2.2.2.2 (!bt645.2.2.2.2) bt645.1 bt645.2.1 bt645.2.2.1 bt645.2.2.2.1 bt653.1 bt653.2.1 bt653.2.2.1 bt653.2.2.2.1)) else (laws_FnDiffuseImage.j0 k t643 bt645.2.2.2.2 bt653.2.2.2.2 true bt645.1 bt645.2.1 bt645.2.2.1 bt645.2.2.2.1 bt653.1 bt653.2.1 bt653.2.2.1 bt653.2.2.2.1))))) = some r := H
 have A3 := aM A30
 clear A30
 replace H := Option.bind_eq_some_iff.mp H
 obtain ⟨⟨t645, t646, t647, t648, t651⟩, A40, H⟩ := H
 replace H : ((spec_DiffuseImage.f k t637 t638 t639 t640 t643).bind fun bt653 => ((laws_equalImage.f k t645 t646 t647 t648 bt653.1 bt653.2.1 bt653.2.2.1 bt653.2.2.2.1).bind fun t661 => (if t661 = true then (if (t651 != bt653.2.2.2.2) = true then (laws_FnDiffuseImage.j0 k t643 t651 bt653.2.2.2.2 true t645 t646 t647 t648 bt653.1 bt653.2.1 bt653.2.2.1 bt653.2.2.2.1) else (laws_FnDiffuseImage.j0 k t643 t651 bt653.2.2.2.2 (!t651) t645 t646 t647 t648 bt653.1 bt653.2.1 bt653.2.2.1 bt653.2.2.2.1)) else (laws_FnDiffuseImage.j0 k t643 t651 bt653.2.2.2.2 true t645 t646 t647 t648 bt653.1 bt653.2.1 bt653.2.2.1 bt653.2.2.2.1)))) = some r := H
 have A4 := aM A40
 clear A40
 replace H := Option.bind_eq_some_iff.mp H
 obtain ⟨⟨t653, t654, t655, t656, t659⟩, A50, H⟩ := H
 replace H : ((laws_equalImage.f k t645 t646 t647 t648 t653 t654 t655 t656).bind fun t661 => (if t661 = true then (if (t651 != t659) = true then (laws_FnDiffuseImage.j0 k t643 t651 t659 true t645 t646 t647 t648 t653 t654 t655 t656) else (laws_FnDiffuseImage.j0 k t643 t651 t659 (!t651) t645 t646 t647 t648 t653 t654 t655 t656)) else (laws_FnDiffuseImage.j0 k t643 t651 t659 true t645 t646 t647 t648 t653 t654 t655 t656))) = some r := H
 have A5 := aM A50
 clear A50
 have HC6 := aM H
 clear H
 go_enter Try.func7, Try.ntmps7
 go_upto_region 6 with (first | ((with_reducible refine gate_callee (f := 29) rfl ?_); refine gL (some 17) Try.func29 #[.slice A0 l0.length c0] ?_; (with_reducible refine (spec_DrawDiffuseImage.calls k _ _ l0 t637 t638 t639 t640 t643 _ ?side1 ?side2 A3.out).mono ?_); (case side1 => exact qC HR0.out); (case side2 => exact HC0.out); rintro e w7 ⟨v641, rfl, ho0, hb⟩; refine ⟨_, rfl, ?_⟩; have HO642 := aM (Kd.Q_lower ho0 (below_size (qW HB.out))); replace HB := bS HB hb; clear hb ho0) | ((with_reducible refine gate_dst (N := 3) rfl ?_); refine bxE (N := 3) (cs := #[.int .i64 0, .int .i64 0, .int .i64 0, .slice none 0 0]) (t := 27) ?_; intro gb644 hg w8 hbox hb; replace HO642 := aM (Kd.Q_below (qQ HO642.out) hb); have BK644 := aM (hbox); have GW644 := gW hg HB; have GE644 := gW hg HB; replace HB := bS HB hb; clear hb hbox hg; obtain ⟨⟨hcz9_0, hcz9_1, hcz9_2, hcz9_3⟩, hfz9_0, hfz9_1, hfz9_2, hfz9_3⟩ := cf4 BK644; obtain ⟨Ao10, co10, eo10, _⟩ := Kd.Q_slice HO642.out; subst eo10) | ((with_reducible refine gate_callee (f := 28) rfl ?_); refine gL (some 23) Try.func28 #[.agg #[.int .i64 t637, .int .i64 t638, .int .i64 t639, .slice Ao10 t640.length co10], .int .i64 t643] ?_; (with_reducible refine (impl_DiffuseImage.calls k t637 t638 t639 _ _ t640 t643 t645 t646 t647 t648 t651 _ ?side1 ?side2 A4.out).mono ?_); (case side1 => refine (Kd.Q_reads' (e := 3) (base := w.heap.size) (ok := fun k_ => True) (n := t640.length) (c := co10) ?_).2.2; exact (by (with_reducible repeat (first | apply Kd.Q_alloc | apply Kd.Q_drewN | apply Kd.Q_drew)); exact (Kd.Q_mono (qT HO642 BK644) (fun _ h_ => h_.1)))); (case side2 => exact (Kd.Q_reads' HO642.out).2.1); rintro e w11 ⟨v649, rfl, ho0, hb⟩; refine ⟨_, rfl, ?_⟩; have HO650 := aM (Kd.R_lower (Kd.R_new' ho0 (Kd.Q_lt (by (with_reducible repeat (first | apply Kd.Q_alloc | apply Kd.Q_drewN | apply Kd.Q_drew)); exact (Kd.Q_mono (qT HO642 BK644) (fun _ h_ => h_.1))))) (below_size (qW HB.out))); replace HO642 := aM (Kd.Q_elder' (by (with_reducible repeat (first | apply Kd.Q_alloc | apply Kd.Q_drewN | apply Kd.Q_drew)); exact (Kd.Q_mono (qT HO642 BK644) (fun _ h_ => h_.1))) (Kd.R_base ho0) hb); replace BK644 := aM (blk_below (g := gb644) (o := .cells #[.int .i64 t637, .int .i64 t638, .int .i64 t639, .slice Ao10 t640.length co10] 27 (0, 0)) (by exact bP BK644.out) hb); replace HB := bS HB hb; clear hb ho0) | ((with_reducible refine gate_dst (N := 5) rfl ?_); refine bxE (N := 5) (cs := #[.int .i64 0, .int .i64 0, .int .i64 0, .slice none 0 0]) (t := 27) ?_; intro gb652 hg w12 hbox hb; replace HO642 := aM (Kd.Q_below (qQ HO642.out) hb); replace HO650 := aM (Kd.R_below (qR HO650.out) hb); have BK652 := aM (hbox); have GW652 := gW hg HB; have GE652 := gW hg HB; replace HB := bS HB hb; have NB644_652 := nL hg BK644; have NB652_644 := nG hg BK644; replace BK644 := bB BK644 hb; clear hb hbox hg; have hnb13 := NB652_644.out; have hnc13 := NB644_652.out; obtain ⟨⟨hcz14_0, hcz14_1, hcz14_2, hcz14_3⟩, hfz14_0, hfz14_1, hfz14_2, hfz14_3⟩ := cf4 BK652; obtain ⟨Ao15, co15, rfl⟩ := sL HO650; obtain ⟨⟨hcz16_0, hcz16_1, hcz16_2, hcz16_3⟩, hfz16_0, hfz16_1, hfz16_2, hfz16_3⟩ := cf4 BK644) | ((with_reducible refine gate_callee (f := 27) rfl ?_); refine gL (some 29) Try.func27 #[.agg #[.int .i64 t637, .int .i64 t638, .int .i64 t639, .slice Ao10 t640.length co10], .int .i64 t643] ?_; (with_reducible refine (spec_DiffuseImage.calls k t637 t638 t639 _ _ t640 t643 t653 t654 t655 t656 t659 _ ?side1 ?side2 A5.out).mono ?_); (case side1 => refine (Kd.Q_reads' (e := 3) (base := w.heap.size) (ok := fun k_ => (True ∧ some k_ ≠ (.slice Ao15 t648.length co15 : Value).ownBlock)) (n := t640.length) (c := co10) ?_).2.2; exact (by (with_reducible repeat (first | apply Kd.Q_alloc | apply Kd.Q_drewN | apply Kd.Q_drew)); exact (Kd.Q_mono (qT HO642 BK652) (fun _ h_ => h_.1)))); (case side2 => exact (Kd.Q_reads' HO642.out).2.1); rintro e w17 ⟨v657, rfl, ho0, hb⟩; refine ⟨_, rfl, ?_⟩; have HO658 := aM (Kd.R_lower (Kd.R_new' (Kd.R_new' ho0 (Kd.Q_lt (by (with_reducible repeat (first | apply Kd.Q_alloc | apply Kd.Q_drewN | apply Kd.Q_drew)); exact (Kd.Q_mono (qT HO642 BK652) (fun _ h_ => h_.1))))) (Kd.R_lt (by refine qR ?_; exact (fr4 HO650 BK652)))) (below_size (qW HB.out))); replace HO642 := aM (Kd.Q_elder' (by (with_reducible repeat (first | apply Kd.Q_alloc | apply Kd.Q_drewN | apply Kd.Q_drew)); exact (Kd.Q_mono (qT HO642 BK652) (fun _ h_ => h_.1))) (Kd.R_base ho0) hb); replace HO650 := aM (Kd.R_elder' (by refine qR ?_; exact (fr4 HO650 BK652)) (Kd.R_base ho0) hb); replace BK644 := aM (blk_below (g := gb644) (o := .cells #[.int .i64 t637, .int .i64 t638, .int .i64 t639, .slice Ao10 t640.length co10] 27 (0, 0)) (by refine qB ?_; refine blk_far ?_ NB644_652.out _; refine qB ?_; refine blk_far ?_ NB644_652.out _; refine qB ?_; refine blk_far ?_ NB644_652.out _; refine qB ?_; refine blk_far ?_ NB644_652.out _; refine qB ?_; exact BK644.out) hb); replace BK652 := aM (blk_below (g := gb652) (o := .cells #[.int .i64 t645, .int .i64 t646, .int .i64 t647, .slice Ao15 t648.length co15] 27 (0, 0)) (by exact bP BK652.out) hb); replace HB := bS HB hb; clear hb ho0) | ((with_reducible refine gate_dst (N := 7) rfl ?_); refine bxE (N := 7) (cs := #[.int .i64 0, .int .i64 0, .int .i64 0, .slice none 0 0]) (t := 27) ?_; intro gb660 hg w18 hbox hb; replace HO642 := aM (Kd.Q_below (qQ HO642.out) hb); replace HO650 := aM (Kd.R_below (qR HO650.out) hb); replace HO658 := aM (Kd.R_below (qR HO658.out) hb); have BK660 := aM (hbox); have GW660 := gW hg HB; have GE660 := gW hg HB; replace HB := bS HB hb; have NB644_660 := nL hg BK644; have NB660_644 := nG hg BK644; replace BK644 := bB BK644 hb; have NB652_660 := nL hg BK652; have NB660_652 := nG hg BK652; replace BK652 := bB BK652 hb; clear hb hbox hg; have hnb19 := NB660_644.out; have hnc19 := NB644_660.out; have hnb20 := NB660_652.out; have hnc20 := NB652_660.out; obtain ⟨⟨hcz21_0, hcz21_1, hcz21_2, hcz21_3⟩, hfz21_0, hfz21_1, hfz21_2, hfz21_3⟩ := cf4 BK660; obtain ⟨Ao22, co22, rfl⟩ := sL HO658))
 (try simp only [Act.put, List.setIfInBounds_toArray, List.set_cons_zero, List.set_cons_succ])
 go_cut [44] (fun v44 wc => ∃ (kq : Nat) (x44_5 : Bool), v44 = .bool x44_5 ∧ Aside0 (laws_FnDiffuseImage.j0 kq t643 t651 t659 x44_5 t645 t646 t647 t648 t653 t654 t655 t656 = some r) ∧ Aside0 (kq ≤ k) ∧ Aside0 (Kd.Q (Kd.int .i64) 3 wc w.heap.size (fun k_ => some k_ ≠ ((.slice Ao15 t648.length co15) : Value).ownBlock ∧ some k_ ≠ ((.slice Ao22 t656.length co22) : Value).ownBlock) (.slice Ao10 t640.length co10) t640) ∧ Aside0 (Kd.Q (Kd.int .i64) 3 wc w.heap.size (fun k_ => some k_ ≠ ((.slice Ao10 t640.length co10) : Value).ownBlock ∧ some k_ ≠ ((.slice Ao22 t656.length co22) : Value).ownBlock) (.slice Ao15 t648.length co15) t648) ∧ Aside0 (Kd.Q (Kd.int .i64) 3 wc w.heap.size (fun k_ => some k_ ≠ ((.slice Ao10 t640.length co10) : Value).ownBlock ∧ some k_ ≠ ((.slice Ao15 t648.length co15) : Value).ownBlock) (.slice Ao22 t656.length co22) t656) ∧ Aside0 (wc.heap[gb644]? = some (.cells #[.int .i64 t637, .int .i64 t638, .int .i64 t639, (.slice Ao10 t640.length co10)] 27 (0, 0))) ∧ Aside0 (wc.heap[gb652]? = some (.cells #[.int .i64 t645, .int .i64 t646, .int .i64 t647, (.slice Ao15 t648.length co15)] 27 (0, 0))) ∧ Aside0 (wc.heap[gb660]? = some (.cells #[.int .i64 t653, .int .i64 t654, .int .i64 t655, (.slice Ao22 t656.length co22)] 27 (0, 0))) ∧ Aside0 (Below w.heap.size w wc))
 case first =>
  have H := HC6.out
  clear HC6
  replace H := Option.bind_eq_some_iff.mp H
  obtain ⟨t661, A230, H⟩ := H
  replace H : (if t661 = true then (if (t651 != t659) = true then (laws_FnDiffuseImage.j0 k t643 t651 t659 true t645 t646 t647 t648 t653 t654 t655 t656) else (laws_FnDiffuseImage.j0 k t643 t651 t659 (!t651) t645 t646 t647 t648 t653 t654 t655 t656)) else (laws_FnDiffuseImage.j0 k t643 t651 t659 true t645 t646 t647 t648 t653 t654 t655 t656)) = some r := H
  have A23 := aM A230
  clear A230
  by_cases c24 : t661 = true
  rotate_left
  ·replace c24 := Bool.eq_false_iff.mpr c24
   subst c24
   have H1 : (laws_FnDiffuseImage.j0 k t643 t651 t659 true t645 t646 t647 t648 t653 t654 t655 t656) = some r := by rw [if_neg (show ¬ (false = true) by decide)] at H; exact H
   clear H
   have H := H1
   clear H1
   have H' := aM H
   clear H
   have hnb38 := NB652_644.out
   have hnc38 := NB644_652.out
   have hnb39 := NB652_660.out
   have hnc39 := NB660_652.out
   obtain ⟨⟨hcz40_0, hcz40_1, hcz40_2, hcz40_3⟩, hfz40_0, hfz40_1, hfz40_2, hfz40_3⟩ := cf4 BK652
   have hnb41 := NB660_644.out
   have hnc41 := NB644_660.out
   obtain ⟨⟨hcz42_0, hcz42_1, hcz42_2, hcz42_3⟩, hfz42_0, hfz42_1, hfz42_2, hfz42_3⟩ := cf4 BK660
   go_wp2_with (first | ((with_reducible refine gate_callee (f := 15) rfl ?_); refine gL (some 34) Try.func15 #[.agg #[.int .i64 t645, .int .i64 t646, .int .i64 t647, .slice Ao15 t648.length co15], .agg #[.int .i64 t653, .int .i64 t654, .int .i64 t655, .slice Ao22 t656.length co22]] ?_; (with_reducible refine (laws_equalImage.calls k t645 t646 t647 _ _ t648 t653 t654 t655 _ _ t656 false _ ?side1 ?side2 ?side3 ?side4 A23.out).mono ?_); (case side1 => refine (Kd.R_reads' (e := 3) (base := w.heap.size) (ok := fun k_ => ((True ∧ some k_ ≠ (.slice Ao10 t640.length co10 : Value).ownBlock) ∧ some k_ ≠ (.slice Ao22 t656.length co22 : Value).ownBlock)) (n := t648.length) (c := co15) ?_).2.2; exact (by refine qR ?_; exact (fr4 HO650 BK660))); (case side2 => exact (Kd.R_reads' HO650.out).2.1); (case side3 => refine (Kd.R_reads' (e := 3) (base := w.heap.size) (ok := fun k_ => ((True ∧ some k_ ≠ (.slice Ao10 t640.length co10 : Value).ownBlock) ∧ some k_ ≠ (.slice Ao15 t648.length co15 : Value).ownBlock)) (n := t656.length) (c := co22) ?_).2.2; exact (by refine qR ?_; exact (fr4 HO658 BK660))); (case side4 => exact (Kd.R_reads' HO658.out).2.1); rintro e w43 ⟨rfl, hb⟩; refine ⟨_, rfl, ?_⟩; replace HO642 := aM (Kd.Q_below (by (with_reducible repeat (first | apply Kd.Q_alloc | apply Kd.Q_drewN | apply Kd.Q_drew)); exact (Kd.Q_mono (qT HO642 BK660) (fun _ h_ => h_.1))) hb); replace HO650 := aM (Kd.R_below (by refine qR ?_; exact (fr4 HO650 BK660)) hb); replace HO658 := aM (Kd.R_below (by refine qR ?_; exact (fr4 HO658 BK660)) hb); replace BK644 := aM (blk_below (g := gb644) (o := .cells #[.int .i64 t637, .int .i64 t638, .int .i64 t639, .slice Ao10 t640.length co10] 27 (0, 0)) (by refine qB ?_; refine blk_far ?_ NB644_660.out _; refine qB ?_; refine blk_far ?_ NB644_660.out _; refine qB ?_; refine blk_far ?_ NB644_660.out _; refine qB ?_; refine blk_far ?_ NB644_660.out _; refine qB ?_; exact BK644.out) hb); replace BK652 := aM (blk_below (g := gb652) (o := .cells #[.int .i64 t645, .int .i64 t646, .int .i64 t647, .slice Ao15 t648.length co15] 27 (0, 0)) (by refine qB ?_; refine blk_far ?_ NB652_660.out _; refine qB ?_; refine blk_far ?_ NB652_660.out _; refine qB ?_; refine blk_far ?_ NB652_660.out _; refine qB ?_; refine blk_far ?_ NB652_660.out _; refine qB ?_; exact BK652.out) hb); replace BK660 := aM (blk_below (g := gb660) (o := .cells #[.int .i64 t653, .int .i64 t654, .int .i64 t655, .slice Ao22 t656.length co22] 27 (0, 0)) (by exact bP BK660.out) hb); replace HB := bS HB hb; clear hb))
   go_meet
   case rel => exact ⟨_, (true), qE, H', ⟨by first | omega | exact Nat.le_refl _⟩, ⟨by (with_reducible repeat (first | apply Kd.Q_alloc | apply Kd.Q_drewN | apply Kd.Q_drew)); exact Kd.Q_mono HO642.out (fun _ hk => ⟨hk.1.2, hk.2⟩)⟩, ⟨Kd.Q_of_R (by refine qR ?_; exact Kd.R_mono HO650.out (fun _ hk => ⟨hk.1.2, hk.2⟩))⟩, ⟨Kd.Q_of_R (by refine qR ?_; exact Kd.R_mono HO658.out (fun _ hk => ⟨hk.1.2, hk.2⟩))⟩, ⟨by refine qB ?_; exact BK644.out⟩, ⟨by refine qB ?_; exact BK652.out⟩, ⟨by refine qB ?_; exact BK660.out⟩, ⟨by exact qW HB.out⟩⟩
  subst c24
  have H1 : (if (t651 != t659) = true then (laws_FnDiffuseImage.j0 k t643 t651 t659 true t645 t646 t647 t648 t653 t654 t655 t656) else (laws_FnDiffuseImage.j0 k t643 t651 t659 (!t651) t645 t646 t647 t648 t653 t654 t655 t656)) = some r := by rw [if_pos rfl] at H; exact H
  clear H
  have H := H1
  clear H1
  by_cases c25 : (t651 != t659) = true
  rotate_left
  ·rw [if_neg c25] at H
   have c25b0 : (t651 != t659) = false := by simpa using c25
   (try (have c25b1 : decide (t651 = t659) = true := by simpa using c25))
   (try (have c25b2 : (t651 == t659) = true := by simpa using c25))
   clear c25
   (first | rw [c25b0] | (simp only [i64_w, i32_w]; rw [c25b0]) | skip)
   have H' := aM H
   clear H
   have hnb32 := NB652_644.out
   have hnc32 := NB644_652.out
   have hnb33 := NB652_660.out
   have hnc33 := NB660_652.out
   obtain ⟨⟨hcz34_0, hcz34_1, hcz34_2, hcz34_3⟩, hfz34_0, hfz34_1, hfz34_2, hfz34_3⟩ := cf4 BK652
   have hnb35 := NB660_644.out
   have hnc35 := NB644_660.out
   obtain ⟨⟨hcz36_0, hcz36_1, hcz36_2, hcz36_3⟩, hfz36_0, hfz36_1, hfz36_2, hfz36_3⟩ := cf4 BK660
   go_wp2_with (first | ((with_reducible refine gate_callee (f := 15) rfl ?_); refine gL (some 34) Try.func15 #[.agg #[.int .i64 t645, .int .i64 t646, .int .i64 t647, .slice Ao15 t648.length co15], .agg #[.int .i64 t653, .int .i64 t654, .int .i64 t655, .slice Ao22 t656.length co22]] ?_; (with_reducible refine (laws_equalImage.calls k t645 t646 t647 _ _ t648 t653 t654 t655 _ _ t656 true _ ?side1 ?side2 ?side3 ?side4 A23.out).mono ?_); (case side1 => refine (Kd.R_reads' (e := 3) (base := w.heap.size) (ok := fun k_ => ((True ∧ some k_ ≠ (.slice Ao10 t640.length co10 : Value).ownBlock) ∧ some k_ ≠ (.slice Ao22 t656.length co22 : Value).ownBlock)) (n := t648.length) (c := co15) ?_).2.2; exact (by refine qR ?_; exact (fr4 HO650 BK660))); (case side2 => exact (Kd.R_reads' HO650.out).2.1); (case side3 => refine (Kd.R_reads' (e := 3) (base := w.heap.size) (ok := fun k_ => ((True ∧ some k_ ≠ (.slice Ao10 t640.length co10 : Value).ownBlock) ∧ some k_ ≠ (.slice Ao15 t648.length co15 : Value).ownBlock)) (n := t656.length) (c := co22) ?_).2.2; exact (by refine qR ?_; exact (fr4 HO658 BK660))); (case side4 => exact (Kd.R_reads' HO658.out).2.1); rintro e w37 ⟨rfl, hb⟩; refine ⟨_, rfl, ?_⟩; replace HO642 := aM (Kd.Q_below (by (with_reducible repeat (first | apply Kd.Q_alloc | apply Kd.Q_drewN | apply Kd.Q_drew)); exact (Kd.Q_mono (qT HO642 BK660) (fun _ h_ => h_.1))) hb); replace HO650 := aM (Kd.R_below (by refine qR ?_; exact (fr4 HO650 BK660)) hb); replace HO658 := aM (Kd.R_below (by refine qR ?_; exact (fr4 HO658 BK660)) hb); replace BK644 := aM (blk_below (g := gb644) (o := .cells #[.int .i64 t637, .int .i64 t638, .int .i64 t639, .slice Ao10 t640.length co10] 27 (0, 0)) (by refine qB ?_; refine blk_far ?_ NB644_660.out _; refine qB ?_; refine blk_far ?_ NB644_660.out _; refine qB ?_; refine blk_far ?_ NB644_660.out _; refine qB ?_; refine blk_far ?_ NB644_660.out _; refine qB ?_; exact BK644.out) hb); replace BK652 := aM (blk_below (g := gb652) (o := .cells #[.int .i64 t645, .int .i64 t646, .int .i64 t647, .slice Ao15 t648.length co15] 27 (0, 0)) (by refine qB ?_; refine blk_far ?_ NB652_660.out _; refine qB ?_; refine blk_far ?_ NB652_660.out _; refine qB ?_; refine blk_far ?_ NB652_660.out _; refine qB ?_; refine blk_far ?_ NB652_660.out _; refine qB ?_; exact BK652.out) hb); replace BK660 := aM (blk_below (g := gb660) (o := .cells #[.int .i64 t653, .int .i64 t654, .int .i64 t655, .slice Ao22 t656.length co22] 27 (0, 0)) (by exact bP BK660.out) hb); replace HB := bS HB hb; clear hb))
   go_meet
   case rel => exact ⟨_, (!t651), qE, H', ⟨by first | omega | exact Nat.le_refl _⟩, ⟨by (with_reducible repeat (first | apply Kd.Q_alloc | apply Kd.Q_drewN | apply Kd.Q_drew)); exact Kd.Q_mono HO642.out (fun _ hk => ⟨hk.1.2, hk.2⟩)⟩, ⟨Kd.Q_of_R (by refine qR ?_; exact Kd.R_mono HO650.out (fun _ hk => ⟨hk.1.2, hk.2⟩))⟩, ⟨Kd.Q_of_R (by refine qR ?_; exact Kd.R_mono HO658.out (fun _ hk => ⟨hk.1.2, hk.2⟩))⟩, ⟨by refine qB ?_; exact BK644.out⟩, ⟨by refine qB ?_; exact BK652.out⟩, ⟨by refine qB ?_; exact BK660.out⟩, ⟨by exact qW HB.out⟩⟩
  rw [if_pos c25] at H
  have c25b0 : (t651 != t659) = true := c25
  (try (have c25b1 : decide (t651 = t659) = false := by simpa using c25))
  (try (have c25b2 : (t651 == t659) = false := by simpa using c25))
  (try (have c25b3 : ¬ (t651 = t659) := by simpa using c25))
  clear c25
  (first | rw [c25b0] | (simp only [i64_w, i32_w]; rw [c25b0]) | skip)
  have H' := aM H
  clear H
  have hnb26 := NB652_644.out
  have hnc26 := NB644_652.out
  have hnb27 := NB652_660.out
  have hnc27 := NB660_652.out
  obtain ⟨⟨hcz28_0, hcz28_1, hcz28_2, hcz28_3⟩, hfz28_0, hfz28_1, hfz28_2, hfz28_3⟩ := cf4 BK652
  have hnb29 := NB660_644.out
  have hnc29 := NB644_660.out
  obtain ⟨⟨hcz30_0, hcz30_1, hcz30_2, hcz30_3⟩, hfz30_0, hfz30_1, hfz30_2, hfz30_3⟩ := cf4 BK660
  go_wp2_with (first | ((with_reducible refine gate_callee (f := 15) rfl ?_); refine gL (some 34) Try.func15 #[.agg #[.int .i64 t645, .int .i64 t646, .int .i64 t647, .slice Ao15 t648.length co15], .agg #[.int .i64 t653, .int .i64 t654, .int .i64 t655, .slice Ao22 t656.length co22]] ?_; (with_reducible refine (laws_equalImage.calls k t645 t646 t647 _ _ t648 t653 t654 t655 _ _ t656 true _ ?side1 ?side2 ?side3 ?side4 A23.out).mono ?_); (case side1 => refine (Kd.R_reads' (e := 3) (base := w.heap.size) (ok := fun k_ => ((True ∧ some k_ ≠ (.slice Ao10 t640.length co10 : Value).ownBlock) ∧ some k_ ≠ (.slice Ao22 t656.length co22 : Value).ownBlock)) (n := t648.length) (c := co15) ?_).2.2; exact (by refine qR ?_; exact (fr4 HO650 BK660))); (case side2 => exact (Kd.R_reads' HO650.out).2.1); (case side3 => refine (Kd.R_reads' (e := 3) (base := w.heap.size) (ok := fun k_ => ((True ∧ some k_ ≠ (.slice Ao10 t640.length co10 : Value).ownBlock) ∧ some k_ ≠ (.slice Ao15 t648.length co15 : Value).ownBlock)) (n := t656.length) (c := co22) ?_).2.2; exact (by refine qR ?_; exact (fr4 HO658 BK660))); (case side4 => exact (Kd.R_reads' HO658.out).2.1); rintro e w31 ⟨rfl, hb⟩; refine ⟨_, rfl, ?_⟩; replace HO642 := aM (Kd.Q_below (by (with_reducible repeat (first | apply Kd.Q_alloc | apply Kd.Q_drewN | apply Kd.Q_drew)); exact (Kd.Q_mono (qT HO642 BK660) (fun _ h_ => h_.1))) hb); replace HO650 := aM (Kd.R_below (by refine qR ?_; exact (fr4 HO650 BK660)) hb); replace HO658 := aM (Kd.R_below (by refine qR ?_; exact (fr4 HO658 BK660)) hb); replace BK644 := aM (blk_below (g := gb644) (o := .cells #[.int .i64 t637, .int .i64 t638, .int .i64 t639, .slice Ao10 t640.length co10] 27 (0, 0)) (by refine qB ?_; refine blk_far ?_ NB644_660.out _; refine qB ?_; refine blk_far ?_ NB644_660.out _; refine qB ?_; refine blk_far ?_ NB644_660.out _; refine qB ?_; refine blk_far ?_ NB644_660.out _; refine qB ?_; exact BK644.out) hb); replace BK652 := aM (blk_below (g := gb652) (o := .cells #[.int .i64 t645, .int .i64 t646, .int .i64 t647, .slice Ao15 t648.length co15] 27 (0, 0)) (by refine qB ?_; refine blk_far ?_ NB652_660.out _; refine qB ?_; refine blk_far ?_ NB652_660.out _; refine qB ?_; refine blk_far ?_ NB652_660.out _; refine qB ?_; refine blk_far ?_ NB652_660.out _; refine qB ?_; exact BK652.out) hb); replace BK660 := aM (blk_below (g := gb660) (o := .cells #[.int .i64 t653, .int .i64 t654, .int .i64 t655, .slice Ao22 t656.length co22] 27 (0, 0)) (by exact bP BK660.out) hb); replace HB := bS HB hb; clear hb))
  go_meet
  case rel => exact ⟨_, (true), qE, H', ⟨by first | omega | exact Nat.le_refl _⟩, ⟨by (with_reducible repeat (first | apply Kd.Q_alloc | apply Kd.Q_drewN | apply Kd.Q_drew)); exact Kd.Q_mono HO642.out (fun _ hk => ⟨hk.1.2, hk.2⟩)⟩, ⟨Kd.Q_of_R (by refine qR ?_; exact Kd.R_mono HO650.out (fun _ hk => ⟨hk.1.2, hk.2⟩))⟩, ⟨Kd.Q_of_R (by refine qR ?_; exact Kd.R_mono HO658.out (fun _ hk => ⟨hk.1.2, hk.2⟩))⟩, ⟨by refine qB ?_; exact BK644.out⟩, ⟨by refine qB ?_; exact BK652.out⟩, ⟨by refine qB ?_; exact BK660.out⟩, ⟨by exact qW HB.out⟩⟩
 case rest =>
  clear HC6
  try clear c2
  try clear c2b0
  try clear c2b1
  try clear c24
  try clear c25
  try clear c25b0
  try clear c25b1
  try clear c25b2
  try clear hcz14_0 hcz14_1 hcz14_2 hcz14_3 hfz14_0 hfz14_1 hfz14_2 hfz14_3
  try clear hcz16_0 hcz16_1 hcz16_2 hcz16_3 hfz16_0 hfz16_1 hfz16_2 hfz16_3
  try clear hcz21_0 hcz21_1 hcz21_2 hcz21_3 hfz21_0 hfz21_1 hfz21_2 hfz21_3
  try clear hcz28_0 hcz28_1 hcz28_2 hcz28_3 hfz28_0 hfz28_1 hfz28_2 hfz28_3
  try clear hcz30_0 hcz30_1 hcz30_2 hcz30_3 hfz30_0 hfz30_1 hfz30_2 hfz30_3
  try clear hcz34_0 hcz34_1 hcz34_2 hcz34_3 hfz34_0 hfz34_1 hfz34_2 hfz34_3
  try clear hcz36_0 hcz36_1 hcz36_2 hcz36_3 hfz36_0 hfz36_1 hfz36_2 hfz36_3
  try clear hcz40_0 hcz40_1 hcz40_2 hcz40_3 hfz40_0 hfz40_1 hfz40_2 hfz40_3
  try clear hcz42_0 hcz42_1 hcz42_2 hcz42_3 hfz42_0 hfz42_1 hfz42_2 hfz42_3
  try clear hcz9_0 hcz9_1 hcz9_2 hcz9_3 hfz9_0 hfz9_1 hfz9_2 hfz9_3
  obtain ⟨kq, x44_5, rfl, HA, HJ5, HO_645003, HO_653003, HO_661003, BK644, BK652, BK660, HB⟩ := hcut
  cases kq with
  | zero => exact absurd HA.out (by simp [laws_FnDiffuseImage.j0])
  | succ kj5 =>
   have H := HA.out
   clear HA
   simp only [laws_FnDiffuseImage.j0] at H
   by_cases c44 : x44_5 = true
   ·subst c44
    have H1 : ((laws_equalImage.f kj5 t645 t646 t647 t648 t653 t654 t655 t656).bind fun t662 => (if t662 = true then (some (t651 == t659)) else (some false))) = some r := by rw [if_pos rfl] at H; exact H
    clear H
    have H := H1
    clear H1
    replace H := Option.bind_eq_some_iff.mp H
    obtain ⟨t662, A450, H⟩ := H
    replace H : (if t662 = true then (some (t651 == t659)) else (some false)) = some r := H
    have A45 := aM A450
    clear A450
    by_cases c46 : t662 = true
    rotate_left
    ·replace c46 := Bool.eq_false_iff.mpr c46
     subst c46
     have H1 : (some false) = some r := by rw [if_neg (show ¬ (false = true) by decide)] at H; exact H
     clear H
     have H := H1
     clear H1
     obtain rfl := Option.some.inj H
     exact absurd hrt (by decide)
    subst c46
    have H1 : (some (t651 == t659)) = some r := by rw [if_pos rfl] at H; exact H
    clear H
    have H := H1
    clear H1
    obtain rfl := Option.some.inj H
    have hnb47 := NB652_644.out
    have hnc47 := NB644_652.out
    have hnb48 := NB652_660.out
    have hnc48 := NB660_652.out
    obtain ⟨⟨hcz49_0, hcz49_1, hcz49_2, hcz49_3⟩, hfz49_0, hfz49_1, hfz49_2, hfz49_3⟩ := cf4 BK652
    have hnb50 := NB660_644.out
    have hnc50 := NB644_660.out
    obtain ⟨⟨hcz51_0, hcz51_1, hcz51_2, hcz51_3⟩, hfz51_0, hfz51_1, hfz51_2, hfz51_3⟩ := cf4 BK660
    go_wp2_with (first | ((with_reducible refine gate_callee (f := 15) rfl ?_); refine gL (some 47) Try.func15 #[.agg #[.int .i64 t645, .int .i64 t646, .int .i64 t647, .slice Ao15 t648.length co15], .agg #[.int .i64 t653, .int .i64 t654, .int .i64 t655, .slice Ao22 t656.length co22]] ?_; (with_reducible refine (laws_equalImage.calls kj5 t645 t646 t647 _ _ t648 t653 t654 t655 _ _ t656 true _ ?side1 ?side2 ?side3 ?side4 A45.out).mono ?_); (case side1 => exact qC (Kd.Q_reads' HO_653003.out).2.2); (case side2 => exact (Kd.Q_reads' HO_653003.out).2.1); (case side3 => exact qC (Kd.Q_reads' HO_661003.out).2.2); (case side4 => exact (Kd.Q_reads' HO_661003.out).2.1); rintro e w52 ⟨rfl, hb⟩; refine ⟨_, rfl, ?_⟩; replace HO_645003 := aM (Kd.Q_below (qQ HO_645003.out) hb); replace HO_653003 := aM (Kd.Q_below (qQ HO_653003.out) hb); replace HO_661003 := aM (Kd.Q_below (qQ HO_661003.out) hb); replace BK644 := bB BK644 hb; replace BK652 := bB BK652 hb; replace BK660 := bB BK660 hb; replace HB := bS HB hb; clear hb))
    go_ret
    exact ⟨qX, by exact qW HB.out⟩
   replace c44 := Bool.eq_false_iff.mpr c44
   subst c44
   have H1 : (laws_FnDiffuseImage.l0 kj5 t643 0 t645 t646 t647 t648) = some r := by rw [if_neg (show ¬ (false = true) by decide)] at H; exact H
   clear H
   have H := H1
   clear H1
   have H' := aM H
   clear H
   go_wp2
   go_loopg [9] kj5 (fun kq v9 w' => ∃ (x9_2 : Int), v9 = .int .i64 x9_2 ∧ Aside0 (laws_FnDiffuseImage.l0 kq t643 x9_2 t645 t646 t647 t648 = some r) ∧ Aside0 (kq ≤ kj5) ∧ Aside0 (Kd.Q (Kd.int .i64) 3 w' w.heap.size (fun k_ => some k_ ≠ ((.slice Ao15 t648.length co15) : Value).ownBlock ∧ some k_ ≠ ((.slice Ao22 t656.length co22) : Value).ownBlock) (.slice Ao10 t640.length co10) t640) ∧ Aside0 (Kd.Q (Kd.int .i64) 3 w' w.heap.size (fun k_ => some k_ ≠ ((.slice Ao10 t640.length co10) : Value).ownBlock ∧ some k_ ≠ ((.slice Ao22 t656.length co22) : Value).ownBlock) (.slice Ao15 t648.length co15) t648) ∧ Aside0 (Kd.Q (Kd.int .i64) 3 w' w.heap.size (fun k_ => some k_ ≠ ((.slice Ao10 t640.length co10) : Value).ownBlock ∧ some k_ ≠ ((.slice Ao15 t648.length co15) : Value).ownBlock) (.slice Ao22 t656.length co22) t656) ∧ Aside0 (w'.heap[gb644]? = some (.cells #[.int .i64 t637, .int .i64 t638, .int .i64 t639, (.slice Ao10 t640.length co10)] 27 (0, 0))) ∧ Aside0 (w'.heap[gb652]? = some (.cells #[.int .i64 t645, .int .i64 t646, .int .i64 t647, (.slice Ao15 t648.length co15)] 27 (0, 0))) ∧ Aside0 (w'.heap[gb660]? = some (.cells #[.int .i64 t653, .int .i64 t654, .int .i64 t655, (.slice Ao22 t656.length co22)] 27 (0, 0))) ∧ Aside0 (Below w.heap.size w w'))
   case atStart => exact ⟨(0), qE, H', ⟨Nat.le_refl _⟩, ⟨by (with_reducible repeat (first | apply Kd.Q_alloc | apply Kd.Q_drewN | apply Kd.Q_drew)); exact HO_645003.out⟩, ⟨by (with_reducible repeat (first | apply Kd.Q_alloc | apply Kd.Q_drewN | apply Kd.Q_drew)); exact HO_653003.out⟩, ⟨by (with_reducible repeat (first | apply Kd.Q_alloc | apply Kd.Q_drewN | apply Kd.Q_drew)); exact HO_661003.out⟩, ⟨by refine qB ?_; exact BK644.out⟩, ⟨by refine qB ?_; exact BK652.out⟩, ⟨by refine qB ?_; exact BK660.out⟩, ⟨by exact qW HB.out⟩⟩
   case round =>
    clear H'
    try clear c2
    try clear c2b0
    try clear c2b1
    try clear c24
    try clear c25
    try clear c25b0
    try clear c25b1
    try clear c25b2
    try clear c44
    try clear c46
    try clear hcz14_0 hcz14_1 hcz14_2 hcz14_3 hfz14_0 hfz14_1 hfz14_2 hfz14_3
    try clear hcz16_0 hcz16_1 hcz16_2 hcz16_3 hfz16_0 hfz16_1 hfz16_2 hfz16_3
    try clear hcz21_0 hcz21_1 hcz21_2 hcz21_3 hfz21_0 hfz21_1 hfz21_2 hfz21_3
    try clear hcz28_0 hcz28_1 hcz28_2 hcz28_3 hfz28_0 hfz28_1 hfz28_2 hfz28_3
    try clear hcz30_0 hcz30_1 hcz30_2 hcz30_3 hfz30_0 hfz30_1 hfz30_2 hfz30_3
    try clear hcz34_0 hcz34_1 hcz34_2 hcz34_3 hfz34_0 hfz34_1 hfz34_2 hfz34_3
    try clear hcz36_0 hcz36_1 hcz36_2 hcz36_3 hfz36_0 hfz36_1 hfz36_2 hfz36_3
    try clear hcz40_0 hcz40_1 hcz40_2 hcz40_3 hfz40_0 hfz40_1 hfz40_2 hfz40_3
    try clear hcz42_0 hcz42_1 hcz42_2 hcz42_3 hfz42_0 hfz42_1 hfz42_2 hfz42_3
    try clear hcz49_0 hcz49_1 hcz49_2 hcz49_3 hfz49_0 hfz49_1 hfz49_2 hfz49_3
    try clear hcz51_0 hcz51_1 hcz51_2 hcz51_3 hfz51_0 hfz51_1 hfz51_2 hfz51_3
    try clear hcz9_0 hcz9_1 hcz9_2 hcz9_3 hfz9_0 hfz9_1 hfz9_2 hfz9_3
    obtain ⟨x9_2, rfl, HA, HK2, HO_645003, HO_653003, HO_661003, BK644, BK652, BK660, HB⟩ := hrel
    cases gk with
    | zero => exact absurd HA.out (by simp [laws_FnDiffuseImage.l0])
    | succ k2 =>
     have H := HA.out
     clear HA
     simp only [laws_FnDiffuseImage.l0] at H
     by_cases c59 : x9_2 < (t648.length : Int)
     rotate_left
     ·rw [if_neg c59] at H
      have c59b0 : decide (x9_2 < (t648.length : Int)) = false := decide_eq_false c59
      clear c59
      replace H := Option.bind_eq_some_iff.mp H
      obtain ⟨⟨t666, t667, t668, t669, t672⟩, A740, H⟩ := H
      replace H : (if t672 = true then ((laws_equalImage.f k2 t666 t667 t668 t669 t645 t646 t647 t648).bind fun t674 => (if t674 = true then ((impl_ValidImage.f t645 t646 t647 t648).bind fun t675 => (some t675)) else (some false))) else (some false)) = some r := H
      have A74 := aM A740
      clear A740
      by_cases c75 : t672 = true
      rotate_left
      ·replace c75 := Bool.eq_false_iff.mpr c75
       subst c75
       have H1 : (some false) = some r := by rw [if_neg (show ¬ (false = true) by decide)] at H; exact H
       clear H
       have H := H1
       clear H1
       obtain rfl := Option.some.inj H
       exact absurd hrt (by decide)
      subst c75
      have H1 : ((laws_equalImage.f k2 t666 t667 t668 t669 t645 t646 t647 t648).bind fun t674 => (if t674 = true then ((impl_ValidImage.f t645 t646 t647 t648).bind fun t675 => (some t675)) else (some false))) = some r := by rw [if_pos rfl] at H; exact H
      clear H
      have H := H1
      clear H1
      replace H := Option.bind_eq_some_iff.mp H
      obtain ⟨t674, A760, H⟩ := H
      replace H : (if t674 = true then ((impl_ValidImage.f t645 t646 t647 t648).bind fun t675 => (some t675)) else (some false)) = some r := H
      have A76 := aM A760
      clear A760
      by_cases c77 : t674 = true
      rotate_left
      ·replace c77 := Bool.eq_false_iff.mpr c77
       subst c77
       have H1 : (some false) = some r := by rw [if_neg (show ¬ (false = true) by decide)] at H; exact H
       clear H
       have H := H1
       clear H1
       obtain rfl := Option.some.inj H
       exact absurd hrt (by decide)
      subst c77
      have H1 : ((impl_ValidImage.f t645 t646 t647 t648).bind fun t675 => (some t675)) = some r := by rw [if_pos rfl] at H; exact H
      clear H
      have H := H1
      clear H1
      replace H := Option.bind_eq_some_iff.mp H
      obtain ⟨t675, A780, H⟩ := H
      replace H : (some t675) = some r := H
      have A78 := aM A780
      clear A780
      obtain rfl := Option.some.inj H
      have hnb79 := NB652_644.out
      have hnc79 := NB644_652.out
      have hnb80 := NB652_660.out
      have hnc80 := NB660_652.out
      obtain ⟨⟨hcz81_0, hcz81_1, hcz81_2, hcz81_3⟩, hfz81_0, hfz81_1, hfz81_2, hfz81_3⟩ := cf4 BK652
      go_wp2_with (first | ((with_reducible refine gate_callee (f := 28) rfl ?_); refine gL (some 80) Try.func28 #[.agg #[.int .i64 t645, .int .i64 t646, .int .i64 t647, .slice Ao15 t648.length co15], .int .i64 t643] ?_; (with_reducible refine (impl_DiffuseImage.calls k2 t645 t646 t647 _ _ t648 t643 t666 t667 t668 t669 true _ ?side1 ?side2 A74.out).mono ?_); (case side1 => exact qC (Kd.Q_reads' HO_653003.out).2.2); (case side2 => exact (Kd.Q_reads' HO_653003.out).2.1); rintro e w82 ⟨v670, rfl, ho0, hb⟩; refine ⟨_, rfl, ?_⟩; have HO671 := aM (Kd.R_lower (Kd.R_new' (Kd.R_new' (Kd.R_new' ho0 (Kd.Q_lt (qQ HO_645003.out))) (Kd.Q_lt (qQ HO_653003.out))) (Kd.Q_lt (qQ HO_661003.out))) (below_size (qW HB.out))); replace HO_645003 := aM (Kd.Q_elder' (qQ HO_645003.out) (Kd.R_base ho0) hb); replace HO_653003 := aM (Kd.Q_elder' (qQ HO_653003.out) (Kd.R_base ho0) hb); replace HO_661003 := aM (Kd.Q_elder' (qQ HO_661003.out) (Kd.R_base ho0) hb); replace BK644 := bB BK644 hb; replace BK652 := bB BK652 hb; replace BK660 := bB BK660 hb; replace HB := bS HB hb; clear hb ho0) | ((with_reducible refine gate_dst (N := 10) rfl ?_); refine bxE (N := 10) (cs := #[.int .i64 0, .int .i64 0, .int .i64 0, .slice none 0 0]) (t := 27) ?_; intro gb673 hg w83 hbox hb; replace HO_645003 := aM (Kd.Q_below (qQ HO_645003.out) hb); replace HO_653003 := aM (Kd.Q_below (qQ HO_653003.out) hb); replace HO_661003 := aM (Kd.Q_below (qQ HO_661003.out) hb); replace HO671 := aM (Kd.R_below (qR HO671.out) hb); have BK673 := aM (hbox); have GW673 := gW hg HB; have GE673 := gW hg HB; replace HB := bS HB hb; have NB644_673 := nL hg BK644; have NB673_644 := nG hg BK644; replace BK644 := bB BK644 hb; have NB652_673 := nL hg BK652; have NB673_652 := nG hg BK652; replace BK652 := bB BK652 hb; have NB660_673 := nL hg BK660; have NB673_660 := nG hg BK660; replace BK660 := bB BK660 hb; clear hb hbox hg; have hnb84 := NB673_644.out; have hnc84 := NB644_673.out; have hnb85 := NB673_652.out; have hnc85 := NB652_673.out; have hnb86 := NB673_660.out; have hnc86 := NB660_673.out; obtain ⟨⟨hcz87_0, hcz87_1, hcz87_2, hcz87_3⟩, hfz87_0, hfz87_1, hfz87_2, hfz87_3⟩ := cf4 BK673; obtain ⟨Ao88, co88, rfl⟩ := sL HO671; obtain ⟨⟨hcz89_0, hcz89_1, hcz89_2, hcz89_3⟩, hfz89_0, hfz89_1, hfz89_2, hfz89_3⟩ := cf4 BK652) | (go_at_call 15; (with_reducible refine (laws_equalImage.calls k2 t666 t667 t668 _ _ t669 t645 t646 t647 _ _ t648 true _ ?side1 ?side2 ?side3 ?side4 A76.out).mono ?_); (case side1 => refine (Kd.R_reads' (e := 3) (base := w.heap.size) (ok := fun k_ => (((True ∧ some k_ ≠ (.slice Ao10 t640.length co10 : Value).ownBlock) ∧ some k_ ≠ (.slice Ao15 t648.length co15 : Value).ownBlock) ∧ some k_ ≠ (.slice Ao22 t656.length co22 : Value).ownBlock)) (n := t669.length) (c := co88) ?_).2.2; exact (by refine qR ?_; exact (fr4 HO671 BK673))); (case side2 => exact (Kd.R_reads' HO671.out).2.1); (case side3 => refine (Kd.Q_reads' (e := 3) (base := w.heap.size) (ok := fun k_ => ((some k_ ≠ (.slice Ao10 t640.length co10 : Value).ownBlock ∧ some k_ ≠ (.slice Ao22 t656.length co22 : Value).ownBlock) ∧ some k_ ≠ (.slice Ao88 t669.length co88 : Value).ownBlock)) (n := t648.length) (c := co15) ?_).2.2; exact (by (with_reducible repeat (first | apply Kd.Q_alloc | apply Kd.Q_drewN | apply Kd.Q_drew)); exact (Kd.Q_mono (qT HO_653003 BK673) (fun _ h_ => h_.1)))); (case side4 => exact (Kd.Q_reads' HO_653003.out).2.1); rintro e w90 ⟨rfl, hb⟩; replace HO_645003 := aM (Kd.Q_below (by (with_reducible repeat (first | apply Kd.Q_alloc | apply Kd.Q_drewN | apply Kd.Q_drew)); exact (Kd.Q_mono (qT HO_645003 BK673) (fun _ h_ => h_.1))) hb); replace HO_653003 := aM (Kd.Q_below (by (with_reducible repeat (first | apply Kd.Q_alloc | apply Kd.Q_drewN | apply Kd.Q_drew)); exact (Kd.Q_mono (qT HO_653003 BK673) (fun _ h_ => h_.1))) hb); replace HO_661003 := aM (Kd.Q_below (by (with_reducible repeat (first | apply Kd.Q_alloc | apply Kd.Q_drewN | apply Kd.Q_drew)); exact (Kd.Q_mono (qT HO_661003 BK673) (fun _ h_ => h_.1))) hb); replace HO671 := aM (Kd.R_below (by refine qR ?_; exact (fr4 HO671 BK673)) hb); replace BK644 := aM (blk_below (g := gb644) (o := .cells #[.int .i64 t637, .int .i64 t638, .int .i64 t639, .slice Ao10 t640.length co10] 27 (0, 0)) (by refine qB ?_; refine blk_far ?_ NB644_673.out _; refine qB ?_; refine blk_far ?_ NB644_673.out _; refine qB ?_; refine blk_far ?_ NB644_673.out _; refine qB ?_; refine blk_far ?_ NB644_673.out _; refine qB ?_; exact BK644.out) hb); replace BK652 := aM (blk_below (g := gb652) (o := .cells #[.int .i64 t645, .int .i64 t646, .int .i64 t647, .slice Ao15 t648.length co15] 27 (0, 0)) (by refine qB ?_; refine blk_far ?_ NB652_673.out _; refine qB ?_; refine blk_far ?_ NB652_673.out _; refine qB ?_; refine blk_far ?_ NB652_673.out _; refine qB ?_; refine blk_far ?_ NB652_673.out _; refine qB ?_; exact BK652.out) hb); replace BK660 := aM (blk_below (g := gb660) (o := .cells #[.int .i64 t653, .int .i64 t654, .int .i64 t655, .slice Ao22 t656.length co22] 27 (0, 0)) (by refine qB ?_; refine blk_far ?_ NB660_673.out _; refine qB ?_; refine blk_far ?_ NB660_673.out _; refine qB ?_; refine blk_far ?_ NB660_673.out _; refine qB ?_; refine blk_far ?_ NB660_673.out _; refine qB ?_; exact BK660.out) hb); replace BK673 := aM (blk_below (g := gb673) (o := .cells #[.int .i64 t666, .int .i64 t667, .int .i64 t668, .slice Ao88 t669.length co88] 27 (0, 0)) (by exact bP BK673.out) hb); replace HB := bS HB hb; clear hb; obtain ⟨⟨hcz91_0, hcz91_1, hcz91_2, hcz91_3⟩, hfz91_0, hfz91_1, hfz91_2, hfz91_3⟩ := cf4 BK652) | (go_at_call 30; (with_reducible refine (impl_ValidImage.calls t645 t646 t647 _ _ t648 t675 _ ?side1 ?side2 A78.out).mono ?_); (case side1 => exact qC (Kd.Q_reads' HO_653003.out).2.2); (case side2 => exact (Kd.Q_reads' HO_653003.out).2.1); rintro e w92 ⟨rfl, hb⟩; replace HO_645003 := aM (Kd.Q_below (qQ HO_645003.out) hb); replace HO_653003 := aM (Kd.Q_below (qQ HO_653003.out) hb); replace HO_661003 := aM (Kd.Q_below (qQ HO_661003.out) hb); replace HO671 := aM (Kd.R_below (qR HO671.out) hb); replace BK644 := bB BK644 hb; replace BK652 := bB BK652 hb; replace BK660 := bB BK660 hb; replace BK673 := bB BK673 hb; replace HB := bS HB hb; clear hb))
      go_ret
      exact ⟨qX, by exact qW HB.out⟩
     rw [if_pos c59] at H
     have c59b0 : decide (x9_2 < (t648.length : Int)) = true := decide_eq_true c59
     clear c59
     replace H := iD H
     obtain ⟨c60b0, H⟩ := H
     replace H := Option.bind_eq_some_iff.mp H
     obtain ⟨t665, A610, H⟩ := H
     replace H : (if (wrap64 (t643 - 1)) = 0 then (none) else (if (rd t648 x9_2) = (wrap64 (Int.tdiv (wrap64 (255 * t665)) (wrap64 (t643 - 1)))) then (laws_FnDiffuseImage.l0 k2 t643 (wrap64 (x9_2 + 1)) t645 t646 t647 t648) else (some false))) = some r := H
     have A61 := aM A610
     clear A610
     by_cases c62 : (wrap64 (t643 - 1)) = 0
     ·rw [if_pos c62] at H
      exact absurd H (by simp)
     rw [if_neg c62] at H
     have c62b0 : ((wrap64 (t643 - 1)) == 0) = false := beq_eq_false_iff_ne.mpr c62
     have c62b1 : ((wrap64 (t643 - 1)) != 0) = true := bne_iff_ne.mpr c62
     by_cases c63 : (rd t648 x9_2) = (wrap64 (Int.tdiv (wrap64 (255 * t665)) (wrap64 (t643 - 1))))
     rotate_left
     ·rw [if_neg c63] at H
      have c63b0 : ((rd t648 x9_2) == (wrap64 (Int.tdiv (wrap64 (255 * t665)) (wrap64 (t643 - 1))))) = false := beq_eq_false_iff_ne.mpr c63
      have c63b1 : ((rd t648 x9_2) != (wrap64 (Int.tdiv (wrap64 (255 * t665)) (wrap64 (t643 - 1))))) = true := bne_iff_ne.mpr c63
      obtain rfl := Option.some.inj H
      exact absurd hrt (by decide)
     rw [if_pos c63] at H
     have c63b0 : ((rd t648 x9_2) == (wrap64 (Int.tdiv (wrap64 (255 * t665)) (wrap64 (t643 - 1))))) = true := beq_iff_eq.mpr c63
     have c63b1 : ((rd t648 x9_2) != (wrap64 (Int.tdiv (wrap64 (255 * t665)) (wrap64 (t643 - 1))))) = false := bne_eq_false_iff_eq.mpr c63
     clear c63
     have H' := aM H
     clear H
     have hnb64 := NB652_644.out
     have hnc64 := NB644_652.out
     have hnb65 := NB652_660.out
     have hnc65 := NB660_652.out
     obtain ⟨⟨hcz66_0, hcz66_1, hcz66_2, hcz66_3⟩, hfz66_0, hfz66_1, hfz66_2, hfz66_3⟩ := cf4 BK652
     try go_wp2
     replace HO_645003 := aM (Kd.Q_drew HO_645003.out)
     replace HO_653003 := aM (Kd.Q_drew HO_653003.out)
     replace HO_661003 := aM (Kd.Q_drew HO_661003.out)
     replace BK644 := aM (blk_drew BK644.out)
     replace BK652 := aM (blk_drew BK652.out)
     replace BK660 := aM (blk_drew BK660.out)
     replace HB := aM (below_drew1 HB.out)
     obtain ⟨ad663, e663, hx663_0⟩ := Kd.at_int (Kd.Q_reads' HO_653003.out).2.2 x9_2 oD oD
     cases e663
     have p663 := eq_true (oD : 0 ≤ (x9_2 : Int))
     have q663 := eq_true (oD : x9_2 < (t648.length : Int))
     obtain ⟨ad664, e664, hx664_0⟩ := Kd.at_int (Kd.Q_reads' HO_653003.out).2.2 x9_2 oD oD
     obtain rfl : ad663 = ad664 := (by injection e664)
     have p664 := eq_true (oD : 0 ≤ (x9_2 : Int))
     have q664 := eq_true (oD : x9_2 < (t648.length : Int))
     refine start_ (n := 17) (S := fun w' => w'.cell? ⟨gb652, 0, none⟩ = some (.int .i64 t645) ∧ w'.cell? ⟨gb652, 1, none⟩ = some (.int .i64 t646) ∧ w'.cell? ⟨gb652, 2, none⟩ = some (.int .i64 t647) ∧ w'.cell? ⟨gb652, 3, none⟩ = some (.slice (some ad663) t648.length co15) ∧ w'.cell? (ad663.add (x9_2).toNat) = some (.int .i64 (rd t648 x9_2)) ∧ w'.cell? (ad663.add (x9_2).toNat) = some (.int .i64 (rd t648 x9_2))) (ds := []) (bA 17 0) (by kernel_rfl) rfl rfl ⟨(blk_cell BK652.out 0).trans rfl, (blk_cell BK652.out 1).trans rfl, (blk_cell BK652.out 2).trans rfl, (blk_cell BK652.out 3).trans rfl, hx663_0, hx664_0⟩ (fun hHeld => ?_); refine with_tabW laws_FnDiffuseImage.tab11 laws_FnDiffuseImage.bits11 (fun HT_ HW_ => ?_)
     generalize wr.drew = w67 at HO_645003 HO_653003 HO_661003 BK644 BK652 BK660 HB hx663_0 hx664_0 hHeld ⊢
     refine pQ 0 60 HT_ (bA 17 1) ?_
     refine pQ 2 62 HT_ (bA 17 5) ?_
     refine pQ 5 65 HT_ (bA 17 37) ?_
     refine pQ 7 67 HT_ (bA 17 165) ?_
     refine pQ 10 70 HT_ (bA 17 1189) ?_
     refine pQ 13 73 HT_ (bA 17 9381) ?_
     refine pQ 14 74 HT_ (bA 17 25765) ?_
     refine take_ (i := 1) (N := some 61) (v := ?_) (a' := ?_) (bA 17 25767) rfl rfl (take_ofW HT_.out HW_.out (by kernel_rfl)) (fun _ _ _ h => h) (Or.inl ⟨by rfl, ?_⟩) hHeld ?_ ?_
     rotate_left
     ·rintro w' ⟨s0, s1, s2, s3, s4, s5⟩
      go_simp
      with_reducible rfl
     rotate_left
     ·refine pZ ?_
      rfl
     refine pQ 3 63 HT_ (bA 17 25775) ?_
     refine take_ (i := 4) (N := some 64) (v := ?_) (a' := ?_) (bA 17 25791) rfl rfl (take_ofW HT_.out HW_.out (by kernel_rfl)) (fun _ _ _ h => h) (Or.inl ⟨by rfl, ?_⟩) hHeld ?_ ?_
     rotate_left
     ·rintro w' ⟨s0, s1, s2, s3, s4, s5⟩
      go_simp
      with_reducible rfl
     rotate_left
     ·refine pZ ?_
      rfl
     refine take_ (i := 6) (N := some 66) (v := ?_) (a' := ?_) (bA 17 25855) rfl rfl (take_ofW HT_.out HW_.out (by kernel_rfl)) (fun _ _ _ h => h) (Or.inl ⟨by rfl, ?_⟩) hHeld ?_ ?_
     rotate_left
     ·rintro w' ⟨s0, s1, s2, s3, s4, s5⟩
      go_simp
      with_reducible rfl
     rotate_left
     ·refine pZ ?_
      rfl
     refine pQ 8 68 HT_ (bA 17 26111) ?_
     refine take_ (i := 9) (N := some 69) (v := ?_) (a' := ?_) (bA 17 26623) rfl rfl (take_ofW HT_.out HW_.out (by kernel_rfl)) (fun _ _ _ h => h) (Or.inl ⟨by rfl, ?_⟩) hHeld ?_ ?_
     rotate_left
     ·rintro w' ⟨s0, s1, s2, s3, s4, s5⟩
      go_simp
      with_reducible rfl
     rotate_left
     ·refine pZ ?_
      rfl
     refine one_ (i := 11) (N := some 71) (bA 17 28671) rfl rfl (one_of HT_.out (by kernel_rfl)) (by decide) (fun K hK => ?_)
     refine goes_ Try.func26 (by kernel_rfl) rfl #[.int .i64 (rd t648 x9_2), .int .i64 t643] (by rfl) rfl rfl qM ?_
     with_reducible refine (impl_LevelOf.calls k2 (rd t648 x9_2) t643 t665 _ A61.out).mono ?_
     rintro e w68 ⟨rfl, hb⟩
     have HS4_ := (hb.cell (World.block_lt_of_cell? _ _ (hHeld.2.2.2.2.1))).trans (hHeld.2.2.2.2.1)
     have HS5_ := (hb.cell (World.block_lt_of_cell? _ _ (hHeld.2.2.2.2.2))).trans (hHeld.2.2.2.2.2)
     refine ⟨_, rfl, ?_⟩
     replace HO_645003 := aM (Kd.Q_below (qQ HO_645003.out) hb)
     replace HO_653003 := aM (Kd.Q_below (qQ HO_653003.out) hb)
     replace HO_661003 := aM (Kd.Q_below (qQ HO_661003.out) hb)
     replace BK644 := bB BK644 hb
     replace BK652 := bB BK652 hb
     replace BK660 := bB BK660 hb
     replace HB := bS HB hb
     (try clear hb)
     (try clear hb2)
     (try clear hk)
     (try clear hi)
     refine hK.out _ _ ⟨(blk_cell BK652.out 0).trans rfl, (blk_cell BK652.out 1).trans rfl, (blk_cell BK652.out 2).trans rfl, (blk_cell BK652.out 3).trans rfl, HS4_, HS5_⟩ (fun hHeld => ?_)
     clear hK K
     refine norm_ (a' := ?_) ?_ ?_
     rotate_left
     ·show Act.put _ (some 71) _ = _
      refine pZ ?_
      rfl
     refine pQ 12 72 HT_ (bA 17 32767) ?_
     refine pQ 15 75 HT_ (bA 17 65535) ?_
     refine pQ 16 76 HT_ (bA 17 131071) ?_
     refine done_ (done_of HT_.out (by kernel_rfl)) ?_
     try go_wp2
     go_roundg k2
     case measure => have := HJ5.out; have := HK2.out; omega
     case rel => exact ⟨(wrap64 (x9_2 + 1)), qE, H', ⟨by have := HJ5.out; have := HK2.out; omega⟩, ⟨by (with_reducible repeat (first | apply Kd.Q_alloc | apply Kd.Q_drewN | apply Kd.Q_drew)); exact HO_645003.out⟩, ⟨by (with_reducible repeat (first | apply Kd.Q_alloc | apply Kd.Q_drewN | apply Kd.Q_drew)); exact HO_653003.out⟩, ⟨by (with_reducible repeat (first | apply Kd.Q_alloc | apply Kd.Q_drewN | apply Kd.Q_drew)); exact HO_661003.out⟩, ⟨by refine qB ?_; exact BK644.out⟩, ⟨by refine qB ?_; exact BK652.out⟩, ⟨by refine qB ?_; exact BK660.out⟩, ⟨by exact qW HB.out⟩⟩
def laws_FnDiffuseImage.Pure : Prop := ∀ (l0 : List Int), l0.length ≤ maxLen → l0.length * 1 ≤ 140737488351232 → (∀ x ∈ l0, (Lit.int .u8 x).wf = true) → ∃ k, laws_FnDiffuseImage.f k l0 = some true
theorem laws_FnDiffuseImage.walk (P : laws_FnDiffuseImage.Pure) (a0 : Option Addr) (len0 cap0 : Nat) (z0 : List Int) (w : World) (w0 : (a0 = none ∧ len0 = 0 ∧ cap0 = 0 ∧ z0 = []) ∨ ∃ x, a0 = some x ∧ len0 ≤ cap0 ∧ cap0 ≤ maxLen ∧ z0.length = cap0 ∧ (∀ i, i < z0.length → w.cell? (x.add i) = some (.int .u8 (z0.getD i 0))) ∧ ∀ n ∈ z0, (Lit.int .u8 n).wf = true) (y0 : len0 * 1 ≤ 140737488351232) :
  Calls Try.prog 7 #[.slice a0 len0 cap0] w fun e w' => e = .returned (.bool true) ∧ Below w.heap.size w w' := by
 obtain ⟨l0, rfl, hr0, hm0, hw0, hc0⟩ := ReadsInt.ofRowC w0
 obtain ⟨k, h⟩ := P l0 hm0 y0 hw0
 refine (laws_FnDiffuseImage.calls k _ _ l0 true w (Kd.C_of_reads (d := (0 : Int)) (h1 := fun _ => rfl) hr0) hc0 h rfl).mono ?_
 rintro e w' ⟨rfl, hd⟩
 exact ⟨rfl, hd⟩
end Go.Proofs.Yteeeedmmcdlhjaa.P
