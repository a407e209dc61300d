/- Contracts and row, written by a program of this place out of the translation: the call answers true and its argument reads as before, for every input; no condition. -/
import Derived.Test.YtchahbdmdcllaaaK0
import Derived.Test.YtchahbdmdcllaaaK1
import Derived.Test.YtchahbdmdcllaaaK2
import Derived.Test.YtchahbdmdcllaaaK3
namespace Go.Proofs.Ytchahbdmdcllaaa.P
open Go.RowKit Go.Proofs.YtchahbdmdcllaaaW.PrintWords Go.Proofs.YtchahbdmdcllaaaW.PrintLast Go.Proofs.YtchahbdmdcllaaaW.PrintMore
attribute [local go_sem] max2_int min2_int max_two min_two max_three min_three max_four min_four   -- for this text's walks alone
set_option linter.unusedVariables false
set_option linter.unusedSimpArgs false

/-! ### laws_FnExactWriteImage: function 10 -/
mutual
def laws_FnExactWriteImage.j0 : Nat → List Int → Bool → List Int → Bool → Bool → Int → Int → Int → List Int → Int → Int → Int → List Int → Option (Bool)
 | 0, _, _, _, _, _, _, _, _, _, _, _, _, _ => none
 | k + 1, x4, x5, x7, x8, x40, x1064000, x1064001, x1064002, x1064003, x1082000, x1082001, x1082002, x1082003 => if x40 = true then (some false) else ((laws_toImage.f k x1064000 x1064001 x1064002 x1064003).bind fun bt1087 => ((laws_eqImage.f k x1082000 x1082001 x1082002 x1082003 bt1087.1 bt1087.2.1 bt1087.2.2.1 bt1087.2.2.2).bind fun t1093 => (if t1093 = true then ((laws_markImage.f k x1082000 x1082001 x1082002 x1082003 1).bind fun bt1094 => (if bt1094.1 < 0 then (laws_FnExactWriteImage.j1 k x4 x5 x7 true x1064000 x1064001 x1064002 x1064003) else ((laws_eqIntS.f k x7 x4).bind fun t1096 => (if t1096 = true then (laws_FnExactWriteImage.j1 k x4 x5 x7 (x8 != x5) x1064000 x1064001 x1064002 x1064003) else (laws_FnExactWriteImage.j1 k x4 x5 x7 true x1064000 x1064001 x1064002 x1064003))))) else (some false))))
def laws_FnExactWriteImage.j1 : Nat → List Int → Bool → List Int → Bool → Int → Int → Int → List Int → Option (Bool)
 | 0, _, _, _, _, _, _, _, _ => none
 | k + 1, x4, x5, x7, x61, x1064000, x1064001, x1064002, x1064003 => if x61 = true then (some false) else ((laws_markIntS.f k x7 1).bind fun bt1097 => ((laws_heldIntS.f k bt1097.2 1).bind fun t1099 => (if t1099 < 0 then (some false) else (if t1099 = bt1097.1 then ((laws_toImage.f k x1064000 x1064001 x1064002 x1064003).bind fun bt1100 => ((impl_WriteImage.f k bt1100.1 bt1100.2.1 bt1100.2.2.1 bt1100.2.2.2).bind fun bt1106 => ((laws_eqIntS.f k bt1106.1 x4).bind fun t1110 => (if t1110 = true then (laws_FnExactWriteImage.j2 k bt1097.2 bt1097.1 (bt1106.2 != x5)) else (laws_FnExactWriteImage.j2 k bt1097.2 bt1097.1 true))))) else (some false)))))
def laws_FnExactWriteImage.j2 : Nat → List Int → Int → Bool → Option (Bool)
 | 0, _, _, _ => none
 | k + 1, x7, x10, x87 => if x87 = true then (some false) else ((laws_heldIntS.f k x7 1).bind fun t1111 => (if t1111 < 0 then (some false) else (if t1111 = x10 then (some true) else (some false))))
end
def laws_FnExactWriteImage.f (k : Nat) (a0_0 : Int) (a0_1 : Int) (a0_2 : Int) (l0_3 : List Int) : Option (Bool) := (laws_szImage.f a0_0 a0_1 a0_2 l0_3 1048576).bind fun t1064 => (if t1064 < 0 then (some true) else ((laws_toImage.f k a0_0 a0_1 a0_2 l0_3).bind fun bt1065 => ((spec_WriteImage.f k bt1065.1 bt1065.2.1 bt1065.2.2.1 bt1065.2.2.2).bind fun bt1071 => ((laws_toImage.f k a0_0 a0_1 a0_2 l0_3).bind fun bt1075 => ((impl_WriteImage.f k bt1075.1 bt1075.2.1 bt1075.2.2.1 bt1075.2.2.2).bind fun bt1082 => ((laws_eqIntS.f k bt1082.1 bt1071.1).bind fun t1086 => (if t1086 = true then (laws_FnExactWriteImage.j0 k bt1071.1 bt1071.2 bt1082.1 bt1082.2 (bt1082.2 != bt1071.2) a0_0 a0_1 a0_2 l0_3 bt1075.1 bt1075.2.1 bt1075.2.2.1 bt1075.2.2.2) else (laws_FnExactWriteImage.j0 k bt1071.1 bt1071.2 bt1082.1 bt1082.2 true a0_0 a0_1 a0_2 l0_3 bt1075.1 bt1075.2.1 bt1075.2.2.1 bt1075.2.2.2))))))))
theorem laws_FnExactWriteImage.mono_l : ∀ k, (∀ y0 y1 y2 y3 y4 y5 y6 y7 y8 y9 y10 y11 y12, LeO (laws_FnExactWriteImage.j0 k y0 y1 y2 y3 y4 y5 y6 y7 y8 y9 y10 y11 y12) (laws_FnExactWriteImage.j0 (k + 1) y0 y1 y2 y3 y4 y5 y6 y7 y8 y9 y10 y11 y12)) ∧ (∀ y0 y1 y2 y3 y4 y5 y6 y7, LeO (laws_FnExactWriteImage.j1 k y0 y1 y2 y3 y4 y5 y6 y7) (laws_FnExactWriteImage.j1 (k + 1) y0 y1 y2 y3 y4 y5 y6 y7)) ∧ (∀ y0 y1 y2, LeO (laws_FnExactWriteImage.j2 k y0 y1 y2) (laws_FnExactWriteImage.j2 (k + 1) y0 y1 y2))
 | 0 => ⟨fun _ _ _ _ _ _ _ _ _ _ _ _ _ r h => by simp [laws_FnExactWriteImage.j0] at h, fun _ _ _ _ _ _ _ _ r h => by simp [laws_FnExactWriteImage.j1] at h, fun _ _ _ r h => by simp [laws_FnExactWriteImage.j2] at h⟩
 | k + 1 => by
  obtain ⟨ih0, ih1, ih2⟩ := laws_FnExactWriteImage.mono_l k
  refine ⟨?_, ?_, ?_⟩
  ·
   intro y0 y1 y2 y3 y4 y5 y6 y7 y8 y9 y10 y11 y12
   unfold laws_FnExactWriteImage.j0
   repeat' first
   | (with_reducible exact ih0 _ _ _ _ _ _ _ _ _ _ _ _ _)
   | (with_reducible exact ih1 _ _ _ _ _ _ _ _)
   | (with_reducible exact ih2 _ _ _)
   | (with_reducible exact impl_WriteImage.mono _ _ _ _ _)
   | (with_reducible exact laws_eqImage.mono _ _ _ _ _ _ _ _ _)
   | (with_reducible exact laws_eqIntS.mono _ _ _)
   | (with_reducible exact laws_heldIntS.mono _ _ _)
   | (with_reducible exact laws_markImage.mono _ _ _ _ _ _)
   | (with_reducible exact laws_markIntS.mono _ _ _)
   | (with_reducible exact laws_toImage.mono _ _ _ _ _)
   | (with_reducible exact spec_WriteImage.mono _ _ _ _ _)
   | (with_reducible exact LeO.refl _)
   | (with_reducible exact LeO.none _)
   | (with_reducible refine LeO.ite ?_ ?_)
   | (with_reducible refine LeO.bind ?_ (fun _ => ?_))
   | exact ih0 _ _ _ _ _ _ _ _ _ _ _ _ _
   | exact ih1 _ _ _ _ _ _ _ _
   | exact ih2 _ _ _
   | exact impl_WriteImage.mono _ _ _ _ _
   | exact laws_eqImage.mono _ _ _ _ _ _ _ _ _
   | exact laws_eqIntS.mono _ _ _
   | exact laws_heldIntS.mono _ _ _
   | exact laws_markImage.mono _ _ _ _ _ _
   | exact laws_markIntS.mono _ _ _
   | exact laws_toImage.mono _ _ _ _ _
   | exact spec_WriteImage.mono _ _ _ _ _
   | exact LeO.none _
   | refine LeO.ite ?_ ?_
   | refine LeO.bind ?_ (fun _ => ?_)
  ·
   intro y0 y1 y2 y3 y4 y5 y6 y7
   unfold laws_FnExactWriteImage.j1
   repeat' first
   | (with_reducible exact ih0 _ _ _ _ _ _ _ _ _ _ _ _ _)
   | (with_reducible exact ih1 _ _ _ _ _ _ _ _)
   | (with_reducible exact ih2 _ _ _)
   | (with_reducible exact impl_WriteImage.mono _ _ _ _ _)
   | (with_reducible exact laws_eqImage.mono _ _ _ _ _ _ _ _ _)
   | (with_reducible exact laws_eqIntS.mono _ _ _)
   | (with_reducible exact laws_heldIntS.mono _ _ _)
   | (with_reducible exact laws_markImage.mono _ _ _ _ _ _)
   | (with_reducible exact laws_markIntS.mono _ _ _)
   | (with_reducible exact laws_toImage.mono _ _ _ _ _)
   | (with_reducible exact spec_WriteImage.mono _ _ _ _ _)
   | (with_reducible exact LeO.refl _)
   | (with_reducible exact LeO.none _)
   | (with_reducible refine LeO.ite ?_ ?_)
   | (with_reducible refine LeO.bind ?_ (fun _ => ?_))
   | exact ih0 _ _ _ _ _ _ _ _ _ _ _ _ _
   | exact ih1 _ _ _ _ _ _ _ _
   | exact ih2 _ _ _
   | exact impl_WriteImage.mono _ _ _ _ _
   | exact laws_eqImage.mono _ _ _ _ _ _ _ _ _
   | exact laws_eqIntS.mono _ _ _
   | exact laws_heldIntS.mono _ _ _
   | exact laws_markImage.mono _ _ _ _ _ _
   | exact laws_markIntS.mono _ _ _
   | exact laws_toImage.mono _ _ _ _ _
   | exact spec_WriteImage.mono _ _ _ _ _
   | exact LeO.none _
   | refine LeO.ite ?_ ?_
   | refine LeO.bind ?_ (fun _ => ?_)
  ·
   intro y0 y1 y2
   unfold laws_FnExactWriteImage.j2
   repeat' first
   | (with_reducible exact ih0 _ _ _ _ _ _ _ _ _ _ _ _ _)
   | (with_reducible exact ih1 _ _ _ _ _ _ _ _)
   | (with_reducible exact ih2 _ _ _)
   | (with_reducible exact impl_WriteImage.mono _ _ _ _ _)
   | (with_reducible exact laws_eqImage.mono _ _ _ _ _ _ _ _ _)
   | (with_reducible exact laws_eqIntS.mono _ _ _)
   | (with_reducible exact laws_heldIntS.mono _ _ _)
   | (with_reducible exact laws_markImage.mono _ _ _ _ _ _)
   | (with_reducible exact laws_markIntS.mono _ _ _)
   | (with_reducible exact laws_toImage.mono _ _ _ _ _)
   | (with_reducible exact spec_WriteImage.mono _ _ _ _ _)
   | (with_reducible exact LeO.refl _)
   | (with_reducible exact LeO.none _)
   | (with_reducible refine LeO.ite ?_ ?_)
   | (with_reducible refine LeO.bind ?_ (fun _ => ?_))
   | exact ih0 _ _ _ _ _ _ _ _ _ _ _ _ _
   | exact ih1 _ _ _ _ _ _ _ _
   | exact ih2 _ _ _
   | exact impl_WriteImage.mono _ _ _ _ _
   | exact laws_eqImage.mono _ _ _ _ _ _ _ _ _
   | exact laws_eqIntS.mono _ _ _
   | exact laws_heldIntS.mono _ _ _
   | exact laws_markImage.mono _ _ _ _ _ _
   | exact laws_markIntS.mono _ _ _
   | exact laws_toImage.mono _ _ _ _ _
   | exact spec_WriteImage.mono _ _ _ _ _
   | exact LeO.none _
   | refine LeO.ite ?_ ?_
   | refine LeO.bind ?_ (fun _ => ?_)
theorem laws_FnExactWriteImage.mono : ∀ a0 a1 a2 a3 k, LeO (laws_FnExactWriteImage.f k a0 a1 a2 a3) (laws_FnExactWriteImage.f (k + 1) a0 a1 a2 a3) := by
 intro a0 a1 a2 a3 k
 obtain ⟨ih0, ih1, ih2⟩ := laws_FnExactWriteImage.mono_l k
 unfold laws_FnExactWriteImage.f
 repeat' first
   | (with_reducible exact ih0 _ _ _ _ _ _ _ _ _ _ _ _ _)
   | (with_reducible exact ih1 _ _ _ _ _ _ _ _)
   | (with_reducible exact ih2 _ _ _)
   | (with_reducible exact impl_WriteImage.mono _ _ _ _ _)
   | (with_reducible exact laws_eqImage.mono _ _ _ _ _ _ _ _ _)
   | (with_reducible exact laws_eqIntS.mono _ _ _)
   | (with_reducible exact laws_heldIntS.mono _ _ _)
   | (with_reducible exact laws_markImage.mono _ _ _ _ _ _)
   | (with_reducible exact laws_markIntS.mono _ _ _)
   | (with_reducible exact laws_toImage.mono _ _ _ _ _)
   | (with_reducible exact spec_WriteImage.mono _ _ _ _ _)
   | (with_reducible exact LeO.refl _)
   | (with_reducible exact LeO.none _)
   | (with_reducible refine LeO.ite ?_ ?_)
   | (with_reducible refine LeO.bind ?_ (fun _ => ?_))
   | exact ih0 _ _ _ _ _ _ _ _ _ _ _ _ _
   | exact ih1 _ _ _ _ _ _ _ _
   | exact ih2 _ _ _
   | exact impl_WriteImage.mono _ _ _ _ _
   | exact laws_eqImage.mono _ _ _ _ _ _ _ _ _
   | exact laws_eqIntS.mono _ _ _
   | exact laws_heldIntS.mono _ _ _
   | exact laws_markImage.mono _ _ _ _ _ _
   | exact laws_markIntS.mono _ _ _
   | exact laws_toImage.mono _ _ _ _ _
   | exact spec_WriteImage.mono _ _ _ _ _
   | exact LeO.none _
   | refine LeO.ite ?_ ?_
   | refine LeO.bind ?_ (fun _ => ?_)
set_option maxHeartbeats 8000000 in
set_option maxRecDepth 100000 in
theorem laws_FnExactWriteImage.calls (k : Nat) (a0_0 : Int) (a0_1 : Int) (a0_2 : Int) (A0_3 : Option Addr) (c0_3 : Nat) (l0_3 : List Int) (r : Bool) (w : World) (hr0_3 : Kd.C (Kd.int .i64) w A0_3 l0_3.length l0_3) (hc0_3 : l0_3.length ≤ c0_3) (h : laws_FnExactWriteImage.f k a0_0 a0_1 a0_2 l0_3 = some r) (hrt : r = true) :
  Calls Try.prog 10 #[.agg #[.int .i64 a0_0, .int .i64 a0_1, .int .i64 a0_2, .slice A0_3 l0_3.length c0_3]] w fun e w' => e = .returned (.bool r) ∧ Below w.heap.size w w' := by
 have hu38 := Try.underlying38
 have hu24 := Try.underlying24
 have HR0_3 := Aside0.mk hr0_3
 have HC0_3 := Aside0.mk hc0_3
 clear hr0_3 hc0_3
 have HB := Aside0.mk (Below.refl w.heap.size w)
 have H : ((laws_szImage.f a0_0 a0_1 a0_2 l0_3 1048576).bind fun t1064 => (if t1064 < 0 then (some true) else ((laws_toImage.f k a0_0 a0_1 a0_2 l0_3).bind fun bt1065 => ((spec_WriteImage.f k bt1065.1 bt1065.2.1 bt1065.2.2.1 bt1065.2.2.2).bind fun bt1071 => ((laws_toImage.f k a0_0 a0_1 a0_2 l0_3).bind fun bt1075 => ((impl_WriteImage.f k bt1075.1 bt1075.2.1 bt1075.2.2.1 bt1075.2.2.2).bind fun bt1082 => ((laws_eqIntS.f k bt1082.1 bt1071.1).bind fun t1086 => (if t1086 = true then (laws_FnExactWriteImage.j0 k bt1071.1 bt1071.2 bt1082.1 bt1082.2 (bt1082.2 != bt1071.2) a0_0 a0_1 a0_2 l0_3 bt1075.1 bt1075.2.1 bt1075.2.2.1 bt1075.2.2.2) else (laws_FnExactWriteImage.j0 k bt1071.1 bt1071.2 bt1082.1 bt1082.2 true a0_0 a0_1 a0_2 l0_3 bt1075.1 bt1075.2.1 bt1075.2.2.1 bt1075.2.2.2))))))))) = some r := h
 clear h
 replace H := Option.bind_eq_some_iff.mp H
 obtain ⟨t1064, A20, H⟩ := H
 replace H : (if t1064 < 0 then (some true) else ((laws_toImage.f k a0_0 a0_1 a0_2 l0_3).bind fun bt1065 => ((spec_WriteImage.f k bt1065.1 bt1065.2.1 bt1065.2.2.1 bt1065.2.2.2).bind fun bt1071 => ((laws_toImage.f k a0_0 a0_1 a0_2 l0_3).bind fun bt1075 => ((impl_WriteImage.f k bt1075.1 bt1075.2.1 bt1075.2.2.1 bt1075.2.2.2).bind fun bt1082 => ((laws_eqIntS.f k bt1082.1 bt1071.1).bind fun t1086 => (if t1086 = true then (laws_FnExactWriteImage.j0 k bt1071.1 bt1071.2 bt1082.1 bt1082.2 (bt1082.2 != bt1071.2) a0_0 a0_1 a0_2 l0_3 bt1075.1 bt1075.2.1 bt1075.2.2.1 bt1075.2.2.2) else (laws_FnExactWriteImage.j0 k bt1071.1 bt1071.2 bt1082.1 bt1082.2 true a0_0 a0_1 a0_2 l0_3 bt1075.1 bt1075.2.1 bt1075.2.2.1 bt1075.2.2.2)))))))) = some r := H
 have A2 := Aside0.mk A20
 clear A20
 by_cases c3 : t1064 < 0
 ·
  rw [if_pos c3] at H
  have c3b0 : decide (t1064 < 0) = true := decide_eq_true c3
  clear c3
  obtain rfl := Option.some.inj H
  go_enter Try.func10, Try.ntmps10
  go_wp2_with (first | ((with_reducible refine gate_dst (N := 1) rfl ?_); refine box_event ?hg (N := 1) ?hd (cs := #[.int .i64 a0_0, .int .i64 a0_1, .int .i64 a0_2, .slice A0_3 l0_3.length c0_3]) (t := 38) ?hr ?_; (case hd => rfl); (case hg => rfl); (case hr => first | (go_simp; done) | (go_simp; rfl)); intro gb1063 hg w4 hbox hb; have BK1063 := Aside0.mk (hbox); have GW1063 := Aside0.mk ((by rw [hg]; exact (below_size (qW HB.out)) : w.heap.size ≤ gb1063)); have GE1063 := Aside0.mk ((by rw [hg]; exact (below_size (qW HB.out)) : w.heap.size ≤ gb1063)); replace HB := Aside0.mk (below_step (qW HB.out) hb); clear hb hbox hg; obtain ⟨hcz5_0, hcz5_1, hcz5_2, hcz5_3⟩ := cz4 BK1063.out; obtain ⟨hfz5_0, hfz5_1, hfz5_2, hfz5_3⟩ := fz4 BK1063.out) | ((with_reducible refine gate_callee (f := 24) rfl ?_); refine goesL_ (some 16) rfl rfl Try.func24 (by kernel_rfl) rfl #[.agg #[.int .i64 a0_0, .int .i64 a0_1, .int .i64 a0_2, .slice A0_3 l0_3.length c0_3], .int .i64 1048576] rfl qM ?_; (with_reducible refine (laws_szImage.calls a0_0 a0_1 a0_2 _ _ l0_3 1048576 t1064 _ ?side1 ?side2 A2.out).mono ?_); (case side1 => exact qC (Kd.C_below HR0_3.out HB.out)); (case side2 => exact HC0_3.out); rintro e w6 ⟨rfl, hb⟩; refine ⟨_, rfl, ?_⟩; replace BK1063 := bB BK1063 hb; replace HB := Aside0.mk (below_step (qW HB.out) hb); (try clear hb); (try clear hb2); (try clear hk); (try clear hi)))
  go_ret
  exact ⟨by first | rfl | (simp [errW_none, errW_some] <;> rfl) | (simp [*, errW_none, errW_some] <;> rfl), by exact qW HB.out⟩
 rw [if_neg c3] at H
 have c3b0 : decide (t1064 < 0) = false := decide_eq_false c3
 clear c3
 replace H := Option.bind_eq_some_iff.mp H
 obtain ⟨⟨t1065, t1066, t1067, t1068⟩, A70, H⟩ := H
 replace H : ((spec_WriteImage.f k t1065 t1066 t1067 t1068).bind fun bt1071 => ((laws_toImage.f k a0_0 a0_1 a0_2 l0_3).bind fun bt1075 => ((impl_WriteImage.f k bt1075.1 bt1075.2.1 bt1075.2.2.1 bt1075.2.2.2).bind fun bt1082 => ((laws_eqIntS.f k bt1082.1 bt1071.1).bind fun t1086 => (if t1086 = true then (laws_FnExactWriteImage.j0 k bt1071.1 bt1071.2 bt1082.1 bt1082.2 (bt1082.2 != bt1071.2) a0_0 a0_1 a0_2 l0_3 bt1075.1 bt1075.2.1 bt1075.2.2.1 bt1075.2.2.2) else (laws_FnExactWriteImage.j0 k bt1071.1 bt1071.2 bt1082.1 bt1082.2 true a0_0 a0_1 a0_2 l0_3 bt1075.1 bt1075.2.1 bt1075.2.2.1 bt1075.2.2.2)))))) = some r := H
 have A7 := Aside0.mk A70
 clear A70
 replace H := Option.bind_eq_some_iff.mp H
 obtain ⟨⟨t1071, t1074⟩, A80, H⟩ := H
 replace H : ((laws_toImage.f k a0_0 a0_1 a0_2 l0_3).bind fun bt1075 => ((impl_WriteImage.f k bt1075.1 bt1075.2.1 bt1075.2.2.1 bt1075.2.2.2).bind fun bt1082 => ((laws_eqIntS.f k bt1082.1 t1071).bind fun t1086 => (if t1086 = true then (laws_FnExactWriteImage.j0 k t1071 t1074 bt1082.1 bt1082.2 (bt1082.2 != t1074) a0_0 a0_1 a0_2 l0_3 bt1075.1 bt1075.2.1 bt1075.2.2.1 bt1075.2.2.2) else (laws_FnExactWriteImage.j0 k t1071 t1074 bt1082.1 bt1082.2 true a0_0 a0_1 a0_2 l0_3 bt1075.1 bt1075.2.1 bt1075.2.2.1 bt1075.2.2.2))))) = some r := H
 have A8 := Aside0.mk A80
 clear A80
 replace H := Option.bind_eq_some_iff.mp H
 obtain ⟨⟨t1075, t1076, t1077, t1078⟩, A90, H⟩ := H
 replace H : ((impl_WriteImage.f k t1075 t1076 t1077 t1078).bind fun bt1082 => ((laws_eqIntS.f k bt1082.1 t1071).bind fun t1086 => (if t1086 = true then (laws_FnExactWriteImage.j0 k t1071 t1074 bt1082.1 bt1082.2 (bt1082.2 != t1074) a0_0 a0_1 a0_2 l0_3 t1075 t1076 t1077 t1078) else (laws_FnExactWriteImage.j0 k t1071 t1074 bt1082.1 bt1082.2 true a0_0 a0_1 a0_2 l0_3 t1075 t1076 t1077 t1078)))) = some r := H
 have A9 := Aside0.mk A90
 clear A90
 replace H := Option.bind_eq_some_iff.mp H
 obtain ⟨⟨t1082, t1085⟩, A100, H⟩ := H
 replace H : ((laws_eqIntS.f k t1082 t1071).bind fun t1086 => (if t1086 = true then (laws_FnExactWriteImage.j0 k t1071 t1074 t1082 t1085 (t1085 != t1074) a0_0 a0_1 a0_2 l0_3 t1075 t1076 t1077 t1078) else (laws_FnExactWriteImage.j0 k t1071 t1074 t1082 t1085 true a0_0 a0_1 a0_2 l0_3 t1075 t1076 t1077 t1078))) = some r := H
 have A10 := Aside0.mk A100
 clear A100
 have HC11 := Aside0.mk H
 clear H
 go_enter Try.func10, Try.ntmps10
 go_upto_region 8 with (first | ((with_reducible refine gate_dst (N := 1) rfl ?_); refine box_event ?hg (N := 1) ?hd (cs := #[.int .i64 a0_0, .int .i64 a0_1, .int .i64 a0_2, .slice A0_3 l0_3.length c0_3]) (t := 38) ?hr ?_; (case hd => rfl); (case hg => rfl); (case hr => first | (go_simp; done) | (go_simp; rfl)); intro gb1063 hg w12 hbox hb; have BK1063 := Aside0.mk (hbox); have GW1063 := Aside0.mk ((by rw [hg]; exact (below_size (qW HB.out)) : w.heap.size ≤ gb1063)); have GE1063 := Aside0.mk ((by rw [hg]; exact (below_size (qW HB.out)) : w.heap.size ≤ gb1063)); replace HB := Aside0.mk (below_step (qW HB.out) hb); clear hb hbox hg; obtain ⟨hcz13_0, hcz13_1, hcz13_2, hcz13_3⟩ := cz4 BK1063.out; obtain ⟨hfz13_0, hfz13_1, hfz13_2, hfz13_3⟩ := fz4 BK1063.out) | ((with_reducible refine gate_callee (f := 24) rfl ?_); refine goesL_ (some 16) rfl rfl Try.func24 (by kernel_rfl) rfl #[.agg #[.int .i64 a0_0, .int .i64 a0_1, .int .i64 a0_2, .slice A0_3 l0_3.length c0_3], .int .i64 1048576] rfl qM ?_; (with_reducible refine (laws_szImage.calls a0_0 a0_1 a0_2 _ _ l0_3 1048576 t1064 _ ?side1 ?side2 A2.out).mono ?_); (case side1 => exact qC (Kd.C_below HR0_3.out HB.out)); (case side2 => exact HC0_3.out); rintro e w14 ⟨rfl, hb⟩; refine ⟨_, rfl, ?_⟩; replace BK1063 := bB BK1063 hb; replace HB := Aside0.mk (below_step (qW HB.out) hb); (try clear hb); (try clear hb2); (try clear hk); (try clear hi); obtain ⟨hcz15_0, hcz15_1, hcz15_2, hcz15_3⟩ := cz4 BK1063.out; obtain ⟨hfz15_0, hfz15_1, hfz15_2, hfz15_3⟩ := fz4 BK1063.out) | ((with_reducible refine gate_callee (f := 26) rfl ?_); refine goesL_ (some 21) rfl rfl Try.func26 (by kernel_rfl) rfl #[.agg #[.int .i64 a0_0, .int .i64 a0_1, .int .i64 a0_2, .slice A0_3 l0_3.length c0_3]] rfl qM ?_; (with_reducible refine (laws_toImage.calls k a0_0 a0_1 a0_2 _ _ l0_3 t1065 t1066 t1067 t1068 _ ?side1 ?side2 A7.out).mono ?_); (case side1 => exact qC (Kd.C_below HR0_3.out HB.out)); (case side2 => exact HC0_3.out); rintro e w16 ⟨v1069, rfl, ho0, hb⟩; refine ⟨_, rfl, ?_⟩; have HO1070 := Aside0.mk (Kd.R_lower ho0 (below_size (qW HB.out))); replace BK1063 := bB BK1063 hb; replace HB := Aside0.mk (below_step (qW HB.out) hb); (try clear hb); (try clear hb2); (try clear hk); (try clear hi); (try clear ho0); obtain ⟨Ao17, co17, eo17⟩ := Kd.R_slice HO1070.out; subst eo17) | ((with_reducible refine gate_callee (f := 34) rfl ?_); refine goesL_ (some 22) rfl rfl Try.func34 (by kernel_rfl) rfl #[.agg #[.int .i64 t1065, .int .i64 t1066, .int .i64 t1067, .slice Ao17 t1068.length co17]] rfl qM ?_; (with_reducible refine (spec_WriteImage.calls k t1065 t1066 t1067 _ _ t1068 t1071 t1074 _ ?side1 ?side2 A8.out).mono ?_); (case side1 => exact qC (Kd.R_reads' HO1070.out).2.2); (case side2 => exact (Kd.R_reads' HO1070.out).2.1); rintro e w18 ⟨v1072, rfl, ho0, hb⟩; refine ⟨_, rfl, ?_⟩; have HO1073 := Aside0.mk (Kd.R_lower (Kd.R_new' ho0 (Kd.R_lt (qR HO1070.out))) (below_size (qW HB.out))); replace HO1070 := Aside0.mk (Kd.R_elder' (qR HO1070.out) (Kd.R_base ho0) hb); replace BK1063 := bB BK1063 hb; replace HB := Aside0.mk (below_step (qW HB.out) hb); (try clear hb); (try clear hb2); (try clear hk); (try clear hi); (try clear ho0); obtain ⟨hcz19_0, hcz19_1, hcz19_2, hcz19_3⟩ := cz4 BK1063.out; obtain ⟨hfz19_0, hfz19_1, hfz19_2, hfz19_3⟩ := fz4 BK1063.out) | ((with_reducible refine gate_callee (f := 26) rfl ?_); refine goesL_ (some 26) rfl rfl Try.func26 (by kernel_rfl) rfl #[.agg #[.int .i64 a0_0, .int .i64 a0_1, .int .i64 a0_2, .slice A0_3 l0_3.length c0_3]] rfl qM ?_; (with_reducible refine (laws_toImage.calls k a0_0 a0_1 a0_2 _ _ l0_3 t1075 t1076 t1077 t1078 _ ?side1 ?side2 A9.out).mono ?_); (case side1 => exact qC (Kd.C_below HR0_3.out HB.out)); (case side2 => exact HC0_3.out); rintro e w20 ⟨v1079, rfl, ho0, hb⟩; refine ⟨_, rfl, ?_⟩; have HO1080 := Aside0.mk (Kd.R_lower (Kd.R_new' (Kd.R_new' ho0 (Kd.R_lt (qR HO1070.out))) (Kd.R_lt (qR HO1073.out))) (below_size (qW HB.out))); replace HO1070 := Aside0.mk (Kd.R_elder' (qR HO1070.out) (Kd.R_base ho0) hb); replace HO1073 := Aside0.mk (Kd.R_elder' (qR HO1073.out) (Kd.R_base ho0) hb); replace BK1063 := bB BK1063 hb; replace HB := Aside0.mk (below_step (qW HB.out) hb); (try clear hb); (try clear hb2); (try clear hk); (try clear hi); (try clear ho0)) | ((with_reducible refine gate_dst (N := 6) rfl ?_); refine box_event ?hg (N := 6) ?hd (cs := #[.int .i64 0, .int .i64 0, .int .i64 0, .slice none 0 0]) (t := 24) ?hr ?_; (case hd => rfl); (case hg => rfl); (case hr => first | (go_simp; done) | (go_simp; rfl)); intro gb1081 hg w21 hbox hb; replace HO1070 := Aside0.mk (Kd.R_below (qR HO1070.out) hb); replace HO1073 := Aside0.mk (Kd.R_below (qR HO1073.out) hb); replace HO1080 := Aside0.mk (Kd.R_below (qR HO1080.out) hb); have BK1081 := Aside0.mk (hbox); have GW1081 := Aside0.mk ((by rw [hg]; exact (below_size (qW HB.out)) : w.heap.size ≤ gb1081)); have GE1081 := Aside0.mk ((by rw [hg]; exact (below_size (qW HB.out)) : w.heap.size ≤ gb1081)); replace HB := Aside0.mk (below_step (qW HB.out) hb); have NB1063_1081 := Aside0.mk ((by rw [hg]; exact Nat.ne_of_lt (blk_lt (g := gb1063) (o := .cells #[.int .i64 a0_0, .int .i64 a0_1, .int .i64 a0_2, .slice A0_3 l0_3.length c0_3] 38 (0, 0)) (qB BK1063.out)) : gb1063 ≠ gb1081)); have NB1081_1063 := Aside0.mk ((by rw [hg]; exact Nat.ne_of_gt (blk_lt (g := gb1063) (o := .cells #[.int .i64 a0_0, .int .i64 a0_1, .int .i64 a0_2, .slice A0_3 l0_3.length c0_3] 38 (0, 0)) (qB BK1063.out)) : gb1081 ≠ gb1063)); replace BK1063 := bB BK1063 hb; clear hb hbox hg; have hnb22 := NB1081_1063.out; have hnc22 := NB1063_1081.out; obtain ⟨hcz23_0, hcz23_1, hcz23_2, hcz23_3⟩ := cz4 BK1081.out; obtain ⟨hfz23_0, hfz23_1, hfz23_2, hfz23_3⟩ := fz4 BK1081.out; obtain ⟨Ao24, co24, eo24⟩ := Kd.R_slice HO1080.out; subst eo24) | ((with_reducible refine gate_callee (f := 22) rfl ?_); refine goesL_ (some 29) rfl rfl Try.func22 (by kernel_rfl) rfl #[.agg #[.int .i64 t1075, .int .i64 t1076, .int .i64 t1077, .slice Ao24 t1078.length co24]] rfl qM ?_; (with_reducible refine (impl_WriteImage.calls k t1075 t1076 t1077 _ _ t1078 t1082 t1085 _ ?side1 ?side2 A10.out).mono ?_); (case side1 => refine (Kd.R_reads' (e := 3) (base := w.heap.size) (ok := fun k_ => ((True ∧ some k_ ≠ (.slice Ao17 t1068.length co17 : Value).ownBlock) ∧ some k_ ≠ (v1072 : Value).ownBlock)) (n := t1078.length) (c := co24) ?_).2.2; exact (by refine qR ?_; exact (fr4 HO1080 BK1081))); (case side2 => exact (Kd.R_reads' HO1080.out).2.1); rintro e w25 ⟨v1083, rfl, ho0, hb⟩; refine ⟨_, rfl, ?_⟩; have HO1084 := Aside0.mk (Kd.R_lower (Kd.R_new' (Kd.R_new' (Kd.R_new' ho0 (Kd.R_lt (by refine qR ?_; exact (fr4 HO1070 BK1081)))) (Kd.R_lt (by refine qR ?_; exact (fr4 HO1073 BK1081)))) (Kd.R_lt (by refine qR ?_; exact (fr4 HO1080 BK1081)))) (below_size (qW HB.out))); replace HO1070 := Aside0.mk (Kd.R_elder' (by refine qR ?_; exact (fr4 HO1070 BK1081)) (Kd.R_base ho0) hb); replace HO1073 := Aside0.mk (Kd.R_elder' (by refine qR ?_; exact (fr4 HO1073 BK1081)) (Kd.R_base ho0) hb); replace HO1080 := Aside0.mk (Kd.R_elder' (by refine qR ?_; exact (fr4 HO1080 BK1081)) (Kd.R_base ho0) hb); replace BK1063 := Aside0.mk (blk_below (g := gb1063) (o := .cells #[.int .i64 a0_0, .int .i64 a0_1, .int .i64 a0_2, .slice A0_3 l0_3.length c0_3] 38 (0, 0)) (by refine qB ?_; refine blk_far ?_ NB1063_1081.out _; refine qB ?_; refine blk_far ?_ NB1063_1081.out _; refine qB ?_; refine blk_far ?_ NB1063_1081.out _; refine qB ?_; refine blk_far ?_ NB1063_1081.out _; refine qB ?_; exact BK1063.out) hb); replace BK1081 := Aside0.mk (blk_below (g := gb1081) (o := .cells #[.int .i64 t1075, .int .i64 t1076, .int .i64 t1077, .slice Ao24 t1078.length co24] 24 (0, 0)) (by refine qB ?_; refine blk_put (cs := #[.int .i64 t1075, .int .i64 t1076, .int .i64 t1077, .slice none 0 0]) ?_ 3 _ rfl; refine qB ?_; refine blk_put (cs := #[.int .i64 t1075, .int .i64 t1076, .int .i64 0, .slice none 0 0]) ?_ 2 _ rfl; refine qB ?_; refine blk_put (cs := #[.int .i64 t1075, .int .i64 0, .int .i64 0, .slice none 0 0]) ?_ 1 _ rfl; refine qB ?_; refine blk_put (cs := #[.int .i64 0, .int .i64 0, .int .i64 0, .slice none 0 0]) ?_ 0 _ rfl; refine qB ?_; exact BK1081.out) hb); replace HB := Aside0.mk (below_step (qW HB.out) hb); (try clear hb); (try clear hb2); (try clear hk); (try clear hi); (try clear ho0)))
 (try simp only [Act.put, List.setIfInBounds_toArray, List.set_cons_zero, List.set_cons_succ])
 go_cut [40] (fun v40 wc => ∃ (kq : Nat) (x40_10 : Bool), v40 = .bool x40_10 ∧ Aside0 (laws_FnExactWriteImage.j0 kq t1071 t1074 t1082 t1085 x40_10 a0_0 a0_1 a0_2 l0_3 t1075 t1076 t1077 t1078 = some r) ∧ Aside0 (kq ≤ k) ∧ Aside0 (Kd.R (Kd.int .i64) 3 wc w.heap.size (fun k_ => some k_ ≠ (v1083 : Value).ownBlock ∧ some k_ ≠ ((.slice Ao24 t1078.length co24) : Value).ownBlock) v1072 t1071) ∧ Aside0 (Kd.R (Kd.int .i64) 3 wc w.heap.size (fun k_ => some k_ ≠ (v1072 : Value).ownBlock ∧ some k_ ≠ ((.slice Ao24 t1078.length co24) : Value).ownBlock) v1083 t1082) ∧ Aside0 (Kd.R (Kd.int .i64) 3 wc w.heap.size (fun k_ => some k_ ≠ (v1072 : Value).ownBlock ∧ some k_ ≠ (v1083 : Value).ownBlock) (.slice Ao24 t1078.length co24) t1078) ∧ Aside0 (wc.heap[gb1063]? = some (.cells #[.int .i64 a0_0, .int .i64 a0_1, .int .i64 a0_2, (.slice A0_3 l0_3.length c0_3)] 38 (0, 0))) ∧ Aside0 (wc.heap[gb1081]? = some (.cells #[.int .i64 t1075, .int .i64 t1076, .int .i64 t1077, (.slice Ao24 t1078.length co24)] 24 (0, 0))) ∧ Aside0 (Below w.heap.size w wc))
 case first =>
  have H := HC11.out
  clear HC11
  replace H := Option.bind_eq_some_iff.mp H
  obtain ⟨t1086, A260, H⟩ := H
  replace H : (if t1086 = true then (laws_FnExactWriteImage.j0 k t1071 t1074 t1082 t1085 (t1085 != t1074) a0_0 a0_1 a0_2 l0_3 t1075 t1076 t1077 t1078) else (laws_FnExactWriteImage.j0 k t1071 t1074 t1082 t1085 true a0_0 a0_1 a0_2 l0_3 t1075 t1076 t1077 t1078)) = some r := H
  have A26 := Aside0.mk A260
  clear A260
  by_cases c27 : t1086 = true
  ·
   subst c27
   have H1 : (laws_FnExactWriteImage.j0 k t1071 t1074 t1082 t1085 (t1085 != t1074) a0_0 a0_1 a0_2 l0_3 t1075 t1076 t1077 t1078) = some r := by rw [if_pos rfl] at H; exact H
   clear H
   have H := H1
   clear H1
   have H' := Aside0.mk H
   clear H
   obtain ⟨Ao28, co28, eo28⟩ := Kd.R_slice HO1084.out
   subst eo28
   obtain ⟨Ao29, co29, eo29⟩ := Kd.R_slice HO1073.out
   subst eo29
   go_wp2_with (first | ((with_reducible refine gate_callee (f := 16) rfl ?_); refine goesL_ (some 34) rfl rfl Try.func16 (by kernel_rfl) rfl #[.slice Ao28 t1082.length co28, .slice Ao29 t1071.length co29] rfl qM ?_; (with_reducible refine (laws_eqIntS.calls k _ _ t1082 _ _ t1071 true _ ?side1 ?side2 ?side3 ?side4 A26.out).mono ?_); (case side1 => exact qC (Kd.R_reads' HO1084.out).2.2); (case side2 => exact (Kd.R_reads' HO1084.out).2.1); (case side3 => exact qC (Kd.R_reads' HO1073.out).2.2); (case side4 => exact (Kd.R_reads' HO1073.out).2.1); rintro e w' ⟨rfl, ⟨nd, rfl⟩⟩; refine ⟨_, rfl, ?_⟩))
   go_meet
   case rel => exact ⟨_, ((t1085 != t1074)), qE, H', ⟨by first | omega | exact Nat.le_refl _⟩, ⟨by refine qR ?_; exact Kd.R_mono HO1073.out (fun _ hk => ⟨hk.2, hk.1.2⟩)⟩, ⟨by refine qR ?_; exact Kd.R_mono HO1084.out (fun _ hk => ⟨hk.1.2, hk.2⟩)⟩, ⟨by refine qR ?_; exact Kd.R_mono HO1080.out (fun _ hk => ⟨hk.1.2, hk.2⟩)⟩, ⟨by refine qB ?_; exact BK1063.out⟩, ⟨by refine qB ?_; exact BK1081.out⟩, ⟨by exact qW HB.out⟩⟩
  replace c27 := Bool.eq_false_iff.mpr c27
  subst c27
  have H1 : (laws_FnExactWriteImage.j0 k t1071 t1074 t1082 t1085 true a0_0 a0_1 a0_2 l0_3 t1075 t1076 t1077 t1078) = some r := by rw [if_neg (show ¬ (false = true) by decide)] at H; exact H
  clear H
  have H := H1
  clear H1
  have H' := Aside0.mk H
  clear H
  obtain ⟨Ao30, co30, eo30⟩ := Kd.R_slice HO1084.out
  subst eo30
  obtain ⟨Ao31, co31, eo31⟩ := Kd.R_slice HO1073.out
  subst eo31
  go_wp2_with (first | ((with_reducible refine gate_callee (f := 16) rfl ?_); refine goesL_ (some 34) rfl rfl Try.func16 (by kernel_rfl) rfl #[.slice Ao30 t1082.length co30, .slice Ao31 t1071.length co31] rfl qM ?_; (with_reducible refine (laws_eqIntS.calls k _ _ t1082 _ _ t1071 false _ ?side1 ?side2 ?side3 ?side4 A26.out).mono ?_); (case side1 => exact qC (Kd.R_reads' HO1084.out).2.2); (case side2 => exact (Kd.R_reads' HO1084.out).2.1); (case side3 => exact qC (Kd.R_reads' HO1073.out).2.2); (case side4 => exact (Kd.R_reads' HO1073.out).2.1); rintro e w' ⟨rfl, ⟨nd, rfl⟩⟩; refine ⟨_, rfl, ?_⟩))
  go_meet
  case rel => exact ⟨_, (true), qE, H', ⟨by first | omega | exact Nat.le_refl _⟩, ⟨by refine qR ?_; exact Kd.R_mono HO1073.out (fun _ hk => ⟨hk.2, hk.1.2⟩)⟩, ⟨by refine qR ?_; exact Kd.R_mono HO1084.out (fun _ hk => ⟨hk.1.2, hk.2⟩)⟩, ⟨by refine qR ?_; exact Kd.R_mono HO1080.out (fun _ hk => ⟨hk.1.2, hk.2⟩)⟩, ⟨by refine qB ?_; exact BK1063.out⟩, ⟨by refine qB ?_; exact BK1081.out⟩, ⟨by exact qW HB.out⟩⟩
 case rest =>
  clear HC11
  try clear c1
  try clear c2
  try clear p2
  try clear c3
  try clear c3b0
  try clear c10
  try clear c16
  try clear c22
  try clear c24
  try clear c26
  try clear c27
  try clear hcz13_0 hcz13_1 hcz13_2 hcz13_3 hfz13_0 hfz13_1 hfz13_2 hfz13_3
  try clear hcz15_0 hcz15_1 hcz15_2 hcz15_3 hfz15_0 hfz15_1 hfz15_2 hfz15_3
  try clear hcz19_0 hcz19_1 hcz19_2 hcz19_3 hfz19_0 hfz19_1 hfz19_2 hfz19_3
  try clear hcz23_0 hcz23_1 hcz23_2 hcz23_3 hfz23_0 hfz23_1 hfz23_2 hfz23_3
  try clear hcz5_0 hcz5_1 hcz5_2 hcz5_3 hfz5_0 hfz5_1 hfz5_2 hfz5_3
  obtain ⟨kq, x40_10, rfl, HA, HJ10, HO_4, HO_7, HO_1082003, BK1063, BK1081, HB⟩ := hcut
  cases kq with
  | zero => exact absurd HA.out (by simp [laws_FnExactWriteImage.j0])
  | succ kj10 =>
   have H := HA.out
   clear HA
   simp only [laws_FnExactWriteImage.j0] at H
   by_cases c32 : x40_10 = true
   ·
    subst c32
    have H1 : (some false) = some r := by rw [if_pos rfl] at H; exact H
    clear H
    have H := H1
    clear H1
    obtain rfl := Option.some.inj H
    exact absurd hrt (by decide)
   replace c32 := Bool.eq_false_iff.mpr c32
   subst c32
   have H1 : ((laws_toImage.f kj10 a0_0 a0_1 a0_2 l0_3).bind fun bt1087 => ((laws_eqImage.f kj10 t1075 t1076 t1077 t1078 bt1087.1 bt1087.2.1 bt1087.2.2.1 bt1087.2.2.2).bind fun t1093 => (if t1093 = true then ((laws_markImage.f kj10 t1075 t1076 t1077 t1078 1).bind fun bt1094 => (if bt1094.1 < 0 then (laws_FnExactWriteImage.j1 kj10 t1071 t1074 t1082 true a0_0 a0_1 a0_2 l0_3) else ((laws_eqIntS.f kj10 t1082 t1071).bind fun t1096 => (if t1096 = true then (laws_FnExactWriteImage.j1 kj10 t1071 t1074 t1082 (t1085 != t1074) a0_0 a0_1 a0_2 l0_3) else (laws_FnExactWriteImage.j1 kj10 t1071 t1074 t1082 true a0_0 a0_1 a0_2 l0_3))))) else (some false)))) = some r := by rw [if_neg (show ¬ (false = true) by decide)] at H; exact H
   clear H
   have H := H1
   clear H1
   replace H := Option.bind_eq_some_iff.mp H
   obtain ⟨⟨t1087, t1088, t1089, t1090⟩, A330, H⟩ := H
   replace H : ((laws_eqImage.f kj10 t1075 t1076 t1077 t1078 t1087 t1088 t1089 t1090).bind fun t1093 => (if t1093 = true then ((laws_markImage.f kj10 t1075 t1076 t1077 t1078 1).bind fun bt1094 => (if bt1094.1 < 0 then (laws_FnExactWriteImage.j1 kj10 t1071 t1074 t1082 true a0_0 a0_1 a0_2 l0_3) else ((laws_eqIntS.f kj10 t1082 t1071).bind fun t1096 => (if t1096 = true then (laws_FnExactWriteImage.j1 kj10 t1071 t1074 t1082 (t1085 != t1074) a0_0 a0_1 a0_2 l0_3) else (laws_FnExactWriteImage.j1 kj10 t1071 t1074 t1082 true a0_0 a0_1 a0_2 l0_3))))) else (some false))) = some r := H
   have A33 := Aside0.mk A330
   clear A330
   replace H := Option.bind_eq_some_iff.mp H
   obtain ⟨t1093, A340, H⟩ := H
   replace H : (if t1093 = true then ((laws_markImage.f kj10 t1075 t1076 t1077 t1078 1).bind fun bt1094 => (if bt1094.1 < 0 then (laws_FnExactWriteImage.j1 kj10 t1071 t1074 t1082 true a0_0 a0_1 a0_2 l0_3) else ((laws_eqIntS.f kj10 t1082 t1071).bind fun t1096 => (if t1096 = true then (laws_FnExactWriteImage.j1 kj10 t1071 t1074 t1082 (t1085 != t1074) a0_0 a0_1 a0_2 l0_3) else (laws_FnExactWriteImage.j1 kj10 t1071 t1074 t1082 true a0_0 a0_1 a0_2 l0_3))))) else (some false)) = some r := H
   have A34 := Aside0.mk A340
   clear A340
   by_cases c35 : t1093 = true
   rotate_left
   ·
    replace c35 := Bool.eq_false_iff.mpr c35
    subst c35
    have H1 : (some false) = some r := by rw [if_neg (show ¬ (false = true) by decide)] at H; exact H
    clear H
    have H := H1
    clear H1
    obtain rfl := Option.some.inj H
    exact absurd hrt (by decide)
   subst c35
   have H1 : ((laws_markImage.f kj10 t1075 t1076 t1077 t1078 1).bind fun bt1094 => (if bt1094.1 < 0 then (laws_FnExactWriteImage.j1 kj10 t1071 t1074 t1082 true a0_0 a0_1 a0_2 l0_3) else ((laws_eqIntS.f kj10 t1082 t1071).bind fun t1096 => (if t1096 = true then (laws_FnExactWriteImage.j1 kj10 t1071 t1074 t1082 (t1085 != t1074) a0_0 a0_1 a0_2 l0_3) else (laws_FnExactWriteImage.j1 kj10 t1071 t1074 t1082 true a0_0 a0_1 a0_2 l0_3))))) = some r := by rw [if_pos rfl] at H; exact H
   clear H
   have H := H1
   clear H1
   replace H := Option.bind_eq_some_iff.mp H
   obtain ⟨⟨t1094, t1095⟩, A360, H⟩ := H
   replace H : (if t1094 < 0 then (laws_FnExactWriteImage.j1 kj10 t1071 t1074 t1082 true a0_0 a0_1 a0_2 l0_3) else ((laws_eqIntS.f kj10 t1082 t1071).bind fun t1096 => (if t1096 = true then (laws_FnExactWriteImage.j1 kj10 t1071 t1074 t1082 (t1085 != t1074) a0_0 a0_1 a0_2 l0_3) else (laws_FnExactWriteImage.j1 kj10 t1071 t1074 t1082 true a0_0 a0_1 a0_2 l0_3)))) = some r := H
   have A36 := Aside0.mk A360
   clear A360
   have HC37 := Aside0.mk H
   clear H
   try go_wp2
   replace HO_4 := Aside0.mk (Kd.R_drew HO_4.out)
   replace HO_7 := Aside0.mk (Kd.R_drew HO_7.out)
   replace HO_1082003 := Aside0.mk (Kd.R_drew HO_1082003.out)
   replace BK1063 := Aside0.mk (blk_drew BK1063.out)
   replace BK1081 := Aside0.mk (blk_drew BK1081.out)
   replace HB := Aside0.mk (below_drew1 HB.out)
   refine start_ (n := 5) (S := fun w' => w'.cell? ⟨gb1081, 0, none⟩ = some (.int .i64 t1075) ∧ w'.cell? ⟨gb1081, 1, none⟩ = some (.int .i64 t1076) ∧ w'.cell? ⟨gb1081, 2, none⟩ = some (.int .i64 t1077) ∧ w'.cell? ⟨gb1081, 3, none⟩ = some (.slice Ao24 t1078.length co24) ∧ w'.cell? ⟨gb1063, 0, none⟩ = some (.int .i64 a0_0) ∧ w'.cell? ⟨gb1063, 1, none⟩ = some (.int .i64 a0_1) ∧ w'.cell? ⟨gb1063, 2, none⟩ = some (.int .i64 a0_2) ∧ w'.cell? ⟨gb1063, 3, none⟩ = some (.slice A0_3 l0_3.length c0_3)) (ds := []) (bA 5 0) (by kernel_rfl) rfl rfl ⟨(blk_cell BK1081.out 0).trans rfl, (blk_cell BK1081.out 1).trans rfl, (blk_cell BK1081.out 2).trans rfl, (blk_cell BK1081.out 3).trans rfl, (blk_cell BK1063.out 0).trans rfl, (blk_cell BK1063.out 1).trans rfl, (blk_cell BK1063.out 2).trans rfl, (blk_cell BK1063.out 3).trans rfl⟩ (fun hHeld => ?_)
   generalize wc.drew = w38 at HO_4 HO_7 HO_1082003 BK1063 BK1081 HB hHeld ⊢
   refine take_ (i := 0) (N := some 41) (v := ?_) (a' := ?_) (bA 5 1) rfl rfl (by kernel_rfl) (fun _ _ _ h => h) (Or.inl ⟨by rfl, ?_⟩) hHeld ?_ ?_
   rotate_left
   ·
    rintro w' ⟨s0, s1, s2, s3, s4, s5, s6, s7⟩
    go_simp
    with_reducible rfl
   rotate_left
   ·
    simp only [Act.put, List.setIfInBounds_toArray, List.set_cons_zero, List.set_cons_succ, i64_w, i32_w]
    rfl
   refine take_ (i := 1) (N := some 42) (v := ?_) (a' := ?_) (bA 5 3) rfl rfl (by kernel_rfl) (fun _ _ _ h => h) (Or.inl ⟨by rfl, ?_⟩) hHeld ?_ ?_
   rotate_left
   ·
    rintro w' ⟨s0, s1, s2, s3, s4, s5, s6, s7⟩
    go_simp
    with_reducible rfl
   rotate_left
   ·
    simp only [Act.put, List.setIfInBounds_toArray, List.set_cons_zero, List.set_cons_succ, i64_w, i32_w]
    rfl
   refine one_ (i := 2) (N := some 43) (bA 5 7) rfl rfl (by kernel_rfl) (by decide) (fun K hK => ?_)
   refine goes_ Try.func26 (by kernel_rfl) rfl #[.agg #[.int .i64 a0_0, .int .i64 a0_1, .int .i64 a0_2, .slice A0_3 l0_3.length c0_3]] (by rfl) rfl rfl qM ?_
   with_reducible refine (laws_toImage.calls kj10 a0_0 a0_1 a0_2 _ _ l0_3 t1087 t1088 t1089 t1090 _ ?side1 ?side2 A33.out).mono ?_
   (case side1 => exact qC (Kd.C_below HR0_3.out HB.out))
   (case side2 => exact HC0_3.out)
   rintro e w39 ⟨v1091, rfl, ho0, hb⟩
   refine ⟨_, rfl, ?_⟩
   have HO1092 := Aside0.mk (Kd.R_lower (Kd.R_new' (Kd.R_new' (Kd.R_new' ho0 (Kd.R_lt (qR HO_4.out))) (Kd.R_lt (qR HO_7.out))) (Kd.R_lt (qR HO_1082003.out))) (below_size (qW HB.out)))
   replace HO_4 := Aside0.mk (Kd.R_elder' (qR HO_4.out) (Kd.R_base ho0) hb)
   replace HO_7 := Aside0.mk (Kd.R_elder' (qR HO_7.out) (Kd.R_base ho0) hb)
   replace HO_1082003 := Aside0.mk (Kd.R_elder' (qR HO_1082003.out) (Kd.R_base ho0) hb)
   replace BK1063 := bB BK1063 hb
   replace BK1081 := bB BK1081 hb
   replace HB := Aside0.mk (below_step (qW HB.out) hb)
   (try clear hb)
   (try clear hb2)
   (try clear hk)
   (try clear hi)
   (try clear ho0)
   obtain ⟨Ao40, co40, eo40⟩ := Kd.R_slice HO1092.out
   (first | subst eo40 | (injection eo40 with f1_ f2_ f3_; have f4_ := f1_.symm; have f5_ := f3_.symm; clear f1_ f2_ f3_; subst f4_; subst f5_))
   refine hK.out _ _ ⟨(blk_cell BK1081.out 0).trans rfl, (blk_cell BK1081.out 1).trans rfl, (blk_cell BK1081.out 2).trans rfl, (blk_cell BK1081.out 3).trans rfl, (blk_cell BK1063.out 0).trans rfl, (blk_cell BK1063.out 1).trans rfl, (blk_cell BK1063.out 2).trans rfl, (blk_cell BK1063.out 3).trans rfl⟩ (fun hHeld => ?_)
   clear hK K
   refine norm_ (a' := ?_) ?_ ?_
   rotate_left
   ·
    show Act.put _ (some 43) _ = _
    simp only [Act.put, List.setIfInBounds_toArray, List.set_cons_zero, List.set_cons_succ, i64_w, i32_w]
    rfl
   refine one_ (i := 3) (N := some 44) (bA 5 15) rfl rfl (by kernel_rfl) (by decide) (fun K hK => ?_)
   refine goes_ Try.func15 (by kernel_rfl) rfl #[.agg #[.int .i64 t1075, .int .i64 t1076, .int .i64 t1077, .slice Ao24 t1078.length co24], .agg #[.int .i64 t1087, .int .i64 t1088, .int .i64 t1089, .slice Ao40 t1090.length co40]] (by rfl) rfl rfl qM ?_
   with_reducible refine (laws_eqImage.calls kj10 t1075 t1076 t1077 _ _ t1078 t1087 t1088 t1089 _ _ t1090 true _ ?side1 ?side2 ?side3 ?side4 A34.out).mono ?_
   (case side1 => exact qC (Kd.R_reads' HO_1082003.out).2.2)
   (case side2 => exact (Kd.R_reads' HO_1082003.out).2.1)
   (case side3 => exact qC (Kd.R_reads' HO1092.out).2.2)
   (case side4 => exact (Kd.R_reads' HO1092.out).2.1)
   rintro e w41 ⟨rfl, hb⟩
   refine ⟨_, rfl, ?_⟩
   replace HO_4 := Aside0.mk (Kd.R_below (qR HO_4.out) hb)
   replace HO_7 := Aside0.mk (Kd.R_below (qR HO_7.out) hb)
   replace HO_1082003 := Aside0.mk (Kd.R_below (qR HO_1082003.out) hb)
   replace HO1092 := Aside0.mk (Kd.R_below (qR HO1092.out) hb)
   replace BK1063 := bB BK1063 hb
   replace BK1081 := bB BK1081 hb
   replace HB := Aside0.mk (below_step (qW HB.out) hb)
   (try clear hb)
   (try clear hb2)
   (try clear hk)
   (try clear hi)
   refine hK.out _ _ ⟨(blk_cell BK1081.out 0).trans rfl, (blk_cell BK1081.out 1).trans rfl, (blk_cell BK1081.out 2).trans rfl, (blk_cell BK1081.out 3).trans rfl, (blk_cell BK1063.out 0).trans rfl, (blk_cell BK1063.out 1).trans rfl, (blk_cell BK1063.out 2).trans rfl, (blk_cell BK1063.out 3).trans rfl⟩ (fun hHeld => ?_)
   clear hK K
   refine norm_ (a' := ?_) ?_ ?_
   rotate_left
   ·
    show Act.put _ (some 44) _ = _
    simp only [Act.put, List.setIfInBounds_toArray, List.set_cons_zero, List.set_cons_succ, i64_w, i32_w]
    rfl
   refine pure_ (i := 4) (N := some 45) (v := ?_) (a' := ?_) (bA 5 31) rfl rfl (by kernel_rfl) (fun _ _ _ h => h) (Or.inl ⟨by rfl, ?_⟩) ?_ ?_
   rotate_left
   ·
    intro w'
    go_simp
    with_reducible rfl
   rotate_left
   ·
    simp only [Act.put, List.setIfInBounds_toArray, List.set_cons_zero, List.set_cons_succ, i64_w, i32_w]
    rfl
   refine done_ (by kernel_rfl) ?_
   have hnb42 := NB1081_1063.out
   have hnc42 := NB1063_1081.out
   obtain ⟨hcz43_0, hcz43_1, hcz43_2, hcz43_3⟩ := cz4 BK1081.out
   obtain ⟨hfz43_0, hfz43_1, hfz43_2, hfz43_3⟩ := fz4 BK1081.out
   go_upto_region 14 with (first | ((with_reducible refine gate_callee (f := 18) rfl ?_); refine goesL_ (some 48) rfl rfl Try.func18 (by kernel_rfl) rfl #[.agg #[.int .i64 t1075, .int .i64 t1076, .int .i64 t1077, .slice Ao24 t1078.length co24], .int .i64 1] rfl qM ?_; (with_reducible refine (laws_markImage.calls kj10 t1075 t1076 t1077 (fun k_ => some k_ = (.slice Ao24 t1078.length co24 : Value).ownBlock) (.slice Ao24 t1078.length co24) t1078 1 t1094 t1095 w _ ?side1 ?side2 A36.out).mono ?_); (case side1 => exact qW HB.out); (case side2 => exact Kd.R_tight rfl HO_1082003.out); rintro e w44 ⟨rfl, hy0, hb, hkp⟩; refine ⟨_, rfl, ?_⟩; replace HO_4 := Aside0.mk (Kd.R_mono (ok' := fun k_ => some k_ ≠ (v1083 : Value).ownBlock ∧ some k_ ≠ (.slice Ao24 t1078.length co24 : Value).ownBlock ∧ some k_ ≠ (.slice Ao40 t1090.length co40 : Value).ownBlock) (Kd.R_keptB (HO_4.out) hkp (fun k_ hk_ hs_ => by first | exact hk_.1.2 hs_ | (revert hk_; simp only [and_imp]; intros; contradiction))) (fun k_ hk_ => by first | exact ⟨hk_.1.1.1, hk_.1.1.2, hk_.1.2⟩ | (revert hk_; simp only [and_imp]; intros; and_intros <;> assumption))); replace HO_7 := Aside0.mk (Kd.R_mono (ok' := fun k_ => some k_ ≠ (v1072 : Value).ownBlock ∧ some k_ ≠ (.slice Ao24 t1078.length co24 : Value).ownBlock ∧ some k_ ≠ (.slice Ao40 t1090.length co40 : Value).ownBlock) (Kd.R_keptB (HO_7.out) hkp (fun k_ hk_ hs_ => by first | exact hk_.1.2 hs_ | (revert hk_; simp only [and_imp]; intros; contradiction))) (fun k_ hk_ => by first | exact ⟨hk_.1.1.1, hk_.1.1.2, hk_.1.2⟩ | (revert hk_; simp only [and_imp]; intros; and_intros <;> assumption))); replace BK1063 := Aside0.mk (blk_kept (qB BK1063.out) hkp (fun hs_ => (fun e_ => (Kd.R_ne HO_1082003.out BK1063.out (by decide)) e_) hs_)); replace BK1081 := Aside0.mk (blk_kept (qB BK1081.out) hkp (fun hs_ => (fun e_ => (Kd.R_ne HO_1082003.out BK1081.out (by decide)) e_) hs_)); replace HO_1082003 := Aside0.mk (Kd.R_reok rfl hy0 (fun k_ e_ => HO_1082003.out.1 k_ e_)); replace HO1092 := Aside0.mk (Kd.R_mono (ok' := fun k_ => some k_ ≠ (v1072 : Value).ownBlock ∧ some k_ ≠ (v1083 : Value).ownBlock ∧ some k_ ≠ (.slice Ao24 t1078.length co24 : Value).ownBlock) (Kd.R_keptB (HO1092.out) hkp (fun k_ hk_ hs_ => (hk_.2) hs_)) (fun k_ hk_ => by first | exact ⟨hk_.1.1.1.2, hk_.1.1.2, hk_.1.2⟩ | (revert hk_; simp only [and_imp]; intros; and_intros <;> assumption))); replace HB := Aside0.mk (hb); (try clear hb); (try clear hkp); (try clear hy0)))
   (try simp only [Act.put, List.setIfInBounds_toArray, List.set_cons_zero, List.set_cons_succ])
   go_cut [61] (fun v61 wc => ∃ (kq : Nat) (x61_36 : Bool), v61 = .bool x61_36 ∧ Aside0 (laws_FnExactWriteImage.j1 kq t1071 t1074 t1082 x61_36 a0_0 a0_1 a0_2 l0_3 = some r) ∧ Aside0 (kq ≤ kj10) ∧ Aside0 (Kd.R (Kd.int .i64) 3 wc w.heap.size (fun k_ => some k_ ≠ (v1083 : Value).ownBlock ∧ some k_ ≠ ((.slice Ao24 t1078.length co24) : Value).ownBlock) v1072 t1071) ∧ Aside0 (Kd.R (Kd.int .i64) 3 wc w.heap.size (fun k_ => some k_ ≠ (v1072 : Value).ownBlock ∧ some k_ ≠ ((.slice Ao24 t1078.length co24) : Value).ownBlock) v1083 t1082) ∧ Aside0 (Kd.R (Kd.int .i64) 3 wc w.heap.size (fun k_ => some k_ ≠ (v1072 : Value).ownBlock ∧ some k_ ≠ (v1083 : Value).ownBlock) (.slice Ao24 t1078.length co24) t1095) ∧ Aside0 (wc.heap[gb1063]? = some (.cells #[.int .i64 a0_0, .int .i64 a0_1, .int .i64 a0_2, (.slice A0_3 l0_3.length c0_3)] 38 (0, 0))) ∧ Aside0 (wc.heap[gb1081]? = some (.cells #[.int .i64 t1075, .int .i64 t1076, .int .i64 t1077, (.slice Ao24 t1078.length co24)] 24 (0, 0))) ∧ Aside0 (Below w.heap.size w wc))
   case first =>
    have H := HC37.out
    clear HC37
    by_cases c45 : t1094 < 0
    ·
     rw [if_pos c45] at H
     have c45b0 : decide (t1094 < 0) = true := decide_eq_true c45
     clear c45
     (first | rw [c45b0] | (simp only [i64_w, i32_w]; rw [c45b0]) | skip)
     have H' := Aside0.mk H
     clear H
     go_wp2
     go_meet
     case rel => exact ⟨_, (true), qE, H', ⟨by have := HJ10.out; first | omega | exact Nat.le_refl _⟩, ⟨by refine qR ?_; exact Kd.R_mono HO_4.out (fun _ hk => ⟨hk.1, hk.2.1⟩)⟩, ⟨by refine qR ?_; exact Kd.R_mono HO_7.out (fun _ hk => ⟨hk.1, hk.2.1⟩)⟩, ⟨by refine qR ?_; exact Kd.R_mono HO_1082003.out (fun _ hk => ⟨hk.1.1, hk.1.2⟩)⟩, ⟨by refine qB ?_; exact BK1063.out⟩, ⟨by refine qB ?_; exact BK1081.out⟩, ⟨by exact qW HB.out⟩⟩
    rw [if_neg c45] at H
    have c45b0 : decide (t1094 < 0) = false := decide_eq_false c45
    clear c45
    (first | rw [c45b0] | (simp only [i64_w, i32_w]; rw [c45b0]) | skip)
    replace H := Option.bind_eq_some_iff.mp H
    obtain ⟨t1096, A460, H⟩ := H
    replace H : (if t1096 = true then (laws_FnExactWriteImage.j1 kj10 t1071 t1074 t1082 (t1085 != t1074) a0_0 a0_1 a0_2 l0_3) else (laws_FnExactWriteImage.j1 kj10 t1071 t1074 t1082 true a0_0 a0_1 a0_2 l0_3)) = some r := H
    have A46 := Aside0.mk A460
    clear A460
    by_cases c47 : t1096 = true
    ·
     subst c47
     have H1 : (laws_FnExactWriteImage.j1 kj10 t1071 t1074 t1082 (t1085 != t1074) a0_0 a0_1 a0_2 l0_3) = some r := by rw [if_pos rfl] at H; exact H
     clear H
     have H := H1
     clear H1
     have H' := Aside0.mk H
     clear H
     obtain ⟨Ao48, co48, eo48⟩ := Kd.R_slice HO_7.out
     subst eo48
     obtain ⟨Ao49, co49, eo49⟩ := Kd.R_slice HO_4.out
     subst eo49
     go_wp2_with (first | (go_at_call 16; (with_reducible refine (laws_eqIntS.calls kj10 _ _ t1082 _ _ t1071 true _ ?side1 ?side2 ?side3 ?side4 A46.out).mono ?_); (case side1 => exact qC (Kd.R_reads' HO_7.out).2.2); (case side2 => exact (Kd.R_reads' HO_7.out).2.1); (case side3 => exact qC (Kd.R_reads' HO_4.out).2.2); (case side4 => exact (Kd.R_reads' HO_4.out).2.1); rintro e w' ⟨rfl, ⟨nd, rfl⟩⟩))
     go_meet
     case rel => exact ⟨_, ((t1085 != t1074)), qE, H', ⟨by have := HJ10.out; first | omega | exact Nat.le_refl _⟩, ⟨by refine qR ?_; exact Kd.R_mono HO_4.out (fun _ hk => ⟨hk.1, hk.2.1⟩)⟩, ⟨by refine qR ?_; exact Kd.R_mono HO_7.out (fun _ hk => ⟨hk.1, hk.2.1⟩)⟩, ⟨by refine qR ?_; exact Kd.R_mono HO_1082003.out (fun _ hk => ⟨hk.1.1, hk.1.2⟩)⟩, ⟨by refine qB ?_; exact BK1063.out⟩, ⟨by refine qB ?_; exact BK1081.out⟩, ⟨by exact qW HB.out⟩⟩
    replace c47 := Bool.eq_false_iff.mpr c47
    subst c47
    have H1 : (laws_FnExactWriteImage.j1 kj10 t1071 t1074 t1082 true a0_0 a0_1 a0_2 l0_3) = some r := by rw [if_neg (show ¬ (false = true) by decide)] at H; exact H
    clear H
    have H := H1
    clear H1
    have H' := Aside0.mk H
    clear H
    obtain ⟨Ao50, co50, eo50⟩ := Kd.R_slice HO_7.out
    subst eo50
    obtain ⟨Ao51, co51, eo51⟩ := Kd.R_slice HO_4.out
    subst eo51
    go_wp2_with (first | (go_at_call 16; (with_reducible refine (laws_eqIntS.calls kj10 _ _ t1082 _ _ t1071 false _ ?side1 ?side2 ?side3 ?side4 A46.out).mono ?_); (case side1 => exact qC (Kd.R_reads' HO_7.out).2.2); (case side2 => exact (Kd.R_reads' HO_7.out).2.1); (case side3 => exact qC (Kd.R_reads' HO_4.out).2.2); (case side4 => exact (Kd.R_reads' HO_4.out).2.1); rintro e w' ⟨rfl, ⟨nd, rfl⟩⟩))
    go_meet
    case rel => exact ⟨_, (true), qE, H', ⟨by have := HJ10.out; first | omega | exact Nat.le_refl _⟩, ⟨by refine qR ?_; exact Kd.R_mono HO_4.out (fun _ hk => ⟨hk.1, hk.2.1⟩)⟩, ⟨by refine qR ?_; exact Kd.R_mono HO_7.out (fun _ hk => ⟨hk.1, hk.2.1⟩)⟩, ⟨by refine qR ?_; exact Kd.R_mono HO_1082003.out (fun _ hk => ⟨hk.1.1, hk.1.2⟩)⟩, ⟨by refine qB ?_; exact BK1063.out⟩, ⟨by refine qB ?_; exact BK1081.out⟩, ⟨by exact qW HB.out⟩⟩
   case rest =>
    clear HC37
    try clear c1
    try clear c2
    try clear p2
    try clear c3
    try clear c3b0
    try clear c4
    try clear c10
    try clear c15
    try clear c16
    try clear c18
    try clear c22
    try clear c24
    try clear c26
    try clear c27
    try clear c32
    try clear c34
    try clear c35
    try clear c42
    try clear c45
    try clear c45b0
    try clear c47
    try clear hcz13_0 hcz13_1 hcz13_2 hcz13_3 hfz13_0 hfz13_1 hfz13_2 hfz13_3
    try clear hcz15_0 hcz15_1 hcz15_2 hcz15_3 hfz15_0 hfz15_1 hfz15_2 hfz15_3
    try clear hcz19_0 hcz19_1 hcz19_2 hcz19_3 hfz19_0 hfz19_1 hfz19_2 hfz19_3
    try clear hcz23_0 hcz23_1 hcz23_2 hcz23_3 hfz23_0 hfz23_1 hfz23_2 hfz23_3
    try clear hcz43_0 hcz43_1 hcz43_2 hcz43_3 hfz43_0 hfz43_1 hfz43_2 hfz43_3
    try clear hcz5_0 hcz5_1 hcz5_2 hcz5_3 hfz5_0 hfz5_1 hfz5_2 hfz5_3
    try clear p2
    obtain ⟨kq, x61_36, rfl, HA, HJ36, HO_4, HO_7, HO_1082003, BK1063, BK1081, HB⟩ := hcut
    have hl1082003_36 := (Kd.R_reads' HO_1082003.out).1
    rw [hl1082003_36] at HO_1082003
    (try simp only [hl1082003_36])
    (try simp only [hl1082003_36] at BK1063)
    (try simp only [hl1082003_36] at BK1081)
    (try simp only [hl1082003_36] at HO_4)
    (try simp only [hl1082003_36] at HO_7)
    cases kq with
    | zero => exact absurd HA.out (by simp [laws_FnExactWriteImage.j1])
    | succ kj36 =>
     have H := HA.out
     clear HA
     simp only [laws_FnExactWriteImage.j1] at H
     by_cases c52 : x61_36 = true
     ·
      subst c52
      have H1 : (some false) = some r := by rw [if_pos rfl] at H; exact H
      clear H
      have H := H1
      clear H1
      obtain rfl := Option.some.inj H
      exact absurd hrt (by decide)
     replace c52 := Bool.eq_false_iff.mpr c52
     subst c52
     have H1 : ((laws_markIntS.f kj36 t1082 1).bind fun bt1097 => ((laws_heldIntS.f kj36 bt1097.2 1).bind fun t1099 => (if t1099 < 0 then (some false) else (if t1099 = bt1097.1 then ((laws_toImage.f kj36 a0_0 a0_1 a0_2 l0_3).bind fun bt1100 => ((impl_WriteImage.f kj36 bt1100.1 bt1100.2.1 bt1100.2.2.1 bt1100.2.2.2).bind fun bt1106 => ((laws_eqIntS.f kj36 bt1106.1 t1071).bind fun t1110 => (if t1110 = true then (laws_FnExactWriteImage.j2 kj36 bt1097.2 bt1097.1 (bt1106.2 != t1074)) else (laws_FnExactWriteImage.j2 kj36 bt1097.2 bt1097.1 true))))) else (some false))))) = some r := by rw [if_neg (show ¬ (false = true) by decide)] at H; exact H
     clear H
     have H := H1
     clear H1
     replace H := Option.bind_eq_some_iff.mp H
     obtain ⟨⟨t1097, t1098⟩, A530, H⟩ := H
     replace H : ((laws_heldIntS.f kj36 t1098 1).bind fun t1099 => (if t1099 < 0 then (some false) else (if t1099 = t1097 then ((laws_toImage.f kj36 a0_0 a0_1 a0_2 l0_3).bind fun bt1100 => ((impl_WriteImage.f kj36 bt1100.1 bt1100.2.1 bt1100.2.2.1 bt1100.2.2.2).bind fun bt1106 => ((laws_eqIntS.f kj36 bt1106.1 t1071).bind fun t1110 => (if t1110 = true then (laws_FnExactWriteImage.j2 kj36 t1098 t1097 (bt1106.2 != t1074)) else (laws_FnExactWriteImage.j2 kj36 t1098 t1097 true))))) else (some false)))) = some r := H
     have A53 := Aside0.mk A530
     clear A530
     replace H := Option.bind_eq_some_iff.mp H
     obtain ⟨t1099, A540, H⟩ := H
     replace H : (if t1099 < 0 then (some false) else (if t1099 = t1097 then ((laws_toImage.f kj36 a0_0 a0_1 a0_2 l0_3).bind fun bt1100 => ((impl_WriteImage.f kj36 bt1100.1 bt1100.2.1 bt1100.2.2.1 bt1100.2.2.2).bind fun bt1106 => ((laws_eqIntS.f kj36 bt1106.1 t1071).bind fun t1110 => (if t1110 = true then (laws_FnExactWriteImage.j2 kj36 t1098 t1097 (bt1106.2 != t1074)) else (laws_FnExactWriteImage.j2 kj36 t1098 t1097 true))))) else (some false))) = some r := H
     have A54 := Aside0.mk A540
     clear A540
     by_cases c55 : t1099 < 0
     ·
      rw [if_pos c55] at H
      have c55b0 : decide (t1099 < 0) = true := decide_eq_true c55
      clear c55
      obtain rfl := Option.some.inj H
      exact absurd hrt (by decide)
     rw [if_neg c55] at H
     have c55b0 : decide (t1099 < 0) = false := decide_eq_false c55
     clear c55
     by_cases c58 : t1099 = t1097
     rotate_left
     ·
      rw [if_neg c58] at H
      have c58b0 : (t1099 == t1097) = false := beq_eq_false_iff_ne.mpr c58
      have c58b1 : (t1099 != t1097) = true := bne_iff_ne.mpr c58
      obtain rfl := Option.some.inj H
      exact absurd hrt (by decide)
     rw [if_pos c58] at H
     have c58b0 : (t1099 == t1097) = true := beq_iff_eq.mpr c58
     have c58b1 : (t1099 != t1097) = false := bne_eq_false_iff_eq.mpr c58
     clear c58
     replace H := Option.bind_eq_some_iff.mp H
     obtain ⟨⟨t1100, t1101, t1102, t1103⟩, A590, H⟩ := H
     replace H : ((impl_WriteImage.f kj36 t1100 t1101 t1102 t1103).bind fun bt1106 => ((laws_eqIntS.f kj36 bt1106.1 t1071).bind fun t1110 => (if t1110 = true then (laws_FnExactWriteImage.j2 kj36 t1098 t1097 (bt1106.2 != t1074)) else (laws_FnExactWriteImage.j2 kj36 t1098 t1097 true)))) = some r := H
     have A59 := Aside0.mk A590
     clear A590
     replace H := Option.bind_eq_some_iff.mp H
     obtain ⟨⟨t1106, t1109⟩, A600, H⟩ := H
     replace H : ((laws_eqIntS.f kj36 t1106 t1071).bind fun t1110 => (if t1110 = true then (laws_FnExactWriteImage.j2 kj36 t1098 t1097 (t1109 != t1074)) else (laws_FnExactWriteImage.j2 kj36 t1098 t1097 true))) = some r := H
     have A60 := Aside0.mk A600
     clear A600
     have HC61 := Aside0.mk H
     clear H
     obtain ⟨Ao62, co62, eo62⟩ := Kd.R_slice HO_7.out
     subst eo62
     go_upto_region 25 with (first | ((with_reducible refine gate_callee (f := 17) rfl ?_); refine goesL_ (some 64) rfl rfl Try.func17 (by kernel_rfl) rfl #[.slice Ao62 t1082.length co62, .int .i64 1] rfl qM ?_; (with_reducible refine (laws_markIntS.calls kj36 (fun k_ => some k_ = (.slice Ao62 t1082.length co62 : Value).ownBlock) (.slice Ao62 t1082.length co62) t1082 1 t1097 t1098 w _ ?side1 ?side2 A53.out).mono ?_); (case side1 => exact qW HB.out); (case side2 => exact Kd.R_tight rfl HO_7.out); rintro e w63 ⟨rfl, hy0, hb, hkp⟩; refine ⟨_, rfl, ?_⟩; replace HO_4 := Aside0.mk (Kd.R_mono (ok' := fun k_ => some k_ ≠ (.slice Ao62 t1082.length co62 : Value).ownBlock ∧ some k_ ≠ (.slice Ao24 t1095.length co24 : Value).ownBlock) (Kd.R_keptB (HO_4.out) hkp (fun k_ hk_ hs_ => (hk_.1) hs_)) (fun k_ hk_ => ⟨hk_.1.1, hk_.1.2⟩)); replace HO_1082003 := Aside0.mk (Kd.R_mono (ok' := fun k_ => some k_ ≠ (v1072 : Value).ownBlock ∧ some k_ ≠ (.slice Ao62 t1082.length co62 : Value).ownBlock) (Kd.R_keptB (HO_1082003.out) hkp (fun k_ hk_ hs_ => (hk_.2) hs_)) (fun k_ hk_ => ⟨hk_.1.1, hk_.1.2⟩)); replace BK1063 := Aside0.mk (blk_kept (qB BK1063.out) hkp (fun hs_ => (fun e_ => (Kd.R_ne HO_7.out BK1063.out (by decide)) e_) hs_)); replace BK1081 := Aside0.mk (blk_kept (qB BK1081.out) hkp (fun hs_ => (fun e_ => (Kd.R_ne HO_7.out BK1081.out (by decide)) e_) hs_)); replace HO_7 := Aside0.mk (Kd.R_reok rfl hy0 (fun k_ e_ => HO_7.out.1 k_ e_)); replace HB := Aside0.mk (hb); (try clear hb); (try clear hkp); (try clear hy0)) | ((with_reducible refine gate_callee (f := 28) rfl ?_); refine goesL_ (some 67) rfl rfl Try.func28 (by kernel_rfl) rfl #[.slice Ao62 t1098.length co62, .int .i64 1] rfl (by (try simp only [List.map_toArray, List.map_cons, List.map_nil]); first | done | (rw [show t1098.length = t1082.length from (Kd.R_reads' HO_7.out).1.symm] <;> rfl) | rfl | (simp only [List.length_drop, List.length_take]; rfl)) ?_; (with_reducible refine (laws_heldIntS.calls kj36 _ _ t1098 1 t1099 _ ?side1 ?side2 A54.out).mono ?_); (case side1 => exact qC (Kd.R_reads' HO_7.out).2.2); (case side2 => rw [show t1098.length = t1082.length from (Kd.R_reads' HO_7.out).1.symm]; exact (Kd.R_reads' HO_7.out).2.1); rintro e w' ⟨rfl, ⟨nd, rfl⟩⟩; refine ⟨_, rfl, ?_⟩; have hnb64 := NB1063_1081.out; have hnc64 := NB1081_1063.out; obtain ⟨hcz65_0, hcz65_1, hcz65_2, hcz65_3⟩ := cz4 BK1063.out; obtain ⟨hfz65_0, hfz65_1, hfz65_2, hfz65_3⟩ := fz4 BK1063.out) | ((with_reducible refine gate_callee (f := 26) rfl ?_); refine goesL_ (some 75) rfl rfl Try.func26 (by kernel_rfl) rfl #[.agg #[.int .i64 a0_0, .int .i64 a0_1, .int .i64 a0_2, .slice A0_3 l0_3.length c0_3]] rfl qM ?_; (with_reducible refine (laws_toImage.calls kj36 a0_0 a0_1 a0_2 _ _ l0_3 t1100 t1101 t1102 t1103 _ ?side1 ?side2 A59.out).mono ?_); (case side1 => exact qC (Kd.C_below HR0_3.out (qW HB.out))); (case side2 => exact HC0_3.out); rintro e w66 ⟨v1104, rfl, ho0, hb⟩; refine ⟨_, rfl, ?_⟩; have HO1105 := Aside0.mk (Kd.R_lower (Kd.R_new' (Kd.R_new' (Kd.R_new' ho0 (Kd.R_lt (qR HO_4.out))) (Kd.R_lt (qR HO_7.out))) (Kd.R_lt (qR HO_1082003.out))) (below_size (qW HB.out))); replace HO_4 := Aside0.mk (Kd.R_elder' (qR HO_4.out) (Kd.R_base ho0) hb); replace HO_7 := Aside0.mk (Kd.R_elder' (qR HO_7.out) (Kd.R_base ho0) hb); replace HO_1082003 := Aside0.mk (Kd.R_elder' (qR HO_1082003.out) (Kd.R_base ho0) hb); replace BK1063 := bB BK1063 hb; replace BK1081 := bB BK1081 hb; replace HB := Aside0.mk (below_step (qW HB.out) hb); (try clear hb); (try clear hb2); (try clear hk); (try clear hi); (try clear ho0); obtain ⟨Ao67, co67, eo67⟩ := Kd.R_slice HO1105.out; subst eo67) | ((with_reducible refine gate_callee (f := 22) rfl ?_); refine goesL_ (some 76) rfl rfl Try.func22 (by kernel_rfl) rfl #[.agg #[.int .i64 t1100, .int .i64 t1101, .int .i64 t1102, .slice Ao67 t1103.length co67]] rfl qM ?_; (with_reducible refine (impl_WriteImage.calls kj36 t1100 t1101 t1102 _ _ t1103 t1106 t1109 _ ?side1 ?side2 A60.out).mono ?_); (case side1 => exact qC (Kd.R_reads' HO1105.out).2.2); (case side2 => exact (Kd.R_reads' HO1105.out).2.1); rintro e w68 ⟨v1107, rfl, ho0, hb⟩; refine ⟨_, rfl, ?_⟩; have HO1108 := Aside0.mk (Kd.R_lower (Kd.R_new' (Kd.R_new' (Kd.R_new' (Kd.R_new' ho0 (Kd.R_lt (qR HO_4.out))) (Kd.R_lt (qR HO_7.out))) (Kd.R_lt (qR HO_1082003.out))) (Kd.R_lt (qR HO1105.out))) (below_size (qW HB.out))); replace HO_4 := Aside0.mk (Kd.R_elder' (qR HO_4.out) (Kd.R_base ho0) hb); replace HO_7 := Aside0.mk (Kd.R_elder' (qR HO_7.out) (Kd.R_base ho0) hb); replace HO_1082003 := Aside0.mk (Kd.R_elder' (qR HO_1082003.out) (Kd.R_base ho0) hb); replace HO1105 := Aside0.mk (Kd.R_elder' (qR HO1105.out) (Kd.R_base ho0) hb); replace BK1063 := bB BK1063 hb; replace BK1081 := bB BK1081 hb; replace HB := Aside0.mk (below_step (qW HB.out) hb); (try clear hb); (try clear hb2); (try clear hk); (try clear hi); (try clear ho0)))
     (try simp only [Act.put, List.setIfInBounds_toArray, List.set_cons_zero, List.set_cons_succ])
     go_cut [87] (fun v87 wc => ∃ (kq : Nat) (x87_60 : Bool), v87 = .bool x87_60 ∧ Aside0 (laws_FnExactWriteImage.j2 kq t1098 t1097 x87_60 = some r) ∧ Aside0 (kq ≤ kj36) ∧ Aside0 (Kd.R (Kd.int .i64) 3 wc w.heap.size (fun k_ => some k_ ≠ ((.slice Ao24 t1095.length co24) : Value).ownBlock) (.slice Ao62 t1082.length co62) t1098) ∧ Aside0 (Kd.R (Kd.int .i64) 3 wc w.heap.size (fun k_ => some k_ ≠ ((.slice Ao62 t1082.length co62) : Value).ownBlock) (.slice Ao24 t1095.length co24) t1095) ∧ Aside0 (wc.heap[gb1063]? = some (.cells #[.int .i64 a0_0, .int .i64 a0_1, .int .i64 a0_2, (.slice A0_3 l0_3.length c0_3)] 38 (0, 0))) ∧ Aside0 (wc.heap[gb1081]? = some (.cells #[.int .i64 t1075, .int .i64 t1076, .int .i64 t1077, (.slice Ao24 t1095.length co24)] 24 (0, 0))) ∧ Aside0 (Below w.heap.size w wc))
     case first =>
      have H := HC61.out
      clear HC61
      replace H := Option.bind_eq_some_iff.mp H
      obtain ⟨t1110, A690, H⟩ := H
      replace H : (if t1110 = true then (laws_FnExactWriteImage.j2 kj36 t1098 t1097 (t1109 != t1074)) else (laws_FnExactWriteImage.j2 kj36 t1098 t1097 true)) = some r := H
      have A69 := Aside0.mk A690
      clear A690
      by_cases c70 : t1110 = true
      ·
       subst c70
       have H1 : (laws_FnExactWriteImage.j2 kj36 t1098 t1097 (t1109 != t1074)) = some r := by rw [if_pos rfl] at H; exact H
       clear H
       have H := H1
       clear H1
       have H' := Aside0.mk H
       clear H
       obtain ⟨Ao71, co71, eo71⟩ := Kd.R_slice HO1108.out
       subst eo71
       obtain ⟨Ao72, co72, eo72⟩ := Kd.R_slice HO_4.out
       subst eo72
       go_wp2_with (first | ((with_reducible refine gate_callee (f := 16) rfl ?_); refine goesL_ (some 81) rfl rfl Try.func16 (by kernel_rfl) rfl #[.slice Ao71 t1106.length co71, .slice Ao72 t1071.length co72] rfl qM ?_; (with_reducible refine (laws_eqIntS.calls kj36 _ _ t1106 _ _ t1071 true _ ?side1 ?side2 ?side3 ?side4 A69.out).mono ?_); (case side1 => exact qC (Kd.R_reads' HO1108.out).2.2); (case side2 => exact (Kd.R_reads' HO1108.out).2.1); (case side3 => exact qC (Kd.R_reads' HO_4.out).2.2); (case side4 => exact (Kd.R_reads' HO_4.out).2.1); rintro e w' ⟨rfl, ⟨nd, rfl⟩⟩; refine ⟨_, rfl, ?_⟩))
       go_meet
       case rel => exact ⟨_, ((t1109 != t1074)), qE, H', ⟨by have := HJ10.out; have := HJ36.out; first | omega | exact Nat.le_refl _⟩, ⟨by (try simp only [hl1082003_36]); refine qR ?_; exact Kd.R_mono HO_7.out (fun _ hk => hk.1.1.2)⟩, ⟨by (try simp only [hl1082003_36]); refine qR ?_; exact Kd.R_mono HO_1082003.out (fun _ hk => hk.1.1.2)⟩, ⟨by (try simp only [hl1082003_36]); refine qB ?_; exact BK1063.out⟩, ⟨by (try simp only [hl1082003_36]); refine qB ?_; exact BK1081.out⟩, ⟨by exact qW HB.out⟩⟩
      replace c70 := Bool.eq_false_iff.mpr c70
      subst c70
      have H1 : (laws_FnExactWriteImage.j2 kj36 t1098 t1097 true) = some r := by rw [if_neg (show ¬ (false = true) by decide)] at H; exact H
      clear H
      have H := H1
      clear H1
      have H' := Aside0.mk H
      clear H
      obtain ⟨Ao73, co73, eo73⟩ := Kd.R_slice HO1108.out
      subst eo73
      obtain ⟨Ao74, co74, eo74⟩ := Kd.R_slice HO_4.out
      subst eo74
      go_wp2_with (first | ((with_reducible refine gate_callee (f := 16) rfl ?_); refine goesL_ (some 81) rfl rfl Try.func16 (by kernel_rfl) rfl #[.slice Ao73 t1106.length co73, .slice Ao74 t1071.length co74] rfl qM ?_; (with_reducible refine (laws_eqIntS.calls kj36 _ _ t1106 _ _ t1071 false _ ?side1 ?side2 ?side3 ?side4 A69.out).mono ?_); (case side1 => exact qC (Kd.R_reads' HO1108.out).2.2); (case side2 => exact (Kd.R_reads' HO1108.out).2.1); (case side3 => exact qC (Kd.R_reads' HO_4.out).2.2); (case side4 => exact (Kd.R_reads' HO_4.out).2.1); rintro e w' ⟨rfl, ⟨nd, rfl⟩⟩; refine ⟨_, rfl, ?_⟩))
      go_meet
      case rel => exact ⟨_, (true), qE, H', ⟨by have := HJ10.out; have := HJ36.out; first | omega | exact Nat.le_refl _⟩, ⟨by (try simp only [hl1082003_36]); refine qR ?_; exact Kd.R_mono HO_7.out (fun _ hk => hk.1.1.2)⟩, ⟨by (try simp only [hl1082003_36]); refine qR ?_; exact Kd.R_mono HO_1082003.out (fun _ hk => hk.1.1.2)⟩, ⟨by (try simp only [hl1082003_36]); refine qB ?_; exact BK1063.out⟩, ⟨by (try simp only [hl1082003_36]); refine qB ?_; exact BK1081.out⟩, ⟨by exact qW HB.out⟩⟩
     case rest =>
      clear HC61
      try clear c1
      try clear c2
      try clear p2
      try clear c3
      try clear c3b0
      try clear c4
      try clear c5
      try clear c6
      try clear c7
      try clear c10
      try clear c15
      try clear c16
      try clear c17
      try clear c18
      try clear c22
      try clear c24
      try clear c26
      try clear c27
      try clear c28
      try clear c32
      try clear c34
      try clear c35
      try clear c42
      try clear c45
      try clear c45b0
      try clear c47
      try clear c52
      try clear c55
      try clear c55b0
      try clear c58
      try clear c58b0
      try clear c58b1
      try clear c64
      try clear c70
      try clear hcz13_0 hcz13_1 hcz13_2 hcz13_3 hfz13_0 hfz13_1 hfz13_2 hfz13_3
      try clear hcz15_0 hcz15_1 hcz15_2 hcz15_3 hfz15_0 hfz15_1 hfz15_2 hfz15_3
      try clear hcz19_0 hcz19_1 hcz19_2 hcz19_3 hfz19_0 hfz19_1 hfz19_2 hfz19_3
      try clear hcz23_0 hcz23_1 hcz23_2 hcz23_3 hfz23_0 hfz23_1 hfz23_2 hfz23_3
      try clear hcz43_0 hcz43_1 hcz43_2 hcz43_3 hfz43_0 hfz43_1 hfz43_2 hfz43_3
      try clear hcz5_0 hcz5_1 hcz5_2 hcz5_3 hfz5_0 hfz5_1 hfz5_2 hfz5_3
      try clear hcz65_0 hcz65_1 hcz65_2 hcz65_3 hfz65_0 hfz65_1 hfz65_2 hfz65_3
      try clear p2
      obtain ⟨kq, x87_60, rfl, HA, HJ60, HO_7, HO_1082003, BK1063, BK1081, HB⟩ := hcut
      have hl7_60 := (Kd.R_reads' HO_7.out).1
      rw [hl7_60] at HO_7
      (try simp only [hl7_60])
      (try simp only [hl7_60] at BK1063)
      (try simp only [hl7_60] at BK1081)
      (try simp only [hl7_60] at HO_1082003)
      cases kq with
      | zero => exact absurd HA.out (by simp [laws_FnExactWriteImage.j2])
      | succ kj60 =>
       have H := HA.out
       clear HA
       simp only [laws_FnExactWriteImage.j2] at H
       by_cases c75 : x87_60 = true
       ·
        subst c75
        have H1 : (some false) = some r := by rw [if_pos rfl] at H; exact H
        clear H
        have H := H1
        clear H1
        obtain rfl := Option.some.inj H
        exact absurd hrt (by decide)
       replace c75 := Bool.eq_false_iff.mpr c75
       subst c75
       have H1 : ((laws_heldIntS.f kj60 t1098 1).bind fun t1111 => (if t1111 < 0 then (some false) else (if t1111 = t1097 then (some true) else (some false)))) = some r := by rw [if_neg (show ¬ (false = true) by decide)] at H; exact H
       clear H
       have H := H1
       clear H1
       replace H := Option.bind_eq_some_iff.mp H
       obtain ⟨t1111, A760, H⟩ := H
       replace H : (if t1111 < 0 then (some false) else (if t1111 = t1097 then (some true) else (some false))) = some r := H
       have A76 := Aside0.mk A760
       clear A760
       by_cases c77 : t1111 < 0
       ·
        rw [if_pos c77] at H
        have c77b0 : decide (t1111 < 0) = true := decide_eq_true c77
        clear c77
        obtain rfl := Option.some.inj H
        exact absurd hrt (by decide)
       rw [if_neg c77] at H
       have c77b0 : decide (t1111 < 0) = false := decide_eq_false c77
       clear c77
       by_cases c78 : t1111 = t1097
       rotate_left
       ·
        rw [if_neg c78] at H
        have c78b0 : (t1111 == t1097) = false := beq_eq_false_iff_ne.mpr c78
        have c78b1 : (t1111 != t1097) = true := bne_iff_ne.mpr c78
        obtain rfl := Option.some.inj H
        exact absurd hrt (by decide)
       rw [if_pos c78] at H
       have c78b0 : (t1111 == t1097) = true := beq_iff_eq.mpr c78
       have c78b1 : (t1111 != t1097) = false := bne_eq_false_iff_eq.mpr c78
       clear c78
       obtain rfl := Option.some.inj H
       go_wp2_with (first | ((with_reducible refine gate_callee (f := 28) rfl ?_); refine goesL_ (some 90) rfl rfl Try.func28 (by kernel_rfl) rfl #[.slice Ao62 t1098.length co62, .int .i64 1] rfl qM ?_; (with_reducible refine (laws_heldIntS.calls kj60 _ _ t1098 1 t1111 _ ?side1 ?side2 A76.out).mono ?_); (case side1 => exact qC (Kd.R_reads' HO_7.out).2.2); (case side2 => exact (Kd.R_reads' HO_7.out).2.1); rintro e w' ⟨rfl, ⟨nd, rfl⟩⟩; refine ⟨_, rfl, ?_⟩))
       go_ret
       exact ⟨by first | rfl | (simp [errW_none, errW_some] <;> rfl) | (simp [*, errW_none, errW_some] <;> rfl), by exact qW HB.out⟩
/-- THE ONE PURE STATEMENT of laws_FnExactWriteImage. -/
def laws_FnExactWriteImage.Pure : Prop := ∀ (a0_0 : Int) (a0_1 : Int) (a0_2 : Int) (l0_3 : List Int), (Lit.int .i64 a0_0).wf = true → (Lit.int .i64 a0_1).wf = true → (Lit.int .i64 a0_2).wf = true → l0_3.length ≤ maxLen → (∀ x ∈ l0_3, (Lit.int .i64 x).wf = true) → ∃ k, laws_FnExactWriteImage.f k a0_0 a0_1 a0_2 l0_3 = some true
theorem laws_FnExactWriteImage.walk (P : laws_FnExactWriteImage.Pure) (a0_0 : Int) (a0_1 : Int) (a0_2 : Int) (A0_3 : Option Addr) (len0_3 cap0_3 : Nat) (z0_3 : List Int) (w : World) (w0_0 : (Lit.int .i64 a0_0).wf = true) (w0_1 : (Lit.int .i64 a0_1).wf = true) (w0_2 : (Lit.int .i64 a0_2).wf = true) (w0_3 : (A0_3 = none ∧ len0_3 = 0 ∧ cap0_3 = 0 ∧ z0_3 = []) ∨ ∃ x, A0_3 = some x ∧ len0_3 ≤ cap0_3 ∧ cap0_3 ≤ maxLen ∧ z0_3.length = cap0_3 ∧ (∀ i, i < z0_3.length → w.cell? (x.add i) = some (.int .i64 (z0_3.getD i 0))) ∧ ∀ n ∈ z0_3, (Lit.int .i64 n).wf = true) :
  Calls Try.prog 10 #[.agg #[.int .i64 a0_0, .int .i64 a0_1, .int .i64 a0_2, .slice A0_3 len0_3 cap0_3]] w fun e w' => e = .returned (.bool true) ∧ Below w.heap.size w w' := by
 obtain ⟨l0_3, rfl, hr0_3, hm0_3, hw0_3, hc0_3⟩ := ReadsInt.ofRowC w0_3
 obtain ⟨k, h⟩ := P a0_0 a0_1 a0_2 l0_3 w0_0 w0_1 w0_2 hm0_3 hw0_3
 refine (laws_FnExactWriteImage.calls k a0_0 a0_1 a0_2 _ _ l0_3 true w (Kd.C_of_reads (d := (0 : Int)) (h1 := fun _ => rfl) hr0_3) hc0_3 h rfl).mono ?_
 rintro e w' ⟨rfl, hd⟩
 exact ⟨rfl, hd⟩

end Go.Proofs.Ytchahbdmdcllaaa.P
