/- Contracts and row, written by a program of this place out of the translation: the call answers true and its argument reads as before, for every input; no condition. -/
import Derived.Test.YteeeedmmcdlhjaaK0
import Derived.Test.YteeeedmmcdlhjaaK1
namespace Go.Proofs.Yteeeedmmcdlhjaa.P
open Go.RowKit Go.Proofs.YteeeedmmcdlhjaaW.PrintWords Go.Proofs.YteeeedmmcdlhjaaW.PrintLast Go.Proofs.YteeeedmmcdlhjaaW.PrintMore
attribute [local go_sem] max2_int min2_int max_two min_two max_three min_three max_four min_four   -- for this text's walks alone
set_option linter.unusedVariables false
set_option linter.unusedSimpArgs false
def bayM : List Int := [0, 8, 2, 10, 12, 4, 14, 6, 3, 11, 1, 9, 15, 7, 13, 5]
def ordL (n lv x y : Int) : Int := (n * (lv - 1) * 16 + 255 * rd bayM (y % 4 * 4 + x % 4)) / 4080
def ordPix (l : List Int) (a0 a2 lv x y : Int) : List Int := [(impl_valueOf.f (ordL (rd (pixOf l a0 a2 x y) 0) lv x y) lv).getD 0]
theorem bayM_at (i : Nat) (h : i < 16) : 0 ≤ rd bayM (i : Int) ∧ rd bayM (i : Int) ≤ 15 := by
 have : ∀ i, i < 16 → 0 ≤ rd bayM ((i : Nat) : Int) ∧ rd bayM ((i : Nat) : Int) ≤ 15 := by decide
 exact this i h
theorem bay_cell {w : World} {B t : Nat} (h : w.heap[B]? = some (.cells #[.int .i64 0, .int .i64 8, .int .i64 2, .int .i64 10, .int .i64 12, .int .i64 4, .int .i64 14, .int .i64 6, .int .i64 3, .int .i64 11, .int .i64 1, .int .i64 9, .int .i64 15, .int .i64 7, .int .i64 13, .int .i64 5] t (0, 0))) (i : Nat) (hi : i < 16) : w.cell? ⟨B, i, none⟩ = some (.int .i64 (rd bayM (i : Int))) := by
 refine (blk_cell h i).trans ?_
 have : ∀ i : Nat, i < 16 → (#[.int .i64 0, .int .i64 8, .int .i64 2, .int .i64 10, .int .i64 12, .int .i64 4, .int .i64 14, .int .i64 6, .int .i64 3, .int .i64 11, .int .i64 1, .int .i64 9, .int .i64 15, .int .i64 7, .int .i64 13, .int .i64 5] : Array Value)[i]? = some (.int .i64 (rd bayM (i : Int))) := fun i hi => by
  rcases (show i = 0 ∨ i = 1 ∨ i = 2 ∨ i = 3 ∨ i = 4 ∨ i = 5 ∨ i = 6 ∨ i = 7 ∨ i = 8 ∨ i = 9 ∨ i = 10 ∨ i = 11 ∨ i = 12 ∨ i = 13 ∨ i = 14 ∨ i = 15 by omega) with rfl | rfl | rfl | rfl | rfl | rfl | rfl | rfl | rfl | rfl | rfl | rfl | rfl | rfl | rfl | rfl <;> rfl
 exact this i hi
set_option maxHeartbeats 8000000 in
set_option maxRecDepth 100000 in
theorem orderImagePix (w : World) (B1 B2 B3 : Nat) (a0 a1 a2 : Int) (A : Option Addr) (c : Nat) (l : List Int) (lv : Int)
  (hB1 : w.heap[B1]? = some (.cells #[.int .i64 a0, .int .i64 a1, .int .i64 a2, .slice A l.length c] 27 (0, 0))) (hB2 : w.heap[B2]? = some (.cells #[.int .i64 lv] 3 (0, 0)))
  (hB3 : w.heap[B3]? = some (.cells #[.int .i64 0, .int .i64 8, .int .i64 2, .int .i64 10, .int .i64 12, .int .i64 4, .int .i64 14, .int .i64 6, .int .i64 3, .int .i64 11, .int .i64 1, .int .i64 9, .int .i64 15, .int .i64 7, .int .i64 13, .int .i64 5] 75 (0, 0)))
  (hr : Kd.C (Kd.int .i64) w A l.length l) (hc : l.length ≤ c) (V : ImgOk a0 a1 a2 l) (h1 : a2 = 1) (hv : 2 ≤ lv) (hv' : lv ≤ 16) :
  PixAt 63 #[.pointer (some ⟨B1, 0, none⟩), .pointer (some ⟨B2, 0, none⟩), .pointer (some ⟨B3, 0, none⟩)] (fun x y => ordPix l a0 a2 lv x y) a0 a1 w := fun W x y hb hx hx' hy hy' => by
 obtain ⟨⟨v0, v0'⟩, ⟨v1, v1'⟩, ⟨v2, v2'⟩, hlen, hby⟩ := V
 have hfit := pix_fits (a0 := a0) (a1 := a1) (a2 := a2) (x := x) (y := y) (by omega) (by omega) (by omega) (by omega) (by omega)
 rw [← hlen] at hfit
 have m1 : 0 ≤ y * a0 := Int.mul_nonneg hy (by omega)
 have m2 : 0 ≤ (y * a0 + x) * a2 := Int.mul_nonneg (by omega) (by omega)
 have hpl := pixOf_length (l := l) (n := a0) (p := a2) (x := x) (y := y) m2 (by omega) hfit
 have hpm : ∀ v ∈ pixOf l a0 a2 x y, 0 ≤ v ∧ v ≤ 255 := fun v hv => hby v (pixOf_mem hv)
 have HR0 := aM (Kd.C_below hr hb)
 have KB1 := aM (blk_below hB1 hb)
 have KB2 := aM (blk_below hB2 hb)
 have KB3 := aM (blk_below hB3 hb)
 have HC := aM (fun (W' : World) (hb' : Below W.heap.size W W') => impl_at.calls2 a0 a1 a2 A c l x y W' (Kd.C_below HR0.out hb') hc (by omega) v0' (by omega) (by omega) (by omega) (by omega) (by omega) (by omega) hfit)
 clear hfit hlen hr hc hB1 hB2 hB3 hb m1 m2 hby
 dsimp only
 unfold ordPix
 generalize pixOf l a0 a2 x y = px at HC hpl hpm ⊢
 rw [h1] at hpl
 clear h1
 have r0 : 0 ≤ rd px 0 ∧ rd px 0 ≤ 255 := hpm _ (by
  unfold rd
  rw [List.getD_eq_getElem?_getD, List.getElem?_eq_getElem (by omega)]
  exact List.getElem_mem _)
 have HL := aM hpl
 clear hpm hpl
 obtain ⟨xm, hxm⟩ : ∃ z : Nat, x % 4 = z := ⟨(x % 4).toNat, by omega⟩
 obtain ⟨ym, hym⟩ : ∃ z : Nat, y % 4 = z := ⟨(y % 4).toNat, by omega⟩
 have tx : Int.tmod x 4 = xm := (Int.tmod_eq_emod_of_nonneg hx).trans hxm
 have ty : Int.tmod y 4 = ym := (Int.tmod_eq_emod_of_nonneg hy).trans hym
 have lx : xm < 4 := by omega
 have ly : ym < 4 := by omega
 have lxz : (xm : Int) < 4 := by omega
 have lyz : (ym : Int) < 4 := by omega
 unfold ordL
 rw [hxm, hym]
 have HXM := aM hxm
 have HYM := aM hym
 clear hxm hym
 obtain ⟨n0, hn0⟩ : ∃ z : Int, rd px 0 = z := ⟨_, rfl⟩
 rw [hn0] at r0 ⊢
 have HN0 := aM hn0
 clear hn0
 obtain ⟨bm, hbm⟩ : ∃ z : Int, rd bayM ((ym : Int) * 4 + xm) = z := ⟨_, rfl⟩
 have bb := bayM_at (ym * 4 + xm) (by omega)
 rw [show ((ym * 4 + xm : Nat) : Int) = (ym : Int) * 4 + xm by omega, hbm] at bb
 have HCB := aM (fun (w' : World) (h : Below W.heap.size W w') => (bay_cell (blk_below KB3.out h) (ym * 4 + xm) (by omega)).trans (congrArg (fun z => some (Value.int IntKind.i64 z)) ((congrArg (rd bayM) (show ((ym * 4 + xm : Nat) : Int) = (ym : Int) * 4 + xm by omega)).trans hbm)))
 rw [hbm]
 clear hbm
 have p1 : 0 ≤ n0 * (lv - 1) := Int.mul_nonneg r0.1 (by omega)
 have p2 : n0 * (lv - 1) ≤ 255 * 15 := Int.mul_le_mul r0.2 (by omega) (by omega) (by omega)
 have f1 : IntKind.i64.wrap (lv - 1) = lv - 1 := (i64_w _).trans (wrap_small (by omega) (by omega))
 obtain ⟨pr, hpr⟩ : ∃ z : Int, n0 * (lv - 1) = z := ⟨_, rfl⟩
 rw [hpr] at p1 p2 ⊢
 have f2 : IntKind.i64.wrap (n0 * (lv - 1)) = pr := (i64_w _).trans ((wrap_small (by omega) (by omega)).trans hpr)
 have f3 : IntKind.i64.wrap (pr * 16) = pr * 16 := (i64_w _).trans (wrap_small (by omega) (by omega))
 have f4 : IntKind.i64.wrap (255 * bm) = 255 * bm := (i64_w _).trans (wrap_small (by omega) (by omega))
 have f5 : IntKind.i64.wrap (pr * 16 + 255 * bm) = pr * 16 + 255 * bm := (i64_w _).trans (wrap_small (by omega) (by omega))
 have f6 : Int.tdiv (pr * 16 + 255 * bm) 4080 = (pr * 16 + 255 * bm) / 4080 := Int.tdiv_eq_ediv_of_nonneg (by omega)
 have f7 : IntKind.i64.wrap ((pr * 16 + 255 * bm) / 4080) = (pr * 16 + 255 * bm) / 4080 := (i64_w _).trans (wrap_small (by omega) (by omega))
 obtain ⟨lev, hlev⟩ : ∃ z : Int, (pr * 16 + 255 * bm) / 4080 = z := ⟨_, rfl⟩
 rw [hlev] at f6 f7 ⊢
 have hV : ∃ vv, impl_valueOf.f lev lv = some vv := by
  unfold impl_valueOf.f
  rw [if_neg (by rw [wrap_small (by omega) (by omega)]; omega)]
  exact ⟨_, rfl⟩
 obtain ⟨vv, hvv⟩ := hV
 rw [hvv]
 have HVV := aM hvv
 clear hpr hlev hvv
 show Calls Try.prog 63 _ W fun e w' => ∃ (A : Option Addr) (c : Nat), e = .returned (.slice A [vv].length c) ∧ Kd.C (Kd.int .i64) w' A [vv].length [vv] ∧ [vv].length ≤ c ∧ Below W.heap.size W w'
 go_enter Try.func63, Try.ntmps63
 go_wp2
 refine start_ (n := 21) (S := fun w' => Below W.heap.size W w') (ds := []) (bA 21 0) (by kernel_rfl) rfl rfl (below_drew (Below.refl _ _)) (fun hHeld => ?_)
 have HB := aM hHeld
 clear hHeld
 generalize W.drew = w2 at HB ⊢
 refine pure_ (i := 1) (N := some 10) (v := ?_) (a' := ?_) (bA 21 2) rfl rfl (by kernel_rfl) (fun _ _ _ h => h) (Or.inl ⟨by rfl, ?_⟩) ?_ ?_
 rotate_left
 ·intro w'
  go_simp
  with_reducible rfl
 rotate_left
 ·refine pZ ?_
  rfl
 refine pure_ (i := 2) (N := some 11) (v := ?_) (a' := ?_) (bA 21 6) rfl rfl (by kernel_rfl) (fun _ _ _ h => h) (Or.inl ⟨by rfl, ?_⟩) ?_ ?_
 rotate_left
 ·intro w'
  go_simp
  with_reducible rfl
 rotate_left
 ·refine pZ ?_
  rfl
 refine pure_ (i := 10) (N := some 19) (v := ?_) (a' := ?_) (bA 21 1030) rfl rfl (by kernel_rfl) (fun _ _ _ h => h) (Or.inl ⟨by rfl, ?_⟩) ?_ ?_
 rotate_left
 ·intro w'
  go_simp
  with_reducible rfl
 rotate_left
 ·refine pZ ?_
  rfl
 refine pure_ (i := 11) (N := some 20) (v := ?_) (a' := ?_) (bA 21 3078) rfl rfl (by kernel_rfl) (fun _ _ _ h => h) (Or.inl ⟨by rfl, ?_⟩) ?_ ?_
 rotate_left
 ·intro w'
  go_simp
  with_reducible rfl
 rotate_left
 ·refine pZ ?_
  rfl
 refine pure_ (i := 12) (N := some 21) (v := ?_) (a' := ?_) (bA 21 7174) rfl rfl (by kernel_rfl) (fun _ _ _ h => h) (Or.inl ⟨by rfl, ?_⟩) ?_ ?_
 rotate_left
 ·intro w'
  go_simp
  with_reducible rfl
 rotate_left
 ·refine pZ ?_
  rfl
 refine pure_ (i := 13) (N := some 22) (v := ?_) (a' := ?_) (bA 21 15366) rfl rfl (by kernel_rfl) (fun _ _ _ h => h) (Or.inl ⟨by rfl, ?_⟩) ?_ ?_
 rotate_left
 ·intro w'
  go_simp
  with_reducible rfl
 rotate_left
 ·refine pZ ?_
  rfl
 refine pure_ (i := 14) (N := some 23) (v := ?_) (a' := ?_) (bA 21 31750) rfl rfl (by kernel_rfl) (fun _ _ _ h => h) (Or.inl ⟨by rfl, ?_⟩) ?_ ?_
 rotate_left
 ·intro w'
  go_simp
  with_reducible rfl
 rotate_left
 ·refine pZ ?_
  rfl
 refine pure_ (i := 15) (N := some 24) (v := ?_) (a' := ?_) (bA 21 64518) rfl rfl (by kernel_rfl) (fun _ _ _ h => h) (Or.inl ⟨by rfl, ?_⟩) ?_ ?_
 rotate_left
 ·intro w'
  go_simp
  with_reducible rfl
 rotate_left
 ·refine pZ ?_
  rfl
 refine take_ (i := 0) (N := some 9) (v := ?_) (a' := ?_) (bA 21 64519) rfl rfl (by kernel_rfl) (fun _ _ _ h => h) (Or.inl ⟨by rfl, ?_⟩) HB.out ?_ ?_
 rotate_left
 ·intro w' s0
  have z0 : w'.cell? ⟨B1, 0, none⟩ = some (.int .i64 a0) := (blk_cell (blk_below KB1.out s0) 0).trans rfl
  have z1 : w'.cell? ⟨B1, 1, none⟩ = some (.int .i64 a1) := (blk_cell (blk_below KB1.out s0) 1).trans rfl
  have z2 : w'.cell? ⟨B1, 2, none⟩ = some (.int .i64 a2) := (blk_cell (blk_below KB1.out s0) 2).trans rfl
  have z3 : w'.cell? ⟨B1, 3, none⟩ = some (.slice A l.length c) := (blk_cell (blk_below KB1.out s0) 3).trans rfl
  go_simp
  with_reducible rfl
 rotate_left
 ·refine pZ ?_
  rfl
 refine take_ (i := 6) (N := some 15) (v := ?_) (a' := ?_) (bA 21 64583) rfl rfl (by kernel_rfl) (fun _ _ _ h => h) (Or.inl ⟨by rfl, ?_⟩) HB.out ?_ ?_
 rotate_left
 ·intro w' s0
  have z : w'.cell? ⟨B2, 0, none⟩ = some (.int .i64 lv) := (blk_cell (blk_below KB2.out s0) 0).trans rfl
  go_simp
  with_reducible rfl
 rotate_left
 ·refine pZ ?_
  rfl
 refine pure_ (i := 7) (N := some 16) (v := ?_) (a' := ?_) (bA 21 64711) rfl rfl (by kernel_rfl) (fun _ _ _ h => h) (Or.inl ⟨by rfl, ?_⟩) ?_ ?_
 rotate_left
 ·intro w'
  go_simp
  with_reducible rfl
 rotate_left
 ·refine pZ ?_
  rfl
 refine take_ (i := 16) (N := some 25) (v := ?_) (a' := ?_) (bA 21 130247) rfl rfl (by kernel_rfl) (fun _ _ _ h => h) (Or.inl ⟨by rfl, ?_⟩) HB.out ?_ ?_
 rotate_left
 ·intro w' s0
  have z := HCB.out w' s0
  go_simp
  with_reducible rfl
 rotate_left
 ·refine pZ ?_
  rfl
 refine pure_ (i := 17) (N := some 26) (v := ?_) (a' := ?_) (bA 21 261319) rfl rfl (by kernel_rfl) (fun _ _ _ h => h) (Or.inl ⟨by rfl, ?_⟩) ?_ ?_
 rotate_left
 ·intro w'
  go_simp
  with_reducible rfl
 rotate_left
 ·refine pZ ?_
  rfl
 refine one_ (i := 3) (N := some 12) (bA 21 261327) rfl rfl (by kernel_rfl) (by decide) (fun K hK => ?_)
 refine goes_ Try.func50 (by kernel_rfl) rfl #[.agg #[.int .i64 a0, .int .i64 a1, .int .i64 a2, .slice A l.length c], .int .i64 x, .int .i64 y] (by rfl) rfl rfl (by (try simp only [List.map_toArray, List.map_cons, List.map_nil]); first | done | rfl) ?_
 refine (HC.out _ HB.out).mono ?_
 rintro e w3 ⟨A', c', rfl, hr', hl', hb', hall⟩
 refine ⟨_, rfl, ?_⟩
 have HB3 := aM (below_step HB.out hb')
 have HALL := aM hall
 clear HB hr' hall hb'
 have HB := HB3
 clear HB3
 refine hK.out _ _ HB.out (fun hHeld => ?_)
 clear hK K hHeld
 refine norm_ (a' := ?_) ?_ ?_
 rotate_left
 ·show Act.put _ (some 12) _ = _
  refine pZ ?_
  rfl
 have l0 : (0 : Int) < (px.length : Int) := by have := HL.out; omega
 have l1 : 0 < px.length := by omega
 obtain ⟨ad, ea, _⟩ := Kd.at_int (HALL.out w3 (Kd.C_below HR0.out HB.out)) 0 (by omega) l0
 cases ea
 refine pure_ (i := 4) (N := some 13) (v := ?_) (a' := ?_) (bA 21 261343) rfl rfl (by kernel_rfl) (fun _ _ _ h => h) (Or.inl ⟨by rfl, ?_⟩) ?_ ?_
 rotate_left
 ·intro w'
  go_simp
  with_reducible rfl
 rotate_left
 ·refine pZ ?_
  rfl
 refine take_ (i := 5) (N := some 14) (v := ?_) (a' := ?_) (bA 21 261375) rfl rfl (by kernel_rfl) (fun _ _ _ h => h) (Or.inl ⟨by rfl, ?_⟩) HB.out ?_ ?_
 rotate_left
 ·intro w' s0
  obtain ⟨ad', ea', z⟩ := Kd.at_int (HALL.out w' (Kd.C_below HR0.out s0)) 0 (by omega) l0
  cases ea'
  rw [show (0 : Int).toNat = 0 from rfl, Addr.add_zero', HN0.out] at z
  go_simp
  with_reducible rfl
 rotate_left
 ·refine pZ ?_
  rfl
 refine pure_ (i := 8) (N := some 17) (v := ?_) (a' := ?_) (bA 21 261631) rfl rfl (by kernel_rfl) (fun _ _ _ h => h) (Or.inl ⟨by rfl, ?_⟩) ?_ ?_
 rotate_left
 ·intro w'
  go_simp
  with_reducible rfl
 rotate_left
 ·refine pZ ?_
  rfl
 refine pure_ (i := 9) (N := some 18) (v := ?_) (a' := ?_) (bA 21 262143) rfl rfl (by kernel_rfl) (fun _ _ _ h => h) (Or.inl ⟨by rfl, ?_⟩) ?_ ?_
 rotate_left
 ·intro w'
  go_simp
  with_reducible rfl
 rotate_left
 ·refine pZ ?_
  rfl
 refine pure_ (i := 18) (N := some 27) (v := ?_) (a' := ?_) (bA 21 524287) rfl rfl (by kernel_rfl) (fun _ _ _ h => h) (Or.inl ⟨by rfl, ?_⟩) ?_ ?_
 rotate_left
 ·intro w'
  go_simp
  with_reducible rfl
 rotate_left
 ·refine pZ ?_
  rfl
 refine pure_ (i := 19) (N := some 28) (v := ?_) (a' := ?_) (bA 21 1048575) rfl rfl (by kernel_rfl) (fun _ _ _ h => h) (Or.inl ⟨by rfl, ?_⟩) ?_ ?_
 rotate_left
 ·intro w'
  go_simp
  with_reducible rfl
 rotate_left
 ·refine pZ ?_
  rfl
 refine pure_ (i := 20) (N := some 8) (v := ?_) (a' := ?_) (bA 21 2097151) rfl rfl (by kernel_rfl) (fun _ _ _ h => h) (Or.inl ⟨by rfl, ?_⟩) ?_ ?_
 rotate_left
 ·intro w'
  go_simp
  with_reducible rfl
 rotate_left
 ·refine pZ ?_
  rfl
 refine done_ (by kernel_rfl) ?_
 have z : w3.cell? ⟨B2, 0, none⟩ = some (.int .i64 lv) := (blk_cell (blk_below KB2.out HB.out) 0).trans rfl
 clear f1 f2 f3 f4 f5 f6 f7 tx ty
 go_wp2_with (go_at_call 64; refine (impl_valueOf.calls _ _ _ _ HVV.out).mono ?_; rintro e w' ⟨rfl, ⟨nd, rfl⟩⟩)
 go_ret
 exact ⟨_, _, rfl, C_single (blk_new _ _), by simp, by repeat (first | exact HB.out | apply below_alloc | apply pw_below_drewN)⟩
theorem isLevels_true {a : Int} (h : impl_isLevels.f a = some true) : 2 ≤ a ∧ a ≤ 16 := by
 unfold impl_isLevels.f at h
 by_cases h1 : 2 ≤ a
 rotate_left
 ·simp [h1] at h
 by_cases h2 : a ≤ 16
 ·exact ⟨h1, h2⟩
 simp [h1, h2] at h
def impl_OrderImage.f (a0_0 : Int) (a0_1 : Int) (a0_2 : Int) (l0_3 : List Int) (a1 : Int) : Option (Int × Int × Int × List Int × Bool) := (impl_isImage.f a0_0 a0_1 a0_2 l0_3).bind fun t0 => (if t0 = true then (if a0_2 = 1 then ((impl_isLevels.f a1).bind fun t2 => (if t2 = true then (some (a0_0, a0_1, 1, imgOf (fun x y => ordPix l0_3 a0_0 a0_2 a1 x y) a0_0.toNat a0_1.toNat, true)) else (some (0, 0, 0, ([] : List Int), false)))) else (some (0, 0, 0, ([] : List Int), false))) else (some (0, 0, 0, ([] : List Int), false)))
set_option maxHeartbeats 8000000 in
set_option maxRecDepth 100000 in
theorem impl_OrderImage.calls (a0_0 : Int) (a0_1 : Int) (a0_2 : Int) (A0_3 : Option Addr) (c0_3 : Nat) (l0_3 : List Int) (a1 : Int) (r1 : Int) (r2 : Int) (r3 : Int) (r4 : List Int) (r5 : Bool) (w : World) (hr0_3 : Kd.C (Kd.int .i64) w A0_3 l0_3.length l0_3) (hc0_3 : l0_3.length ≤ c0_3) (h : impl_OrderImage.f a0_0 a0_1 a0_2 l0_3 a1 = some (r1, r2, r3, r4, r5)) :
  Calls Try.prog 21 #[.agg #[.int .i64 a0_0, .int .i64 a0_1, .int .i64 a0_2, .slice A0_3 l0_3.length c0_3], .int .i64 a1] w fun e w' => ∃ v3_ : Value, e = .returned (.tuple #[.agg #[.int .i64 r1, .int .i64 r2, .int .i64 r3, v3_], .bool r5]) ∧ Kd.R (Kd.int .i64) 3 w' w.heap.size (fun _ => True) v3_ r4 ∧ Below w.heap.size w w' := by
 have hu26 := Try.underlying27
 have HR0 := aM hr0_3
 have HC0 := aM hc0_3
 clear hr0_3 hc0_3
 have HB := aM (Below.refl w.heap.size w)
 unfold impl_OrderImage.f at h
 have H := h
 clear h
 replace H := Option.bind_eq_some_iff.mp H
 obtain ⟨t0, q0, H⟩ := H
 have A0 := aM q0
 clear q0
 cases t0 with
 | false =>
  rw [if_neg (show ¬ (false = true) by decide)] at H
  simp only [Option.some.injEq, Prod.mk.injEq] at H
  obtain ⟨rfl, rfl, rfl, rfl, rfl⟩ := H
  go_enter Try.func21, Try.ntmps21
  go_wp2_with (first | ((with_reducible refine gate_dst (N := 2) rfl ?_); (try (refine gate_guard (by rfl) ?_; dsimp only)); refine bxE (N := 2) (cs := #[.int .i64 a0_0, .int .i64 a0_1, .int .i64 a0_2, .slice A0_3 l0_3.length c0_3]) (t := 27) ?_; intro gm hg w1 hbox hb; have n2 := bS HB hb; have n3 := aM hbox; have n4 := aM ((by rw [hg]; exact (below_size (qW HB.out))) : w.heap.size ≤ gm); clear HB; have HB := n2; have BKgm := n3; have GEgm := n4; clear n2 n3 n4; clear hb hbox hg; have hz5 : w1.cell? ⟨gm, 0, none⟩ = some (.int .i64 a0_0) := (blk_cell BKgm.out 0).trans rfl; have hz6 : w1.cell? ⟨gm, 1, none⟩ = some (.int .i64 a0_1) := (blk_cell BKgm.out 1).trans rfl; have hz7 : w1.cell? ⟨gm, 2, none⟩ = some (.int .i64 a0_2) := (blk_cell BKgm.out 2).trans rfl; have hz8 : w1.cell? ⟨gm, 3, none⟩ = some (.slice A0_3 l0_3.length c0_3) := (blk_cell BKgm.out 3).trans rfl; have hf9 := blk_frozen BKgm.out 0; have hf10 := blk_frozen BKgm.out 1; have hf11 := blk_frozen BKgm.out 2; have hf12 := blk_frozen BKgm.out 3) | ((with_reducible refine gate_dst (N := 3) rfl ?_); (try (refine gate_guard (by rfl) ?_; dsimp only)); refine bxE (N := 3) (cs := #[.int .i64 a1]) (t := 3) ?_; intro gl hg w13 hbox hb; have n14 := bB BKgm hb; have n15 := bS HB hb; have n16 := aM hbox; have n17 := aM ((by rw [hg]; exact (below_size (qW HB.out))) : w.heap.size ≤ gl); have n18 := aM ((by rw [hg]; exact Nat.ne_of_lt (blk_lt (g := gm) (o := .cells #[.int .i64 a0_0, .int .i64 a0_1, .int .i64 a0_2, .slice A0_3 l0_3.length c0_3] 27 (0, 0)) (qB BKgm.out))) : gm ≠ gl); have n19 := aM ((by rw [hg]; exact Nat.ne_of_gt (blk_lt (g := gm) (o := .cells #[.int .i64 a0_0, .int .i64 a0_1, .int .i64 a0_2, .slice A0_3 l0_3.length c0_3] 27 (0, 0)) (qB BKgm.out))) : gl ≠ gm); clear HB BKgm; have BKgm := n14; have HB := n15; have BKgl := n16; have GEgl := n17; have NBgm_gl := n18; have NBgl_gm := n19; clear n14 n15 n16 n17 n18 n19; clear hb hbox hg; have hz20 : w13.cell? ⟨gm, 0, none⟩ = some (.int .i64 a0_0) := (blk_cell BKgm.out 0).trans rfl; have hz21 : w13.cell? ⟨gm, 1, none⟩ = some (.int .i64 a0_1) := (blk_cell BKgm.out 1).trans rfl; have hz22 : w13.cell? ⟨gm, 2, none⟩ = some (.int .i64 a0_2) := (blk_cell BKgm.out 2).trans rfl; have hz23 : w13.cell? ⟨gm, 3, none⟩ = some (.slice A0_3 l0_3.length c0_3) := (blk_cell BKgm.out 3).trans rfl; have hf24 := blk_frozen BKgm.out 0; have hf25 := blk_frozen BKgm.out 1; have hf26 := blk_frozen BKgm.out 2; have hf27 := blk_frozen BKgm.out 3; have hz28 : w13.cell? ⟨gl, 0, none⟩ = some (.int .i64 a1) := (blk_cell BKgl.out 0).trans rfl; have hf29 := blk_frozen BKgl.out 0) | ((with_reducible refine gate_dst (N := 4) rfl ?_); (try (refine gate_guard (by rfl) ?_; dsimp only)); refine bxE (N := 4) (cs := #[.int .i64 0, .int .i64 0, .int .i64 0, .slice none 0 0]) (t := 27) ?_; intro gr hg w30 hbox hb; have n31 := bB BKgm hb; have n32 := bB BKgl hb; have n33 := bS HB hb; have n34 := aM hbox; have n35 := aM ((by rw [hg]; exact (below_size (qW HB.out))) : w.heap.size ≤ gr); have n36 := aM ((by rw [hg]; exact Nat.ne_of_lt (blk_lt (g := gm) (o := .cells #[.int .i64 a0_0, .int .i64 a0_1, .int .i64 a0_2, .slice A0_3 l0_3.length c0_3] 27 (0, 0)) (qB BKgm.out))) : gm ≠ gr); have n37 := aM ((by rw [hg]; exact Nat.ne_of_gt (blk_lt (g := gm) (o := .cells #[.int .i64 a0_0, .int .i64 a0_1, .int .i64 a0_2, .slice A0_3 l0_3.length c0_3] 27 (0, 0)) (qB BKgm.out))) : gr ≠ gm); have n38 := aM ((by rw [hg]; exact Nat.ne_of_lt (blk_lt (g := gl) (o := .cells #[.int .i64 a1] 3 (0, 0)) (qB BKgl.out))) : gl ≠ gr); have n39 := aM ((by rw [hg]; exact Nat.ne_of_gt (blk_lt (g := gl) (o := .cells #[.int .i64 a1] 3 (0, 0)) (qB BKgl.out))) : gr ≠ gl); clear HB BKgm BKgl; have BKgm := n31; have BKgl := n32; have HB := n33; have BKgr := n34; have GEgr := n35; have NBgm_gr := n36; have NBgr_gm := n37; have NBgl_gr := n38; have NBgr_gl := n39; clear n31 n32 n33 n34 n35 n36 n37 n38 n39; clear hb hbox hg; have hz40 : w30.cell? ⟨gm, 0, none⟩ = some (.int .i64 a0_0) := (blk_cell BKgm.out 0).trans rfl; have hz41 : w30.cell? ⟨gm, 1, none⟩ = some (.int .i64 a0_1) := (blk_cell BKgm.out 1).trans rfl; have hz42 : w30.cell? ⟨gm, 2, none⟩ = some (.int .i64 a0_2) := (blk_cell BKgm.out 2).trans rfl; have hz43 : w30.cell? ⟨gm, 3, none⟩ = some (.slice A0_3 l0_3.length c0_3) := (blk_cell BKgm.out 3).trans rfl; have hf44 := blk_frozen BKgm.out 0; have hf45 := blk_frozen BKgm.out 1; have hf46 := blk_frozen BKgm.out 2; have hf47 := blk_frozen BKgm.out 3; have hz48 : w30.cell? ⟨gl, 0, none⟩ = some (.int .i64 a1) := (blk_cell BKgl.out 0).trans rfl; have hf49 := blk_frozen BKgl.out 0; have hz50 : w30.cell? ⟨gr, 0, none⟩ = some (.int .i64 0) := (blk_cell BKgr.out 0).trans rfl; have hz51 : w30.cell? ⟨gr, 1, none⟩ = some (.int .i64 0) := (blk_cell BKgr.out 1).trans rfl; have hz52 : w30.cell? ⟨gr, 2, none⟩ = some (.int .i64 0) := (blk_cell BKgr.out 2).trans rfl; have hz53 : w30.cell? ⟨gr, 3, none⟩ = some (.slice none 0 0) := (blk_cell BKgr.out 3).trans rfl; have hf54 := blk_frozen BKgr.out 0; have hf55 := blk_frozen BKgr.out 1; have hf56 := blk_frozen BKgr.out 2; have hf57 := blk_frozen BKgr.out 3) | (go_at_call 47; (with_reducible refine (impl_isImage.calls a0_0 a0_1 a0_2 _ _ l0_3 false _ ?side1 ?side2 A0.out).mono ?_); (case side1 => exact (Kd.C_below HR0.out (qW HB.out))); (case side2 => exact HC0.out); rintro e w58 ⟨rfl, hb⟩; have n59 := bB BKgm hb; have n60 := bB BKgl hb; have n61 := bB BKgr hb; have n62 := bS HB hb; clear HB BKgm BKgl BKgr; have BKgm := n59; have BKgl := n60; have BKgr := n61; have HB := n62; clear n59 n60 n61 n62 hb; have hz63 : w58.cell? ⟨gm, 0, none⟩ = some (.int .i64 a0_0) := (blk_cell BKgm.out 0).trans rfl; have hz64 : w58.cell? ⟨gm, 1, none⟩ = some (.int .i64 a0_1) := (blk_cell BKgm.out 1).trans rfl; have hz65 : w58.cell? ⟨gm, 2, none⟩ = some (.int .i64 a0_2) := (blk_cell BKgm.out 2).trans rfl; have hz66 : w58.cell? ⟨gm, 3, none⟩ = some (.slice A0_3 l0_3.length c0_3) := (blk_cell BKgm.out 3).trans rfl; have hf67 := blk_frozen BKgm.out 0; have hf68 := blk_frozen BKgm.out 1; have hf69 := blk_frozen BKgm.out 2; have hf70 := blk_frozen BKgm.out 3; have hz71 : w58.cell? ⟨gl, 0, none⟩ = some (.int .i64 a1) := (blk_cell BKgl.out 0).trans rfl; have hf72 := blk_frozen BKgl.out 0; have hz73 : w58.cell? ⟨gr, 0, none⟩ = some (.int .i64 0) := (blk_cell BKgr.out 0).trans rfl; have hz74 : w58.cell? ⟨gr, 1, none⟩ = some (.int .i64 0) := (blk_cell BKgr.out 1).trans rfl; have hz75 : w58.cell? ⟨gr, 2, none⟩ = some (.int .i64 0) := (blk_cell BKgr.out 2).trans rfl; have hz76 : w58.cell? ⟨gr, 3, none⟩ = some (.slice none 0 0) := (blk_cell BKgr.out 3).trans rfl; have hf77 := blk_frozen BKgr.out 0; have hf78 := blk_frozen BKgr.out 1; have hf79 := blk_frozen BKgr.out 2; have hf80 := blk_frozen BKgr.out 3))
  refine bodyPost_ret (results_ct rfl _ _ gr 27 #[.int .i64 0, .int .i64 0, .int .i64 0, .slice none 0 0] (0, 0) _ rfl (by exact bP BKgr.out) Try.underlying27 rfl (by kernel_rfl)) rfl ?_
  exact ⟨_, by first | rfl | (simp; done), Kd.R_nil _ _ _ _ _, by exact qW HB.out⟩
 | true =>
  rw [if_pos rfl] at H
  by_cases k1 : a0_2 = 1
  rotate_left
  ·rw [if_neg k1] at H
   simp only [Option.some.injEq, Prod.mk.injEq] at H
   obtain ⟨rfl, rfl, rfl, rfl, rfl⟩ := H
   have k_a : (a0_2 == 1) = false := beq_eq_false_iff_ne.mpr (by omega)
   have k_b : (a0_2 != 1) = true := bne_iff_ne.mpr (by omega)
   clear k1
   go_enter Try.func21, Try.ntmps21
   go_wp2_with (first | ((with_reducible refine gate_dst (N := 2) rfl ?_); (try (refine gate_guard (by rfl) ?_; dsimp only)); refine bxE (N := 2) (cs := #[.int .i64 a0_0, .int .i64 a0_1, .int .i64 a0_2, .slice A0_3 l0_3.length c0_3]) (t := 27) ?_; intro gm hg w419 hbox hb; have n420 := bS HB hb; have n421 := aM hbox; have n422 := aM ((by rw [hg]; exact (below_size (qW HB.out))) : w.heap.size ≤ gm); clear HB; have HB := n420; have BKgm := n421; have GEgm := n422; clear n420 n421 n422; clear hb hbox hg; have hz423 : w419.cell? ⟨gm, 0, none⟩ = some (.int .i64 a0_0) := (blk_cell BKgm.out 0).trans rfl; have hz424 : w419.cell? ⟨gm, 1, none⟩ = some (.int .i64 a0_1) := (blk_cell BKgm.out 1).trans rfl; have hz425 : w419.cell? ⟨gm, 2, none⟩ = some (.int .i64 a0_2) := (blk_cell BKgm.out 2).trans rfl; have hz426 : w419.cell? ⟨gm, 3, none⟩ = some (.slice A0_3 l0_3.length c0_3) := (blk_cell BKgm.out 3).trans rfl; have hf427 := blk_frozen BKgm.out 0; have hf428 := blk_frozen BKgm.out 1; have hf429 := blk_frozen BKgm.out 2; have hf430 := blk_frozen BKgm.out 3) | ((with_reducible refine gate_dst (N := 3) rfl ?_); (try (refine gate_guard (by rfl) ?_; dsimp only)); refine bxE (N := 3) (cs := #[.int .i64 a1]) (t := 3) ?_; intro gl hg w431 hbox hb; have n432 := bB BKgm hb; have n433 := bS HB hb; have n434 := aM hbox; have n435 := aM ((by rw [hg]; exact (below_size (qW HB.out))) : w.heap.size ≤ gl); have n436 := aM ((by rw [hg]; exact Nat.ne_of_lt (blk_lt (g := gm) (o := .cells #[.int .i64 a0_0, .int .i64 a0_1, .int .i64 a0_2, .slice A0_3 l0_3.length c0_3] 27 (0, 0)) (qB BKgm.out))) : gm ≠ gl); have n437 := aM ((by rw [hg]; exact Nat.ne_of_gt (blk_lt (g := gm) (o := .cells #[.int .i64 a0_0, .int .i64 a0_1, .int .i64 a0_2, .slice A0_3 l0_3.length c0_3] 27 (0, 0)) (qB BKgm.out))) : gl ≠ gm); clear HB BKgm; have BKgm := n432; have HB := n433; have BKgl := n434; have GEgl := n435; have NBgm_gl := n436; have NBgl_gm := n437; clear n432 n433 n434 n435 n436 n437; clear hb hbox hg; have hz438 : w431.cell? ⟨gm, 0, none⟩ = some (.int .i64 a0_0) := (blk_cell BKgm.out 0).trans rfl; have hz439 : w431.cell? ⟨gm, 1, none⟩ = some (.int .i64 a0_1) := (blk_cell BKgm.out 1).trans rfl; have hz440 : w431.cell? ⟨gm, 2, none⟩ = some (.int .i64 a0_2) := (blk_cell BKgm.out 2).trans rfl; have hz441 : w431.cell? ⟨gm, 3, none⟩ = some (.slice A0_3 l0_3.length c0_3) := (blk_cell BKgm.out 3).trans rfl; have hf442 := blk_frozen BKgm.out 0; have hf443 := blk_frozen BKgm.out 1; have hf444 := blk_frozen BKgm.out 2; have hf445 := blk_frozen BKgm.out 3; have hz446 : w431.cell? ⟨gl, 0, none⟩ = some (.int .i64 a1) := (blk_cell BKgl.out 0).trans rfl; have hf447 := blk_frozen BKgl.out 0) | ((with_reducible refine gate_dst (N := 4) rfl ?_); (try (refine gate_guard (by rfl) ?_; dsimp only)); refine bxE (N := 4) (cs := #[.int .i64 0, .int .i64 0, .int .i64 0, .slice none 0 0]) (t := 27) ?_; intro gr hg w448 hbox hb; have n449 := bB BKgm hb; have n450 := bB BKgl hb; have n451 := bS HB hb; have n452 := aM hbox; have n453 := aM ((by rw [hg]; exact (below_size (qW HB.out))) : w.heap.size ≤ gr); have n454 := aM ((by rw [hg]; exact Nat.ne_of_lt (blk_lt (g := gm) (o := .cells #[.int .i64 a0_0, .int .i64 a0_1, .int .i64 a0_2, .slice A0_3 l0_3.length c0_3] 27 (0, 0)) (qB BKgm.out))) : gm ≠ gr); have n455 := aM ((by rw [hg]; exact Nat.ne_of_gt (blk_lt (g := gm) (o := .cells #[.int .i64 a0_0, .int .i64 a0_1, .int .i64 a0_2, .slice A0_3 l0_3.length c0_3] 27 (0, 0)) (qB BKgm.out))) : gr ≠ gm); have n456 := aM ((by rw [hg]; exact Nat.ne_of_lt (blk_lt (g := gl) (o := .cells #[.int .i64 a1] 3 (0, 0)) (qB BKgl.out))) : gl ≠ gr); have n457 := aM ((by rw [hg]; exact Nat.ne_of_gt (blk_lt (g := gl) (o := .cells #[.int .i64 a1] 3 (0, 0)) (qB BKgl.out))) : gr ≠ gl); clear HB BKgm BKgl; have BKgm := n449; have BKgl := n450; have HB := n451; have BKgr := n452; have GEgr := n453; have NBgm_gr := n454; have NBgr_gm := n455; have NBgl_gr := n456; have NBgr_gl := n457; clear n449 n450 n451 n452 n453 n454 n455 n456 n457; clear hb hbox hg; have hz458 : w448.cell? ⟨gm, 0, none⟩ = some (.int .i64 a0_0) := (blk_cell BKgm.out 0).trans rfl; have hz459 : w448.cell? ⟨gm, 1, none⟩ = some (.int .i64 a0_1) := (blk_cell BKgm.out 1).trans rfl; have hz460 : w448.cell? ⟨gm, 2, none⟩ = some (.int .i64 a0_2) := (blk_cell BKgm.out 2).trans rfl; have hz461 : w448.cell? ⟨gm, 3, none⟩ = some (.slice A0_3 l0_3.length c0_3) := (blk_cell BKgm.out 3).trans rfl; have hf462 := blk_frozen BKgm.out 0; have hf463 := blk_frozen BKgm.out 1; have hf464 := blk_frozen BKgm.out 2; have hf465 := blk_frozen BKgm.out 3; have hz466 : w448.cell? ⟨gl, 0, none⟩ = some (.int .i64 a1) := (blk_cell BKgl.out 0).trans rfl; have hf467 := blk_frozen BKgl.out 0; have hz468 : w448.cell? ⟨gr, 0, none⟩ = some (.int .i64 0) := (blk_cell BKgr.out 0).trans rfl; have hz469 : w448.cell? ⟨gr, 1, none⟩ = some (.int .i64 0) := (blk_cell BKgr.out 1).trans rfl; have hz470 : w448.cell? ⟨gr, 2, none⟩ = some (.int .i64 0) := (blk_cell BKgr.out 2).trans rfl; have hz471 : w448.cell? ⟨gr, 3, none⟩ = some (.slice none 0 0) := (blk_cell BKgr.out 3).trans rfl; have hf472 := blk_frozen BKgr.out 0; have hf473 := blk_frozen BKgr.out 1; have hf474 := blk_frozen BKgr.out 2; have hf475 := blk_frozen BKgr.out 3) | (go_at_call 47; (with_reducible refine (impl_isImage.calls a0_0 a0_1 a0_2 _ _ l0_3 true _ ?side1 ?side2 A0.out).mono ?_); (case side1 => exact (Kd.C_below HR0.out (qW HB.out))); (case side2 => exact HC0.out); rintro e w476 ⟨rfl, hb⟩; have n477 := bB BKgm hb; have n478 := bB BKgl hb; have n479 := bB BKgr hb; have n480 := bS HB hb; clear HB BKgm BKgl BKgr; have BKgm := n477; have BKgl := n478; have BKgr := n479; have HB := n480; clear n477 n478 n479 n480 hb; have hz481 : w476.cell? ⟨gm, 0, none⟩ = some (.int .i64 a0_0) := (blk_cell BKgm.out 0).trans rfl; have hz482 : w476.cell? ⟨gm, 1, none⟩ = some (.int .i64 a0_1) := (blk_cell BKgm.out 1).trans rfl; have hz483 : w476.cell? ⟨gm, 2, none⟩ = some (.int .i64 a0_2) := (blk_cell BKgm.out 2).trans rfl; have hz484 : w476.cell? ⟨gm, 3, none⟩ = some (.slice A0_3 l0_3.length c0_3) := (blk_cell BKgm.out 3).trans rfl; have hf485 := blk_frozen BKgm.out 0; have hf486 := blk_frozen BKgm.out 1; have hf487 := blk_frozen BKgm.out 2; have hf488 := blk_frozen BKgm.out 3; have hz489 : w476.cell? ⟨gl, 0, none⟩ = some (.int .i64 a1) := (blk_cell BKgl.out 0).trans rfl; have hf490 := blk_frozen BKgl.out 0; have hz491 : w476.cell? ⟨gr, 0, none⟩ = some (.int .i64 0) := (blk_cell BKgr.out 0).trans rfl; have hz492 : w476.cell? ⟨gr, 1, none⟩ = some (.int .i64 0) := (blk_cell BKgr.out 1).trans rfl; have hz493 : w476.cell? ⟨gr, 2, none⟩ = some (.int .i64 0) := (blk_cell BKgr.out 2).trans rfl; have hz494 : w476.cell? ⟨gr, 3, none⟩ = some (.slice none 0 0) := (blk_cell BKgr.out 3).trans rfl; have hf495 := blk_frozen BKgr.out 0; have hf496 := blk_frozen BKgr.out 1; have hf497 := blk_frozen BKgr.out 2; have hf498 := blk_frozen BKgr.out 3))
   refine bodyPost_ret (results_ct rfl _ _ gr 27 #[.int .i64 0, .int .i64 0, .int .i64 0, .slice none 0 0] (0, 0) _ rfl (by exact bP BKgr.out) Try.underlying27 rfl (by kernel_rfl)) rfl ?_
   exact ⟨_, by first | rfl | (simp; done), Kd.R_nil _ _ _ _ _, by exact qW HB.out⟩
  rw [if_pos k1] at H
  have k_a : (a0_2 == 1) = true := beq_iff_eq.mpr (by omega)
  have k_b : (a0_2 != 1) = false := bne_eq_false_iff_eq.mpr (by omega)
  have k_c : Aside0 (a0_2 = 1) := ⟨by omega⟩
  clear k1
  replace H := Option.bind_eq_some_iff.mp H
  obtain ⟨t2, q2, H⟩ := H
  have A2 := aM q2
  clear q2
  cases t2 with
  | false =>
   rw [if_neg (show ¬ (false = true) by decide)] at H
   simp only [Option.some.injEq, Prod.mk.injEq] at H
   obtain ⟨rfl, rfl, rfl, rfl, rfl⟩ := H
   go_enter Try.func21, Try.ntmps21
   go_wp2_with (first | ((with_reducible refine gate_dst (N := 2) rfl ?_); (try (refine gate_guard (by rfl) ?_; dsimp only)); refine bxE (N := 2) (cs := #[.int .i64 a0_0, .int .i64 a0_1, .int .i64 a0_2, .slice A0_3 l0_3.length c0_3]) (t := 27) ?_; intro gm hg w81 hbox hb; have n82 := bS HB hb; have n83 := aM hbox; have n84 := aM ((by rw [hg]; exact (below_size (qW HB.out))) : w.heap.size ≤ gm); clear HB; have HB := n82; have BKgm := n83; have GEgm := n84; clear n82 n83 n84; clear hb hbox hg; have hz85 : w81.cell? ⟨gm, 0, none⟩ = some (.int .i64 a0_0) := (blk_cell BKgm.out 0).trans rfl; have hz86 : w81.cell? ⟨gm, 1, none⟩ = some (.int .i64 a0_1) := (blk_cell BKgm.out 1).trans rfl; have hz87 : w81.cell? ⟨gm, 2, none⟩ = some (.int .i64 a0_2) := (blk_cell BKgm.out 2).trans rfl; have hz88 : w81.cell? ⟨gm, 3, none⟩ = some (.slice A0_3 l0_3.length c0_3) := (blk_cell BKgm.out 3).trans rfl; have hf89 := blk_frozen BKgm.out 0; have hf90 := blk_frozen BKgm.out 1; have hf91 := blk_frozen BKgm.out 2; have hf92 := blk_frozen BKgm.out 3) | ((with_reducible refine gate_dst (N := 3) rfl ?_); (try (refine gate_guard (by rfl) ?_; dsimp only)); refine bxE (N := 3) (cs := #[.int .i64 a1]) (t := 3) ?_; intro gl hg w93 hbox hb; have n94 := bB BKgm hb; have n95 := bS HB hb; have n96 := aM hbox; have n97 := aM ((by rw [hg]; exact (below_size (qW HB.out))) : w.heap.size ≤ gl); have n98 := aM ((by rw [hg]; exact Nat.ne_of_lt (blk_lt (g := gm) (o := .cells #[.int .i64 a0_0, .int .i64 a0_1, .int .i64 a0_2, .slice A0_3 l0_3.length c0_3] 27 (0, 0)) (qB BKgm.out))) : gm ≠ gl); have n99 := aM ((by rw [hg]; exact Nat.ne_of_gt (blk_lt (g := gm) (o := .cells #[.int .i64 a0_0, .int .i64 a0_1, .int .i64 a0_2, .slice A0_3 l0_3.length c0_3] 27 (0, 0)) (qB BKgm.out))) : gl ≠ gm); clear HB BKgm; have BKgm := n94; have HB := n95; have BKgl := n96; have GEgl := n97; have NBgm_gl := n98; have NBgl_gm := n99; clear n94 n95 n96 n97 n98 n99; clear hb hbox hg; have hz100 : w93.cell? ⟨gm, 0, none⟩ = some (.int .i64 a0_0) := (blk_cell BKgm.out 0).trans rfl; have hz101 : w93.cell? ⟨gm, 1, none⟩ = some (.int .i64 a0_1) := (blk_cell BKgm.out 1).trans rfl; have hz102 : w93.cell? ⟨gm, 2, none⟩ = some (.int .i64 a0_2) := (blk_cell BKgm.out 2).trans rfl; have hz103 : w93.cell? ⟨gm, 3, none⟩ = some (.slice A0_3 l0_3.length c0_3) := (blk_cell BKgm.out 3).trans rfl; have hf104 := blk_frozen BKgm.out 0; have hf105 := blk_frozen BKgm.out 1; have hf106 := blk_frozen BKgm.out 2; have hf107 := blk_frozen BKgm.out 3; have hz108 : w93.cell? ⟨gl, 0, none⟩ = some (.int .i64 a1) := (blk_cell BKgl.out 0).trans rfl; have hf109 := blk_frozen BKgl.out 0) | ((with_reducible refine gate_dst (N := 4) rfl ?_); (try (refine gate_guard (by rfl) ?_; dsimp only)); refine bxE (N := 4) (cs := #[.int .i64 0, .int .i64 0, .int .i64 0, .slice none 0 0]) (t := 27) ?_; intro gr hg w110 hbox hb; have n111 := bB BKgm hb; have n112 := bB BKgl hb; have n113 := bS HB hb; have n114 := aM hbox; have n115 := aM ((by rw [hg]; exact (below_size (qW HB.out))) : w.heap.size ≤ gr); have n116 := aM ((by rw [hg]; exact Nat.ne_of_lt (blk_lt (g := gm) (o := .cells #[.int .i64 a0_0, .int .i64 a0_1, .int .i64 a0_2, .slice A0_3 l0_3.length c0_3] 27 (0, 0)) (qB BKgm.out))) : gm ≠ gr); have n117 := aM ((by rw [hg]; exact Nat.ne_of_gt (blk_lt (g := gm) (o := .cells #[.int .i64 a0_0, .int .i64 a0_1, .int .i64 a0_2, .slice A0_3 l0_3.length c0_3] 27 (0, 0)) (qB BKgm.out))) : gr ≠ gm); have n118 := aM ((by rw [hg]; exact Nat.ne_of_lt (blk_lt (g := gl) (o := .cells #[.int .i64 a1] 3 (0, 0)) (qB BKgl.out))) : gl ≠ gr); have n119 := aM ((by rw [hg]; exact Nat.ne_of_gt (blk_lt (g := gl) (o := .cells #[.int .i64 a1] 3 (0, 0)) (qB BKgl.out))) : gr ≠ gl); clear HB BKgm BKgl; have BKgm := n111; have BKgl := n112; have HB := n113; have BKgr := n114; have GEgr := n115; have NBgm_gr := n116; have NBgr_gm := n117; have NBgl_gr := n118; have NBgr_gl := n119; clear n111 n112 n113 n114 n115 n116 n117 n118 n119; clear hb hbox hg; have hz120 : w110.cell? ⟨gm, 0, none⟩ = some (.int .i64 a0_0) := (blk_cell BKgm.out 0).trans rfl; have hz121 : w110.cell? ⟨gm, 1, none⟩ = some (.int .i64 a0_1) := (blk_cell BKgm.out 1).trans rfl; have hz122 : w110.cell? ⟨gm, 2, none⟩ = some (.int .i64 a0_2) := (blk_cell BKgm.out 2).trans rfl; have hz123 : w110.cell? ⟨gm, 3, none⟩ = some (.slice A0_3 l0_3.length c0_3) := (blk_cell BKgm.out 3).trans rfl; have hf124 := blk_frozen BKgm.out 0; have hf125 := blk_frozen BKgm.out 1; have hf126 := blk_frozen BKgm.out 2; have hf127 := blk_frozen BKgm.out 3; have hz128 : w110.cell? ⟨gl, 0, none⟩ = some (.int .i64 a1) := (blk_cell BKgl.out 0).trans rfl; have hf129 := blk_frozen BKgl.out 0; have hz130 : w110.cell? ⟨gr, 0, none⟩ = some (.int .i64 0) := (blk_cell BKgr.out 0).trans rfl; have hz131 : w110.cell? ⟨gr, 1, none⟩ = some (.int .i64 0) := (blk_cell BKgr.out 1).trans rfl; have hz132 : w110.cell? ⟨gr, 2, none⟩ = some (.int .i64 0) := (blk_cell BKgr.out 2).trans rfl; have hz133 : w110.cell? ⟨gr, 3, none⟩ = some (.slice none 0 0) := (blk_cell BKgr.out 3).trans rfl; have hf134 := blk_frozen BKgr.out 0; have hf135 := blk_frozen BKgr.out 1; have hf136 := blk_frozen BKgr.out 2; have hf137 := blk_frozen BKgr.out 3) | (go_at_call 47; (with_reducible refine (impl_isImage.calls a0_0 a0_1 a0_2 _ _ l0_3 true _ ?side1 ?side2 A0.out).mono ?_); (case side1 => exact (Kd.C_below HR0.out (qW HB.out))); (case side2 => exact HC0.out); rintro e w138 ⟨rfl, hb⟩; have n139 := bB BKgm hb; have n140 := bB BKgl hb; have n141 := bB BKgr hb; have n142 := bS HB hb; clear HB BKgm BKgl BKgr; have BKgm := n139; have BKgl := n140; have BKgr := n141; have HB := n142; clear n139 n140 n141 n142 hb; have hz143 : w138.cell? ⟨gm, 0, none⟩ = some (.int .i64 a0_0) := (blk_cell BKgm.out 0).trans rfl; have hz144 : w138.cell? ⟨gm, 1, none⟩ = some (.int .i64 a0_1) := (blk_cell BKgm.out 1).trans rfl; have hz145 : w138.cell? ⟨gm, 2, none⟩ = some (.int .i64 a0_2) := (blk_cell BKgm.out 2).trans rfl; have hz146 : w138.cell? ⟨gm, 3, none⟩ = some (.slice A0_3 l0_3.length c0_3) := (blk_cell BKgm.out 3).trans rfl; have hf147 := blk_frozen BKgm.out 0; have hf148 := blk_frozen BKgm.out 1; have hf149 := blk_frozen BKgm.out 2; have hf150 := blk_frozen BKgm.out 3; have hz151 : w138.cell? ⟨gl, 0, none⟩ = some (.int .i64 a1) := (blk_cell BKgl.out 0).trans rfl; have hf152 := blk_frozen BKgl.out 0; have hz153 : w138.cell? ⟨gr, 0, none⟩ = some (.int .i64 0) := (blk_cell BKgr.out 0).trans rfl; have hz154 : w138.cell? ⟨gr, 1, none⟩ = some (.int .i64 0) := (blk_cell BKgr.out 1).trans rfl; have hz155 : w138.cell? ⟨gr, 2, none⟩ = some (.int .i64 0) := (blk_cell BKgr.out 2).trans rfl; have hz156 : w138.cell? ⟨gr, 3, none⟩ = some (.slice none 0 0) := (blk_cell BKgr.out 3).trans rfl; have hf157 := blk_frozen BKgr.out 0; have hf158 := blk_frozen BKgr.out 1; have hf159 := blk_frozen BKgr.out 2; have hf160 := blk_frozen BKgr.out 3) | (go_at_call 62; (with_reducible refine (impl_isLevels.calls a1 false _ A2.out).mono ?_); rintro e w' ⟨rfl, ⟨nd, rfl⟩⟩))
   refine bodyPost_ret (results_ct rfl _ _ gr 27 #[.int .i64 0, .int .i64 0, .int .i64 0, .slice none 0 0] (0, 0) _ rfl (by exact bP BKgr.out) Try.underlying27 rfl (by kernel_rfl)) rfl ?_
   exact ⟨_, by first | rfl | (simp; done), Kd.R_nil _ _ _ _ _, by exact qW HB.out⟩
  | true =>
   rw [if_pos rfl] at H
   simp only [Option.some.injEq, Prod.mk.injEq] at H
   obtain ⟨rfl, rfl, rfl, hy, rfl⟩ := H
   have HY := aM hy
   clear hy
   have V := aM (isImage_true A0.out)
   have b0 := V.out.1
   have b1 := V.out.2.1
   have b2 := V.out.2.2.1
   have lv := isLevels_true A2.out
   obtain ⟨lv0, lv1⟩ := lv
   have HF : Aside0 (∀ x y : Int, ((fun x y => ordPix l0_3 a0_0 a0_2 a1 x y) x y).length ≤ 100) := ⟨fun _ _ => by simp [ordPix]⟩
   generalize hyl : imgOf (fun x y => ordPix l0_3 a0_0 a0_2 a1 x y) a0_0.toNat a0_1.toNat = yl at HY
   have HYL := aM hyl
   clear hyl
   go_enter Try.func21, Try.ntmps21
   go_wp2_with (first | ((with_reducible refine gate_dst (N := 2) rfl ?_); (try (refine gate_guard (by rfl) ?_; dsimp only)); refine bxE (N := 2) (cs := #[.int .i64 a0_0, .int .i64 a0_1, .int .i64 a0_2, .slice A0_3 l0_3.length c0_3]) (t := 27) ?_; intro gm hg w162 hbox hb; have n163 := bS HB hb; have n164 := aM hbox; have n165 := aM ((by rw [hg]; exact (below_size (qW HB.out))) : w.heap.size ≤ gm); clear HB; have HB := n163; have BKgm := n164; have GEgm := n165; clear n163 n164 n165; clear hb hbox hg; have hz166 : w162.cell? ⟨gm, 0, none⟩ = some (.int .i64 a0_0) := (blk_cell BKgm.out 0).trans rfl; have hz167 : w162.cell? ⟨gm, 1, none⟩ = some (.int .i64 a0_1) := (blk_cell BKgm.out 1).trans rfl; have hz168 : w162.cell? ⟨gm, 2, none⟩ = some (.int .i64 a0_2) := (blk_cell BKgm.out 2).trans rfl; have hz169 : w162.cell? ⟨gm, 3, none⟩ = some (.slice A0_3 l0_3.length c0_3) := (blk_cell BKgm.out 3).trans rfl; have hf170 := blk_frozen BKgm.out 0; have hf171 := blk_frozen BKgm.out 1; have hf172 := blk_frozen BKgm.out 2; have hf173 := blk_frozen BKgm.out 3) | ((with_reducible refine gate_dst (N := 3) rfl ?_); (try (refine gate_guard (by rfl) ?_; dsimp only)); refine bxE (N := 3) (cs := #[.int .i64 a1]) (t := 3) ?_; intro gl hg w174 hbox hb; have n175 := bB BKgm hb; have n176 := bS HB hb; have n177 := aM hbox; have n178 := aM ((by rw [hg]; exact (below_size (qW HB.out))) : w.heap.size ≤ gl); have n179 := aM ((by rw [hg]; exact Nat.ne_of_lt (blk_lt (g := gm) (o := .cells #[.int .i64 a0_0, .int .i64 a0_1, .int .i64 a0_2, .slice A0_3 l0_3.length c0_3] 27 (0, 0)) (qB BKgm.out))) : gm ≠ gl); have n180 := aM ((by rw [hg]; exact Nat.ne_of_gt (blk_lt (g := gm) (o := .cells #[.int .i64 a0_0, .int .i64 a0_1, .int .i64 a0_2, .slice A0_3 l0_3.length c0_3] 27 (0, 0)) (qB BKgm.out))) : gl ≠ gm); clear HB BKgm; have BKgm := n175; have HB := n176; have BKgl := n177; have GEgl := n178; have NBgm_gl := n179; have NBgl_gm := n180; clear n175 n176 n177 n178 n179 n180; clear hb hbox hg; have hz181 : w174.cell? ⟨gm, 0, none⟩ = some (.int .i64 a0_0) := (blk_cell BKgm.out 0).trans rfl; have hz182 : w174.cell? ⟨gm, 1, none⟩ = some (.int .i64 a0_1) := (blk_cell BKgm.out 1).trans rfl; have hz183 : w174.cell? ⟨gm, 2, none⟩ = some (.int .i64 a0_2) := (blk_cell BKgm.out 2).trans rfl; have hz184 : w174.cell? ⟨gm, 3, none⟩ = some (.slice A0_3 l0_3.length c0_3) := (blk_cell BKgm.out 3).trans rfl; have hf185 := blk_frozen BKgm.out 0; have hf186 := blk_frozen BKgm.out 1; have hf187 := blk_frozen BKgm.out 2; have hf188 := blk_frozen BKgm.out 3; have hz189 : w174.cell? ⟨gl, 0, none⟩ = some (.int .i64 a1) := (blk_cell BKgl.out 0).trans rfl; have hf190 := blk_frozen BKgl.out 0) | ((with_reducible refine gate_dst (N := 4) rfl ?_); (try (refine gate_guard (by rfl) ?_; dsimp only)); refine bxE (N := 4) (cs := #[.int .i64 0, .int .i64 0, .int .i64 0, .slice none 0 0]) (t := 27) ?_; intro gr hg w191 hbox hb; have n192 := bB BKgm hb; have n193 := bB BKgl hb; have n194 := bS HB hb; have n195 := aM hbox; have n196 := aM ((by rw [hg]; exact (below_size (qW HB.out))) : w.heap.size ≤ gr); have n197 := aM ((by rw [hg]; exact Nat.ne_of_lt (blk_lt (g := gm) (o := .cells #[.int .i64 a0_0, .int .i64 a0_1, .int .i64 a0_2, .slice A0_3 l0_3.length c0_3] 27 (0, 0)) (qB BKgm.out))) : gm ≠ gr); have n198 := aM ((by rw [hg]; exact Nat.ne_of_gt (blk_lt (g := gm) (o := .cells #[.int .i64 a0_0, .int .i64 a0_1, .int .i64 a0_2, .slice A0_3 l0_3.length c0_3] 27 (0, 0)) (qB BKgm.out))) : gr ≠ gm); have n199 := aM ((by rw [hg]; exact Nat.ne_of_lt (blk_lt (g := gl) (o := .cells #[.int .i64 a1] 3 (0, 0)) (qB BKgl.out))) : gl ≠ gr); have n200 := aM ((by rw [hg]; exact Nat.ne_of_gt (blk_lt (g := gl) (o := .cells #[.int .i64 a1] 3 (0, 0)) (qB BKgl.out))) : gr ≠ gl); clear HB BKgm BKgl; have BKgm := n192; have BKgl := n193; have HB := n194; have BKgr := n195; have GEgr := n196; have NBgm_gr := n197; have NBgr_gm := n198; have NBgl_gr := n199; have NBgr_gl := n200; clear n192 n193 n194 n195 n196 n197 n198 n199 n200; clear hb hbox hg; have hz201 : w191.cell? ⟨gm, 0, none⟩ = some (.int .i64 a0_0) := (blk_cell BKgm.out 0).trans rfl; have hz202 : w191.cell? ⟨gm, 1, none⟩ = some (.int .i64 a0_1) := (blk_cell BKgm.out 1).trans rfl; have hz203 : w191.cell? ⟨gm, 2, none⟩ = some (.int .i64 a0_2) := (blk_cell BKgm.out 2).trans rfl; have hz204 : w191.cell? ⟨gm, 3, none⟩ = some (.slice A0_3 l0_3.length c0_3) := (blk_cell BKgm.out 3).trans rfl; have hf205 := blk_frozen BKgm.out 0; have hf206 := blk_frozen BKgm.out 1; have hf207 := blk_frozen BKgm.out 2; have hf208 := blk_frozen BKgm.out 3; have hz209 : w191.cell? ⟨gl, 0, none⟩ = some (.int .i64 a1) := (blk_cell BKgl.out 0).trans rfl; have hf210 := blk_frozen BKgl.out 0; have hz211 : w191.cell? ⟨gr, 0, none⟩ = some (.int .i64 0) := (blk_cell BKgr.out 0).trans rfl; have hz212 : w191.cell? ⟨gr, 1, none⟩ = some (.int .i64 0) := (blk_cell BKgr.out 1).trans rfl; have hz213 : w191.cell? ⟨gr, 2, none⟩ = some (.int .i64 0) := (blk_cell BKgr.out 2).trans rfl; have hz214 : w191.cell? ⟨gr, 3, none⟩ = some (.slice none 0 0) := (blk_cell BKgr.out 3).trans rfl; have hf215 := blk_frozen BKgr.out 0; have hf216 := blk_frozen BKgr.out 1; have hf217 := blk_frozen BKgr.out 2; have hf218 := blk_frozen BKgr.out 3) | (go_at_call 47; (with_reducible refine (impl_isImage.calls a0_0 a0_1 a0_2 _ _ l0_3 true _ ?side1 ?side2 A0.out).mono ?_); (case side1 => exact (Kd.C_below HR0.out (qW HB.out))); (case side2 => exact HC0.out); rintro e w219 ⟨rfl, hb⟩; have n220 := bB BKgm hb; have n221 := bB BKgl hb; have n222 := bB BKgr hb; have n223 := bS HB hb; clear HB BKgm BKgl BKgr; have BKgm := n220; have BKgl := n221; have BKgr := n222; have HB := n223; clear n220 n221 n222 n223 hb; have hz224 : w219.cell? ⟨gm, 0, none⟩ = some (.int .i64 a0_0) := (blk_cell BKgm.out 0).trans rfl; have hz225 : w219.cell? ⟨gm, 1, none⟩ = some (.int .i64 a0_1) := (blk_cell BKgm.out 1).trans rfl; have hz226 : w219.cell? ⟨gm, 2, none⟩ = some (.int .i64 a0_2) := (blk_cell BKgm.out 2).trans rfl; have hz227 : w219.cell? ⟨gm, 3, none⟩ = some (.slice A0_3 l0_3.length c0_3) := (blk_cell BKgm.out 3).trans rfl; have hf228 := blk_frozen BKgm.out 0; have hf229 := blk_frozen BKgm.out 1; have hf230 := blk_frozen BKgm.out 2; have hf231 := blk_frozen BKgm.out 3; have hz232 : w219.cell? ⟨gl, 0, none⟩ = some (.int .i64 a1) := (blk_cell BKgl.out 0).trans rfl; have hf233 := blk_frozen BKgl.out 0; have hz234 : w219.cell? ⟨gr, 0, none⟩ = some (.int .i64 0) := (blk_cell BKgr.out 0).trans rfl; have hz235 : w219.cell? ⟨gr, 1, none⟩ = some (.int .i64 0) := (blk_cell BKgr.out 1).trans rfl; have hz236 : w219.cell? ⟨gr, 2, none⟩ = some (.int .i64 0) := (blk_cell BKgr.out 2).trans rfl; have hz237 : w219.cell? ⟨gr, 3, none⟩ = some (.slice none 0 0) := (blk_cell BKgr.out 3).trans rfl; have hf238 := blk_frozen BKgr.out 0; have hf239 := blk_frozen BKgr.out 1; have hf240 := blk_frozen BKgr.out 2; have hf241 := blk_frozen BKgr.out 3) | (go_at_call 62; (with_reducible refine (impl_isLevels.calls a1 true _ A2.out).mono ?_); rintro e w' ⟨rfl, ⟨nd, rfl⟩⟩) | ((with_reducible refine gate_dst (N := 6) rfl ?_); (try (refine gate_guard (by rfl) ?_; dsimp only)); refine bxE (N := 6) (cs := #[.int .i64 0, .int .i64 0, .int .i64 0, .int .i64 0, .int .i64 0, .int .i64 0, .int .i64 0, .int .i64 0, .int .i64 0, .int .i64 0, .int .i64 0, .int .i64 0, .int .i64 0, .int .i64 0, .int .i64 0, .int .i64 0]) (t := 75) ?_; intro gx hg w243 hbox hb; have n244 := bB BKgm hb; have n245 := bB BKgl hb; have n246 := bB BKgr hb; have n247 := bS HB hb; have n248 := aM hbox; have n249 := aM ((by rw [hg]; exact (below_size (qW HB.out))) : w.heap.size ≤ gx); have n250 := aM ((by rw [hg]; exact Nat.ne_of_lt (blk_lt (g := gm) (o := .cells #[.int .i64 a0_0, .int .i64 a0_1, .int .i64 a0_2, .slice A0_3 l0_3.length c0_3] 27 (0, 0)) (qB BKgm.out))) : gm ≠ gx); have n251 := aM ((by rw [hg]; exact Nat.ne_of_gt (blk_lt (g := gm) (o := .cells #[.int .i64 a0_0, .int .i64 a0_1, .int .i64 a0_2, .slice A0_3 l0_3.length c0_3] 27 (0, 0)) (qB BKgm.out))) : gx ≠ gm); have n252 := aM ((by rw [hg]; exact Nat.ne_of_lt (blk_lt (g := gl) (o := .cells #[.int .i64 a1] 3 (0, 0)) (qB BKgl.out))) : gl ≠ gx); have n253 := aM ((by rw [hg]; exact Nat.ne_of_gt (blk_lt (g := gl) (o := .cells #[.int .i64 a1] 3 (0, 0)) (qB BKgl.out))) : gx ≠ gl); have n254 := aM ((by rw [hg]; exact Nat.ne_of_lt (blk_lt (g := gr) (o := .cells #[.int .i64 0, .int .i64 0, .int .i64 0, .slice none 0 0] 27 (0, 0)) (qB BKgr.out))) : gr ≠ gx); have n255 := aM ((by rw [hg]; exact Nat.ne_of_gt (blk_lt (g := gr) (o := .cells #[.int .i64 0, .int .i64 0, .int .i64 0, .slice none 0 0] 27 (0, 0)) (qB BKgr.out))) : gx ≠ gr); clear HB BKgm BKgl BKgr; have BKgm := n244; have BKgl := n245; have BKgr := n246; have HB := n247; have BKgx := n248; have GEgx := n249; have NBgm_gx := n250; have NBgx_gm := n251; have NBgl_gx := n252; have NBgx_gl := n253; have NBgr_gx := n254; have NBgx_gr := n255; clear n244 n245 n246 n247 n248 n249 n250 n251 n252 n253 n254 n255; clear hb hbox hg; have hz256 : w243.cell? ⟨gm, 0, none⟩ = some (.int .i64 a0_0) := (blk_cell BKgm.out 0).trans rfl; have hz257 : w243.cell? ⟨gm, 1, none⟩ = some (.int .i64 a0_1) := (blk_cell BKgm.out 1).trans rfl; have hz258 : w243.cell? ⟨gm, 2, none⟩ = some (.int .i64 a0_2) := (blk_cell BKgm.out 2).trans rfl; have hz259 : w243.cell? ⟨gm, 3, none⟩ = some (.slice A0_3 l0_3.length c0_3) := (blk_cell BKgm.out 3).trans rfl; have hf260 := blk_frozen BKgm.out 0; have hf261 := blk_frozen BKgm.out 1; have hf262 := blk_frozen BKgm.out 2; have hf263 := blk_frozen BKgm.out 3; have hz264 : w243.cell? ⟨gl, 0, none⟩ = some (.int .i64 a1) := (blk_cell BKgl.out 0).trans rfl; have hf265 := blk_frozen BKgl.out 0; have hz266 : w243.cell? ⟨gr, 0, none⟩ = some (.int .i64 0) := (blk_cell BKgr.out 0).trans rfl; have hz267 : w243.cell? ⟨gr, 1, none⟩ = some (.int .i64 0) := (blk_cell BKgr.out 1).trans rfl; have hz268 : w243.cell? ⟨gr, 2, none⟩ = some (.int .i64 0) := (blk_cell BKgr.out 2).trans rfl; have hz269 : w243.cell? ⟨gr, 3, none⟩ = some (.slice none 0 0) := (blk_cell BKgr.out 3).trans rfl; have hf270 := blk_frozen BKgr.out 0; have hf271 := blk_frozen BKgr.out 1; have hf272 := blk_frozen BKgr.out 2; have hf273 := blk_frozen BKgr.out 3) | ((with_reducible refine gate_store (t := 75) (p := 6) rfl ?_); have hzs0_ : w243.cell? ⟨gx, 0, none⟩ = some (.int .i64 0) := (blk_cell BKgx.out 0).trans rfl; have hfs0_ := blk_frozen BKgx.out 0; have hzs1_ : w243.cell? ⟨gx, 1, none⟩ = some (.int .i64 0) := (blk_cell BKgx.out 1).trans rfl; have hfs1_ := blk_frozen BKgx.out 1; have hzs2_ : w243.cell? ⟨gx, 2, none⟩ = some (.int .i64 0) := (blk_cell BKgx.out 2).trans rfl; have hfs2_ := blk_frozen BKgx.out 2; have hzs3_ : w243.cell? ⟨gx, 3, none⟩ = some (.int .i64 0) := (blk_cell BKgx.out 3).trans rfl; have hfs3_ := blk_frozen BKgx.out 3; have hzs4_ : w243.cell? ⟨gx, 4, none⟩ = some (.int .i64 0) := (blk_cell BKgx.out 4).trans rfl; have hfs4_ := blk_frozen BKgx.out 4; have hzs5_ : w243.cell? ⟨gx, 5, none⟩ = some (.int .i64 0) := (blk_cell BKgx.out 5).trans rfl; have hfs5_ := blk_frozen BKgx.out 5; have hzs6_ : w243.cell? ⟨gx, 6, none⟩ = some (.int .i64 0) := (blk_cell BKgx.out 6).trans rfl; have hfs6_ := blk_frozen BKgx.out 6; have hzs7_ : w243.cell? ⟨gx, 7, none⟩ = some (.int .i64 0) := (blk_cell BKgx.out 7).trans rfl; have hfs7_ := blk_frozen BKgx.out 7; have hzs8_ : w243.cell? ⟨gx, 8, none⟩ = some (.int .i64 0) := (blk_cell BKgx.out 8).trans rfl; have hfs8_ := blk_frozen BKgx.out 8; have hzs9_ : w243.cell? ⟨gx, 9, none⟩ = some (.int .i64 0) := (blk_cell BKgx.out 9).trans rfl; have hfs9_ := blk_frozen BKgx.out 9; have hzs10_ : w243.cell? ⟨gx, 10, none⟩ = some (.int .i64 0) := (blk_cell BKgx.out 10).trans rfl; have hfs10_ := blk_frozen BKgx.out 10; have hzs11_ : w243.cell? ⟨gx, 11, none⟩ = some (.int .i64 0) := (blk_cell BKgx.out 11).trans rfl; have hfs11_ := blk_frozen BKgx.out 11; have hzs12_ : w243.cell? ⟨gx, 12, none⟩ = some (.int .i64 0) := (blk_cell BKgx.out 12).trans rfl; have hfs12_ := blk_frozen BKgx.out 12; have hzs13_ : w243.cell? ⟨gx, 13, none⟩ = some (.int .i64 0) := (blk_cell BKgx.out 13).trans rfl; have hfs13_ := blk_frozen BKgx.out 13; have hzs14_ : w243.cell? ⟨gx, 14, none⟩ = some (.int .i64 0) := (blk_cell BKgx.out 14).trans rfl; have hfs14_ := blk_frozen BKgx.out 14; have hzs15_ : w243.cell? ⟨gx, 15, none⟩ = some (.int .i64 0) := (blk_cell BKgx.out 15).trans rfl; have hfs15_ := blk_frozen BKgx.out 15; refine store_event (t := 75) (p := 6) (v := ?vo_w306) (w1 := ((((((((((((((((w243.setCell ⟨gx, 0, none⟩ (.int .i64 0)).setCell ⟨gx, 1, none⟩ (.int .i64 8)).setCell ⟨gx, 2, none⟩ (.int .i64 2)).setCell ⟨gx, 3, none⟩ (.int .i64 10)).setCell ⟨gx, 4, none⟩ (.int .i64 12)).setCell ⟨gx, 5, none⟩ (.int .i64 4)).setCell ⟨gx, 6, none⟩ (.int .i64 14)).setCell ⟨gx, 7, none⟩ (.int .i64 6)).setCell ⟨gx, 8, none⟩ (.int .i64 3)).setCell ⟨gx, 9, none⟩ (.int .i64 11)).setCell ⟨gx, 10, none⟩ (.int .i64 1)).setCell ⟨gx, 11, none⟩ (.int .i64 9)).setCell ⟨gx, 12, none⟩ (.int .i64 15)).setCell ⟨gx, 13, none⟩ (.int .i64 7)).setCell ⟨gx, 14, none⟩ (.int .i64 13)).setCell ⟨gx, 15, none⟩ (.int .i64 5))) ?hg ?ho ?hn ?hr ?_; (case ho => rfl); (case hg => rfl); (case hn => rfl); (case hr => first | (go_simp; done) | (go_simp; rfl)); intro w306 hw; have n307 := aM (show w306.heap[gm]? = some (.cells #[.int .i64 a0_0, .int .i64 a0_1, .int .i64 a0_2, .slice A0_3 l0_3.length c0_3] 27 (0, 0)) by rw [hw]; exact blk_far (blk_far (blk_far (blk_far (blk_far (blk_far (blk_far (blk_far (blk_far (blk_far (blk_far (blk_far (blk_far (blk_far (blk_far (blk_far (BKgm.out) NBgm_gx.out _) NBgm_gx.out _) NBgm_gx.out _) NBgm_gx.out _) NBgm_gx.out _) NBgm_gx.out _) NBgm_gx.out _) NBgm_gx.out _) NBgm_gx.out _) NBgm_gx.out _) NBgm_gx.out _) NBgm_gx.out _) NBgm_gx.out _) NBgm_gx.out _) NBgm_gx.out _) NBgm_gx.out _); have n308 := aM (show w306.heap[gl]? = some (.cells #[.int .i64 a1] 3 (0, 0)) by rw [hw]; exact blk_far (blk_far (blk_far (blk_far (blk_far (blk_far (blk_far (blk_far (blk_far (blk_far (blk_far (blk_far (blk_far (blk_far (blk_far (blk_far (BKgl.out) NBgl_gx.out _) NBgl_gx.out _) NBgl_gx.out _) NBgl_gx.out _) NBgl_gx.out _) NBgl_gx.out _) NBgl_gx.out _) NBgl_gx.out _) NBgl_gx.out _) NBgl_gx.out _) NBgl_gx.out _) NBgl_gx.out _) NBgl_gx.out _) NBgl_gx.out _) NBgl_gx.out _) NBgl_gx.out _); have n309 := aM (show w306.heap[gr]? = some (.cells #[.int .i64 0, .int .i64 0, .int .i64 0, .slice none 0 0] 27 (0, 0)) by rw [hw]; exact blk_far (blk_far (blk_far (blk_far (blk_far (blk_far (blk_far (blk_far (blk_far (blk_far (blk_far (blk_far (blk_far (blk_far (blk_far (blk_far (BKgr.out) NBgr_gx.out _) NBgr_gx.out _) NBgr_gx.out _) NBgr_gx.out _) NBgr_gx.out _) NBgr_gx.out _) NBgr_gx.out _) NBgr_gx.out _) NBgr_gx.out _) NBgr_gx.out _) NBgr_gx.out _) NBgr_gx.out _) NBgr_gx.out _) NBgr_gx.out _) NBgr_gx.out _) NBgr_gx.out _); have n310 := aM (show w306.heap[gx]? = some (.cells #[.int .i64 0, .int .i64 8, .int .i64 2, .int .i64 10, .int .i64 12, .int .i64 4, .int .i64 14, .int .i64 6, .int .i64 3, .int .i64 11, .int .i64 1, .int .i64 9, .int .i64 15, .int .i64 7, .int .i64 13, .int .i64 5] 75 (0, 0)) by rw [hw]; refine blk_put (cs := #[.int .i64 0, .int .i64 8, .int .i64 2, .int .i64 10, .int .i64 12, .int .i64 4, .int .i64 14, .int .i64 6, .int .i64 3, .int .i64 11, .int .i64 1, .int .i64 9, .int .i64 15, .int .i64 7, .int .i64 13, .int .i64 0]) ?_ 15 _ rfl; refine blk_put (cs := #[.int .i64 0, .int .i64 8, .int .i64 2, .int .i64 10, .int .i64 12, .int .i64 4, .int .i64 14, .int .i64 6, .int .i64 3, .int .i64 11, .int .i64 1, .int .i64 9, .int .i64 15, .int .i64 7, .int .i64 0, .int .i64 0]) ?_ 14 _ rfl; refine blk_put (cs := #[.int .i64 0, .int .i64 8, .int .i64 2, .int .i64 10, .int .i64 12, .int .i64 4, .int .i64 14, .int .i64 6, .int .i64 3, .int .i64 11, .int .i64 1, .int .i64 9, .int .i64 15, .int .i64 0, .int .i64 0, .int .i64 0]) ?_ 13 _ rfl; refine blk_put (cs := #[.int .i64 0, .int .i64 8, .int .i64 2, .int .i64 10, .int .i64 12, .int .i64 4, .int .i64 14, .int .i64 6, .int .i64 3, .int .i64 11, .int .i64 1, .int .i64 9, .int .i64 0, .int .i64 0, .int .i64 0, .int .i64 0]) ?_ 12 _ rfl; refine blk_put (cs := #[.int .i64 0, .int .i64 8, .int .i64 2, .int .i64 10, .int .i64 12, .int .i64 4, .int .i64 14, .int .i64 6, .int .i64 3, .int .i64 11, .int .i64 1, .int .i64 0, .int .i64 0, .int .i64 0, .int .i64 0, .int .i64 0]) ?_ 11 _ rfl; refine blk_put (cs := #[.int .i64 0, .int .i64 8, .int .i64 2, .int .i64 10, .int .i64 12, .int .i64 4, .int .i64 14, .int .i64 6, .int .i64 3, .int .i64 11, .int .i64 0, .int .i64 0, .int .i64 0, .int .i64 0, .int .i64 0, .int .i64 0]) ?_ 10 _ rfl; refine blk_put (cs := #[.int .i64 0, .int .i64 8, .int .i64 2, .int .i64 10, .int .i64 12, .int .i64 4, .int .i64 14, .int .i64 6, .int .i64 3, .int .i64 0, .int .i64 0, .int .i64 0, .int .i64 0, .int .i64 0, .int .i64 0, .int .i64 0]) ?_ 9 _ rfl; refine blk_put (cs := #[.int .i64 0, .int .i64 8, .int .i64 2, .int .i64 10, .int .i64 12, .int .i64 4, .int .i64 14, .int .i64 6, .int .i64 0, .int .i64 0, .int .i64 0, .int .i64 0, .int .i64 0, .int .i64 0, .int .i64 0, .int .i64 0]) ?_ 8 _ rfl; refine blk_put (cs := #[.int .i64 0, .int .i64 8, .int .i64 2, .int .i64 10, .int .i64 12, .int .i64 4, .int .i64 14, .int .i64 0, .int .i64 0, .int .i64 0, .int .i64 0, .int .i64 0, .int .i64 0, .int .i64 0, .int .i64 0, .int .i64 0]) ?_ 7 _ rfl; refine blk_put (cs := #[.int .i64 0, .int .i64 8, .int .i64 2, .int .i64 10, .int .i64 12, .int .i64 4, .int .i64 0, .int .i64 0, .int .i64 0, .int .i64 0, .int .i64 0, .int .i64 0, .int .i64 0, .int .i64 0, .int .i64 0, .int .i64 0]) ?_ 6 _ rfl; refine blk_put (cs := #[.int .i64 0, .int .i64 8, .int .i64 2, .int .i64 10, .int .i64 12, .int .i64 0, .int .i64 0, .int .i64 0, .int .i64 0, .int .i64 0, .int .i64 0, .int .i64 0, .int .i64 0, .int .i64 0, .int .i64 0, .int .i64 0]) ?_ 5 _ rfl; refine blk_put (cs := #[.int .i64 0, .int .i64 8, .int .i64 2, .int .i64 10, .int .i64 0, .int .i64 0, .int .i64 0, .int .i64 0, .int .i64 0, .int .i64 0, .int .i64 0, .int .i64 0, .int .i64 0, .int .i64 0, .int .i64 0, .int .i64 0]) ?_ 4 _ rfl; refine blk_put (cs := #[.int .i64 0, .int .i64 8, .int .i64 2, .int .i64 0, .int .i64 0, .int .i64 0, .int .i64 0, .int .i64 0, .int .i64 0, .int .i64 0, .int .i64 0, .int .i64 0, .int .i64 0, .int .i64 0, .int .i64 0, .int .i64 0]) ?_ 3 _ rfl; refine blk_put (cs := #[.int .i64 0, .int .i64 8, .int .i64 0, .int .i64 0, .int .i64 0, .int .i64 0, .int .i64 0, .int .i64 0, .int .i64 0, .int .i64 0, .int .i64 0, .int .i64 0, .int .i64 0, .int .i64 0, .int .i64 0, .int .i64 0]) ?_ 2 _ rfl; refine blk_put (cs := #[.int .i64 0, .int .i64 0, .int .i64 0, .int .i64 0, .int .i64 0, .int .i64 0, .int .i64 0, .int .i64 0, .int .i64 0, .int .i64 0, .int .i64 0, .int .i64 0, .int .i64 0, .int .i64 0, .int .i64 0, .int .i64 0]) ?_ 1 _ rfl; refine blk_put (cs := #[.int .i64 0, .int .i64 0, .int .i64 0, .int .i64 0, .int .i64 0, .int .i64 0, .int .i64 0, .int .i64 0, .int .i64 0, .int .i64 0, .int .i64 0, .int .i64 0, .int .i64 0, .int .i64 0, .int .i64 0, .int .i64 0]) ?_ 0 _ rfl; exact BKgx.out); have n311 := aM (show Below w.heap.size w w306 by rw [hw]; exact below_set (below_set (below_set (below_set (below_set (below_set (below_set (below_set (below_set (below_set (below_set (below_set (below_set (below_set (below_set (below_set (HB.out) GEgx.out) GEgx.out) GEgx.out) GEgx.out) GEgx.out) GEgx.out) GEgx.out) GEgx.out) GEgx.out) GEgx.out) GEgx.out) GEgx.out) GEgx.out) GEgx.out) GEgx.out) GEgx.out); clear hzs0_ hfs0_ hzs1_ hfs1_ hzs2_ hfs2_ hzs3_ hfs3_ hzs4_ hfs4_ hzs5_ hfs5_ hzs6_ hfs6_ hzs7_ hfs7_ hzs8_ hfs8_ hzs9_ hfs9_ hzs10_ hfs10_ hzs11_ hfs11_ hzs12_ hfs12_ hzs13_ hfs13_ hzs14_ hfs14_ hzs15_ hfs15_; clear HB BKgm BKgl BKgr BKgx hw; have BKgm := n307; have BKgl := n308; have BKgr := n309; have BKgx := n310; have HB := n311; clear n307 n308 n309 n310 n311; have hz312 : w306.cell? ⟨gm, 0, none⟩ = some (.int .i64 a0_0) := (blk_cell BKgm.out 0).trans rfl; have hz313 : w306.cell? ⟨gm, 1, none⟩ = some (.int .i64 a0_1) := (blk_cell BKgm.out 1).trans rfl; have hz314 : w306.cell? ⟨gm, 2, none⟩ = some (.int .i64 a0_2) := (blk_cell BKgm.out 2).trans rfl; have hz315 : w306.cell? ⟨gm, 3, none⟩ = some (.slice A0_3 l0_3.length c0_3) := (blk_cell BKgm.out 3).trans rfl; have hf316 := blk_frozen BKgm.out 0; have hf317 := blk_frozen BKgm.out 1; have hf318 := blk_frozen BKgm.out 2; have hf319 := blk_frozen BKgm.out 3; have hz320 : w306.cell? ⟨gl, 0, none⟩ = some (.int .i64 a1) := (blk_cell BKgl.out 0).trans rfl; have hf321 := blk_frozen BKgl.out 0; have hz322 : w306.cell? ⟨gr, 0, none⟩ = some (.int .i64 0) := (blk_cell BKgr.out 0).trans rfl; have hz323 : w306.cell? ⟨gr, 1, none⟩ = some (.int .i64 0) := (blk_cell BKgr.out 1).trans rfl; have hz324 : w306.cell? ⟨gr, 2, none⟩ = some (.int .i64 0) := (blk_cell BKgr.out 2).trans rfl; have hz325 : w306.cell? ⟨gr, 3, none⟩ = some (.slice none 0 0) := (blk_cell BKgr.out 3).trans rfl; have hf326 := blk_frozen BKgr.out 0; have hf327 := blk_frozen BKgr.out 1; have hf328 := blk_frozen BKgr.out 2; have hf329 := blk_frozen BKgr.out 3; have hz330 : w306.cell? ⟨gx, 0, none⟩ = some (.int .i64 0) := (blk_cell BKgx.out 0).trans rfl; have hz331 : w306.cell? ⟨gx, 1, none⟩ = some (.int .i64 8) := (blk_cell BKgx.out 1).trans rfl; have hz332 : w306.cell? ⟨gx, 2, none⟩ = some (.int .i64 2) := (blk_cell BKgx.out 2).trans rfl; have hz333 : w306.cell? ⟨gx, 3, none⟩ = some (.int .i64 10) := (blk_cell BKgx.out 3).trans rfl; have hz334 : w306.cell? ⟨gx, 4, none⟩ = some (.int .i64 12) := (blk_cell BKgx.out 4).trans rfl; have hz335 : w306.cell? ⟨gx, 5, none⟩ = some (.int .i64 4) := (blk_cell BKgx.out 5).trans rfl; have hz336 : w306.cell? ⟨gx, 6, none⟩ = some (.int .i64 14) := (blk_cell BKgx.out 6).trans rfl; have hz337 : w306.cell? ⟨gx, 7, none⟩ = some (.int .i64 6) := (blk_cell BKgx.out 7).trans rfl; have hz338 : w306.cell? ⟨gx, 8, none⟩ = some (.int .i64 3) := (blk_cell BKgx.out 8).trans rfl; have hz339 : w306.cell? ⟨gx, 9, none⟩ = some (.int .i64 11) := (blk_cell BKgx.out 9).trans rfl; have hz340 : w306.cell? ⟨gx, 10, none⟩ = some (.int .i64 1) := (blk_cell BKgx.out 10).trans rfl; have hz341 : w306.cell? ⟨gx, 11, none⟩ = some (.int .i64 9) := (blk_cell BKgx.out 11).trans rfl; have hz342 : w306.cell? ⟨gx, 12, none⟩ = some (.int .i64 15) := (blk_cell BKgx.out 12).trans rfl; have hz343 : w306.cell? ⟨gx, 13, none⟩ = some (.int .i64 7) := (blk_cell BKgx.out 13).trans rfl; have hz344 : w306.cell? ⟨gx, 14, none⟩ = some (.int .i64 13) := (blk_cell BKgx.out 14).trans rfl; have hz345 : w306.cell? ⟨gx, 15, none⟩ = some (.int .i64 5) := (blk_cell BKgx.out 15).trans rfl; have hf346 := blk_frozen BKgx.out 0; have hf347 := blk_frozen BKgx.out 1; have hf348 := blk_frozen BKgx.out 2; have hf349 := blk_frozen BKgx.out 3; have hf350 := blk_frozen BKgx.out 4; have hf351 := blk_frozen BKgx.out 5; have hf352 := blk_frozen BKgx.out 6; have hf353 := blk_frozen BKgx.out 7; have hf354 := blk_frozen BKgx.out 8; have hf355 := blk_frozen BKgx.out 9; have hf356 := blk_frozen BKgx.out 10; have hf357 := blk_frozen BKgx.out 11; have hf358 := blk_frozen BKgx.out 12; have hf359 := blk_frozen BKgx.out 13; have hf360 := blk_frozen BKgx.out 14; have hf361 := blk_frozen BKgx.out 15) | (go_at_call 48; refine (impl_imageBy.calls 63 #[.pointer (some ⟨gm, 0, none⟩), .pointer (some ⟨gl, 0, none⟩), .pointer (some ⟨gx, 0, none⟩)] (enters_of Try.func63 (by kernel_rfl) rfl) _ a0_0 a0_1 1 _ ?b0 ?b1 ?b2 ?b3 ?bf (orderImagePix _ gm gl gx a0_0 a0_1 a0_2 _ _ l0_3 a1 (qB BKgm.out) (qB BKgl.out) (qB BKgx.out) (Kd.C_below HR0.out (qW HB.out)) HC0.out V.out k_c.out lv0 lv1)).mono ?_; (case b0 => omega); (case b1 => omega); (case b2 => omega); (case b3 => omega); (case bf => exact HF.out); rintro e w362 ⟨v3, rfl, ho, hb⟩; rw [HYL.out] at ho; have HLB := aM (below_size (qW HB.out)); obtain ⟨Ao, co, eo⟩ := Kd.R_slice ho; subst eo; have HO := aM ho; clear ho; have n364 := bB BKgm hb; have n365 := bB BKgl hb; have n366 := bB BKgr hb; have n367 := bB BKgx hb; have n368 := bS HB hb; clear HB BKgm BKgl BKgr BKgx; have BKgm := n364; have BKgl := n365; have BKgr := n366; have BKgx := n367; have HB := n368; clear n364 n365 n366 n367 n368 hb; have hz369 : w362.cell? ⟨gm, 0, none⟩ = some (.int .i64 a0_0) := (blk_cell BKgm.out 0).trans rfl; have hz370 : w362.cell? ⟨gm, 1, none⟩ = some (.int .i64 a0_1) := (blk_cell BKgm.out 1).trans rfl; have hz371 : w362.cell? ⟨gm, 2, none⟩ = some (.int .i64 a0_2) := (blk_cell BKgm.out 2).trans rfl; have hz372 : w362.cell? ⟨gm, 3, none⟩ = some (.slice A0_3 l0_3.length c0_3) := (blk_cell BKgm.out 3).trans rfl; have hf373 := blk_frozen BKgm.out 0; have hf374 := blk_frozen BKgm.out 1; have hf375 := blk_frozen BKgm.out 2; have hf376 := blk_frozen BKgm.out 3; have hz377 : w362.cell? ⟨gl, 0, none⟩ = some (.int .i64 a1) := (blk_cell BKgl.out 0).trans rfl; have hf378 := blk_frozen BKgl.out 0; have hz379 : w362.cell? ⟨gr, 0, none⟩ = some (.int .i64 0) := (blk_cell BKgr.out 0).trans rfl; have hz380 : w362.cell? ⟨gr, 1, none⟩ = some (.int .i64 0) := (blk_cell BKgr.out 1).trans rfl; have hz381 : w362.cell? ⟨gr, 2, none⟩ = some (.int .i64 0) := (blk_cell BKgr.out 2).trans rfl; have hz382 : w362.cell? ⟨gr, 3, none⟩ = some (.slice none 0 0) := (blk_cell BKgr.out 3).trans rfl; have hf383 := blk_frozen BKgr.out 0; have hf384 := blk_frozen BKgr.out 1; have hf385 := blk_frozen BKgr.out 2; have hf386 := blk_frozen BKgr.out 3; have hz387 : w362.cell? ⟨gx, 0, none⟩ = some (.int .i64 0) := (blk_cell BKgx.out 0).trans rfl; have hz388 : w362.cell? ⟨gx, 1, none⟩ = some (.int .i64 8) := (blk_cell BKgx.out 1).trans rfl; have hz389 : w362.cell? ⟨gx, 2, none⟩ = some (.int .i64 2) := (blk_cell BKgx.out 2).trans rfl; have hz390 : w362.cell? ⟨gx, 3, none⟩ = some (.int .i64 10) := (blk_cell BKgx.out 3).trans rfl; have hz391 : w362.cell? ⟨gx, 4, none⟩ = some (.int .i64 12) := (blk_cell BKgx.out 4).trans rfl; have hz392 : w362.cell? ⟨gx, 5, none⟩ = some (.int .i64 4) := (blk_cell BKgx.out 5).trans rfl; have hz393 : w362.cell? ⟨gx, 6, none⟩ = some (.int .i64 14) := (blk_cell BKgx.out 6).trans rfl; have hz394 : w362.cell? ⟨gx, 7, none⟩ = some (.int .i64 6) := (blk_cell BKgx.out 7).trans rfl; have hz395 : w362.cell? ⟨gx, 8, none⟩ = some (.int .i64 3) := (blk_cell BKgx.out 8).trans rfl; have hz396 : w362.cell? ⟨gx, 9, none⟩ = some (.int .i64 11) := (blk_cell BKgx.out 9).trans rfl; have hz397 : w362.cell? ⟨gx, 10, none⟩ = some (.int .i64 1) := (blk_cell BKgx.out 10).trans rfl; have hz398 : w362.cell? ⟨gx, 11, none⟩ = some (.int .i64 9) := (blk_cell BKgx.out 11).trans rfl; have hz399 : w362.cell? ⟨gx, 12, none⟩ = some (.int .i64 15) := (blk_cell BKgx.out 12).trans rfl; have hz400 : w362.cell? ⟨gx, 13, none⟩ = some (.int .i64 7) := (blk_cell BKgx.out 13).trans rfl; have hz401 : w362.cell? ⟨gx, 14, none⟩ = some (.int .i64 13) := (blk_cell BKgx.out 14).trans rfl; have hz402 : w362.cell? ⟨gx, 15, none⟩ = some (.int .i64 5) := (blk_cell BKgx.out 15).trans rfl; have hf403 := blk_frozen BKgx.out 0; have hf404 := blk_frozen BKgx.out 1; have hf405 := blk_frozen BKgx.out 2; have hf406 := blk_frozen BKgx.out 3; have hf407 := blk_frozen BKgx.out 4; have hf408 := blk_frozen BKgx.out 5; have hf409 := blk_frozen BKgx.out 6; have hf410 := blk_frozen BKgx.out 7; have hf411 := blk_frozen BKgx.out 8; have hf412 := blk_frozen BKgx.out 9; have hf413 := blk_frozen BKgx.out 10; have hf414 := blk_frozen BKgx.out 11; have hf415 := blk_frozen BKgx.out 12; have hf416 := blk_frozen BKgx.out 13; have hf417 := blk_frozen BKgx.out 14; have hf418 := blk_frozen BKgx.out 15))
   refine bodyPost_ret (results_ct rfl _ _ gr 27 #[.int .i64 a0_0, .int .i64 a0_1, .int .i64 1, .slice Ao yl.length co] (0, 0) _ rfl (by exact bP BKgr.out) Try.underlying27 rfl (by kernel_rfl)) rfl ?_
   exact ⟨_, by first | rfl | (simp; done), by rw [← HY.out]; refine qR ?_; exact Kd.R_mono (Kd.R_far (p := ⟨gr, 3, none⟩) (Kd.R_far (p := ⟨gr, 2, none⟩) (Kd.R_far (p := ⟨gr, 1, none⟩) (Kd.R_far (p := ⟨gr, 0, none⟩) (Kd.R_types (Kd.R_lower HO.out HLB.out) BKgr.out (by decide)) (fun _ hk => hk.2) _) (fun _ hk => hk.2) _) (fun _ hk => hk.2) _) (fun _ hk => hk.2) _) (fun _ hk => trivial), by exact qW HB.out⟩
mutual
def impl_FillImage.j0 : Nat → Int → Int → List Int → Bool → Int → Int → Int → Option (Int × Int × Int × List Int)
 | 0, _, _, _, _, _, _, _ => none
 | k + 1, x0, x1, x2, x35, x678000, x678001, x678002 => if x35 = true then (some (0, 0, 0, ([] : List Int))) else (impl_FillImage.l0 k x2 (wrap64 (x0 * x1)) 0 x678000 x678001 x678002 ([] : List Int))
def impl_FillImage.l0 : Nat → List Int → Int → Int → Int → Int → Int → List Int → Option (Int × Int × Int × List Int)
 | 0, _, _, _, _, _, _, _ => none
 | k + 1, x2, x39, x40, x678000, x678001, x678002, x678003 => if x40 < x39 then (if x678003.length + x2.length < 17592186044416 then (impl_FillImage.l0 k x2 x39 (wrap64 (x40 + 1)) x678000 x678001 x678002 (x678003 ++ x2)) else (none)) else (some (x678000, x678001, x678002, x678003))
end
def impl_FillImage.f (k : Nat) (a0 : Int) (a1 : Int) (l2 : List Int) : Option (Int × Int × Int × List Int) := (impl_isSide.f a0).bind fun t678 => (if t678 = true then ((impl_isSide.f a1).bind fun t679 => (if t679 = true then (if (l2.length : Int) < 1 then (impl_FillImage.j0 k a0 a1 l2 true a0 a1 (l2.length : Int)) else (if (l2.length : Int) > 4 then (impl_FillImage.j0 k a0 a1 l2 true a0 a1 (l2.length : Int)) else ((impl_areBytes.f l2).bind fun t680 => (impl_FillImage.j0 k a0 a1 l2 (!t680) a0 a1 (l2.length : Int))))) else (impl_FillImage.j0 k a0 a1 l2 true a0 a1 (l2.length : Int)))) else (impl_FillImage.j0 k a0 a1 l2 true a0 a1 (l2.length : Int)))
theorem impl_FillImage.mono_l : ∀ k, (∀ y0 y1 y2 y3 y4 y5 y6, LeO (impl_FillImage.j0 k y0 y1 y2 y3 y4 y5 y6) (impl_FillImage.j0 (k + 1) y0 y1 y2 y3 y4 y5 y6)) ∧ (∀ y0 y1 y2 y3 y4 y5 y6, LeO (impl_FillImage.l0 k y0 y1 y2 y3 y4 y5 y6) (impl_FillImage.l0 (k + 1) y0 y1 y2 y3 y4 y5 y6))
 | 0 => ⟨fun _ _ _ _ _ _ _ r h => by simp [impl_FillImage.j0] at h, fun _ _ _ _ _ _ _ r h => by simp [impl_FillImage.l0] at h⟩
 | k + 1 => by
  obtain ⟨ih0, ih1⟩ := impl_FillImage.mono_l k
  refine ⟨?_, ?_⟩
  all_goals intros
  all_goals first | unfold impl_FillImage.j0 | unfold impl_FillImage.l0
  all_goals repeat' first | (with_reducible first | exact ih0 _ _ _ _ _ _ _ | exact ih1 _ _ _ _ _ _ _ | exact lR | exact lN | refine lI ?_ ?_ | refine lB ?_ fun _ => ?_) | exact ih0 _ _ _ _ _ _ _ | exact ih1 _ _ _ _ _ _ _ | exact lN | refine lI ?_ ?_ | refine lB ?_ fun _ => ?_
theorem impl_FillImage.mono : ∀ a0 a1 a2 k, LeO (impl_FillImage.f k a0 a1 a2) (impl_FillImage.f (k + 1) a0 a1 a2) := by
 intro a0 a1 a2 k
 obtain ⟨ih0, ih1⟩ := impl_FillImage.mono_l k
 unfold impl_FillImage.f
 repeat' first | (with_reducible first | exact ih0 _ _ _ _ _ _ _ | exact ih1 _ _ _ _ _ _ _ | exact lR | exact lN | refine lI ?_ ?_ | refine lB ?_ fun _ => ?_) | exact ih0 _ _ _ _ _ _ _ | exact ih1 _ _ _ _ _ _ _ | exact lN | refine lI ?_ ?_ | refine lB ?_ fun _ => ?_
set_option maxHeartbeats 8000000 in
set_option maxRecDepth 100000 in
theorem impl_FillImage.calls (k : Nat) (a0 : Int) (a1 : Int) (A2 : Option Addr) (c2 : Nat) (l2 : List Int) (r1 : Int) (r2 : Int) (r3 : Int) (r4 : List Int) (w : World) (hr2 : Kd.C (Kd.int .i64) w A2 l2.length l2) (hc2 : l2.length ≤ c2) (h : impl_FillImage.f k a0 a1 l2 = some (r1, r2, r3, r4)) :
  Calls Try.prog 31 #[.int .i64 a0, .int .i64 a1, .slice A2 l2.length c2] w fun e w' => ∃ v3_ : Value, e = .returned (.agg #[.int .i64 r1, .int .i64 r2, .int .i64 r3, v3_]) ∧ Kd.R (Kd.int .i64) 3 w' w.heap.size (fun _ => True) v3_ r4 ∧ Below w.heap.size w w' := by
 have hu27 := Try.underlying27
 have HR2 := aM hr2
 have HC2 := aM hc2
 clear hr2 hc2
 have HB := aM (Below.refl w.heap.size w)
 unfold impl_FillImage.f at h
 have H := h
 clear h
 have HC4 := aM H
 clear H
 go_enter Try.func31, Try.ntmps31
 go_upto_region 2 with (first | ((with_reducible refine gate_dst (N := 6) rfl ?_); (try (refine gate_guard (by rfl) ?_; dsimp only)); refine bxE (N := 6) (cs := #[.int .i64 0, .int .i64 0, .int .i64 0, .slice none 0 0]) (t := 27) ?_; intro gb676 hg w5 hbox hb; have BK676 := aM (hbox); have GW676 := gW hg HB; have GE676 := gW hg HB; replace HB := bS HB hb; clear hb hbox hg) | ((with_reducible refine gate_dst (N := 7) rfl ?_); (try (refine gate_guard (by rfl) ?_; dsimp only)); refine bxE (N := 7) (cs := #[.int .i64 0, .int .i64 0, .int .i64 0, .slice none 0 0]) (t := 27) ?_; intro gb677 hg w6 hbox hb; have BK677 := aM (hbox); have GW677 := gW hg HB; have GE677 := gW hg HB; replace HB := bS HB hb; have NB676_677 := nL hg BK676; have NB677_676 := nG hg BK676; replace BK676 := bB BK676 hb; clear hb hbox hg; have hnb7 := NB677_676.out; have hnc7 := NB676_677.out; obtain ⟨⟨hcz8_0, hcz8_1, hcz8_2, hcz8_3⟩, hfz8_0, hfz8_1, hfz8_2, hfz8_3⟩ := cf4 BK677))
 (try simp only [Act.put, List.setIfInBounds_toArray, List.set_cons_zero, List.set_cons_succ])
 go_cut [35] (fun v35 wc => ∃ (kq : Nat) (x35_3 : Bool), v35 = .bool x35_3 ∧ Aside0 (impl_FillImage.j0 kq a0 a1 l2 x35_3 a0 a1 (l2.length : Int) = some (r1, r2, r3, r4)) ∧ Aside0 (kq ≤ k) ∧ Aside0 (wc.heap[gb676]? = some (.cells #[.int .i64 0, .int .i64 0, .int .i64 0, (.slice none 0 0)] 27 (0, 0))) ∧ Aside0 (wc.heap[gb677]? = some (.cells #[.int .i64 a0, .int .i64 a1, .int .i64 (l2.length : Int), (.slice none 0 0)] 27 (0, 0))) ∧ Aside0 (Below w.heap.size w wc))
 case first =>
  have H := HC4.out
  clear HC4
  replace H := Option.bind_eq_some_iff.mp H
  obtain ⟨t678, A90, H⟩ := H
  replace H : (if t678 = true then ((impl_isSide.f a1).bind fun t679 => (if t679 = true then (if (l2.length : Int) < 1 then (impl_FillImage.j0 k a0 a1 l2 true a0 a1 (l2.length : Int)) else (if (l2.length : Int) > 4 then (impl_FillImage.j0 k a0 a1 l2 true a0 a1 (l2.length : Int)) else ((impl_areBytes.f l2).bind fun t680 => (impl_FillImage.j0 k a0 a1 l2 (!t680) a0 a1 (l2.length : Int))))) else (impl_FillImage.j0 k a0 a1 l2 true a0 a1 (l2.length : Int)))) else (impl_FillImage.j0 k a0 a1 l2 true a0 a1 (l2.length : Int))) = some (r1, r2, r3, r4) := H
  have A9 := aM A90
  clear A90
  by_cases c10 : t678 = true
  rotate_left
  ·replace c10 := Bool.eq_false_iff.mpr c10
   subst c10
   have H1 : (impl_FillImage.j0 k a0 a1 l2 true a0 a1 (l2.length : Int)) = some (r1, r2, r3, r4) := by rw [if_neg (show ¬ (false = true) by decide)] at H; exact H
   clear H
   have H := H1
   clear H1
   have H' := aM H
   clear H
   go_wp2_with (first | ((with_reducible refine gate_callee (f := 76) rfl ?_); refine gL (some 14) Try.func76 #[.int .i64 a0] ?_; (with_reducible refine (impl_isSide.calls a0 false _ A9.out).mono ?_); rintro e w' ⟨rfl, ⟨nd, rfl⟩⟩; refine ⟨_, rfl, ?_⟩))
   go_meet
   case rel => exact ⟨_, (true), qE, H', ⟨by first | omega | exact Nat.le_refl _⟩, ⟨by refine qB ?_; refine blk_far ?_ NB676_677.out _; refine qB ?_; refine blk_far ?_ NB676_677.out _; refine qB ?_; refine blk_far ?_ NB676_677.out _; refine qB ?_; refine blk_far ?_ NB676_677.out _; refine qB ?_; exact BK676.out⟩, ⟨by exact bP BK677.out⟩, ⟨by exact qW HB.out⟩⟩
  subst c10
  have H1 : ((impl_isSide.f a1).bind fun t679 => (if t679 = true then (if (l2.length : Int) < 1 then (impl_FillImage.j0 k a0 a1 l2 true a0 a1 (l2.length : Int)) else (if (l2.length : Int) > 4 then (impl_FillImage.j0 k a0 a1 l2 true a0 a1 (l2.length : Int)) else ((impl_areBytes.f l2).bind fun t680 => (impl_FillImage.j0 k a0 a1 l2 (!t680) a0 a1 (l2.length : Int))))) else (impl_FillImage.j0 k a0 a1 l2 true a0 a1 (l2.length : Int)))) = some (r1, r2, r3, r4) := by rw [if_pos rfl] at H; exact H
  clear H
  have H := H1
  clear H1
  replace H := Option.bind_eq_some_iff.mp H
  obtain ⟨t679, A110, H⟩ := H
  replace H : (if t679 = true then (if (l2.length : Int) < 1 then (impl_FillImage.j0 k a0 a1 l2 true a0 a1 (l2.length : Int)) else (if (l2.length : Int) > 4 then (impl_FillImage.j0 k a0 a1 l2 true a0 a1 (l2.length : Int)) else ((impl_areBytes.f l2).bind fun t680 => (impl_FillImage.j0 k a0 a1 l2 (!t680) a0 a1 (l2.length : Int))))) else (impl_FillImage.j0 k a0 a1 l2 true a0 a1 (l2.length : Int))) = some (r1, r2, r3, r4) := H
  have A11 := aM A110
  clear A110
  by_cases c12 : t679 = true
  rotate_left
  ·replace c12 := Bool.eq_false_iff.mpr c12
   subst c12
   have H1 : (impl_FillImage.j0 k a0 a1 l2 true a0 a1 (l2.length : Int)) = some (r1, r2, r3, r4) := by rw [if_neg (show ¬ (false = true) by decide)] at H; exact H
   clear H
   have H := H1
   clear H1
   have H' := aM H
   clear H
   go_wp2_with (first | ((with_reducible refine gate_callee (f := 76) rfl ?_); refine gL (some 14) Try.func76 #[.int .i64 a0] ?_; (with_reducible refine (impl_isSide.calls a0 true _ A9.out).mono ?_); rintro e w' ⟨rfl, ⟨nd, rfl⟩⟩; refine ⟨_, rfl, ?_⟩) | (go_at_call 76; (with_reducible refine (impl_isSide.calls a1 false _ A11.out).mono ?_); rintro e w' ⟨rfl, ⟨nd, rfl⟩⟩))
   go_meet
   case rel => exact ⟨_, (true), qE, H', ⟨by first | omega | exact Nat.le_refl _⟩, ⟨by refine qB ?_; refine blk_far ?_ NB676_677.out _; refine qB ?_; refine blk_far ?_ NB676_677.out _; refine qB ?_; refine blk_far ?_ NB676_677.out _; refine qB ?_; refine blk_far ?_ NB676_677.out _; refine qB ?_; exact BK676.out⟩, ⟨by exact bP BK677.out⟩, ⟨by exact qW HB.out⟩⟩
  subst c12
  have H1 : (if (l2.length : Int) < 1 then (impl_FillImage.j0 k a0 a1 l2 true a0 a1 (l2.length : Int)) else (if (l2.length : Int) > 4 then (impl_FillImage.j0 k a0 a1 l2 true a0 a1 (l2.length : Int)) else ((impl_areBytes.f l2).bind fun t680 => (impl_FillImage.j0 k a0 a1 l2 (!t680) a0 a1 (l2.length : Int))))) = some (r1, r2, r3, r4) := by rw [if_pos rfl] at H; exact H
  clear H
  have H := H1
  clear H1
  by_cases c13 : (l2.length : Int) < 1
  ·rw [if_pos c13] at H
   have c13b0 : decide ((l2.length : Int) < 1) = true := decide_eq_true c13
   have c13b1 : decide (l2.length < 1) = true := decide_eq_true (by omega)
   clear c13
   (first | rw [c13b0] | (simp only [i64_w, i32_w]; rw [c13b0]) | skip)
   have H' := aM H
   clear H
   go_wp2_with (first | ((with_reducible refine gate_callee (f := 76) rfl ?_); refine gL (some 14) Try.func76 #[.int .i64 a0] ?_; (with_reducible refine (impl_isSide.calls a0 true _ A9.out).mono ?_); rintro e w' ⟨rfl, ⟨nd, rfl⟩⟩; refine ⟨_, rfl, ?_⟩) | (go_at_call 76; (with_reducible refine (impl_isSide.calls a1 true _ A11.out).mono ?_); rintro e w' ⟨rfl, ⟨nd, rfl⟩⟩))
   go_meet
   case rel => exact ⟨_, (true), qE, H', ⟨by first | omega | exact Nat.le_refl _⟩, ⟨by refine qB ?_; refine blk_far ?_ NB676_677.out _; refine qB ?_; refine blk_far ?_ NB676_677.out _; refine qB ?_; refine blk_far ?_ NB676_677.out _; refine qB ?_; refine blk_far ?_ NB676_677.out _; refine qB ?_; exact BK676.out⟩, ⟨by exact bP BK677.out⟩, ⟨by exact qW HB.out⟩⟩
  rw [if_neg c13] at H
  have c13b0 : decide ((l2.length : Int) < 1) = false := decide_eq_false c13
  have c13b1 : decide (l2.length < 1) = false := decide_eq_false (by omega)
  clear c13
  (first | rw [c13b0] | (simp only [i64_w, i32_w]; rw [c13b0]) | skip)
  by_cases c14 : (l2.length : Int) > 4
  ·rw [if_pos c14] at H
   have c14b0 : decide (4 < (l2.length : Int)) = true := decide_eq_true c14
   have c14b1 : decide (4 < l2.length) = true := decide_eq_true (by omega)
   clear c14
   have H' := aM H
   clear H
   go_wp2_with (first | ((with_reducible refine gate_callee (f := 76) rfl ?_); refine gL (some 14) Try.func76 #[.int .i64 a0] ?_; (with_reducible refine (impl_isSide.calls a0 true _ A9.out).mono ?_); rintro e w' ⟨rfl, ⟨nd, rfl⟩⟩; refine ⟨_, rfl, ?_⟩) | (go_at_call 76; (with_reducible refine (impl_isSide.calls a1 true _ A11.out).mono ?_); rintro e w' ⟨rfl, ⟨nd, rfl⟩⟩))
   go_meet
   case rel => exact ⟨_, (true), qE, H', ⟨by first | omega | exact Nat.le_refl _⟩, ⟨by refine qB ?_; refine blk_far ?_ NB676_677.out _; refine qB ?_; refine blk_far ?_ NB676_677.out _; refine qB ?_; refine blk_far ?_ NB676_677.out _; refine qB ?_; refine blk_far ?_ NB676_677.out _; refine qB ?_; exact BK676.out⟩, ⟨by exact bP BK677.out⟩, ⟨by exact qW HB.out⟩⟩
  rw [if_neg c14] at H
  have c14b0 : decide (4 < (l2.length : Int)) = false := decide_eq_false c14
  have c14b1 : decide (4 < l2.length) = false := decide_eq_false (by omega)
  clear c14
  replace H := Option.bind_eq_some_iff.mp H
  obtain ⟨t680, A150, H⟩ := H
  replace H : (impl_FillImage.j0 k a0 a1 l2 (!t680) a0 a1 (l2.length : Int)) = some (r1, r2, r3, r4) := H
  have A15 := aM A150
  clear A150
  have H' := aM H
  clear H
  go_wp2_with (first | ((with_reducible refine gate_callee (f := 76) rfl ?_); refine gL (some 14) Try.func76 #[.int .i64 a0] ?_; (with_reducible refine (impl_isSide.calls a0 true _ A9.out).mono ?_); rintro e w' ⟨rfl, ⟨nd, rfl⟩⟩; refine ⟨_, rfl, ?_⟩) | (go_at_call 76; (with_reducible refine (impl_isSide.calls a1 true _ A11.out).mono ?_); rintro e w' ⟨rfl, ⟨nd, rfl⟩⟩) | (go_at_call 77; (with_reducible refine (impl_areBytes.calls _ _ l2 t680 _ ?side1 ?side2 A15.out).mono ?_); (case side1 => exact Kd.C_below HR2.out (qW HB.out)); (case side2 => exact HC2.out); rintro e w' ⟨rfl, ⟨nd, rfl⟩⟩))
  go_meet
  case rel => exact ⟨_, (!t680), qE, H', ⟨by first | omega | exact Nat.le_refl _⟩, ⟨by refine qB ?_; refine blk_far ?_ NB676_677.out _; refine qB ?_; refine blk_far ?_ NB676_677.out _; refine qB ?_; refine blk_far ?_ NB676_677.out _; refine qB ?_; refine blk_far ?_ NB676_677.out _; refine qB ?_; exact BK676.out⟩, ⟨by exact bP BK677.out⟩, ⟨by exact qW HB.out⟩⟩
 case rest =>
  clear HC4
  try clear c2
  try clear c10
  try clear c12
  try clear c13
  try clear c13b0
  try clear c13b1
  try clear c14
  try clear c14b0
  try clear c14b1
  try clear hcz8_0 hcz8_1 hcz8_2 hcz8_3 hfz8_0 hfz8_1 hfz8_2 hfz8_3
  obtain ⟨kq, x35_3, rfl, HA, HJ3, BK676, BK677, HB⟩ := hcut
  cases kq with
  | zero => exact absurd HA.out (by simp [impl_FillImage.j0])
  | succ kj3 =>
   have H := HA.out
   clear HA
   simp only [impl_FillImage.j0] at H
   by_cases c16 : x35_3 = true
   ·subst c16
    have H1 : (some (0, 0, 0, ([] : List Int))) = some (r1, r2, r3, r4) := by rw [if_pos rfl] at H; exact H
    clear H
    have H := H1
    clear H1
    simp only [Option.some.injEq, Prod.mk.injEq] at H
    obtain ⟨rfl, rfl, rfl, rfl⟩ := H
    have hnb17 := NB676_677.out
    have hnc17 := NB677_676.out
    obtain ⟨⟨hcz18_0, hcz18_1, hcz18_2, hcz18_3⟩, hfz18_0, hfz18_1, hfz18_2, hfz18_3⟩ := cf4 BK676
    go_wp2
    refine bodyPost_ret (results_cell_row rfl _ _ gb676 27 #[.int .i64 0, .int .i64 0, .int .i64 0, .slice none 0 0] (0, 0) _ rfl (by exact bP BK676.out) Try.underlying27 rfl (by kernel_rfl)) rfl ?_
    exact ⟨_, qX, qN, by exact qW HB.out⟩
   replace c16 := Bool.eq_false_iff.mpr c16
   subst c16
   have H1 : (impl_FillImage.l0 kj3 l2 (wrap64 (a0 * a1)) 0 a0 a1 (l2.length : Int) ([] : List Int)) = some (r1, r2, r3, r4) := by rw [if_neg (show ¬ (false = true) by decide)] at H; exact H
   clear H
   have H := H1
   clear H1
   have H' := aM H
   clear H
   go_wp2
   go_loopg [40] kj3 (fun kq v40 w' => ∃ (x40_2 : Int) (x678003_2 : List Int) (u678003 : Value), v40 = .int .i64 x40_2 ∧ Aside0 (impl_FillImage.l0 kq l2 (wrap64 (a0 * a1)) x40_2 a0 a1 (l2.length : Int) x678003_2 = some (r1, r2, r3, r4)) ∧ Aside0 (kq ≤ kj3) ∧ Aside0 (Kd.R (Kd.int .i64) 3 w' w.heap.size (fun _ => True) u678003 x678003_2) ∧ Aside0 (w'.heap[gb676]? = some (.cells #[.int .i64 0, .int .i64 0, .int .i64 0, (.slice none 0 0)] 27 (0, 0))) ∧ Aside0 (w'.heap[gb677]? = some (.cells #[.int .i64 a0, .int .i64 a1, .int .i64 (l2.length : Int), u678003] 27 (0, 0))) ∧ Aside0 (Below w.heap.size w w'))
   case atStart => exact ⟨(0), (([] : List Int)), (.slice none 0 0), qE, H', ⟨Nat.le_refl _⟩, ⟨qN⟩, ⟨by refine qB ?_; exact BK676.out⟩, ⟨by refine qB ?_; exact BK677.out⟩, ⟨by exact qW HB.out⟩⟩
   case round =>
    clear H'
    try clear c2
    try clear c10
    try clear c12
    try clear c13
    try clear c13b0
    try clear c13b1
    try clear c14
    try clear c14b0
    try clear c14b1
    try clear c16
    try clear hcz18_0 hcz18_1 hcz18_2 hcz18_3 hfz18_0 hfz18_1 hfz18_2 hfz18_3
    try clear hcz8_0 hcz8_1 hcz8_2 hcz8_3 hfz8_0 hfz8_1 hfz8_2 hfz8_3
    obtain ⟨x40_2, x678003_2, u678003, rfl, HA, HK2, HO_678003, BK676, BK677, HB⟩ := hrel
    cases gk with
    | zero => exact absurd HA.out (by simp [impl_FillImage.l0])
    | succ k2 =>
     have H := HA.out
     clear HA
     simp only [impl_FillImage.l0] at H
     by_cases c19 : x40_2 < (wrap64 (a0 * a1))
     rotate_left
     ·rw [if_neg c19] at H
      have c19b0 : decide (x40_2 < (wrap64 (a0 * a1))) = false := decide_eq_false c19
      clear c19
      simp only [Option.some.injEq, Prod.mk.injEq] at H
      obtain ⟨rfl, rfl, rfl, rfl⟩ := H
      have hnb26 := NB677_676.out
      have hnc26 := NB676_677.out
      obtain ⟨⟨hcz27_0, hcz27_1, hcz27_2, hcz27_3⟩, hfz27_0, hfz27_1, hfz27_2, hfz27_3⟩ := cf4 BK677
      obtain ⟨⟨hcz28_0, hcz28_1, hcz28_2, hcz28_3⟩, hfz28_0, hfz28_1, hfz28_2, hfz28_3⟩ := cf4 BK676
      obtain ⟨Ao29, co29, rfl⟩ := sL HO_678003
      go_wp2
      refine bodyPost_ret (results_cell_row rfl _ _ gb676 27 #[.int .i64 a0, .int .i64 a1, .int .i64 (l2.length : Int), .slice Ao29 x678003_2.length co29] (0, 0) _ rfl (by exact bP BK676.out) Try.underlying27 rfl (by kernel_rfl)) rfl ?_
      exact ⟨_, qX, by refine qR ?_; exact Kd.R_mono (rT HO_678003 BK676) (fun _ hk => trivial), by exact qW HB.out⟩
     rw [if_pos c19] at H
     have c19b0 : decide (x40_2 < (wrap64 (a0 * a1))) = true := decide_eq_true c19
     clear c19
     replace H := iS H
     obtain ⟨c20, H⟩ := H
     have LMc20 := aM c20
     clear c20
     obtain ⟨y681, hy681⟩ : ∃ y_ : List Int, y_ = (x678003_2 ++ l2) := ⟨_, rfl⟩
     replace H : (impl_FillImage.l0 k2 l2 (wrap64 (a0 * a1)) (wrap64 (x40_2 + 1)) a0 a1 (l2.length : Int) y681) = some (r1, r2, r3, r4) := rY hy681 H
     have Ny681 := aM hy681
     clear hy681
     have H' := aM H
     clear H
     have hnb21 := NB677_676.out
     have hnc21 := NB676_677.out
     obtain ⟨⟨hcz22_0, hcz22_1, hcz22_2, hcz22_3⟩, hfz22_0, hfz22_1, hfz22_2, hfz22_3⟩ := cf4 BK677
     go_wp2_with (first | ((with_reducible refine gate_builtin (b := .append) (xs := #[.tmp 43, .tmp 44]) rfl ?_); (try (refine gate_guard (by rfl) ?_; dsimp only)); at_builtin; refine Kd.R_append_rows (Kd.int .i64) (w0 := w) w.heap.size rfl (.tmp 43) (.tmp 44) 25 3 (.int .i64 0) 8 rfl Try.underlying25 info3 rfl (by decide) (by omega) u678003 x678003_2 l2 _ _ _ (fun _ => True) (fun _ => False) rfl rfl ?aO ?aR (fun _ _ h => h) (fun _ h => h.elim) ?aF ?aB ?aS ?aL ?_; (case aR => exact qC (Kd.C_below HR2.out HB.out)); (case aB => exact (qW HB.out)); (case aF => exact (fun _ _ => trivial)); (case aO => exact (qR HO_678003.out)); (case aS => exact (below_size (qW HB.out))); (case aL => have := LMc20.out; omega); intro v682 w23 ho hb hg hat; rw [← Ny681.out] at ho; replace BK676 := gB BK676 hg (Kd.R_ne HO_678003.out BK676.out (by decide)); replace BK677 := gB BK677 hg (Kd.R_ne HO_678003.out BK677.out (by decide)); replace HB := aM (hb); have HO683 := aM (ho); clear HO_678003; clear ho hb hg hat; obtain ⟨Ao24, co24, rfl⟩ := sL HO683; obtain ⟨⟨hcz25_0, hcz25_1, hcz25_2, hcz25_3⟩, hfz25_0, hfz25_1, hfz25_2, hfz25_3⟩ := cf4 BK677))
     go_roundg k2
     case measure => have := HJ3.out; have := HK2.out; omega
     case rel => exact ⟨(wrap64 (x40_2 + 1)), (y681), (.slice Ao24 y681.length co24), qE, H', ⟨by have := HJ3.out; have := HK2.out; omega⟩, ⟨by refine qR ?_; exact Kd.R_mono (rT HO683 BK677) (fun _ hk => trivial)⟩, ⟨by refine qB ?_; refine blk_far ?_ NB676_677.out _; refine qB ?_; exact BK676.out⟩, ⟨by exact bP BK677.out⟩, ⟨by exact qW HB.out⟩⟩
def IsS85 (w0 W : World) (g : Nat) (f0 : List Int) (f1 : Int) : Prop := ∃ A0 c0, W.heap[g]? = some (.cells #[.slice A0 f0.length c0, .int .i64 f1] 85 (0, 0)) ∧ w0.heap.size ≤ g ∧ Kd.C (Kd.int .u8) w0 A0 f0.length f0
theorem IsS85.grown {w0 W : World} {g : Nat} {f0 : List Int} {f1 : Int} {W1 : World} {row : Option Nat} (h : IsS85 w0 W g f0 f1) (hw : W.grownBy W1 row) (hne : some g ≠ row) : IsS85 w0 W1 g f0 f1 := by
 obtain ⟨A0, c0, hb, hg, hr0⟩ := h
 exact ⟨A0, c0, blk_grown hb hw hne, hg, hr0⟩
theorem IsS85.own_neN {w0 W : World} {g : Nat} {f0 : List Int} {f1 : Int} {α : Type} {d : Kd α} {e : Nat} {base : Nat} {ok : Nat → Prop} {v : Value} {xs : List α} (h : IsS85 w0 W g f0 f1) (ho : Kd.N d e W base ok v xs) (ht : e ≠ 85) : some g ≠ v.ownBlock := by
 obtain ⟨A0, c0, hb, hg, hr0⟩ := h
 exact Kd.N_ne ho hb ht
theorem IsS85.fresh {w0 W : World} {g : Nat} {f0 : List Int} {f1 : Int} (h : IsS85 w0 W g f0 f1) : ∀ k, W.heap.size ≤ k → k ≠ g := by
 obtain ⟨A0, c0, hb, hg, hr0⟩ := h
 exact Kd.freshB hb
theorem IsS85.kept {w0 W : World} {g : Nat} {f0 : List Int} {f1 : Int} {W1 : World} {S : Nat → Prop} (h : IsS85 w0 W g f0 f1) (hk : Kept W W1 S) (hne : ¬ S g) : IsS85 w0 W1 g f0 f1 := by
 obtain ⟨A0, c0, hb, hg, hr0⟩ := h
 exact ⟨A0, c0, blk_kept hb hk hne, hg, hr0⟩
theorem IsS85.below {w0 W : World} {g : Nat} {f0 : List Int} {f1 : Int} {W1 : World} (h : IsS85 w0 W g f0 f1) (hw : Below W.heap.size W W1) : IsS85 w0 W1 g f0 f1 := h.grown (grown_of_below hw none) (by simp)
theorem IsS85.alloc {w0 W : World} {g : Nat} {f0 : List Int} {f1 : Int} (h : IsS85 w0 W g f0 f1) (o : Obj) : IsS85 w0 (W.alloc o) g f0 f1 := h.below (below_alloc (Below.refl _ _) o)
theorem IsS85.drewN {w0 W : World} {g : Nat} {f0 : List Int} {f1 : Int} (h : IsS85 w0 W g f0 f1) (m : Nat) : IsS85 w0 (W.drewN m) g f0 f1 := h
theorem IsS85.drew {w0 W : World} {g : Nat} {f0 : List Int} {f1 : Int} (h : IsS85 w0 W g f0 f1) : IsS85 w0 W.drew g f0 f1 := h
theorem IsS85.at_ {w0 W : World} {g : Nat} {f0 : List Int} {f1 : Int} {w' : World} {m : Nat} (hq : W.drewN m = w') (h : IsS85 w0 W g f0 f1) : IsS85 w0 w' g f0 f1 := by subst hq; exact IsS85.drewN h m
theorem IsS85.apart {w0 W : World} {g : Nat} {f0 : List Int} {f1 : Int} {α : Type} {d : Kd α} {e : Nat} {base : Nat} {ok : Nat → Prop} {v : Value} {xs : List α} (h : IsS85 w0 W g f0 f1) (ho : d.R e W base ok v xs) (ht : ∀ q, q ∈ e :: d.E → q ≠ 85) : d.R e W base (fun k => ok k ∧ k ≠ g) v xs := by
 obtain ⟨A0, c0, hb, hg, hr0⟩ := h
 exact Kd.R_types ho hb ht
theorem IsS85.own_ne {w0 W : World} {g : Nat} {f0 : List Int} {f1 : Int} {α : Type} {d : Kd α} {e : Nat} {base : Nat} {ok : Nat → Prop} {v : Value} {xs : List α} (h : IsS85 w0 W g f0 f1) (ho : d.R e W base ok v xs) (ht : e ≠ 85) : some g ≠ v.ownBlock := by
 obtain ⟨A0, c0, hb, hg, hr0⟩ := h
 exact Kd.R_ne ho hb ht
theorem IsS85.apartQ {w0 W : World} {g : Nat} {f0 : List Int} {f1 : Int} {α : Type} {d : Kd α} {e : Nat} {base : Nat} {ok : Nat → Prop} {v : Value} {xs : List α} (h : IsS85 w0 W g f0 f1) (ho : d.Q e W base ok v xs) (ht : ∀ q, q ∈ e :: d.E → q ≠ 85) : d.Q e W base (fun k => ok k ∧ k ≠ g) v xs := by
 obtain ⟨A0, c0, hb, hg, hr0⟩ := h
 exact Kd.Q_types ho hb ht
theorem IsS85.own_neQ {w0 W : World} {g : Nat} {f0 : List Int} {f1 : Int} {α : Type} {d : Kd α} {e : Nat} {base : Nat} {ok : Nat → Prop} {v : Value} {xs : List α} (h : IsS85 w0 W g f0 f1) (ho : d.Q e W base ok v xs) (ht : e ≠ 85) : some g ≠ v.ownBlock := by
 obtain ⟨A0, c0, hb, hg, hr0⟩ := h
 exact Kd.Q_ne ho hb ht
theorem IsS85.apartS {w0 W : World} {g : Nat} {f0 : List Int} {f1 : Int} {α : Type} {d : Kd α} {e : Nat} {base : Nat} {ok : Nat → Prop} {v : Value} {xs : List α} (h : IsS85 w0 W g f0 f1) (ho : d.S e W base ok v xs) (ht : ∀ q, q ∈ e :: d.E → q ≠ 85) : d.S e W base (fun k => ok k ∧ k ≠ g) v xs := by
 obtain ⟨A0, c0, hb, hg, hr0⟩ := h
 exact Kd.S_types ho hb ht
theorem IsS85.own_neS {w0 W : World} {g : Nat} {f0 : List Int} {f1 : Int} {α : Type} {d : Kd α} {e : Nat} {base : Nat} {ok : Nat → Prop} {v : Value} {xs : List α} (h : IsS85 w0 W g f0 f1) (ho : d.S e W base ok v xs) (ht : e ≠ 85) : some g ≠ v.ownBlock := by
 obtain ⟨A0, c0, hb, hg, hr0⟩ := h
 exact Kd.S_ne ho hb ht
theorem IsS85.lt {w0 W : World} {g : Nat} {f0 : List Int} {f1 : Int} (h : IsS85 w0 W g f0 f1) : g < W.heap.size := by
 obtain ⟨A0, c0, hb, hg, hr0⟩ := h
 exact blk_lt hb
theorem IsS85.ge {w0 W : World} {g : Nat} {f0 : List Int} {f1 : Int} (h : IsS85 w0 W g f0 f1) : w0.heap.size ≤ g := by
 obtain ⟨A0, c0, hb, hg, hr0⟩ := h
 exact hg
theorem IsS85.ne_blk {w0 W : World} {g : Nat} {f0 : List Int} {f1 : Int} {a : Nat} {cs : Array Value} {t : TypeId} {fr : Nat × Nat} (h : IsS85 w0 W g f0 f1) (hb2 : W.heap[a]? = some (.cells cs t fr)) (ht : t ≠ 85) : g ≠ a := by
 obtain ⟨A0, c0, hb, hg, hr0⟩ := h
 rintro rfl
 rw [hb] at hb2
 injection hb2 with hb2
 injection hb2 with _ ht2
 exact ht ht2.symm
theorem IsS85.far {w0 W : World} {g : Nat} {f0 : List Int} {f1 : Int} {p : Addr} (h : IsS85 w0 W g f0 f1) (hne : g ≠ p.block) (u : Value) : IsS85 w0 (W.setCell p u) g f0 f1 := by
 obtain ⟨A0, c0, hb, hg, hr0⟩ := h
 exact ⟨A0, c0, blk_far hb hne u, hg, hr0⟩
theorem cellS85_0 {W : World} {g : Nat} {A0 : Option Addr} {c0 : Nat} {f0 : List Int} {f1 : Int} (h : W.heap[g]? = some (.cells #[.slice A0 f0.length c0, .int .i64 f1] 85 (0, 0))) : W.cell? ⟨g, 0, none⟩ = some (.slice A0 f0.length c0) := (blk_cell h 0).trans rfl
theorem cellS85_1 {W : World} {g : Nat} {A0 : Option Addr} {c0 : Nat} {f0 : List Int} {f1 : Int} (h : W.heap[g]? = some (.cells #[.slice A0 f0.length c0, .int .i64 f1] 85 (0, 0))) : W.cell? ⟨g, 1, none⟩ = some (.int .i64 f1) := (blk_cell h 1).trans rfl
theorem IsS85.set_1 {w0 W : World} {g : Nat} {f0 : List Int} {f1 : Int} (h : IsS85 w0 W g f0 f1) (x : Int) : IsS85 w0 (W.setCell ⟨g, 1, none⟩ (.int .i64 x)) g f0 x := by
 obtain ⟨A0, c0, hb, hg, hr0⟩ := h
 exact ⟨A0, c0, by simpa using blk_set hb 1 (.int .i64 x), hg, hr0⟩
theorem IsS85.new (w0 W : World) (A0 : Option Addr) (c0 : Nat) (f0 : List Int) (f1 : Int) (hB : Below w0.heap.size w0 W) (hr0 : Kd.C (Kd.int .u8) w0 A0 f0.length f0) : IsS85 w0 (W.alloc (.cells #[.slice A0 f0.length c0, .int .i64 f1] 85)) W.heap.size f0 f1 := ⟨A0, c0, by simpa using heap_alloc_new W _, hB.size, hr0⟩
theorem farA85 {w0 W : World} {g : Nat} {f0 : List Int} {f1 : Int} {g2 j : Nat} {u : Value} (h : IsS85 w0 W g f0 f1) (hn : Aside0 (g ≠ g2)) : IsS85 w0 (W.setCell ⟨g2, j, none⟩ u) g f0 f1 := IsS85.far h hn.out u
theorem iS85 {w0 W W2 : World} {g : Nat} {f0 : List Int} {f1 : Int} {f0' : List Int} {f1' : Int} (a : IsS85 w0 W g f0 f1) (f : IsS85 w0 W g f0 f1 → IsS85 w0 W2 g f0' f1' := by intro h_; repeat (first | (with_reducible first | exact h_ | apply IsS85.alloc | apply IsS85.drewN | apply IsS85.drew | apply IsS85.set_1 | (refine farA85 ?_ ?_; rotate_left; assumption)) | exact h_)) : IsS85 w0 W2 g f0' f1' := f a
theorem wS85 {n : Nat} {w w' W : World} (a : Below n w w') (f : Below n w w' → Below n w W := by intro h_; repeat (first | (with_reducible first | exact h_ | apply below_alloc | apply pw_below_drewN | apply below_drew1 | (refine below_set ?_ ?_; rotate_left; exact IsS85.ge (Aside0.out (by assumption))) | (refine below_setA ?_ ?_; rotate_left; assumption)) | exact h_)) : Below n w W := f a
def spec_newReader.f (l0 : List Int) : Option (List Int × Int) := if (l0.length : Int) > 2000 then (if 2000 ≤ (l0.length : Int) then (some (l0.take 2000, 0)) else (none)) else (some (l0, 0))
set_option maxHeartbeats 8000000 in
set_option maxRecDepth 100000 in
theorem spec_newReader.calls (A0 : Option Addr) (c0 : Nat) (l0 : List Int) (r1 : List Int) (r2 : Int) (w0 w : World) (hB : Below w0.heap.size w0 w) (hr0 : Kd.C (Kd.int .u8) w0 A0 l0.length l0) (hc0 : l0.length ≤ c0) (h : spec_newReader.f l0 = some (r1, r2)) :
  Calls Try.prog 42 #[.slice A0 l0.length c0] w fun e w' => ∃ g_ : Nat, e = .returned (.pointer (some ⟨g_, 0, none⟩)) ∧ IsS85 w0 w' g_ r1 r2 ∧ Below w0.heap.size w0 w' ∧ Below w.heap.size w w' := by
 have hu85 := Try.underlying85
 have HR0 := aM hr0
 have HC0 := aM hc0
 clear hr0 hc0
 have HBW := aM (Below.refl w.heap.size w)
 have HW0 := aM hB.size
 have HB := aM hB
 clear hB
 unfold spec_newReader.f at h
 have H := h
 clear h
 by_cases c2 : (l0.length : Int) > 2000
 rotate_left
 ·rw [if_neg c2] at H
  have c2b0 : decide (2000 < (l0.length : Int)) = false := decide_eq_false c2
  have c2b1 : decide (2000 < l0.length) = false := decide_eq_false (by omega)
  clear c2
  simp only [Option.some.injEq, Prod.mk.injEq] at H
  obtain ⟨rfl, rfl⟩ := H
  go_enter Try.func42, Try.ntmps42
  go_wp2_with (first | ((with_reducible refine gate_dst (N := 10) rfl ?_); refine bxE (N := 10) (cs := #[.slice A0 l0.length c0, .int .i64 0]) (t := 85) ?_; intro gb103 hg w6 hbox hb; replace HB := bS HB hb; have BK103 := aM (hbox); have GW103 := aM ((by rw [hg]; exact (below_size (qW HBW.out)) : w.heap.size ≤ gb103)); have GE103 := aM ((Nat.le_trans HW0.out (by rw [hg]; exact (below_size (qW HBW.out)) : w.heap.size ≤ gb103) : w0.heap.size ≤ gb103)); replace HBW := aM (below_step HBW.out hb); clear hb hbox hg))
  go_ret
  exact ⟨_, rfl, (show IsS85 w0 _ gb103 l0 0 from ⟨_, _, by refine qB ?_; exact BK103.out, GE103.out, HR0.out⟩), by exact qW HB.out, by exact qW HBW.out⟩
 rw [if_pos c2] at H
 have c2b0 : decide (2000 < (l0.length : Int)) = true := decide_eq_true c2
 have c2b1 : decide (2000 < l0.length) = true := decide_eq_true (by omega)
 clear c2
 replace H := iS H
 obtain ⟨c3, H⟩ := H
 have c3b0 := eq_true c3
 have c3b1 : decide (2000 ≤ (l0.length : Int)) = true := decide_eq_true c3
 clear c3
 simp only [Option.some.injEq, Prod.mk.injEq] at H
 obtain ⟨rfl, rfl⟩ := H
 obtain ⟨i04, hi04, _, hsz4, _⟩ := info_parts info5
 obtain ⟨hcut4, hA4, hC4⟩ := print_take_of (P := Try.prog) (Value.int .u8) 0 22 5 .i64 Try.underlying22 hi04 hsz4 A0 c0 l0 2000 (by omega) oD HC0.out
 have HR101 := aM (Kd.C_of_reads (h1 := fun _ => rfl) (hA4 _ (Kd.reads_of_C HR0.out)))
 have HC101 := aM hC4
 clear hA4 hC4 hi04 hsz4
 go_enter Try.func42, Try.ntmps42
 go_wp2_with (first | ((with_reducible refine gate_dst (N := 10) rfl ?_); refine bxE (N := 10) (cs := #[.slice A0 (l0.take 2000).length c0, .int .i64 0]) (t := 85) ?_; intro gb102 hg w5 hbox hb; replace HB := bS HB hb; have BK102 := aM (hbox); have GW102 := aM ((by rw [hg]; exact (below_size (qW HBW.out)) : w.heap.size ≤ gb102)); have GE102 := aM ((Nat.le_trans HW0.out (by rw [hg]; exact (below_size (qW HBW.out)) : w.heap.size ≤ gb102) : w0.heap.size ≤ gb102)); replace HBW := aM (below_step HBW.out hb); clear hb hbox hg))
 go_ret
 exact ⟨_, rfl, (show IsS85 w0 _ gb102 (l0.take 2000) 0 from ⟨_, _, by refine qB ?_; exact BK102.out, GE102.out, HR101.out⟩), by exact qW HB.out, by exact qW HBW.out⟩
end Go.Proofs.Yteeeedmmcdlhjaa.P
