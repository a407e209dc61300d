/- Contracts and row, written by a program of this place out of the translation: the call answers true and its argument reads as before, for every input; no condition. -/
import Derived.Test.YtnamhlcdlbjcfaaK0
import Derived.Test.YtnamhlcdlbjcfaaK1
namespace Go.Proofs.Ytnamhlcdlbjcfaa.P
open Go.RowKit Go.Proofs.YtnamhlcdlbjcfaaW.PrintWords Go.Proofs.YtnamhlcdlbjcfaaW.PrintLast Go.Proofs.YtnamhlcdlbjcfaaW.PrintMore
attribute [local go_sem] max2_int min2_int max_two min_two max_three min_three max_four min_four   -- for this text's walks alone
set_option linter.unusedVariables false
set_option linter.unusedSimpArgs false
theorem covered_some (i n k m : Int) : ∃ r, impl_covered.f i n k m = some r := by
 unfold impl_covered.f
 exact ⟨_, rfl⟩
def cov (i n k m : Int) : Int := (impl_covered.f i n k m).getD 0
theorem cov_some (i n k m : Int) : impl_covered.f i n k m = some (cov i n k m) := by
 obtain ⟨r, hr⟩ := covered_some i n k m
 rw [cov, hr]
 rfl
def rndd (s d : Int) : Int := (impl_rounded.f s d).getD 0
def addK (s px : List Int) (a : Int) : Nat → List Int
 | 0 => s
 | k + 1 => (addK s px a k).set k (wrap64 (rd (addK s px a k) (k : Int) + wrap64 (rd px (k : Int) * a)))
def areaRow (l : List Int) (a0 a1 a2 w h x y : Int) (j : Nat) (s : List Int) : Nat → List Int
 | 0 => s
 | i + 1 => addK (areaRow l a0 a1 a2 w h x y j s i) (pixOf l a0 a2 (i : Int) (j : Int)) (wrap64 (cov (i : Int) w x a0 * cov (j : Int) h y a1)) a2.toNat
def areaAll (l : List Int) (a0 a1 a2 w h x y : Int) : Nat → List Int
 | 0 => List.replicate a2.toNat 0
 | j + 1 => areaRow l a0 a1 a2 w h x y j (areaAll l a0 a1 a2 w h x y j) a0.toNat
def roundK (s : List Int) (d : Int) : Nat → List Int
 | 0 => s
 | k + 1 => (roundK s d k).set k (rndd (rd (roundK s d k) (k : Int)) d)
def areaPix (l : List Int) (a0 a1 a2 w h : Int) (x y : Int) : List Int := roundK (areaAll l a0 a1 a2 w h x y a1.toNat) (wrap64 (a0 * a1)) a2.toNat
theorem addK_len (s px : List Int) (a : Int) : ∀ k, (addK s px a k).length = s.length
 | 0 => rfl
 | k + 1 => by rw [addK, List.length_set, addK_len s px a k]
theorem areaRow_len (l : List Int) (a0 a1 a2 w h x y : Int) (j : Nat) (s : List Int) : ∀ i, (areaRow l a0 a1 a2 w h x y j s i).length = s.length
 | 0 => rfl
 | i + 1 => by rw [areaRow, addK_len, areaRow_len l a0 a1 a2 w h x y j s i]
theorem areaAll_len (l : List Int) (a0 a1 a2 w h x y : Int) : ∀ j, (areaAll l a0 a1 a2 w h x y j).length = a2.toNat
 | 0 => List.length_replicate ..
 | j + 1 => by rw [areaAll, areaRow_len, areaAll_len l a0 a1 a2 w h x y j]
theorem roundK_len (s : List Int) (d : Int) : ∀ k, (roundK s d k).length = s.length
 | 0 => rfl
 | k + 1 => by rw [roundK, List.length_set, roundK_len s d k]
theorem areaPix_len (l : List Int) (a0 a1 a2 w h x y : Int) (h2 : 0 ≤ a2) (h2' : a2 ≤ 4) : (areaPix l a0 a1 a2 w h x y).length ≤ 100 := by
 rw [areaPix, roundK_len, areaAll_len]
 omega
theorem rndd_some (a b : Int) (hb : 1 ≤ b) (hb' : b ≤ 1000000) : impl_rounded.f a b = some (rndd a b) := by
 unfold rndd
 unfold impl_rounded.f impl_floorDiv.f
 have : ¬ wrap64 (2 * b) = 0 := by rw [wrap_small (by omega) (by omega)]; omega
 rw [if_neg this]
 split <;> rfl
set_option maxHeartbeats 8000000 in
theorem coveredSame (a0 a1 a2 a3 : Int) (w : World) : Calls Try.prog 71 #[.int .i64 a0, .int .i64 a1, .int .i64 a2, .int .i64 a3] w fun e w' => e = .returned (.int .i64 (cov a0 a1 a2 a3)) ∧ w' = w := by
 obtain ⟨r, hr⟩ := covered_some a0 a1 a2 a3
 have er : cov a0 a1 a2 a3 = r := by rw [cov, hr]; rfl
 rw [er]
 have H : impl_covered.f a0 a1 a2 a3 = some r := hr
 clear er hr
 unfold impl_covered.f at H
 obtain ⟨ji5, hji5⟩ : ∃ j_ : Int, (mn (wrap64 ((wrap64 (a0 + 1)) * a1)) (wrap64 ((wrap64 (a2 + 1)) * a3))) = j_ := ⟨_, rfl⟩
 rw [hji5] at H
 have hji5_ : (if (wrap64 ((wrap64 (a2 + 1)) * a3)) < (wrap64 ((wrap64 (a0 + 1)) * a1)) then (wrap64 ((wrap64 (a2 + 1)) * a3)) else (wrap64 ((wrap64 (a0 + 1)) * a1))) = ji5 := hji5
 obtain ⟨ji6, hji6⟩ : ∃ j_ : Int, (mx (wrap64 (a0 * a1)) (wrap64 (a2 * a3))) = j_ := ⟨_, rfl⟩
 rw [hji6] at H
 have hji6_ : (if (wrap64 (a0 * a1)) < (wrap64 (a2 * a3)) then (wrap64 (a2 * a3)) else (wrap64 (a0 * a1))) = ji6 := hji6
 obtain ⟨ji7, hji7⟩ : ∃ j_ : Int, (mx (wrap64 ((ji5) - (ji6))) 0) = j_ := ⟨_, rfl⟩
 rw [hji7] at H
 have hji7_ : (if (wrap64 ((ji5) - (ji6))) < 0 then 0 else (wrap64 ((ji5) - (ji6)))) = ji7 := hji7
 obtain rfl := Option.some.inj H
 go_enter Try.func71, Try.ntmps71
 go_wp2
 go_ret
 exact ⟨by first | rfl | (simp only [← hji5, ← hji6, ← hji7]; rfl) | (simp [*] <;> rfl), rfl⟩
theorem capB {W w : World} {g : Nat} {o : Obj} (h : W.heap[g]? = some o) (hb : Below W.heap.size W w) : w.heap[g]? = some o := blk_below h hb
set_option maxHeartbeats 8000000 in
set_option maxRecDepth 100000 in
theorem scaleAreaPix (w : World) (B1 B2 B3 : Nat) (a0 a1 a2 : Int) (A : Option Addr) (c : Nat) (l : List Int) (n m : Int)
  (hB1 : w.heap[B1]? = some (.cells #[.int .i64 a0, .int .i64 a1, .int .i64 a2, .slice A l.length c] 26 (0, 0))) (hB2 : w.heap[B2]? = some (.cells #[.int .i64 n] 3 (0, 0))) (hB3 : w.heap[B3]? = some (.cells #[.int .i64 m] 3 (0, 0)))
  (hr : Kd.C (Kd.int .i64) w A l.length l) (hc : l.length ≤ c) (V : ImgOk a0 a1 a2 l) (n0 : 1 ≤ n) (n0' : n ≤ 16) (m0 : 1 ≤ m) (m0' : m ≤ 16) :
  PixAt 70 #[.pointer (some ⟨B1, 0, none⟩), .pointer (some ⟨B2, 0, none⟩), .pointer (some ⟨B3, 0, none⟩)] (areaPix l a0 a1 a2 n m) n m w := fun W x y hb hx hx' hy hy' => by
 obtain ⟨⟨v0, v0'⟩, ⟨v1, v1'⟩, ⟨v2, v2'⟩, hlen, _⟩ := V
 obtain ⟨a, rfl⟩ := Int.eq_ofNat_of_zero_le (show 0 ≤ a0 by omega)
 obtain ⟨b, rfl⟩ := Int.eq_ofNat_of_zero_le (show 0 ≤ a1 by omega)
 obtain ⟨p, rfl⟩ := Int.eq_ofNat_of_zero_le (show 0 ≤ a2 by omega)
 have HL := aM hlen
 have HR0 := aM (Kd.C_below hr hb)
 have HC0 := aM hc
 have KB1 := aM (blk_below hB1 hb)
 have KB2 := aM (blk_below hB2 hb)
 have KB3 := aM (blk_below hB3 hb)
 clear hlen hr hc hB1 hB2 hB3 hb
 have HB := aM (Below.refl W.heap.size W)
 have hz1_0_W : W.cell? ⟨B1, 0, none⟩ = some (.int .i64 a) := (blk_cell (blk_below KB1.out HB.out) 0).trans rfl; have hz1_1_W : W.cell? ⟨B1, 1, none⟩ = some (.int .i64 b) := (blk_cell (blk_below KB1.out HB.out) 1).trans rfl; have hz1_2_W : W.cell? ⟨B1, 2, none⟩ = some (.int .i64 p) := (blk_cell (blk_below KB1.out HB.out) 2).trans rfl; have hz1_3_W : W.cell? ⟨B1, 3, none⟩ = some (.slice A l.length c) := (blk_cell (blk_below KB1.out HB.out) 3).trans rfl; have hz2_W : W.cell? ⟨B2, 0, none⟩ = some (.int .i64 n) := (blk_cell (blk_below KB2.out HB.out) 0).trans rfl; have hz3_W : W.cell? ⟨B3, 0, none⟩ = some (.int .i64 m) := (blk_cell (blk_below KB3.out HB.out) 0).trans rfl
 unfold areaPix
 simp only [Int.toNat_natCast]
 have EL := aM (fun j => areaAll_len l a b p n m x y j)
 go_enter Try.func70, Try.ntmps70
 go_wp2_with (first | ((with_reducible refine gate_dst (N := 18) rfl ?_); refine Kd.R_make (Kd.int .i64) _ 3 rfl (N := 18) rfl 22 _ _ rfl (p : Int) rfl rfl Try.underlying22 (.int .i64 0) 8 info3 rfl (by decide) (by omega) 0 (ok := fun _ => True) (okp := fun _ => True) rfl (fun _ hk => hk) trivial (by omega) (Nat.le_trans (Nat.mul_le_mul_right _ (show (p : Int).toNat ≤ 35184372088832 by omega)) (by omega)) (Below.refl _ _) (Nat.le_refl _) ?_; intro us w4 ho5 hb hg_ hnew_; clear hg_ hnew_; have HO := oR ho5 HB; replace HB := bS HB hb; clear hb ho5; obtain ⟨go, co, eo, gb, gl, cl, HG⟩ := Kd.R_form HO.out (by simp; omega); simp only [List.length_replicate, Int.toNat_natCast] at eo; subst eo; have GB := aM gb; have GG := aM HG; clear gb gl HG; have hz1_0_w4 : w4.cell? ⟨B1, 0, none⟩ = some (.int .i64 a) := (blk_cell (blk_below KB1.out HB.out) 0).trans rfl; have hz1_1_w4 : w4.cell? ⟨B1, 1, none⟩ = some (.int .i64 b) := (blk_cell (blk_below KB1.out HB.out) 1).trans rfl; have hz1_2_w4 : w4.cell? ⟨B1, 2, none⟩ = some (.int .i64 p) := (blk_cell (blk_below KB1.out HB.out) 2).trans rfl; have hz1_3_w4 : w4.cell? ⟨B1, 3, none⟩ = some (.slice A l.length c) := (blk_cell (blk_below KB1.out HB.out) 3).trans rfl; have hz2_w4 : w4.cell? ⟨B2, 0, none⟩ = some (.int .i64 n) := (blk_cell (blk_below KB2.out HB.out) 0).trans rfl; have hz3_w4 : w4.cell? ⟨B3, 0, none⟩ = some (.int .i64 m) := (blk_cell (blk_below KB3.out HB.out) 0).trans rfl))
 go_loopg [21] b (fun gg s21 w' => ∃ j : Nat, j ≤ b ∧ b - j ≤ gg ∧ s21 = .int .i64 j ∧ Aside0 (Kd.R (Kd.int .i64) 3 w' W.heap.size (fun _ => True) (.slice (some ⟨go, 0, none⟩) p co) (areaAll l a b p n m x y j)) ∧ Aside0 (Below W.heap.size W w'))
 case atStart => exact ⟨0, Nat.zero_le _, by omega, rfl, ⟨by refine qR ?_; exact HO.out⟩, ⟨by exact qW HB.out⟩⟩
 case round =>
  clear HO HB
  obtain ⟨j, hj, hg, rfl, HO, HB⟩ := hrel
  obtain ⟨wo, ewo⟩ : ∃ wo : World, wo = wr := ⟨_, rfl⟩
  subst ewo
  have hz1_0_wo : wo.cell? ⟨B1, 0, none⟩ = some (.int .i64 a) := (blk_cell (blk_below KB1.out HB.out) 0).trans rfl; have hz1_1_wo : wo.cell? ⟨B1, 1, none⟩ = some (.int .i64 b) := (blk_cell (blk_below KB1.out HB.out) 1).trans rfl; have hz1_2_wo : wo.cell? ⟨B1, 2, none⟩ = some (.int .i64 p) := (blk_cell (blk_below KB1.out HB.out) 2).trans rfl; have hz1_3_wo : wo.cell? ⟨B1, 3, none⟩ = some (.slice A l.length c) := (blk_cell (blk_below KB1.out HB.out) 3).trans rfl; have hz2_wo : wo.cell? ⟨B2, 0, none⟩ = some (.int .i64 n) := (blk_cell (blk_below KB2.out HB.out) 0).trans rfl; have hz3_wo : wo.cell? ⟨B3, 0, none⟩ = some (.int .i64 m) := (blk_cell (blk_below KB3.out HB.out) 0).trans rfl
  by_cases hlt : j < b
  ·have hltz : (j : Int) < (b : Int) := by omega
   go_wp2
   clear hz1_0_wo hz1_1_wo hz1_2_wo hz1_3_wo hz2_wo hz3_wo
   go_loopg [26] a (fun gg2 s26 w' => ∃ i : Nat, i ≤ a ∧ a - i ≤ gg2 ∧ s26 = .int .i64 i ∧ Aside0 (Kd.R (Kd.int .i64) 3 w' W.heap.size (fun _ => True) (.slice (some ⟨go, 0, none⟩) p co) (areaRow l a b p n m x y j (areaAll l a b p n m x y j) i)) ∧ Aside0 (Below W.heap.size W w'))
   case atStart => exact ⟨0, Nat.zero_le _, by omega, rfl, ⟨by refine qR ?_; exact HO.out⟩, ⟨by exact qW HB.out⟩⟩
   case round =>
    clear HO HB
    obtain ⟨i, hi, hg2, rfl, HO, HB⟩ := hrel
    have hz1_0_wr : wr.cell? ⟨B1, 0, none⟩ = some (.int .i64 a) := (blk_cell (blk_below KB1.out HB.out) 0).trans rfl; have hz1_1_wr : wr.cell? ⟨B1, 1, none⟩ = some (.int .i64 b) := (blk_cell (blk_below KB1.out HB.out) 1).trans rfl; have hz1_2_wr : wr.cell? ⟨B1, 2, none⟩ = some (.int .i64 p) := (blk_cell (blk_below KB1.out HB.out) 2).trans rfl; have hz1_3_wr : wr.cell? ⟨B1, 3, none⟩ = some (.slice A l.length c) := (blk_cell (blk_below KB1.out HB.out) 3).trans rfl; have hz2_wr : wr.cell? ⟨B2, 0, none⟩ = some (.int .i64 n) := (blk_cell (blk_below KB2.out HB.out) 0).trans rfl; have hz3_wr : wr.cell? ⟨B3, 0, none⟩ = some (.int .i64 m) := (blk_cell (blk_below KB3.out HB.out) 0).trans rfl
    by_cases hilt : i < a
    ·have hilz : (i : Int) < (a : Int) := by omega
     go_wp2
     have e1 : IntKind.i64.wrap (cov (i : Int) n x a * cov (j : Int) m y b) = wrap64 (cov (i : Int) n x a * cov (j : Int) m y b) := i64_w _
     go_quiet ((go_at_call 71; exact Calls.quiet_of_same (coveredSame _ _ _ _ _)))
     clear e1
     obtain ⟨ar, hear⟩ : ∃ ar : Int, wrap64 (cov (i : Int) n x a * cov (j : Int) m y b) = ar := ⟨_, rfl⟩
     have EAR := aM hear
     rw [hear]
     clear hear
     have hfit := pix_fits (a0 := a) (a1 := b) (a2 := p) (x := i) (y := j) (by omega) (by omega) (by omega) (by omega) (by omega)
     rw [← HL.out] at hfit
     have m1 : 0 ≤ (j : Int) * a := Int.mul_nonneg (by omega) (by omega)
     have hpl := pixOf_length (l := l) (n := a) (p := p) (x := i) (y := j) (Int.mul_nonneg (by omega) (by omega)) (by omega) hfit
     have HPL := aM hpl
     have HCA := aM (fun (W' : World) (hW : Below W.heap.size W W') => impl_at.calls2 a b p A c l i j W' (Kd.C_below HR0.out hW) HC0.out (by omega) v0' (by omega) (by omega) (by omega) (by omega) (by omega) (by omega) hfit)
     clear hpl hfit m1
     obtain ⟨px, hpx⟩ : ∃ px : List Int, pixOf l a p i j = px := ⟨_, rfl⟩
     rw [hpx] at HPL HCA
     have EPX := aM hpx
     clear hpx
     go_wp2_with (first | (go_at_call 51; refine (HCA.out _ (by exact qW HB.out)).mono ?_; rintro e w1 ⟨A', c', rfl, hr', hl', hb', hall⟩; have n0_ := aM (Kd.R_below (qR HO.out) hb'); have n1_ := aM (below_step (by exact qW HB.out) hb'); have HALL := aM hall; clear HO HB hr' hall hb'; have HO := n0_; have HB := n1_; clear n0_ n1_))
     go_loopg [47] px.length (fun gg3 s47 w' => ∃ k : Nat, k ≤ px.length ∧ px.length - k ≤ gg3 ∧ s47 = .int .i64 k ∧ Aside0 (Kd.R (Kd.int .i64) 3 w' W.heap.size (fun _ => True) (.slice (some ⟨go, 0, none⟩) p co) (addK (areaRow l a b p n m x y j (areaAll l a b p n m x y j) i) px ar k)) ∧ Aside0 (Below W.heap.size W w'))
     case atStart => exact ⟨0, Nat.zero_le _, by omega, rfl, ⟨by refine qR ?_; exact HO.out⟩, ⟨by exact qW HB.out⟩⟩
     case round =>
      clear HO HB
      obtain ⟨k, hk, hg3, rfl, HO, HB⟩ := hrel
      by_cases hklt : k < px.length
      ·have hkz : (k : Int) < (px.length : Int) := by omega
       have hk0 : 0 ≤ (k : Int) := by omega
       have hkp : k < p := by have := HPL.out; omega
       have hkpz : (k : Int) < (p : Int) := by omega
       have HPR := HALL.out wr (Kd.C_below HR0.out HB.out)
       obtain ⟨ad, ea, hx1⟩ := Kd.at_int HPR (k : Int) hk0 hkz
       clear HPR
       cases ea
       have hsl : (addK (areaRow l a b p n m x y j (areaAll l a b p n m x y j) i) px ar k).length = p := by rw [addK_len, areaRow_len, areaAll_len, Int.toNat_natCast]
       obtain ⟨S, hS⟩ : ∃ S : List Int, S = addK (areaRow l a b p n m x y j (areaAll l a b p n m x y j) i) px ar k := ⟨_, rfl⟩
       rw [← hS] at HO hsl
       obtain ⟨hx9, hf9⟩ := Kd.R_celln 0 HO.out (k : Int) hk0 (by omega)
       have HP := Kd.R_putg HO.out (k : Int) (wrap64 (rd S (k : Int) + wrap64 (rd px (k : Int) * ar)))
       rw [Int.toNat_natCast] at hx1 hx9 hf9 HP
       have HSL := aM hsl
       have HSE := aM hS
       clear hsl hS
       go_wp2_with (first | ((with_reducible refine gate_store (t := 3) (p := 60) rfl ?_); refine store_event (t := 3) (p := 60) (v := ?vo) (w1 := (wr.setCell ⟨go, k, none⟩ (.int .i64 (wrap64 (rd S (k : Int) + wrap64 (rd px (k : Int) * ar)))))) ?hg ?ho ?hn ?hr ?_; (case ho => rfl); (case hg => rfl); (case hn => rfl); (case hr => first | (go_simp; done) | (go_simp; rfl)); intro w11 hw; have hp_ := HP.1; rw [← hw] at hp_; replace HO := aM hp_; replace HB := aM ((by rw [hw]; exact below_set (HB.out) GB.out : Below W.heap.size W w11)); clear HP hp_ hw))
       go_roundg (px.length - (k + 1))
       case measure => omega
       case rel =>
        refine ⟨k + 1, by omega, by omega, by go_num, ⟨?_⟩, ⟨by exact qW HB.out⟩⟩
        have h_ := HO.out
        rw [addK, ← HSE.out]
        exact h_
      ·have hkz : ¬ (k : Int) < (px.length : Int) := by omega
       have ek : k = px.length := by omega
       subst ek
       go_wp2
       go_roundg (a - (i + 1))
       case measure => omega
       case rel =>
        refine ⟨i + 1, by omega, by omega, by go_num, ⟨?_⟩, ⟨by exact qW HB.out⟩⟩
        rw [areaRow, EPX.out, EAR.out, show (p : Int).toNat = px.length by have := HPL.out; omega]
        (with_reducible repeat (first | apply Kd.R_alloc | apply Kd.R_drewN | apply Kd.R_drew))
        exact HO.out
    ·have hilz : ¬ (i : Int) < (a : Int) := by omega
     obtain rfl : a = i := by omega
     go_wp2
     go_roundg (b - (j + 1))
     case measure => omega
     case rel =>
      refine ⟨j + 1, by omega, by omega, by go_num, ⟨?_⟩, ⟨by exact qW HB.out⟩⟩
      rw [areaAll, Int.toNat_natCast]
      (with_reducible repeat (first | apply Kd.R_alloc | apply Kd.R_drewN | apply Kd.R_drew))
      exact HO.out
  ·have hltz : ¬ (j : Int) < (b : Int) := by omega
   obtain rfl : b = j := by omega
   have hm1 : 1 ≤ (a : Int) * (b : Int) := by have := Int.mul_le_mul (a := 1) (b := 1) (c := (a : Int)) (d := (b : Int)) (by omega) (by omega) (by omega) (by omega); omega
   have hm2 : (a : Int) * (b : Int) ≤ 256 := by have := Int.mul_le_mul (a := (a : Int)) (b := (b : Int)) (c := 16) (d := 16) (by omega) (by omega) (by omega) (by omega); omega
   have hds : wrap64 ((a : Int) * (b : Int)) = (a : Int) * (b : Int) := wrap_small (by omega) (by omega)
   have HDS := aM hds
   have HM1 := aM hm1
   have HM2 := aM hm2
   clear hds hm1 hm2
   go_wp2
   go_loopg [66] p (fun gg3 s66 w' => ∃ k : Nat, k ≤ p ∧ p - k ≤ gg3 ∧ s66 = .int .i64 k ∧ Aside0 (Kd.R (Kd.int .i64) 3 w' W.heap.size (fun _ => True) (.slice (some ⟨go, 0, none⟩) p co) (roundK (areaAll l a b p n m x y b) (wrap64 ((a : Int) * (b : Int))) k)) ∧ Aside0 (Below W.heap.size W w'))
   case atStart => exact ⟨0, Nat.zero_le _, by omega, rfl, ⟨by refine qR ?_; exact HO.out⟩, ⟨by exact qW HB.out⟩⟩
   case round =>
    clear HO HB
    obtain ⟨k, hk, hg3, rfl, HO, HB⟩ := hrel
    by_cases hklt : k < p
    ·have hkz : (k : Int) < (p : Int) := by omega
     have hk0 : 0 ≤ (k : Int) := by omega
     have hsl : (roundK (areaAll l a b p n m x y b) (wrap64 ((a : Int) * (b : Int))) k).length = p := by rw [roundK_len, areaAll_len, Int.toNat_natCast]
     obtain ⟨S, hS⟩ : ∃ S : List Int, S = roundK (areaAll l a b p n m x y b) (wrap64 ((a : Int) * (b : Int))) k := ⟨_, rfl⟩
     rw [← hS] at HO hsl
     obtain ⟨hx9, hf9⟩ := Kd.R_celln 0 HO.out (k : Int) hk0 (by omega)
     have HP := Kd.R_putg HO.out (k : Int) (rndd (rd S (k : Int)) (wrap64 ((a : Int) * (b : Int))))
     rw [Int.toNat_natCast] at hx9 hf9 HP
     have HSL := aM hsl
     have HSE := aM hS
     have HGG := aM (rndd_some (rd S (k : Int)) (wrap64 ((a : Int) * (b : Int))) (by rw [HDS.out]; exact HM1.out) (by rw [HDS.out]; have := HM2.out; omega))
     clear hsl hS
     have hz1_0_wr : wr.cell? ⟨B1, 0, none⟩ = some (.int .i64 a) := (blk_cell (blk_below KB1.out HB.out) 0).trans rfl; have hz1_1_wr : wr.cell? ⟨B1, 1, none⟩ = some (.int .i64 b) := (blk_cell (blk_below KB1.out HB.out) 1).trans rfl; have hz1_2_wr : wr.cell? ⟨B1, 2, none⟩ = some (.int .i64 p) := (blk_cell (blk_below KB1.out HB.out) 2).trans rfl; have hz1_3_wr : wr.cell? ⟨B1, 3, none⟩ = some (.slice A l.length c) := (blk_cell (blk_below KB1.out HB.out) 3).trans rfl; have hz2_wr : wr.cell? ⟨B2, 0, none⟩ = some (.int .i64 n) := (blk_cell (blk_below KB2.out HB.out) 0).trans rfl; have hz3_wr : wr.cell? ⟨B3, 0, none⟩ = some (.int .i64 m) := (blk_cell (blk_below KB3.out HB.out) 0).trans rfl
     go_wp2_with (first | (go_at_call 52; refine (impl_rounded.calls _ _ _ _ HGG.out).mono ?_; rintro e w' ⟨rfl, ⟨nd, rfl⟩⟩))
     clear HP
     have hp_ := (Kd.R_putg (Kd.R_drewN HO.out nd) (k : Int) (rndd (rd S (k : Int)) (wrap64 ((a : Int) * (b : Int))))).1
     rw [Int.toNat_natCast] at hp_
     have HP := aM hp_
     clear hp_
     go_roundg (p - (k + 1))
     case measure => omega
     case rel =>
      refine ⟨k + 1, by omega, by omega, by go_num, ⟨?_⟩, ⟨below_set (pw_below_drewN HB.out _) GB.out⟩⟩
      rw [roundK, ← HSE.out]
      exact HP.out
    ·have hkz : ¬ (k : Int) < (p : Int) := by omega
     obtain rfl : p = k := by omega
     go_wp2
     go_ret
     have hR := Kd.R_reads' HO.out
     have hsl : (roundK (areaAll l a b p n m x y b) (wrap64 ((a : Int) * (b : Int))) p).length = p := by rw [roundK_len, areaAll_len, Int.toNat_natCast]
     rw [hsl] at hR ⊢
     exact ⟨_, _, rfl, hR.2.2, hR.2.1, by exact qW HB.out⟩
def spec_copyInts.f (l0 : List Int) : Option (List Int) := (some (([] : List Int) : List Int)).bind fun y450 => (if y450.length + l0.length < 17592186044416 then (some (y450 ++ l0)) else (none))
set_option maxHeartbeats 8000000 in
set_option maxRecDepth 100000 in
theorem spec_copyInts.calls (A0 : Option Addr) (c0 : Nat) (l0 : List Int) (r : List Int) (w : World) (hr0 : Kd.C (Kd.int .i64) w A0 l0.length l0) (hc0 : l0.length ≤ c0) (h : spec_copyInts.f l0 = some r) :
  Calls Try.prog 85 #[.slice A0 l0.length c0] w fun e w' => ∃ v0_ : Value, e = .returned (v0_) ∧ Kd.R (Kd.int .i64) 3 w' w.heap.size (fun _ => True) v0_ r ∧ Below w.heap.size w w' := by
 have HR0 := aM hr0
 have HC0 := aM hc0
 clear hr0 hc0
 have HB := aM (Below.refl w.heap.size w)
 unfold spec_copyInts.f at h
 have H := h
 clear h
 obtain ⟨y450, hy450⟩ : ∃ y_ : List Int, y_ = (([] : List Int)) := ⟨_, rfl⟩
 replace H : (if y450.length + l0.length < 17592186044416 then (some (y450 ++ l0)) else (none)) = some r := rY hy450 H
 have Ny450 := aM hy450
 clear hy450
 replace H := iS H
 obtain ⟨c2, H⟩ := H
 have LMc2 := aM c2
 clear c2
 obtain ⟨y453, hy453⟩ : ∃ y_ : List Int, y_ = (y450 ++ l0) := ⟨_, rfl⟩
 replace H : (some y453) = some r := rY hy453 H
 have Ny453 := aM hy453
 clear hy453
 obtain rfl := Option.some.inj H
 go_enter Try.func85, Try.ntmps85
 go_wp2_with (first | ((with_reducible refine gate_dst (N := 3) rfl ?_); refine iL ([] : List Int) [] ?_; intro v451 w3 ho4 hb hg_ hnew_; clear hg_ hnew_; (first | rw [← Ny450.out] at ho4 | (simp only [Int.reduceToNat] at ho4; rw [← Ny450.out] at ho4)); have HO452 := oR ho4 HB; replace HB := bS HB hb; clear hb ho4) | ((with_reducible refine gate_builtin (b := .append) (xs := #[.tmp 3, .tmp 4]) rfl ?_); at_builtin; refine Kd.R_append_rows (Kd.int .i64) (w0 := w) w.heap.size rfl (.tmp 3) (.tmp 4) 22 3 (.int .i64 0) 8 rfl Try.underlying22 info3 rfl (by decide) (by omega) v451 y450 l0 _ _ _ (fun _ => True) (fun _ => False) rfl rfl ?aO ?aR (fun _ _ h => h) (fun _ h => h.elim) ?aF ?aB ?aS ?aL ?_; (case aR => exact qC (Kd.C_below HR0.out HB.out)); (case aB => exact (qW HB.out)); (case aF => exact (fun _ _ => trivial)); (case aO => exact (qR HO452.out)); (case aS => exact (below_size (qW HB.out))); (case aL => have := LMc2.out; omega); intro v454 w5 ho hb hg hat; rw [← Ny453.out] at ho; replace HB := aM (hb); have HO455 := aM (ho); clear HO452; clear ho hb hg hat))
 go_ret
 exact ⟨_, qX, by refine qR ?_; exact HO455.out, by exact qW HB.out⟩
def spec_setPixel.l0 : Nat → Int → Int → List Int → Int → Int → Int → Int → List Int → Option (List Int)
 | 0, _, _, _, _, _, _, _, _ => none
 | k + 1, x1, x2, x3, x8, x448000, x448001, x448002, x448003 => if x8 < x448002 then (if 0 ≤ x8 then (if x8 < (x3.length : Int) then (if 0 ≤ (wrap64 ((wrap64 ((wrap64 ((wrap64 (x2 * x448000)) + x1)) * x448002)) + x8)) then (if (wrap64 ((wrap64 ((wrap64 ((wrap64 (x2 * x448000)) + x1)) * x448002)) + x8)) < (x448003.length : Int) then (spec_setPixel.l0 k x1 x2 x3 (wrap64 (x8 + 1)) x448000 x448001 x448002 (x448003.set ((wrap64 ((wrap64 ((wrap64 ((wrap64 (x2 * x448000)) + x1)) * x448002)) + x8)) : Int).toNat (rd x3 x8))) else (none)) else (none)) else (none)) else (none)) else (some x448003)
def spec_setPixel.f (k : Nat) (a0_0 : Int) (a0_1 : Int) (a0_2 : Int) (l0_3 : List Int) (a1 : Int) (a2 : Int) (l3 : List Int) : Option (List Int) := spec_setPixel.l0 k a1 a2 l3 0 a0_0 a0_1 a0_2 l0_3
theorem spec_setPixel.mono_l : ∀ k, (∀ y0 y1 y2 y3 y4 y5 y6 y7, LeO (spec_setPixel.l0 k y0 y1 y2 y3 y4 y5 y6 y7) (spec_setPixel.l0 (k + 1) y0 y1 y2 y3 y4 y5 y6 y7))
 | 0 => fun _ _ _ _ _ _ _ _ r h => by simp [spec_setPixel.l0] at h
 | k + 1 => by
  have ih0 := spec_setPixel.mono_l k
  ·intro y0 y1 y2 y3 y4 y5 y6 y7
   unfold spec_setPixel.l0
   repeat' first | (with_reducible first | exact ih0 _ _ _ _ _ _ _ _ | exact lR | exact lN | refine lI ?_ ?_ | refine lB ?_ fun _ => ?_) | exact ih0 _ _ _ _ _ _ _ _ | exact lN | refine lI ?_ ?_ | refine lB ?_ fun _ => ?_
theorem spec_setPixel.mono : ∀ a0 a1 a2 a3 a4 a5 a6 k, LeO (spec_setPixel.f k a0 a1 a2 a3 a4 a5 a6) (spec_setPixel.f (k + 1) a0 a1 a2 a3 a4 a5 a6) := by
 intro a0 a1 a2 a3 a4 a5 a6 k
 have ih0 := spec_setPixel.mono_l k
 unfold spec_setPixel.f
 repeat' first | (with_reducible first | exact ih0 _ _ _ _ _ _ _ _ | exact lR | exact lN | refine lI ?_ ?_ | refine lB ?_ fun _ => ?_) | exact ih0 _ _ _ _ _ _ _ _ | exact lN | refine lI ?_ ?_ | refine lB ?_ fun _ => ?_
def spec_setPixel.T4 : Bool × List (List Nat × List Nat) := (true, [([], []), ([0], [0]), ([], []), ([], []), ([3], [3]), ([2, 4], [2, 4]), ([], []), ([5, 6], [5, 6]), ([], []), ([8], [8]), ([7, 9], [7, 9]), ([], []), ([10, 11], [10, 11]), ([], []), ([], []), ([13, 14], [13, 14]), ([15], [15]), ([1, 12, 0, 1, 2, 3, 4, 5, 6, 7, 8, 9, 10, 11, 12, 13, 14, 15, 16], [1, 12]), ([17, 16, 0, 1, 2, 3, 4, 5, 6, 7, 8, 9, 10, 11, 12, 13, 14, 15, 16], [16, 17])])
def spec_setPixel.B4 : List Nat := [0, 1, 0, 0, 8, 28, 0, 124, 0, 256, 1020, 0, 4092, 0, 0, 24576, 57344, 131071, 262143]
theorem spec_setPixel.tab4 : rtab .any (opsOf Try.f65 4) = spec_setPixel.T4 := by kernel_rfl
theorem spec_setPixel.bits4 : waitsOk spec_setPixel.T4.2 spec_setPixel.B4 = true := by kernel_rfl
set_option maxHeartbeats 8000000 in
set_option maxRecDepth 100000 in
theorem spec_setPixel.calls (k : Nat) (a0_0 : Int) (a0_1 : Int) (a0_2 : Int) (P0_3_ : Nat → Prop) (u9000_ : Value) (l0_3 : List Int) (a1 : Int) (a2 : Int) (A3 : Option Addr) (c3 : Nat) (l3 : List Int) (r : List Int) (w0 w : World) (hB : Below w0.heap.size w0 w) (ho0_3 : Kd.R (Kd.int .i64) 3 w w0.heap.size P0_3_ u9000_ l0_3) (hr3 : ∀ W_, Kept w W_ (fun k_ => P0_3_ k_) → Kd.C (Kd.int .i64) W_ A3 l3.length l3) (hc3 : l3.length ≤ c3) (h : spec_setPixel.f k a0_0 a0_1 a0_2 l0_3 a1 a2 l3 = some r) :
  Calls Try.prog 65 #[.agg #[.int .i64 a0_0, .int .i64 a0_1, .int .i64 a0_2, u9000_], .int .i64 a1, .int .i64 a2, .slice A3 l3.length c3] w fun e w' => e = .returned (.tuple #[]) ∧ Kd.R (Kd.int .i64) 3 w' w0.heap.size (fun k_ => (P0_3_ k_ ∨ w.heap.size ≤ k_)) u9000_ r ∧ Below w0.heap.size w0 w' ∧ Kept w w' (fun k_ => P0_3_ k_) := by
 have hu26 := Try.underlying26
 have HO0_3 := aM (show Kd.R (Kd.int .i64) 3 w w0.heap.size (fun k_ => (P0_3_ k_ ∨ w.heap.size ≤ k_)) u9000_ l0_3 from Kd.R_mono ho0_3 (fun k_ hk => (.inl hk)))
 have HR3 := aM hr3
 have HC3 := aM hc3
 clear hr3 hc3
 have HK := aM (Kept.refl w (fun k_ => P0_3_ k_))
 have HW0 := aM hB.size
 have HB := aM hB
 clear hB
 unfold spec_setPixel.f at h
 have H := h
 clear h
 have H' := aM H
 clear H
 obtain ⟨Ao5, co5, rfl⟩ := sL HO0_3
 go_enter Try.func65, Try.ntmps65
 go_wp2_with (first | ((with_reducible refine gate_dst (N := 4) rfl ?_); refine bxE (N := 4) (cs := #[.int .i64 a0_0, .int .i64 a0_1, .int .i64 a0_2, .slice Ao5 l0_3.length co5]) (t := 26) ?_; intro gb447 hg w6 hbox hb; replace HO0_3 := aM (Kd.R_below (qR HO0_3.out) hb); have BK447 := aM (hbox); have GW447 := aM ((by rw [hg]; exact (by first | exact HK.out.1 | exact (show Kept w _ (fun k_ => P0_3_ k_) from kP HK.out).1) : w.heap.size ≤ gb447)); replace HK := aM (Kept.below (S := (fun k_ => P0_3_ k_)) (kP HK.out) hb); have GE447 := aM ((by rw [hg]; exact (below_size (qW HB.out)) : w0.heap.size ≤ gb447)); replace HB := bS HB hb; clear hb hbox hg))
 go_loopg [8] k (fun kq v8 w' => ∃ (x8_1 : Int) (x448003_1 : List Int), v8 = .int .i64 x8_1 ∧ Aside0 (spec_setPixel.l0 kq a1 a2 l3 x8_1 a0_0 a0_1 a0_2 x448003_1 = some r) ∧ Aside0 (kq ≤ k) ∧ Aside0 (Kd.R (Kd.int .i64) 3 w' w0.heap.size (fun k_ => (P0_3_ k_ ∨ w.heap.size ≤ k_)) (.slice Ao5 l0_3.length co5) x448003_1) ∧ Aside0 (w'.heap[gb447]? = some (.cells #[.int .i64 a0_0, .int .i64 a0_1, .int .i64 a0_2, (.slice Ao5 l0_3.length co5)] 26 (0, 0))) ∧ Aside0 (Kept w w' (fun k_ => P0_3_ k_)) ∧ Aside0 (Below w0.heap.size w0 w'))
 case atStart => exact ⟨(0), (l0_3), qE, H', ⟨Nat.le_refl _⟩, ⟨by refine qR ?_; exact HO0_3.out⟩, ⟨by refine qB ?_; exact BK447.out⟩, ⟨kP HK.out⟩, ⟨by exact qW HB.out⟩⟩
 case round =>
  clear H'
  try clear c3
  obtain ⟨x8_1, x448003_1, rfl, HA, HK1, HO_448003, BK447, HK, HB⟩ := hrel
  have hl448003_1 := (Kd.R_reads' HO_448003.out).1
  rw [hl448003_1] at HO_448003
  (try simp only [hl448003_1])
  (try simp only [hl448003_1] at BK447)
  cases gk with
  | zero => exact absurd HA.out (by simp [spec_setPixel.l0])
  | succ k1 =>
   have H := HA.out
   clear HA
   simp only [spec_setPixel.l0] at H
   by_cases c7 : x8_1 < a0_2
   rotate_left
   ·rw [if_neg c7] at H
    have c7b0 : decide (x8_1 < a0_2) = false := decide_eq_false c7
    clear c7
    obtain rfl := Option.some.inj H
    obtain ⟨⟨hcz17_0, hcz17_1, hcz17_2, hcz17_3⟩, hfz17_0, hfz17_1, hfz17_2, hfz17_3⟩ := cf4 BK447
    go_wp2
    first | go_end0 | ((try simp only [Exit.inBlock, Exit.then]); refine bodyPost_ret (results_none rfl _ _ _) rfl ?_)
    exact ⟨qX, (by first | exact (qR HO_448003.out) | (simp only [hl448003_1]; exact (qR HO_448003.out))), by exact qW HB.out, kP HK.out⟩
   rw [if_pos c7] at H
   have c7b0 : decide (x8_1 < a0_2) = true := decide_eq_true c7
   clear c7
   replace H := iD H
   obtain ⟨c8b0, H⟩ := H
   replace H := iD H
   obtain ⟨c9b0, H⟩ := H
   obtain ⟨ji10, hji10⟩ : ∃ j_ : Int, (wrap64 ((wrap64 ((wrap64 ((wrap64 (a2 * a0_0)) + a1)) * a0_2)) + x8_1)) = j_ := ⟨_, rfl⟩
   replace H : (if 0 ≤ (ji10) then (if (ji10) < (x448003_1.length : Int) then (spec_setPixel.l0 k1 a1 a2 l3 (wrap64 (x8_1 + 1)) a0_0 a0_1 a0_2 (x448003_1.set ((ji10) : Int).toNat (rd l3 x8_1))) else (none)) else (none)) = some r := by first | (rw [hji10] at H; exact H) | (simp only [hji10] at H ⊢; exact H)
   have hji10w : (IntKind.i64.wrap ((wrap64 ((wrap64 ((wrap64 (a2 * a0_0)) + a1)) * a0_2)) + x8_1)) = ji10 := (i64_w _).trans hji10
   replace H := iD H
   obtain ⟨c11b0, H⟩ := H
   replace H := iD H
   obtain ⟨c12b0, H⟩ := H
   obtain ⟨y449, hy449⟩ : ∃ y_ : List Int, y_ = (x448003_1.set ((ji10) : Int).toNat (rd l3 x8_1)) := ⟨_, rfl⟩
   replace H : (spec_setPixel.l0 k1 a1 a2 l3 (wrap64 (x8_1 + 1)) a0_0 a0_1 a0_2 y449) = some r := rY hy449 H
   have Ny449 := aM hy449
   clear hy449
   have H' := aM H
   clear H
   obtain ⟨⟨hcz14_0, hcz14_1, hcz14_2, hcz14_3⟩, hfz14_0, hfz14_1, hfz14_2, hfz14_3⟩ := cf4 BK447
   try go_wp2
   replace HO_448003 := aM (Kd.R_drew HO_448003.out)
   replace BK447 := aM (blk_drew BK447.out)
   replace HK := aM (Kept.drew HK.out)
   replace HB := aM (below_drew1 HB.out)
   obtain ⟨ad448, e448, hx448_0⟩ := Kd.at_int (Kd.C_kept_now HR3.out HK.out) x8_1 oD oD
   have hw448_0 := hx448_0
   cases e448
   have p448 := eq_true (oD : 0 ≤ (x8_1 : Int))
   have q448 := eq_true (oD : x8_1 < (l3.length : Int))
   have p13 : 0 ≤ ((ji10) : Int) := oD
   have q13 : ((ji10) : Int) < ((x448003_1.length : Int) : Int) := oD
   obtain ⟨go13, co13, eo13, gb13, gl13, cl13, HG13⟩ := Kd.R_form HO_448003.out (by omega)
   (first | cases eo13 | (injection eo13 with ea_ en_ ec_; (first | subst ea_ | (injection ea_ with ea_; subst ea_)); subst ec_; clear en_))
   have GB13 := aM gb13
   have GG13 := aM HG13
   clear gb13 gl13 HG13
   have HMgo13 := aM (show (P0_3_ go13 ∨ w.heap.size ≤ go13) from (HO_448003.out.1 _ rfl))
   obtain ⟨hx13_0, hf13_0⟩ := Kd.R_celln 0 HO_448003.out ((ji10) : Int) p13 q13
   replace p13 := eq_true p13
   replace q13 := eq_true q13
   have HP16 := Kd.R_putn HO_448003.out ((ji10) : Int) (rd l3 x8_1)
   rw [← Ny449.out] at HP16
   have HQ16 := aM HP16
   clear HP16
   refine start_ (n := 19) (S := fun w' => w'.cell? ⟨gb447, 0, none⟩ = some (.int .i64 a0_0) ∧ w'.cell? ⟨gb447, 1, none⟩ = some (.int .i64 a0_1) ∧ w'.cell? ⟨gb447, 2, none⟩ = some (.int .i64 a0_2) ∧ w'.cell? ⟨gb447, 3, none⟩ = some (.slice (some ⟨go13, 0, none⟩) x448003_1.length co5) ∧ w'.cell? (ad448.add (x8_1).toNat) = some (.int .i64 (rd l3 x8_1))) (ds := [18]) (bA 19 0) (by kernel_rfl) rfl rfl ⟨(blk_cell BK447.out 0).trans rfl, (blk_cell BK447.out 1).trans rfl, (blk_cell BK447.out 2).trans rfl, (blk_cell BK447.out 3).trans rfl, (Kd.foot_int (HR3.out _ (by repeat (first | exact HK.out | apply Kept.alloc | apply Kept.drewN | apply Kept.drew | refine Kept.setCell ?_ HMgo13.out _))) x8_1 (of_eq_true p448) (of_eq_true q448))⟩ (fun hHeld => ?_); refine with_tabW spec_setPixel.tab4 spec_setPixel.bits4 (fun HT_ HW_ => ?_)
   generalize wr.drew = w15 at HO_448003 BK447 HK HB GG13 HQ16 hf13_0 hx13_0 hx448_0 hHeld ⊢
   refine pQ 0 15 HT_ (bA 19 1) ?_
   refine pQ 2 17 HT_ (bA 19 5) ?_
   refine pQ 3 18 HT_ (bA 19 13) ?_
   refine pQ 6 21 HT_ (bA 19 77) ?_
   refine pQ 8 23 HT_ (bA 19 333) ?_
   refine pQ 11 26 HT_ (bA 19 2381) ?_
   refine pQ 13 28 HT_ (bA 19 10573) ?_
   refine pQ 14 29 HT_ (bA 19 26957) ?_
   refine pQ 15 30 HT_ (bA 19 59725) ?_
   refine take_ (i := 1) (N := some 16) (v := ?_) (a' := ?_) (bA 19 59727) rfl rfl (take_ofW HT_.out HW_.out (by kernel_rfl)) (fun _ _ _ h => h) (Or.inl ⟨by rfl, ?_⟩) hHeld ?_ ?_
   rotate_left
   ·rintro w' ⟨s0, s1, s2, s3, s4⟩
    go_simp
    with_reducible rfl
   rotate_left
   ·refine pZ ?_
    rfl
   refine take_ (i := 4) (N := some 19) (v := ?_) (a' := ?_) (bA 19 59743) rfl rfl (take_ofW HT_.out HW_.out (by kernel_rfl)) (fun _ _ _ h => h) (Or.inl ⟨by rfl, ?_⟩) hHeld ?_ ?_
   rotate_left
   ·rintro w' ⟨s0, s1, s2, s3, s4⟩
    go_simp
    with_reducible rfl
   rotate_left
   ·refine pZ ?_
    rfl
   refine pQ 5 20 HT_ (bA 19 59775) ?_
   refine pQ 7 22 HT_ (bA 19 59903) ?_
   refine take_ (i := 9) (N := some 24) (v := ?_) (a' := ?_) (bA 19 60415) rfl rfl (take_ofW HT_.out HW_.out (by kernel_rfl)) (fun _ _ _ h => h) (Or.inl ⟨by rfl, ?_⟩) hHeld ?_ ?_
   rotate_left
   ·rintro w' ⟨s0, s1, s2, s3, s4⟩
    go_simp
    with_reducible rfl
   rotate_left
   ·refine pZ ?_
    rfl
   refine pQ 10 25 HT_ (bA 19 61439) ?_
   refine pQ 12 27 HT_ (bA 19 65535) ?_
   refine take_ (i := 16) (N := some 31) (v := ?_) (a' := ?_) (bA 19 131071) rfl rfl (take_ofW HT_.out HW_.out (by kernel_rfl)) (fun _ _ _ h => h) (Or.inl ⟨by rfl, ?_⟩) hHeld ?_ ?_
   rotate_left
   ·rintro w' ⟨s0, s1, s2, s3, s4⟩
    go_simp
    with_reducible rfl
   rotate_left
   ·refine pZ ?_
    rfl
   refine pQ 17 32 HT_ (bA 19 262143) ?_
   refine last_ (i := 18) (N := none) (bA 19 524287) rfl rfl (one_of HT_.out (by kernel_rfl)) (by decide) (fun K hK => ?_)
   refine skip_ (w1 := ?_) (by rfl) rfl ?_ ?_
   rotate_left
   ·go_simp
    rfl
   refine hK.out _ _ ?_
   clear hK K
   refine done_ (done_of HT_.out (by kernel_rfl)) ?_
   try go_wp2
   (try simp only [← hl448003_1])
   go_roundg k1
   case measure => have := HK1.out; omega
   case rel => exact ⟨(wrap64 (x8_1 + 1)), (y449), qE, H', ⟨by have := HK1.out; omega⟩, ⟨by (try simp only [hl448003_1]); refine qR ?_; exact HQ16.out⟩, ⟨by (try simp only [hl448003_1]); refine qB ?_; refine blk_far ?_ (by have h_ := Kd.R_ne HO_448003.out BK447.out (by decide); intro e_; exact h_ (by rw [e_]; rfl)) _; refine qB ?_; exact BK447.out⟩, ⟨by repeat (first | (with_reducible first | exact HK.out | apply Kept.alloc | apply Kept.drewN | apply Kept.drew | refine Kept.setCell ?_ HMgo13.out _ | refine Kept.setCell ?_ (.inr GW447.out) _) | exact HK.out)⟩, ⟨by exact qW HB.out⟩⟩
def spec_pixelAt.f (a0_0 : Int) (a0_1 : Int) (a0_2 : Int) (l0_3 : List Int) (a1 : Int) (a2 : Int) : Option (List Int) := if 0 ≤ (wrap64 ((wrap64 ((wrap64 (a2 * a0_0)) + a1)) * a0_2)) then (if (wrap64 ((wrap64 ((wrap64 (a2 * a0_0)) + a1)) * a0_2)) ≤ (wrap64 ((wrap64 ((wrap64 ((wrap64 (a2 * a0_0)) + a1)) * a0_2)) + a0_2)) then (if (wrap64 ((wrap64 ((wrap64 ((wrap64 (a2 * a0_0)) + a1)) * a0_2)) + a0_2)) ≤ (l0_3.length : Int) then ((spec_copyInts.f ((l0_3.take ((wrap64 ((wrap64 ((wrap64 ((wrap64 (a2 * a0_0)) + a1)) * a0_2)) + a0_2)) : Int).toNat).drop ((wrap64 ((wrap64 ((wrap64 (a2 * a0_0)) + a1)) * a0_2)) : Int).toNat)).bind fun t458 => (some t458)) else (none)) else (none)) else (none)
set_option maxHeartbeats 8000000 in
set_option maxRecDepth 100000 in
theorem spec_pixelAt.calls (a0_0 : Int) (a0_1 : Int) (a0_2 : Int) (A0_3 : Option Addr) (c0_3 : Nat) (l0_3 : List Int) (a1 : Int) (a2 : Int) (r : List Int) (w : World) (hr0_3 : Kd.C (Kd.int .i64) w A0_3 l0_3.length l0_3) (hc0_3 : l0_3.length ≤ c0_3) (h : spec_pixelAt.f a0_0 a0_1 a0_2 l0_3 a1 a2 = some r) :
  Calls Try.prog 66 #[.agg #[.int .i64 a0_0, .int .i64 a0_1, .int .i64 a0_2, .slice A0_3 l0_3.length c0_3], .int .i64 a1, .int .i64 a2] w fun e w' => ∃ v0_ : Value, e = .returned (v0_) ∧ Kd.R (Kd.int .i64) 3 w' w.heap.size (fun _ => True) v0_ r ∧ Below w.heap.size w w' := by
 have hu26 := Try.underlying26
 have HR0_3 := aM hr0_3
 have HC0_3 := aM hc0_3
 clear hr0_3 hc0_3
 have HB := aM (Below.refl w.heap.size w)
 unfold spec_pixelAt.f at h
 have H := h
 clear h
 obtain ⟨ji4, hji4⟩ : ∃ j_ : Int, (wrap64 ((wrap64 ((wrap64 (a2 * a0_0)) + a1)) * a0_2)) = j_ := ⟨_, rfl⟩
 replace H : (if 0 ≤ (ji4) then (if (ji4) ≤ (wrap64 ((ji4) + a0_2)) then (if (wrap64 ((ji4) + a0_2)) ≤ (l0_3.length : Int) then ((spec_copyInts.f ((l0_3.take ((wrap64 ((ji4) + a0_2)) : Int).toNat).drop ((ji4) : Int).toNat)).bind fun t458 => (some t458)) else (none)) else (none)) else (none)) = some r := by first | (rw [hji4] at H; exact H) | (simp only [hji4] at H ⊢; exact H)
 have hji4w : (IntKind.i64.wrap ((wrap64 ((wrap64 (a2 * a0_0)) + a1)) * a0_2)) = ji4 := (i64_w _).trans hji4
 replace H := iS H
 obtain ⟨c5, H⟩ := H
 have c5b0 := eq_true c5
 have c5b1 : decide (0 ≤ (ji4)) = true := decide_eq_true c5
 clear c5
 replace H := iS H
 obtain ⟨c6, H⟩ := H
 have c6b0 := eq_true c6
 have c6b1 : decide ((ji4) ≤ (wrap64 ((ji4) + a0_2))) = true := decide_eq_true c6
 replace H := iS H
 obtain ⟨c7, H⟩ := H
 have c7b0 := eq_true c7
 have c7b1 : decide ((wrap64 ((ji4) + a0_2)) ≤ (l0_3.length : Int)) = true := decide_eq_true c7
 replace H := Option.bind_eq_some_iff.mp H
 obtain ⟨t458, A80, H⟩ := H
 replace H : (some t458) = some r := H
 have A8 := aM A80
 clear A80
 obtain rfl := Option.some.inj H
 go_enter Try.func66, Try.ntmps66
 go_wp2_with (first | ((with_reducible refine gate_dst (N := 3) rfl ?_); refine bxE (N := 3) (cs := #[.int .i64 a0_0, .int .i64 a0_1, .int .i64 a0_2, .slice A0_3 l0_3.length c0_3]) (t := 26) ?_; intro gb456 hg w9 hbox hb; have BK456 := aM (hbox); have GW456 := gW hg HB; have GE456 := gW hg HB; replace HB := bS HB hb; clear hb hbox hg; obtain ⟨⟨hcz10_0, hcz10_1, hcz10_2, hcz10_3⟩, hfz10_0, hfz10_1, hfz10_2, hfz10_3⟩ := cf4 BK456; obtain ⟨i011, hi011, _, hsz11, _⟩ := info_parts info3; obtain ⟨A11, hcut11, hA11, hC11⟩ := print_mid_of (P := Try.prog) (Value.int .i64) 0 22 3 .i64 .i64 Try.underlying22 hi011 hsz11 A0_3 c0_3 l0_3 (ji4) (wrap64 ((ji4) + a0_2)) oD (by first | omega | exact oD) oD HC0_3.out; have HR457 := aM (Kd.C_of_reads (h1 := fun _ => rfl) (hA11 _ (Kd.reads_of_C HR0_3.out))); have HC457 := aM hC11; clear hA11 hC11 hi011 hsz11) | ((with_reducible refine gate_callee (f := 85) rfl ?_); refine goesL_ (some 25) rfl rfl Try.func85 (by kernel_rfl) rfl #[.slice A11 ((l0_3.take ((wrap64 ((ji4) + a0_2)) : Int).toNat).drop ((ji4) : Int).toNat).length (c0_3 - (ji4).toNat)] rfl (by (try simp only [List.map_toArray, List.map_cons, List.map_nil]); first | done | (rw [show ((l0_3.take ((wrap64 ((ji4) + a0_2)) : Int).toNat).drop ((ji4) : Int).toNat).length = ((wrap64 ((ji4) + a0_2)).toNat - (ji4).toNat) from (by rw [List.length_drop, List.length_take]; have h_ : ((wrap64 ((ji4) + a0_2)) : Int) ≤ (l0_3.length : Int) := oD; omega)] <;> rfl) | (simp only [hji4]; rfl) | rfl | (simp only [List.length_drop, List.length_take]; rfl)) ?_; (with_reducible refine (spec_copyInts.calls _ _ ((l0_3.take ((wrap64 ((ji4) + a0_2)) : Int).toNat).drop ((ji4) : Int).toNat) t458 _ ?side1 ?side2 A8.out).mono ?_); (case side1 => exact qC (Kd.C_below HR457.out HB.out)); (case side2 => exact HC457.out); rintro e w12 ⟨v459, rfl, ho0, hb⟩; refine ⟨_, rfl, ?_⟩; have HO460 := oR ho0 HB; replace BK456 := bB BK456 hb; replace HB := bS HB hb; clear hb ho0))
 go_ret
 exact ⟨_, by first | rfl | (simp [errW_none, errW_some] <;> rfl) | (simp only [← hji4]; first | rfl | (simp [errW_none, errW_some] <;> rfl)) | (simp [*, errW_none, errW_some] <;> rfl), by refine qR ?_; exact HO460.out, by exact qW HB.out⟩
def impl_ScaleArea.f (a0_0 : Int) (a0_1 : Int) (a0_2 : Int) (l0_3 : List Int) (a1 : Int) (a2 : Int) : Option (Int × Int × Int × List Int) := (impl_isImage.f a0_0 a0_1 a0_2 l0_3).bind fun t0 => (if t0 = true then ((impl_isSide.f a1).bind fun t1 => (if t1 = true then ((impl_isSide.f a2).bind fun t2 => (if t2 = true then (some (a1, a2, a0_2, imgOf (areaPix l0_3 a0_0 a0_1 a0_2 a1 a2) a1.toNat a2.toNat)) else (some (0, 0, 0, ([] : List Int))))) else (some (0, 0, 0, ([] : List Int))))) else (some (0, 0, 0, ([] : List Int))))
set_option maxHeartbeats 8000000 in
set_option maxRecDepth 100000 in
theorem impl_ScaleArea.calls (a0_0 : Int) (a0_1 : Int) (a0_2 : Int) (A0_3 : Option Addr) (c0_3 : Nat) (l0_3 : List Int) (a1 : Int) (a2 : Int) (r1 : Int) (r2 : Int) (r3 : Int) (r4 : List Int) (w : World) (hr0_3 : Kd.C (Kd.int .i64) w A0_3 l0_3.length l0_3) (hc0_3 : l0_3.length ≤ c0_3) (h : impl_ScaleArea.f a0_0 a0_1 a0_2 l0_3 a1 a2 = some (r1, r2, r3, r4)) :
  Calls Try.prog 31 #[.agg #[.int .i64 a0_0, .int .i64 a0_1, .int .i64 a0_2, .slice A0_3 l0_3.length c0_3], .int .i64 a1, .int .i64 a2] w fun e w' => ∃ v3_ : Value, e = .returned (.agg #[.int .i64 r1, .int .i64 r2, .int .i64 r3, v3_]) ∧ Kd.R (Kd.int .i64) 3 w' w.heap.size (fun _ => True) v3_ r4 ∧ Below w.heap.size w w' := by
 have hu26 := Try.underlying26
 have HR0 := aM hr0_3
 have HC0 := aM hc0_3
 clear hr0_3 hc0_3
 have HB := aM (Below.refl w.heap.size w)
 unfold impl_ScaleArea.f at h
 have H := h
 clear h
 replace H := Option.bind_eq_some_iff.mp H
 obtain ⟨t0, q0, H⟩ := H
 have A0 := aM q0
 clear q0
 cases t0 with
 | false =>
  rw [if_neg (show ¬ (false = true) by decide)] at H
  simp only [Option.some.injEq, Prod.mk.injEq] at H
  obtain ⟨rfl, rfl, rfl, rfl⟩ := H
  go_enter Try.func31, Try.ntmps31
  go_wp2_with (first | ((with_reducible refine gate_dst (N := 3) rfl ?_); (try (refine gate_guard (by rfl) ?_; dsimp only)); refine bxE (N := 3) (cs := #[.int .i64 a0_0, .int .i64 a0_1, .int .i64 a0_2, .slice A0_3 l0_3.length c0_3]) (t := 26) ?_; intro gm hg w473 hbox hb; have n474 := bS HB hb; have n475 := aM hbox; have n476 := aM ((by rw [hg]; exact (below_size (qW HB.out))) : w.heap.size ≤ gm); clear HB; have HB := n474; have BKgm := n475; have GEgm := n476; clear n474 n475 n476; clear hb hbox hg; have hz477 : w473.cell? ⟨gm, 0, none⟩ = some (.int .i64 a0_0) := (blk_cell BKgm.out 0).trans rfl; have hz478 : w473.cell? ⟨gm, 1, none⟩ = some (.int .i64 a0_1) := (blk_cell BKgm.out 1).trans rfl; have hz479 : w473.cell? ⟨gm, 2, none⟩ = some (.int .i64 a0_2) := (blk_cell BKgm.out 2).trans rfl; have hz480 : w473.cell? ⟨gm, 3, none⟩ = some (.slice A0_3 l0_3.length c0_3) := (blk_cell BKgm.out 3).trans rfl; have hf481 := blk_frozen BKgm.out 0; have hf482 := blk_frozen BKgm.out 1; have hf483 := blk_frozen BKgm.out 2; have hf484 := blk_frozen BKgm.out 3) | ((with_reducible refine gate_dst (N := 4) rfl ?_); (try (refine gate_guard (by rfl) ?_; dsimp only)); refine bxE (N := 4) (cs := #[.int .i64 a1]) (t := 3) ?_; intro gx hg w485 hbox hb; have n486 := bB BKgm hb; have n487 := bS HB hb; have n488 := aM hbox; have n489 := aM ((by rw [hg]; exact (below_size (qW HB.out))) : w.heap.size ≤ gx); have n490 := aM ((by rw [hg]; exact Nat.ne_of_lt (blk_lt (g := gm) (o := .cells #[.int .i64 a0_0, .int .i64 a0_1, .int .i64 a0_2, .slice A0_3 l0_3.length c0_3] 26 (0, 0)) (qB BKgm.out))) : gm ≠ gx); have n491 := aM ((by rw [hg]; exact Nat.ne_of_gt (blk_lt (g := gm) (o := .cells #[.int .i64 a0_0, .int .i64 a0_1, .int .i64 a0_2, .slice A0_3 l0_3.length c0_3] 26 (0, 0)) (qB BKgm.out))) : gx ≠ gm); clear HB BKgm; have BKgm := n486; have HB := n487; have BKgx := n488; have GEgx := n489; have NBgm_gx := n490; have NBgx_gm := n491; clear n486 n487 n488 n489 n490 n491; clear hb hbox hg; have hz492 : w485.cell? ⟨gm, 0, none⟩ = some (.int .i64 a0_0) := (blk_cell BKgm.out 0).trans rfl; have hz493 : w485.cell? ⟨gm, 1, none⟩ = some (.int .i64 a0_1) := (blk_cell BKgm.out 1).trans rfl; have hz494 : w485.cell? ⟨gm, 2, none⟩ = some (.int .i64 a0_2) := (blk_cell BKgm.out 2).trans rfl; have hz495 : w485.cell? ⟨gm, 3, none⟩ = some (.slice A0_3 l0_3.length c0_3) := (blk_cell BKgm.out 3).trans rfl; have hf496 := blk_frozen BKgm.out 0; have hf497 := blk_frozen BKgm.out 1; have hf498 := blk_frozen BKgm.out 2; have hf499 := blk_frozen BKgm.out 3; have hz500 : w485.cell? ⟨gx, 0, none⟩ = some (.int .i64 a1) := (blk_cell BKgx.out 0).trans rfl; have hf501 := blk_frozen BKgx.out 0) | ((with_reducible refine gate_dst (N := 5) rfl ?_); (try (refine gate_guard (by rfl) ?_; dsimp only)); refine bxE (N := 5) (cs := #[.int .i64 a2]) (t := 3) ?_; intro gy hg w502 hbox hb; have n503 := bB BKgm hb; have n504 := bB BKgx hb; have n505 := bS HB hb; have n506 := aM hbox; have n507 := aM ((by rw [hg]; exact (below_size (qW HB.out))) : w.heap.size ≤ gy); have n508 := aM ((by rw [hg]; exact Nat.ne_of_lt (blk_lt (g := gm) (o := .cells #[.int .i64 a0_0, .int .i64 a0_1, .int .i64 a0_2, .slice A0_3 l0_3.length c0_3] 26 (0, 0)) (qB BKgm.out))) : gm ≠ gy); have n509 := aM ((by rw [hg]; exact Nat.ne_of_gt (blk_lt (g := gm) (o := .cells #[.int .i64 a0_0, .int .i64 a0_1, .int .i64 a0_2, .slice A0_3 l0_3.length c0_3] 26 (0, 0)) (qB BKgm.out))) : gy ≠ gm); have n510 := aM ((by rw [hg]; exact Nat.ne_of_lt (blk_lt (g := gx) (o := .cells #[.int .i64 a1] 3 (0, 0)) (qB BKgx.out))) : gx ≠ gy); have n511 := aM ((by rw [hg]; exact Nat.ne_of_gt (blk_lt (g := gx) (o := .cells #[.int .i64 a1] 3 (0, 0)) (qB BKgx.out))) : gy ≠ gx); clear HB BKgm BKgx; have BKgm := n503; have BKgx := n504; have HB := n505; have BKgy := n506; have GEgy := n507; have NBgm_gy := n508; have NBgy_gm := n509; have NBgx_gy := n510; have NBgy_gx := n511; clear n503 n504 n505 n506 n507 n508 n509 n510 n511; clear hb hbox hg; have hz512 : w502.cell? ⟨gm, 0, none⟩ = some (.int .i64 a0_0) := (blk_cell BKgm.out 0).trans rfl; have hz513 : w502.cell? ⟨gm, 1, none⟩ = some (.int .i64 a0_1) := (blk_cell BKgm.out 1).trans rfl; have hz514 : w502.cell? ⟨gm, 2, none⟩ = some (.int .i64 a0_2) := (blk_cell BKgm.out 2).trans rfl; have hz515 : w502.cell? ⟨gm, 3, none⟩ = some (.slice A0_3 l0_3.length c0_3) := (blk_cell BKgm.out 3).trans rfl; have hf516 := blk_frozen BKgm.out 0; have hf517 := blk_frozen BKgm.out 1; have hf518 := blk_frozen BKgm.out 2; have hf519 := blk_frozen BKgm.out 3; have hz520 : w502.cell? ⟨gx, 0, none⟩ = some (.int .i64 a1) := (blk_cell BKgx.out 0).trans rfl; have hf521 := blk_frozen BKgx.out 0; have hz522 : w502.cell? ⟨gy, 0, none⟩ = some (.int .i64 a2) := (blk_cell BKgy.out 0).trans rfl; have hf523 := blk_frozen BKgy.out 0) | ((with_reducible refine gate_dst (N := 6) rfl ?_); (try (refine gate_guard (by rfl) ?_; dsimp only)); refine bxE (N := 6) (cs := #[.int .i64 0, .int .i64 0, .int .i64 0, .slice none 0 0]) (t := 26) ?_; intro gr hg w524 hbox hb; have n525 := bB BKgm hb; have n526 := bB BKgx hb; have n527 := bB BKgy hb; have n528 := bS HB hb; have n529 := aM hbox; have n530 := aM ((by rw [hg]; exact (below_size (qW HB.out))) : w.heap.size ≤ gr); have n531 := aM ((by rw [hg]; exact Nat.ne_of_lt (blk_lt (g := gm) (o := .cells #[.int .i64 a0_0, .int .i64 a0_1, .int .i64 a0_2, .slice A0_3 l0_3.length c0_3] 26 (0, 0)) (qB BKgm.out))) : gm ≠ gr); have n532 := aM ((by rw [hg]; exact Nat.ne_of_gt (blk_lt (g := gm) (o := .cells #[.int .i64 a0_0, .int .i64 a0_1, .int .i64 a0_2, .slice A0_3 l0_3.length c0_3] 26 (0, 0)) (qB BKgm.out))) : gr ≠ gm); have n533 := aM ((by rw [hg]; exact Nat.ne_of_lt (blk_lt (g := gx) (o := .cells #[.int .i64 a1] 3 (0, 0)) (qB BKgx.out))) : gx ≠ gr); have n534 := aM ((by rw [hg]; exact Nat.ne_of_gt (blk_lt (g := gx) (o := .cells #[.int .i64 a1] 3 (0, 0)) (qB BKgx.out))) : gr ≠ gx); have n535 := aM ((by rw [hg]; exact Nat.ne_of_lt (blk_lt (g := gy) (o := .cells #[.int .i64 a2] 3 (0, 0)) (qB BKgy.out))) : gy ≠ gr); have n536 := aM ((by rw [hg]; exact Nat.ne_of_gt (blk_lt (g := gy) (o := .cells #[.int .i64 a2] 3 (0, 0)) (qB BKgy.out))) : gr ≠ gy); clear HB BKgm BKgx BKgy; have BKgm := n525; have BKgx := n526; have BKgy := n527; have HB := n528; have BKgr := n529; have GEgr := n530; have NBgm_gr := n531; have NBgr_gm := n532; have NBgx_gr := n533; have NBgr_gx := n534; have NBgy_gr := n535; have NBgr_gy := n536; clear n525 n526 n527 n528 n529 n530 n531 n532 n533 n534 n535 n536; clear hb hbox hg; have hz537 : w524.cell? ⟨gm, 0, none⟩ = some (.int .i64 a0_0) := (blk_cell BKgm.out 0).trans rfl; have hz538 : w524.cell? ⟨gm, 1, none⟩ = some (.int .i64 a0_1) := (blk_cell BKgm.out 1).trans rfl; have hz539 : w524.cell? ⟨gm, 2, none⟩ = some (.int .i64 a0_2) := (blk_cell BKgm.out 2).trans rfl; have hz540 : w524.cell? ⟨gm, 3, none⟩ = some (.slice A0_3 l0_3.length c0_3) := (blk_cell BKgm.out 3).trans rfl; have hf541 := blk_frozen BKgm.out 0; have hf542 := blk_frozen BKgm.out 1; have hf543 := blk_frozen BKgm.out 2; have hf544 := blk_frozen BKgm.out 3; have hz545 : w524.cell? ⟨gx, 0, none⟩ = some (.int .i64 a1) := (blk_cell BKgx.out 0).trans rfl; have hf546 := blk_frozen BKgx.out 0; have hz547 : w524.cell? ⟨gy, 0, none⟩ = some (.int .i64 a2) := (blk_cell BKgy.out 0).trans rfl; have hf548 := blk_frozen BKgy.out 0; have hz549 : w524.cell? ⟨gr, 0, none⟩ = some (.int .i64 0) := (blk_cell BKgr.out 0).trans rfl; have hz550 : w524.cell? ⟨gr, 1, none⟩ = some (.int .i64 0) := (blk_cell BKgr.out 1).trans rfl; have hz551 : w524.cell? ⟨gr, 2, none⟩ = some (.int .i64 0) := (blk_cell BKgr.out 2).trans rfl; have hz552 : w524.cell? ⟨gr, 3, none⟩ = some (.slice none 0 0) := (blk_cell BKgr.out 3).trans rfl; have hf553 := blk_frozen BKgr.out 0; have hf554 := blk_frozen BKgr.out 1; have hf555 := blk_frozen BKgr.out 2; have hf556 := blk_frozen BKgr.out 3) | (go_at_call 48; (with_reducible refine (impl_isImage.calls a0_0 a0_1 a0_2 _ _ l0_3 false _ ?side1 ?side2 A0.out).mono ?_); (case side1 => exact (Kd.C_below HR0.out (qW HB.out))); (case side2 => exact HC0.out); rintro e w557 ⟨rfl, hb⟩; have n558 := bB BKgm hb; have n559 := bB BKgx hb; have n560 := bB BKgy hb; have n561 := bB BKgr hb; have n562 := bS HB hb; clear HB BKgm BKgx BKgy BKgr; have BKgm := n558; have BKgx := n559; have BKgy := n560; have BKgr := n561; have HB := n562; clear n558 n559 n560 n561 n562 hb; have hz563 : w557.cell? ⟨gm, 0, none⟩ = some (.int .i64 a0_0) := (blk_cell BKgm.out 0).trans rfl; have hz564 : w557.cell? ⟨gm, 1, none⟩ = some (.int .i64 a0_1) := (blk_cell BKgm.out 1).trans rfl; have hz565 : w557.cell? ⟨gm, 2, none⟩ = some (.int .i64 a0_2) := (blk_cell BKgm.out 2).trans rfl; have hz566 : w557.cell? ⟨gm, 3, none⟩ = some (.slice A0_3 l0_3.length c0_3) := (blk_cell BKgm.out 3).trans rfl; have hf567 := blk_frozen BKgm.out 0; have hf568 := blk_frozen BKgm.out 1; have hf569 := blk_frozen BKgm.out 2; have hf570 := blk_frozen BKgm.out 3; have hz571 : w557.cell? ⟨gx, 0, none⟩ = some (.int .i64 a1) := (blk_cell BKgx.out 0).trans rfl; have hf572 := blk_frozen BKgx.out 0; have hz573 : w557.cell? ⟨gy, 0, none⟩ = some (.int .i64 a2) := (blk_cell BKgy.out 0).trans rfl; have hf574 := blk_frozen BKgy.out 0; have hz575 : w557.cell? ⟨gr, 0, none⟩ = some (.int .i64 0) := (blk_cell BKgr.out 0).trans rfl; have hz576 : w557.cell? ⟨gr, 1, none⟩ = some (.int .i64 0) := (blk_cell BKgr.out 1).trans rfl; have hz577 : w557.cell? ⟨gr, 2, none⟩ = some (.int .i64 0) := (blk_cell BKgr.out 2).trans rfl; have hz578 : w557.cell? ⟨gr, 3, none⟩ = some (.slice none 0 0) := (blk_cell BKgr.out 3).trans rfl; have hf579 := blk_frozen BKgr.out 0; have hf580 := blk_frozen BKgr.out 1; have hf581 := blk_frozen BKgr.out 2; have hf582 := blk_frozen BKgr.out 3))
  refine bodyPost_ret (results_cell_row rfl _ _ gr 26 #[.int .i64 0, .int .i64 0, .int .i64 0, .slice none 0 0] (0, 0) _ rfl (by exact bP BKgr.out) Try.underlying26 rfl (by kernel_rfl)) rfl ?_
  exact ⟨_, by first | rfl | (simp; done), Kd.R_nil _ _ _ _ _, by exact qW HB.out⟩
 | true =>
  rw [if_pos rfl] at H
  replace H := Option.bind_eq_some_iff.mp H
  obtain ⟨t1, q1, H⟩ := H
  have A1 := aM q1
  clear q1
  cases t1 with
  | false =>
   rw [if_neg (show ¬ (false = true) by decide)] at H
   simp only [Option.some.injEq, Prod.mk.injEq] at H
   obtain ⟨rfl, rfl, rfl, rfl⟩ := H
   go_enter Try.func31, Try.ntmps31
   go_wp2_with (first | ((with_reducible refine gate_dst (N := 3) rfl ?_); (try (refine gate_guard (by rfl) ?_; dsimp only)); refine bxE (N := 3) (cs := #[.int .i64 a0_0, .int .i64 a0_1, .int .i64 a0_2, .slice A0_3 l0_3.length c0_3]) (t := 26) ?_; intro gm hg w583 hbox hb; have n584 := bS HB hb; have n585 := aM hbox; have n586 := aM ((by rw [hg]; exact (below_size (qW HB.out))) : w.heap.size ≤ gm); clear HB; have HB := n584; have BKgm := n585; have GEgm := n586; clear n584 n585 n586; clear hb hbox hg; have hz587 : w583.cell? ⟨gm, 0, none⟩ = some (.int .i64 a0_0) := (blk_cell BKgm.out 0).trans rfl; have hz588 : w583.cell? ⟨gm, 1, none⟩ = some (.int .i64 a0_1) := (blk_cell BKgm.out 1).trans rfl; have hz589 : w583.cell? ⟨gm, 2, none⟩ = some (.int .i64 a0_2) := (blk_cell BKgm.out 2).trans rfl; have hz590 : w583.cell? ⟨gm, 3, none⟩ = some (.slice A0_3 l0_3.length c0_3) := (blk_cell BKgm.out 3).trans rfl; have hf591 := blk_frozen BKgm.out 0; have hf592 := blk_frozen BKgm.out 1; have hf593 := blk_frozen BKgm.out 2; have hf594 := blk_frozen BKgm.out 3) | ((with_reducible refine gate_dst (N := 4) rfl ?_); (try (refine gate_guard (by rfl) ?_; dsimp only)); refine bxE (N := 4) (cs := #[.int .i64 a1]) (t := 3) ?_; intro gx hg w595 hbox hb; have n596 := bB BKgm hb; have n597 := bS HB hb; have n598 := aM hbox; have n599 := aM ((by rw [hg]; exact (below_size (qW HB.out))) : w.heap.size ≤ gx); have n600 := aM ((by rw [hg]; exact Nat.ne_of_lt (blk_lt (g := gm) (o := .cells #[.int .i64 a0_0, .int .i64 a0_1, .int .i64 a0_2, .slice A0_3 l0_3.length c0_3] 26 (0, 0)) (qB BKgm.out))) : gm ≠ gx); have n601 := aM ((by rw [hg]; exact Nat.ne_of_gt (blk_lt (g := gm) (o := .cells #[.int .i64 a0_0, .int .i64 a0_1, .int .i64 a0_2, .slice A0_3 l0_3.length c0_3] 26 (0, 0)) (qB BKgm.out))) : gx ≠ gm); clear HB BKgm; have BKgm := n596; have HB := n597; have BKgx := n598; have GEgx := n599; have NBgm_gx := n600; have NBgx_gm := n601; clear n596 n597 n598 n599 n600 n601; clear hb hbox hg; have hz602 : w595.cell? ⟨gm, 0, none⟩ = some (.int .i64 a0_0) := (blk_cell BKgm.out 0).trans rfl; have hz603 : w595.cell? ⟨gm, 1, none⟩ = some (.int .i64 a0_1) := (blk_cell BKgm.out 1).trans rfl; have hz604 : w595.cell? ⟨gm, 2, none⟩ = some (.int .i64 a0_2) := (blk_cell BKgm.out 2).trans rfl; have hz605 : w595.cell? ⟨gm, 3, none⟩ = some (.slice A0_3 l0_3.length c0_3) := (blk_cell BKgm.out 3).trans rfl; have hf606 := blk_frozen BKgm.out 0; have hf607 := blk_frozen BKgm.out 1; have hf608 := blk_frozen BKgm.out 2; have hf609 := blk_frozen BKgm.out 3; have hz610 : w595.cell? ⟨gx, 0, none⟩ = some (.int .i64 a1) := (blk_cell BKgx.out 0).trans rfl; have hf611 := blk_frozen BKgx.out 0) | ((with_reducible refine gate_dst (N := 5) rfl ?_); (try (refine gate_guard (by rfl) ?_; dsimp only)); refine bxE (N := 5) (cs := #[.int .i64 a2]) (t := 3) ?_; intro gy hg w612 hbox hb; have n613 := bB BKgm hb; have n614 := bB BKgx hb; have n615 := bS HB hb; have n616 := aM hbox; have n617 := aM ((by rw [hg]; exact (below_size (qW HB.out))) : w.heap.size ≤ gy); have n618 := aM ((by rw [hg]; exact Nat.ne_of_lt (blk_lt (g := gm) (o := .cells #[.int .i64 a0_0, .int .i64 a0_1, .int .i64 a0_2, .slice A0_3 l0_3.length c0_3] 26 (0, 0)) (qB BKgm.out))) : gm ≠ gy); have n619 := aM ((by rw [hg]; exact Nat.ne_of_gt (blk_lt (g := gm) (o := .cells #[.int .i64 a0_0, .int .i64 a0_1, .int .i64 a0_2, .slice A0_3 l0_3.length c0_3] 26 (0, 0)) (qB BKgm.out))) : gy ≠ gm); have n620 := aM ((by rw [hg]; exact Nat.ne_of_lt (blk_lt (g := gx) (o := .cells #[.int .i64 a1] 3 (0, 0)) (qB BKgx.out))) : gx ≠ gy); have n621 := aM ((by rw [hg]; exact Nat.ne_of_gt (blk_lt (g := gx) (o := .cells #[.int .i64 a1] 3 (0, 0)) (qB BKgx.out))) : gy ≠ gx); clear HB BKgm BKgx; have BKgm := n613; have BKgx := n614; have HB := n615; have BKgy := n616; have GEgy := n617; have NBgm_gy := n618; have NBgy_gm := n619; have NBgx_gy := n620; have NBgy_gx := n621; clear n613 n614 n615 n616 n617 n618 n619 n620 n621; clear hb hbox hg; have hz622 : w612.cell? ⟨gm, 0, none⟩ = some (.int .i64 a0_0) := (blk_cell BKgm.out 0).trans rfl; have hz623 : w612.cell? ⟨gm, 1, none⟩ = some (.int .i64 a0_1) := (blk_cell BKgm.out 1).trans rfl; have hz624 : w612.cell? ⟨gm, 2, none⟩ = some (.int .i64 a0_2) := (blk_cell BKgm.out 2).trans rfl; have hz625 : w612.cell? ⟨gm, 3, none⟩ = some (.slice A0_3 l0_3.length c0_3) := (blk_cell BKgm.out 3).trans rfl; have hf626 := blk_frozen BKgm.out 0; have hf627 := blk_frozen BKgm.out 1; have hf628 := blk_frozen BKgm.out 2; have hf629 := blk_frozen BKgm.out 3; have hz630 : w612.cell? ⟨gx, 0, none⟩ = some (.int .i64 a1) := (blk_cell BKgx.out 0).trans rfl; have hf631 := blk_frozen BKgx.out 0; have hz632 : w612.cell? ⟨gy, 0, none⟩ = some (.int .i64 a2) := (blk_cell BKgy.out 0).trans rfl; have hf633 := blk_frozen BKgy.out 0) | ((with_reducible refine gate_dst (N := 6) rfl ?_); (try (refine gate_guard (by rfl) ?_; dsimp only)); refine bxE (N := 6) (cs := #[.int .i64 0, .int .i64 0, .int .i64 0, .slice none 0 0]) (t := 26) ?_; intro gr hg w634 hbox hb; have n635 := bB BKgm hb; have n636 := bB BKgx hb; have n637 := bB BKgy hb; have n638 := bS HB hb; have n639 := aM hbox; have n640 := aM ((by rw [hg]; exact (below_size (qW HB.out))) : w.heap.size ≤ gr); have n641 := aM ((by rw [hg]; exact Nat.ne_of_lt (blk_lt (g := gm) (o := .cells #[.int .i64 a0_0, .int .i64 a0_1, .int .i64 a0_2, .slice A0_3 l0_3.length c0_3] 26 (0, 0)) (qB BKgm.out))) : gm ≠ gr); have n642 := aM ((by rw [hg]; exact Nat.ne_of_gt (blk_lt (g := gm) (o := .cells #[.int .i64 a0_0, .int .i64 a0_1, .int .i64 a0_2, .slice A0_3 l0_3.length c0_3] 26 (0, 0)) (qB BKgm.out))) : gr ≠ gm); have n643 := aM ((by rw [hg]; exact Nat.ne_of_lt (blk_lt (g := gx) (o := .cells #[.int .i64 a1] 3 (0, 0)) (qB BKgx.out))) : gx ≠ gr); have n644 := aM ((by rw [hg]; exact Nat.ne_of_gt (blk_lt (g := gx) (o := .cells #[.int .i64 a1] 3 (0, 0)) (qB BKgx.out))) : gr ≠ gx); have n645 := aM ((by rw [hg]; exact Nat.ne_of_lt (blk_lt (g := gy) (o := .cells #[.int .i64 a2] 3 (0, 0)) (qB BKgy.out))) : gy ≠ gr); have n646 := aM ((by rw [hg]; exact Nat.ne_of_gt (blk_lt (g := gy) (o := .cells #[.int .i64 a2] 3 (0, 0)) (qB BKgy.out))) : gr ≠ gy); clear HB BKgm BKgx BKgy; have BKgm := n635; have BKgx := n636; have BKgy := n637; have HB := n638; have BKgr := n639; have GEgr := n640; have NBgm_gr := n641; have NBgr_gm := n642; have NBgx_gr := n643; have NBgr_gx := n644; have NBgy_gr := n645; have NBgr_gy := n646; clear n635 n636 n637 n638 n639 n640 n641 n642 n643 n644 n645 n646; clear hb hbox hg; have hz647 : w634.cell? ⟨gm, 0, none⟩ = some (.int .i64 a0_0) := (blk_cell BKgm.out 0).trans rfl; have hz648 : w634.cell? ⟨gm, 1, none⟩ = some (.int .i64 a0_1) := (blk_cell BKgm.out 1).trans rfl; have hz649 : w634.cell? ⟨gm, 2, none⟩ = some (.int .i64 a0_2) := (blk_cell BKgm.out 2).trans rfl; have hz650 : w634.cell? ⟨gm, 3, none⟩ = some (.slice A0_3 l0_3.length c0_3) := (blk_cell BKgm.out 3).trans rfl; have hf651 := blk_frozen BKgm.out 0; have hf652 := blk_frozen BKgm.out 1; have hf653 := blk_frozen BKgm.out 2; have hf654 := blk_frozen BKgm.out 3; have hz655 : w634.cell? ⟨gx, 0, none⟩ = some (.int .i64 a1) := (blk_cell BKgx.out 0).trans rfl; have hf656 := blk_frozen BKgx.out 0; have hz657 : w634.cell? ⟨gy, 0, none⟩ = some (.int .i64 a2) := (blk_cell BKgy.out 0).trans rfl; have hf658 := blk_frozen BKgy.out 0; have hz659 : w634.cell? ⟨gr, 0, none⟩ = some (.int .i64 0) := (blk_cell BKgr.out 0).trans rfl; have hz660 : w634.cell? ⟨gr, 1, none⟩ = some (.int .i64 0) := (blk_cell BKgr.out 1).trans rfl; have hz661 : w634.cell? ⟨gr, 2, none⟩ = some (.int .i64 0) := (blk_cell BKgr.out 2).trans rfl; have hz662 : w634.cell? ⟨gr, 3, none⟩ = some (.slice none 0 0) := (blk_cell BKgr.out 3).trans rfl; have hf663 := blk_frozen BKgr.out 0; have hf664 := blk_frozen BKgr.out 1; have hf665 := blk_frozen BKgr.out 2; have hf666 := blk_frozen BKgr.out 3) | (go_at_call 48; (with_reducible refine (impl_isImage.calls a0_0 a0_1 a0_2 _ _ l0_3 true _ ?side1 ?side2 A0.out).mono ?_); (case side1 => exact (Kd.C_below HR0.out (qW HB.out))); (case side2 => exact HC0.out); rintro e w667 ⟨rfl, hb⟩; have n668 := bB BKgm hb; have n669 := bB BKgx hb; have n670 := bB BKgy hb; have n671 := bB BKgr hb; have n672 := bS HB hb; clear HB BKgm BKgx BKgy BKgr; have BKgm := n668; have BKgx := n669; have BKgy := n670; have BKgr := n671; have HB := n672; clear n668 n669 n670 n671 n672 hb; have hz673 : w667.cell? ⟨gm, 0, none⟩ = some (.int .i64 a0_0) := (blk_cell BKgm.out 0).trans rfl; have hz674 : w667.cell? ⟨gm, 1, none⟩ = some (.int .i64 a0_1) := (blk_cell BKgm.out 1).trans rfl; have hz675 : w667.cell? ⟨gm, 2, none⟩ = some (.int .i64 a0_2) := (blk_cell BKgm.out 2).trans rfl; have hz676 : w667.cell? ⟨gm, 3, none⟩ = some (.slice A0_3 l0_3.length c0_3) := (blk_cell BKgm.out 3).trans rfl; have hf677 := blk_frozen BKgm.out 0; have hf678 := blk_frozen BKgm.out 1; have hf679 := blk_frozen BKgm.out 2; have hf680 := blk_frozen BKgm.out 3; have hz681 : w667.cell? ⟨gx, 0, none⟩ = some (.int .i64 a1) := (blk_cell BKgx.out 0).trans rfl; have hf682 := blk_frozen BKgx.out 0; have hz683 : w667.cell? ⟨gy, 0, none⟩ = some (.int .i64 a2) := (blk_cell BKgy.out 0).trans rfl; have hf684 := blk_frozen BKgy.out 0; have hz685 : w667.cell? ⟨gr, 0, none⟩ = some (.int .i64 0) := (blk_cell BKgr.out 0).trans rfl; have hz686 : w667.cell? ⟨gr, 1, none⟩ = some (.int .i64 0) := (blk_cell BKgr.out 1).trans rfl; have hz687 : w667.cell? ⟨gr, 2, none⟩ = some (.int .i64 0) := (blk_cell BKgr.out 2).trans rfl; have hz688 : w667.cell? ⟨gr, 3, none⟩ = some (.slice none 0 0) := (blk_cell BKgr.out 3).trans rfl; have hf689 := blk_frozen BKgr.out 0; have hf690 := blk_frozen BKgr.out 1; have hf691 := blk_frozen BKgr.out 2; have hf692 := blk_frozen BKgr.out 3) | (go_at_call 61; (with_reducible refine (impl_isSide.calls a1 false _ A1.out).mono ?_); rintro e w' ⟨rfl, ⟨nd, rfl⟩⟩))
   refine bodyPost_ret (results_cell_row rfl _ _ gr 26 #[.int .i64 0, .int .i64 0, .int .i64 0, .slice none 0 0] (0, 0) _ rfl (by exact bP BKgr.out) Try.underlying26 rfl (by kernel_rfl)) rfl ?_
   exact ⟨_, by first | rfl | (simp; done), Kd.R_nil _ _ _ _ _, by exact qW HB.out⟩
  | true =>
   rw [if_pos rfl] at H
   replace H := Option.bind_eq_some_iff.mp H
   obtain ⟨t2, q2, H⟩ := H
   have A2 := aM q2
   clear q2
   cases t2 with
   | false =>
    rw [if_neg (show ¬ (false = true) by decide)] at H
    simp only [Option.some.injEq, Prod.mk.injEq] at H
    obtain ⟨rfl, rfl, rfl, rfl⟩ := H
    go_enter Try.func31, Try.ntmps31
    go_wp2_with (first | ((with_reducible refine gate_dst (N := 3) rfl ?_); (try (refine gate_guard (by rfl) ?_; dsimp only)); refine bxE (N := 3) (cs := #[.int .i64 a0_0, .int .i64 a0_1, .int .i64 a0_2, .slice A0_3 l0_3.length c0_3]) (t := 26) ?_; intro gm hg w694 hbox hb; have n695 := bS HB hb; have n696 := aM hbox; have n697 := aM ((by rw [hg]; exact (below_size (qW HB.out))) : w.heap.size ≤ gm); clear HB; have HB := n695; have BKgm := n696; have GEgm := n697; clear n695 n696 n697; clear hb hbox hg; have hz698 : w694.cell? ⟨gm, 0, none⟩ = some (.int .i64 a0_0) := (blk_cell BKgm.out 0).trans rfl; have hz699 : w694.cell? ⟨gm, 1, none⟩ = some (.int .i64 a0_1) := (blk_cell BKgm.out 1).trans rfl; have hz700 : w694.cell? ⟨gm, 2, none⟩ = some (.int .i64 a0_2) := (blk_cell BKgm.out 2).trans rfl; have hz701 : w694.cell? ⟨gm, 3, none⟩ = some (.slice A0_3 l0_3.length c0_3) := (blk_cell BKgm.out 3).trans rfl; have hf702 := blk_frozen BKgm.out 0; have hf703 := blk_frozen BKgm.out 1; have hf704 := blk_frozen BKgm.out 2; have hf705 := blk_frozen BKgm.out 3) | ((with_reducible refine gate_dst (N := 4) rfl ?_); (try (refine gate_guard (by rfl) ?_; dsimp only)); refine bxE (N := 4) (cs := #[.int .i64 a1]) (t := 3) ?_; intro gx hg w706 hbox hb; have n707 := bB BKgm hb; have n708 := bS HB hb; have n709 := aM hbox; have n710 := aM ((by rw [hg]; exact (below_size (qW HB.out))) : w.heap.size ≤ gx); have n711 := aM ((by rw [hg]; exact Nat.ne_of_lt (blk_lt (g := gm) (o := .cells #[.int .i64 a0_0, .int .i64 a0_1, .int .i64 a0_2, .slice A0_3 l0_3.length c0_3] 26 (0, 0)) (qB BKgm.out))) : gm ≠ gx); have n712 := aM ((by rw [hg]; exact Nat.ne_of_gt (blk_lt (g := gm) (o := .cells #[.int .i64 a0_0, .int .i64 a0_1, .int .i64 a0_2, .slice A0_3 l0_3.length c0_3] 26 (0, 0)) (qB BKgm.out))) : gx ≠ gm); clear HB BKgm; have BKgm := n707; have HB := n708; have BKgx := n709; have GEgx := n710; have NBgm_gx := n711; have NBgx_gm := n712; clear n707 n708 n709 n710 n711 n712; clear hb hbox hg; have hz713 : w706.cell? ⟨gm, 0, none⟩ = some (.int .i64 a0_0) := (blk_cell BKgm.out 0).trans rfl; have hz714 : w706.cell? ⟨gm, 1, none⟩ = some (.int .i64 a0_1) := (blk_cell BKgm.out 1).trans rfl; have hz715 : w706.cell? ⟨gm, 2, none⟩ = some (.int .i64 a0_2) := (blk_cell BKgm.out 2).trans rfl; have hz716 : w706.cell? ⟨gm, 3, none⟩ = some (.slice A0_3 l0_3.length c0_3) := (blk_cell BKgm.out 3).trans rfl; have hf717 := blk_frozen BKgm.out 0; have hf718 := blk_frozen BKgm.out 1; have hf719 := blk_frozen BKgm.out 2; have hf720 := blk_frozen BKgm.out 3; have hz721 : w706.cell? ⟨gx, 0, none⟩ = some (.int .i64 a1) := (blk_cell BKgx.out 0).trans rfl; have hf722 := blk_frozen BKgx.out 0) | ((with_reducible refine gate_dst (N := 5) rfl ?_); (try (refine gate_guard (by rfl) ?_; dsimp only)); refine bxE (N := 5) (cs := #[.int .i64 a2]) (t := 3) ?_; intro gy hg w723 hbox hb; have n724 := bB BKgm hb; have n725 := bB BKgx hb; have n726 := bS HB hb; have n727 := aM hbox; have n728 := aM ((by rw [hg]; exact (below_size (qW HB.out))) : w.heap.size ≤ gy); have n729 := aM ((by rw [hg]; exact Nat.ne_of_lt (blk_lt (g := gm) (o := .cells #[.int .i64 a0_0, .int .i64 a0_1, .int .i64 a0_2, .slice A0_3 l0_3.length c0_3] 26 (0, 0)) (qB BKgm.out))) : gm ≠ gy); have n730 := aM ((by rw [hg]; exact Nat.ne_of_gt (blk_lt (g := gm) (o := .cells #[.int .i64 a0_0, .int .i64 a0_1, .int .i64 a0_2, .slice A0_3 l0_3.length c0_3] 26 (0, 0)) (qB BKgm.out))) : gy ≠ gm); have n731 := aM ((by rw [hg]; exact Nat.ne_of_lt (blk_lt (g := gx) (o := .cells #[.int .i64 a1] 3 (0, 0)) (qB BKgx.out))) : gx ≠ gy); have n732 := aM ((by rw [hg]; exact Nat.ne_of_gt (blk_lt (g := gx) (o := .cells #[.int .i64 a1] 3 (0, 0)) (qB BKgx.out))) : gy ≠ gx); clear HB BKgm BKgx; have BKgm := n724; have BKgx := n725; have HB := n726; have BKgy := n727; have GEgy := n728; have NBgm_gy := n729; have NBgy_gm := n730; have NBgx_gy := n731; have NBgy_gx := n732; clear n724 n725 n726 n727 n728 n729 n730 n731 n732; clear hb hbox hg; have hz733 : w723.cell? ⟨gm, 0, none⟩ = some (.int .i64 a0_0) := (blk_cell BKgm.out 0).trans rfl; have hz734 : w723.cell? ⟨gm, 1, none⟩ = some (.int .i64 a0_1) := (blk_cell BKgm.out 1).trans rfl; have hz735 : w723.cell? ⟨gm, 2, none⟩ = some (.int .i64 a0_2) := (blk_cell BKgm.out 2).trans rfl; have hz736 : w723.cell? ⟨gm, 3, none⟩ = some (.slice A0_3 l0_3.length c0_3) := (blk_cell BKgm.out 3).trans rfl; have hf737 := blk_frozen BKgm.out 0; have hf738 := blk_frozen BKgm.out 1; have hf739 := blk_frozen BKgm.out 2; have hf740 := blk_frozen BKgm.out 3; have hz741 : w723.cell? ⟨gx, 0, none⟩ = some (.int .i64 a1) := (blk_cell BKgx.out 0).trans rfl; have hf742 := blk_frozen BKgx.out 0; have hz743 : w723.cell? ⟨gy, 0, none⟩ = some (.int .i64 a2) := (blk_cell BKgy.out 0).trans rfl; have hf744 := blk_frozen BKgy.out 0) | ((with_reducible refine gate_dst (N := 6) rfl ?_); (try (refine gate_guard (by rfl) ?_; dsimp only)); refine bxE (N := 6) (cs := #[.int .i64 0, .int .i64 0, .int .i64 0, .slice none 0 0]) (t := 26) ?_; intro gr hg w745 hbox hb; have n746 := bB BKgm hb; have n747 := bB BKgx hb; have n748 := bB BKgy hb; have n749 := bS HB hb; have n750 := aM hbox; have n751 := aM ((by rw [hg]; exact (below_size (qW HB.out))) : w.heap.size ≤ gr); have n752 := aM ((by rw [hg]; exact Nat.ne_of_lt (blk_lt (g := gm) (o := .cells #[.int .i64 a0_0, .int .i64 a0_1, .int .i64 a0_2, .slice A0_3 l0_3.length c0_3] 26 (0, 0)) (qB BKgm.out))) : gm ≠ gr); have n753 := aM ((by rw [hg]; exact Nat.ne_of_gt (blk_lt (g := gm) (o := .cells #[.int .i64 a0_0, .int .i64 a0_1, .int .i64 a0_2, .slice A0_3 l0_3.length c0_3] 26 (0, 0)) (qB BKgm.out))) : gr ≠ gm); have n754 := aM ((by rw [hg]; exact Nat.ne_of_lt (blk_lt (g := gx) (o := .cells #[.int .i64 a1] 3 (0, 0)) (qB BKgx.out))) : gx ≠ gr); have n755 := aM ((by rw [hg]; exact Nat.ne_of_gt (blk_lt (g := gx) (o := .cells #[.int .i64 a1] 3 (0, 0)) (qB BKgx.out))) : gr ≠ gx); have n756 := aM ((by rw [hg]; exact Nat.ne_of_lt (blk_lt (g := gy) (o := .cells #[.int .i64 a2] 3 (0, 0)) (qB BKgy.out))) : gy ≠ gr); have n757 := aM ((by rw [hg]; exact Nat.ne_of_gt (blk_lt (g := gy) (o := .cells #[.int .i64 a2] 3 (0, 0)) (qB BKgy.out))) : gr ≠ gy); clear HB BKgm BKgx BKgy; have BKgm := n746; have BKgx := n747; have BKgy := n748; have HB := n749; have BKgr := n750; have GEgr := n751; have NBgm_gr := n752; have NBgr_gm := n753; have NBgx_gr := n754; have NBgr_gx := n755; have NBgy_gr := n756; have NBgr_gy := n757; clear n746 n747 n748 n749 n750 n751 n752 n753 n754 n755 n756 n757; clear hb hbox hg; have hz758 : w745.cell? ⟨gm, 0, none⟩ = some (.int .i64 a0_0) := (blk_cell BKgm.out 0).trans rfl; have hz759 : w745.cell? ⟨gm, 1, none⟩ = some (.int .i64 a0_1) := (blk_cell BKgm.out 1).trans rfl; have hz760 : w745.cell? ⟨gm, 2, none⟩ = some (.int .i64 a0_2) := (blk_cell BKgm.out 2).trans rfl; have hz761 : w745.cell? ⟨gm, 3, none⟩ = some (.slice A0_3 l0_3.length c0_3) := (blk_cell BKgm.out 3).trans rfl; have hf762 := blk_frozen BKgm.out 0; have hf763 := blk_frozen BKgm.out 1; have hf764 := blk_frozen BKgm.out 2; have hf765 := blk_frozen BKgm.out 3; have hz766 : w745.cell? ⟨gx, 0, none⟩ = some (.int .i64 a1) := (blk_cell BKgx.out 0).trans rfl; have hf767 := blk_frozen BKgx.out 0; have hz768 : w745.cell? ⟨gy, 0, none⟩ = some (.int .i64 a2) := (blk_cell BKgy.out 0).trans rfl; have hf769 := blk_frozen BKgy.out 0; have hz770 : w745.cell? ⟨gr, 0, none⟩ = some (.int .i64 0) := (blk_cell BKgr.out 0).trans rfl; have hz771 : w745.cell? ⟨gr, 1, none⟩ = some (.int .i64 0) := (blk_cell BKgr.out 1).trans rfl; have hz772 : w745.cell? ⟨gr, 2, none⟩ = some (.int .i64 0) := (blk_cell BKgr.out 2).trans rfl; have hz773 : w745.cell? ⟨gr, 3, none⟩ = some (.slice none 0 0) := (blk_cell BKgr.out 3).trans rfl; have hf774 := blk_frozen BKgr.out 0; have hf775 := blk_frozen BKgr.out 1; have hf776 := blk_frozen BKgr.out 2; have hf777 := blk_frozen BKgr.out 3) | (go_at_call 48; (with_reducible refine (impl_isImage.calls a0_0 a0_1 a0_2 _ _ l0_3 true _ ?side1 ?side2 A0.out).mono ?_); (case side1 => exact (Kd.C_below HR0.out (qW HB.out))); (case side2 => exact HC0.out); rintro e w778 ⟨rfl, hb⟩; have n779 := bB BKgm hb; have n780 := bB BKgx hb; have n781 := bB BKgy hb; have n782 := bB BKgr hb; have n783 := bS HB hb; clear HB BKgm BKgx BKgy BKgr; have BKgm := n779; have BKgx := n780; have BKgy := n781; have BKgr := n782; have HB := n783; clear n779 n780 n781 n782 n783 hb; have hz784 : w778.cell? ⟨gm, 0, none⟩ = some (.int .i64 a0_0) := (blk_cell BKgm.out 0).trans rfl; have hz785 : w778.cell? ⟨gm, 1, none⟩ = some (.int .i64 a0_1) := (blk_cell BKgm.out 1).trans rfl; have hz786 : w778.cell? ⟨gm, 2, none⟩ = some (.int .i64 a0_2) := (blk_cell BKgm.out 2).trans rfl; have hz787 : w778.cell? ⟨gm, 3, none⟩ = some (.slice A0_3 l0_3.length c0_3) := (blk_cell BKgm.out 3).trans rfl; have hf788 := blk_frozen BKgm.out 0; have hf789 := blk_frozen BKgm.out 1; have hf790 := blk_frozen BKgm.out 2; have hf791 := blk_frozen BKgm.out 3; have hz792 : w778.cell? ⟨gx, 0, none⟩ = some (.int .i64 a1) := (blk_cell BKgx.out 0).trans rfl; have hf793 := blk_frozen BKgx.out 0; have hz794 : w778.cell? ⟨gy, 0, none⟩ = some (.int .i64 a2) := (blk_cell BKgy.out 0).trans rfl; have hf795 := blk_frozen BKgy.out 0; have hz796 : w778.cell? ⟨gr, 0, none⟩ = some (.int .i64 0) := (blk_cell BKgr.out 0).trans rfl; have hz797 : w778.cell? ⟨gr, 1, none⟩ = some (.int .i64 0) := (blk_cell BKgr.out 1).trans rfl; have hz798 : w778.cell? ⟨gr, 2, none⟩ = some (.int .i64 0) := (blk_cell BKgr.out 2).trans rfl; have hz799 : w778.cell? ⟨gr, 3, none⟩ = some (.slice none 0 0) := (blk_cell BKgr.out 3).trans rfl; have hf800 := blk_frozen BKgr.out 0; have hf801 := blk_frozen BKgr.out 1; have hf802 := blk_frozen BKgr.out 2; have hf803 := blk_frozen BKgr.out 3) | (go_at_call 61; (with_reducible refine (impl_isSide.calls a1 true _ A1.out).mono ?_); rintro e w' ⟨rfl, ⟨nd, rfl⟩⟩) | (go_at_call 61; (with_reducible refine (impl_isSide.calls a2 false _ A2.out).mono ?_); rintro e w' ⟨rfl, ⟨nd, rfl⟩⟩))
    refine bodyPost_ret (results_cell_row rfl _ _ gr 26 #[.int .i64 0, .int .i64 0, .int .i64 0, .slice none 0 0] (0, 0) _ rfl (by exact bP BKgr.out) Try.underlying26 rfl (by kernel_rfl)) rfl ?_
    exact ⟨_, by first | rfl | (simp; done), Kd.R_nil _ _ _ _ _, by exact qW HB.out⟩
   | true =>
    rw [if_pos rfl] at H
    simp only [Option.some.injEq, Prod.mk.injEq] at H
    obtain ⟨rfl, rfl, rfl, hy⟩ := H
    have HY := aM hy
    clear hy
    have V := aM (isImage_true A0.out)
    have b0 := V.out.1
    have b1 := V.out.2.1
    have b2 := V.out.2.2.1
    have s1 := isSide_true A1.out
    have s2 := isSide_true A2.out
    have HF : Aside0 (∀ x y : Int, ((areaPix l0_3 a0_0 a0_1 a0_2 a1 a2) x y).length ≤ 100) := ⟨fun _ _ => areaPix_len _ _ _ _ _ _ _ _ (by omega) (by omega)⟩
    generalize hyl : imgOf (areaPix l0_3 a0_0 a0_1 a0_2 a1 a2) a1.toNat a2.toNat = yl at HY
    have HYL := aM hyl
    clear hyl
    go_enter Try.func31, Try.ntmps31
    go_wp2_with (first | ((with_reducible refine gate_dst (N := 3) rfl ?_); (try (refine gate_guard (by rfl) ?_; dsimp only)); refine bxE (N := 3) (cs := #[.int .i64 a0_0, .int .i64 a0_1, .int .i64 a0_2, .slice A0_3 l0_3.length c0_3]) (t := 26) ?_; intro gm hg w806 hbox hb; have n807 := bS HB hb; have n808 := aM hbox; have n809 := aM ((by rw [hg]; exact (below_size (qW HB.out))) : w.heap.size ≤ gm); clear HB; have HB := n807; have BKgm := n808; have GEgm := n809; clear n807 n808 n809; clear hb hbox hg; have hz810 : w806.cell? ⟨gm, 0, none⟩ = some (.int .i64 a0_0) := (blk_cell BKgm.out 0).trans rfl; have hz811 : w806.cell? ⟨gm, 1, none⟩ = some (.int .i64 a0_1) := (blk_cell BKgm.out 1).trans rfl; have hz812 : w806.cell? ⟨gm, 2, none⟩ = some (.int .i64 a0_2) := (blk_cell BKgm.out 2).trans rfl; have hz813 : w806.cell? ⟨gm, 3, none⟩ = some (.slice A0_3 l0_3.length c0_3) := (blk_cell BKgm.out 3).trans rfl; have hf814 := blk_frozen BKgm.out 0; have hf815 := blk_frozen BKgm.out 1; have hf816 := blk_frozen BKgm.out 2; have hf817 := blk_frozen BKgm.out 3) | ((with_reducible refine gate_dst (N := 4) rfl ?_); (try (refine gate_guard (by rfl) ?_; dsimp only)); refine bxE (N := 4) (cs := #[.int .i64 a1]) (t := 3) ?_; intro gx hg w818 hbox hb; have n819 := bB BKgm hb; have n820 := bS HB hb; have n821 := aM hbox; have n822 := aM ((by rw [hg]; exact (below_size (qW HB.out))) : w.heap.size ≤ gx); have n823 := aM ((by rw [hg]; exact Nat.ne_of_lt (blk_lt (g := gm) (o := .cells #[.int .i64 a0_0, .int .i64 a0_1, .int .i64 a0_2, .slice A0_3 l0_3.length c0_3] 26 (0, 0)) (qB BKgm.out))) : gm ≠ gx); have n824 := aM ((by rw [hg]; exact Nat.ne_of_gt (blk_lt (g := gm) (o := .cells #[.int .i64 a0_0, .int .i64 a0_1, .int .i64 a0_2, .slice A0_3 l0_3.length c0_3] 26 (0, 0)) (qB BKgm.out))) : gx ≠ gm); clear HB BKgm; have BKgm := n819; have HB := n820; have BKgx := n821; have GEgx := n822; have NBgm_gx := n823; have NBgx_gm := n824; clear n819 n820 n821 n822 n823 n824; clear hb hbox hg; have hz825 : w818.cell? ⟨gm, 0, none⟩ = some (.int .i64 a0_0) := (blk_cell BKgm.out 0).trans rfl; have hz826 : w818.cell? ⟨gm, 1, none⟩ = some (.int .i64 a0_1) := (blk_cell BKgm.out 1).trans rfl; have hz827 : w818.cell? ⟨gm, 2, none⟩ = some (.int .i64 a0_2) := (blk_cell BKgm.out 2).trans rfl; have hz828 : w818.cell? ⟨gm, 3, none⟩ = some (.slice A0_3 l0_3.length c0_3) := (blk_cell BKgm.out 3).trans rfl; have hf829 := blk_frozen BKgm.out 0; have hf830 := blk_frozen BKgm.out 1; have hf831 := blk_frozen BKgm.out 2; have hf832 := blk_frozen BKgm.out 3; have hz833 : w818.cell? ⟨gx, 0, none⟩ = some (.int .i64 a1) := (blk_cell BKgx.out 0).trans rfl; have hf834 := blk_frozen BKgx.out 0) | ((with_reducible refine gate_dst (N := 5) rfl ?_); (try (refine gate_guard (by rfl) ?_; dsimp only)); refine bxE (N := 5) (cs := #[.int .i64 a2]) (t := 3) ?_; intro gy hg w835 hbox hb; have n836 := bB BKgm hb; have n837 := bB BKgx hb; have n838 := bS HB hb; have n839 := aM hbox; have n840 := aM ((by rw [hg]; exact (below_size (qW HB.out))) : w.heap.size ≤ gy); have n841 := aM ((by rw [hg]; exact Nat.ne_of_lt (blk_lt (g := gm) (o := .cells #[.int .i64 a0_0, .int .i64 a0_1, .int .i64 a0_2, .slice A0_3 l0_3.length c0_3] 26 (0, 0)) (qB BKgm.out))) : gm ≠ gy); have n842 := aM ((by rw [hg]; exact Nat.ne_of_gt (blk_lt (g := gm) (o := .cells #[.int .i64 a0_0, .int .i64 a0_1, .int .i64 a0_2, .slice A0_3 l0_3.length c0_3] 26 (0, 0)) (qB BKgm.out))) : gy ≠ gm); have n843 := aM ((by rw [hg]; exact Nat.ne_of_lt (blk_lt (g := gx) (o := .cells #[.int .i64 a1] 3 (0, 0)) (qB BKgx.out))) : gx ≠ gy); have n844 := aM ((by rw [hg]; exact Nat.ne_of_gt (blk_lt (g := gx) (o := .cells #[.int .i64 a1] 3 (0, 0)) (qB BKgx.out))) : gy ≠ gx); clear HB BKgm BKgx; have BKgm := n836; have BKgx := n837; have HB := n838; have BKgy := n839; have GEgy := n840; have NBgm_gy := n841; have NBgy_gm := n842; have NBgx_gy := n843; have NBgy_gx := n844; clear n836 n837 n838 n839 n840 n841 n842 n843 n844; clear hb hbox hg; have hz845 : w835.cell? ⟨gm, 0, none⟩ = some (.int .i64 a0_0) := (blk_cell BKgm.out 0).trans rfl; have hz846 : w835.cell? ⟨gm, 1, none⟩ = some (.int .i64 a0_1) := (blk_cell BKgm.out 1).trans rfl; have hz847 : w835.cell? ⟨gm, 2, none⟩ = some (.int .i64 a0_2) := (blk_cell BKgm.out 2).trans rfl; have hz848 : w835.cell? ⟨gm, 3, none⟩ = some (.slice A0_3 l0_3.length c0_3) := (blk_cell BKgm.out 3).trans rfl; have hf849 := blk_frozen BKgm.out 0; have hf850 := blk_frozen BKgm.out 1; have hf851 := blk_frozen BKgm.out 2; have hf852 := blk_frozen BKgm.out 3; have hz853 : w835.cell? ⟨gx, 0, none⟩ = some (.int .i64 a1) := (blk_cell BKgx.out 0).trans rfl; have hf854 := blk_frozen BKgx.out 0; have hz855 : w835.cell? ⟨gy, 0, none⟩ = some (.int .i64 a2) := (blk_cell BKgy.out 0).trans rfl; have hf856 := blk_frozen BKgy.out 0) | ((with_reducible refine gate_dst (N := 6) rfl ?_); (try (refine gate_guard (by rfl) ?_; dsimp only)); refine bxE (N := 6) (cs := #[.int .i64 0, .int .i64 0, .int .i64 0, .slice none 0 0]) (t := 26) ?_; intro gr hg w857 hbox hb; have n858 := bB BKgm hb; have n859 := bB BKgx hb; have n860 := bB BKgy hb; have n861 := bS HB hb; have n862 := aM hbox; have n863 := aM ((by rw [hg]; exact (below_size (qW HB.out))) : w.heap.size ≤ gr); have n864 := aM ((by rw [hg]; exact Nat.ne_of_lt (blk_lt (g := gm) (o := .cells #[.int .i64 a0_0, .int .i64 a0_1, .int .i64 a0_2, .slice A0_3 l0_3.length c0_3] 26 (0, 0)) (qB BKgm.out))) : gm ≠ gr); have n865 := aM ((by rw [hg]; exact Nat.ne_of_gt (blk_lt (g := gm) (o := .cells #[.int .i64 a0_0, .int .i64 a0_1, .int .i64 a0_2, .slice A0_3 l0_3.length c0_3] 26 (0, 0)) (qB BKgm.out))) : gr ≠ gm); have n866 := aM ((by rw [hg]; exact Nat.ne_of_lt (blk_lt (g := gx) (o := .cells #[.int .i64 a1] 3 (0, 0)) (qB BKgx.out))) : gx ≠ gr); have n867 := aM ((by rw [hg]; exact Nat.ne_of_gt (blk_lt (g := gx) (o := .cells #[.int .i64 a1] 3 (0, 0)) (qB BKgx.out))) : gr ≠ gx); have n868 := aM ((by rw [hg]; exact Nat.ne_of_lt (blk_lt (g := gy) (o := .cells #[.int .i64 a2] 3 (0, 0)) (qB BKgy.out))) : gy ≠ gr); have n869 := aM ((by rw [hg]; exact Nat.ne_of_gt (blk_lt (g := gy) (o := .cells #[.int .i64 a2] 3 (0, 0)) (qB BKgy.out))) : gr ≠ gy); clear HB BKgm BKgx BKgy; have BKgm := n858; have BKgx := n859; have BKgy := n860; have HB := n861; have BKgr := n862; have GEgr := n863; have NBgm_gr := n864; have NBgr_gm := n865; have NBgx_gr := n866; have NBgr_gx := n867; have NBgy_gr := n868; have NBgr_gy := n869; clear n858 n859 n860 n861 n862 n863 n864 n865 n866 n867 n868 n869; clear hb hbox hg; have hz870 : w857.cell? ⟨gm, 0, none⟩ = some (.int .i64 a0_0) := (blk_cell BKgm.out 0).trans rfl; have hz871 : w857.cell? ⟨gm, 1, none⟩ = some (.int .i64 a0_1) := (blk_cell BKgm.out 1).trans rfl; have hz872 : w857.cell? ⟨gm, 2, none⟩ = some (.int .i64 a0_2) := (blk_cell BKgm.out 2).trans rfl; have hz873 : w857.cell? ⟨gm, 3, none⟩ = some (.slice A0_3 l0_3.length c0_3) := (blk_cell BKgm.out 3).trans rfl; have hf874 := blk_frozen BKgm.out 0; have hf875 := blk_frozen BKgm.out 1; have hf876 := blk_frozen BKgm.out 2; have hf877 := blk_frozen BKgm.out 3; have hz878 : w857.cell? ⟨gx, 0, none⟩ = some (.int .i64 a1) := (blk_cell BKgx.out 0).trans rfl; have hf879 := blk_frozen BKgx.out 0; have hz880 : w857.cell? ⟨gy, 0, none⟩ = some (.int .i64 a2) := (blk_cell BKgy.out 0).trans rfl; have hf881 := blk_frozen BKgy.out 0; have hz882 : w857.cell? ⟨gr, 0, none⟩ = some (.int .i64 0) := (blk_cell BKgr.out 0).trans rfl; have hz883 : w857.cell? ⟨gr, 1, none⟩ = some (.int .i64 0) := (blk_cell BKgr.out 1).trans rfl; have hz884 : w857.cell? ⟨gr, 2, none⟩ = some (.int .i64 0) := (blk_cell BKgr.out 2).trans rfl; have hz885 : w857.cell? ⟨gr, 3, none⟩ = some (.slice none 0 0) := (blk_cell BKgr.out 3).trans rfl; have hf886 := blk_frozen BKgr.out 0; have hf887 := blk_frozen BKgr.out 1; have hf888 := blk_frozen BKgr.out 2; have hf889 := blk_frozen BKgr.out 3) | (go_at_call 48; (with_reducible refine (impl_isImage.calls a0_0 a0_1 a0_2 _ _ l0_3 true _ ?side1 ?side2 A0.out).mono ?_); (case side1 => exact (Kd.C_below HR0.out (qW HB.out))); (case side2 => exact HC0.out); rintro e w890 ⟨rfl, hb⟩; have n891 := bB BKgm hb; have n892 := bB BKgx hb; have n893 := bB BKgy hb; have n894 := bB BKgr hb; have n895 := bS HB hb; clear HB BKgm BKgx BKgy BKgr; have BKgm := n891; have BKgx := n892; have BKgy := n893; have BKgr := n894; have HB := n895; clear n891 n892 n893 n894 n895 hb; have hz896 : w890.cell? ⟨gm, 0, none⟩ = some (.int .i64 a0_0) := (blk_cell BKgm.out 0).trans rfl; have hz897 : w890.cell? ⟨gm, 1, none⟩ = some (.int .i64 a0_1) := (blk_cell BKgm.out 1).trans rfl; have hz898 : w890.cell? ⟨gm, 2, none⟩ = some (.int .i64 a0_2) := (blk_cell BKgm.out 2).trans rfl; have hz899 : w890.cell? ⟨gm, 3, none⟩ = some (.slice A0_3 l0_3.length c0_3) := (blk_cell BKgm.out 3).trans rfl; have hf900 := blk_frozen BKgm.out 0; have hf901 := blk_frozen BKgm.out 1; have hf902 := blk_frozen BKgm.out 2; have hf903 := blk_frozen BKgm.out 3; have hz904 : w890.cell? ⟨gx, 0, none⟩ = some (.int .i64 a1) := (blk_cell BKgx.out 0).trans rfl; have hf905 := blk_frozen BKgx.out 0; have hz906 : w890.cell? ⟨gy, 0, none⟩ = some (.int .i64 a2) := (blk_cell BKgy.out 0).trans rfl; have hf907 := blk_frozen BKgy.out 0; have hz908 : w890.cell? ⟨gr, 0, none⟩ = some (.int .i64 0) := (blk_cell BKgr.out 0).trans rfl; have hz909 : w890.cell? ⟨gr, 1, none⟩ = some (.int .i64 0) := (blk_cell BKgr.out 1).trans rfl; have hz910 : w890.cell? ⟨gr, 2, none⟩ = some (.int .i64 0) := (blk_cell BKgr.out 2).trans rfl; have hz911 : w890.cell? ⟨gr, 3, none⟩ = some (.slice none 0 0) := (blk_cell BKgr.out 3).trans rfl; have hf912 := blk_frozen BKgr.out 0; have hf913 := blk_frozen BKgr.out 1; have hf914 := blk_frozen BKgr.out 2; have hf915 := blk_frozen BKgr.out 3) | (go_at_call 61; (with_reducible refine (impl_isSide.calls a1 true _ A1.out).mono ?_); rintro e w' ⟨rfl, ⟨nd, rfl⟩⟩) | (go_at_call 61; (with_reducible refine (impl_isSide.calls a2 true _ A2.out).mono ?_); rintro e w' ⟨rfl, ⟨nd, rfl⟩⟩) | (go_at_call 49; refine (impl_imageBy.calls 70 #[.pointer (some ⟨gm, 0, none⟩), .pointer (some ⟨gx, 0, none⟩), .pointer (some ⟨gy, 0, none⟩)] (enters_of Try.func70 (by kernel_rfl) rfl) _ a1 a2 a0_2 _ ?b0 ?b1 ?b2 ?b3 ?bf (scaleAreaPix _ gm gx gy a0_0 a0_1 a0_2 _ _ l0_3 a1 a2 (qB BKgm.out) (qB BKgx.out) (qB BKgy.out) (Kd.C_below HR0.out (qW HB.out)) HC0.out V.out s1.1 s1.2 s2.1 s2.2)).mono ?_; (case b0 => omega); (case b1 => omega); (case b2 => omega); (case b3 => omega); (case bf => exact HF.out); rintro e w918 ⟨v3, rfl, ho, hb⟩; rw [HYL.out] at ho; have HLB := aM (below_size (qW HB.out)); obtain ⟨Ao, co, eo⟩ := Kd.R_slice ho; subst eo; have HO := aM ho; clear ho; have n920 := bB BKgm hb; have n921 := bB BKgx hb; have n922 := bB BKgy hb; have n923 := bB BKgr hb; have n924 := bS HB hb; clear HB BKgm BKgx BKgy BKgr; have BKgm := n920; have BKgx := n921; have BKgy := n922; have BKgr := n923; have HB := n924; clear n920 n921 n922 n923 n924 hb; have hz925 : w918.cell? ⟨gm, 0, none⟩ = some (.int .i64 a0_0) := (blk_cell BKgm.out 0).trans rfl; have hz926 : w918.cell? ⟨gm, 1, none⟩ = some (.int .i64 a0_1) := (blk_cell BKgm.out 1).trans rfl; have hz927 : w918.cell? ⟨gm, 2, none⟩ = some (.int .i64 a0_2) := (blk_cell BKgm.out 2).trans rfl; have hz928 : w918.cell? ⟨gm, 3, none⟩ = some (.slice A0_3 l0_3.length c0_3) := (blk_cell BKgm.out 3).trans rfl; have hf929 := blk_frozen BKgm.out 0; have hf930 := blk_frozen BKgm.out 1; have hf931 := blk_frozen BKgm.out 2; have hf932 := blk_frozen BKgm.out 3; have hz933 : w918.cell? ⟨gx, 0, none⟩ = some (.int .i64 a1) := (blk_cell BKgx.out 0).trans rfl; have hf934 := blk_frozen BKgx.out 0; have hz935 : w918.cell? ⟨gy, 0, none⟩ = some (.int .i64 a2) := (blk_cell BKgy.out 0).trans rfl; have hf936 := blk_frozen BKgy.out 0; have hz937 : w918.cell? ⟨gr, 0, none⟩ = some (.int .i64 0) := (blk_cell BKgr.out 0).trans rfl; have hz938 : w918.cell? ⟨gr, 1, none⟩ = some (.int .i64 0) := (blk_cell BKgr.out 1).trans rfl; have hz939 : w918.cell? ⟨gr, 2, none⟩ = some (.int .i64 0) := (blk_cell BKgr.out 2).trans rfl; have hz940 : w918.cell? ⟨gr, 3, none⟩ = some (.slice none 0 0) := (blk_cell BKgr.out 3).trans rfl; have hf941 := blk_frozen BKgr.out 0; have hf942 := blk_frozen BKgr.out 1; have hf943 := blk_frozen BKgr.out 2; have hf944 := blk_frozen BKgr.out 3))
    refine bodyPost_ret (results_cell_row rfl _ _ gr 26 #[.int .i64 a1, .int .i64 a2, .int .i64 a0_2, .slice Ao yl.length co] (0, 0) _ rfl (by exact bP BKgr.out) Try.underlying26 rfl (by kernel_rfl)) rfl ?_
    exact ⟨_, by first | rfl | (simp; done), by rw [← HY.out]; refine qR ?_; exact Kd.R_mono (Kd.R_far (p := ⟨gr, 3, none⟩) (Kd.R_far (p := ⟨gr, 2, none⟩) (Kd.R_far (p := ⟨gr, 1, none⟩) (Kd.R_far (p := ⟨gr, 0, none⟩) (Kd.R_types (Kd.R_lower HO.out HLB.out) BKgr.out (by decide)) (fun _ hk => hk.2) _) (fun _ hk => hk.2) _) (fun _ hk => hk.2) _) (fun _ hk => hk.2) _) (fun _ hk => trivial), by exact qW HB.out⟩
def spec_overlap.f (a0 : Int) (a1 : Int) (a2 : Int) (a3 : Int) : Option (Int) := some (mx 0 (wrap64 ((mn a1 a3) - (mx a0 a2))))
set_option maxHeartbeats 8000000 in
set_option maxRecDepth 100000 in
theorem spec_overlap.calls (a0 : Int) (a1 : Int) (a2 : Int) (a3 : Int) (r : Int) (w : World) (h : spec_overlap.f a0 a1 a2 a3 = some r) :
  Calls Try.prog 86 #[.int .i64 a0, .int .i64 a1, .int .i64 a2, .int .i64 a3] w fun e w' => e = .returned (.int .i64 r) ∧ Below w.heap.size w w' := by
 have HB := aM (Below.refl w.heap.size w)
 unfold spec_overlap.f at h
 have H := h
 clear h
 obtain ⟨ji5, hji5⟩ : ∃ j_ : Int, (mn a1 a3) = j_ := ⟨_, rfl⟩
 replace H : (some (mx 0 (wrap64 ((ji5) - (mx a0 a2))))) = some r := by first | (rw [hji5] at H; exact H) | (simp only [hji5] at H ⊢; exact H)
 have hji5_ : (if a3 < a1 then a3 else a1) = ji5 := hji5
 obtain ⟨ji6, hji6⟩ : ∃ j_ : Int, (mx a0 a2) = j_ := ⟨_, rfl⟩
 replace H : (some (mx 0 (wrap64 ((ji5) - (ji6))))) = some r := by first | (rw [hji6] at H; exact H) | (simp only [hji6] at H ⊢; exact H)
 have hji6_ : (if a0 < a2 then a2 else a0) = ji6 := hji6
 obtain ⟨ji7, hji7⟩ : ∃ j_ : Int, (mx 0 (wrap64 ((ji5) - (ji6)))) = j_ := ⟨_, rfl⟩
 replace H : (some ji7) = some r := by first | (rw [hji7] at H; exact H) | (simp only [hji7] at H ⊢; exact H)
 have hji7_ : (if 0 < (wrap64 ((ji5) - (ji6))) then (wrap64 ((ji5) - (ji6))) else 0) = ji7 := hji7
 obtain rfl := Option.some.inj H
 go_enter Try.func86, Try.ntmps86
 go_wp2
 go_ret
 exact ⟨by first | rfl | (simp [errW_none, errW_some] <;> rfl) | (simp only [← hji5, ← hji6, ← hji7]; first | rfl | (simp [errW_none, errW_some] <;> rfl)) | (simp [*, errW_none, errW_some] <;> rfl), by exact qW HB.out⟩
mutual
def spec_areaSum.l0 : Nat → Int → Int → Int → Int → Int → Int → Int → Int → Int → Int → List Int → Option (Int)
 | 0, _, _, _, _, _, _, _, _, _, _, _ => none
 | k + 1, x1, x2, x3, x4, x5, x13, x14, x683000, x683001, x683002, x683003 => if x14 < x683001 then (spec_areaSum.l1 k x1 x2 x3 x4 x5 x13 x14 0 x683000 x683001 x683002 x683003) else (some x13)
def spec_areaSum.l1 : Nat → Int → Int → Int → Int → Int → Int → Int → Int → Int → Int → Int → List Int → Option (Int)
 | 0, _, _, _, _, _, _, _, _, _, _, _, _ => none
 | k + 1, x1, x2, x3, x4, x5, x13, x14, x15, x683000, x683001, x683002, x683003 => if x15 < x683000 then ((spec_overlap.f (wrap64 (x15 * x1)) (wrap64 ((wrap64 (x15 + 1)) * x1)) (wrap64 (x3 * x683000)) (wrap64 ((wrap64 (x3 + 1)) * x683000))).bind fun t683 => ((spec_overlap.f (wrap64 (x14 * x2)) (wrap64 ((wrap64 (x14 + 1)) * x2)) (wrap64 (x4 * x683001)) (wrap64 ((wrap64 (x4 + 1)) * x683001))).bind fun t684 => (if 0 ≤ (wrap64 ((wrap64 ((wrap64 ((wrap64 (x14 * x683000)) + x15)) * x683002)) + x5)) then (if (wrap64 ((wrap64 ((wrap64 ((wrap64 (x14 * x683000)) + x15)) * x683002)) + x5)) < (x683003.length : Int) then (spec_areaSum.l1 k x1 x2 x3 x4 x5 (wrap64 (x13 + (wrap64 ((wrap64 (t683 * t684)) * (rd x683003 (wrap64 ((wrap64 ((wrap64 ((wrap64 (x14 * x683000)) + x15)) * x683002)) + x5))))))) x14 (wrap64 (x15 + 1)) x683000 x683001 x683002 x683003) else (none)) else (none)))) else (spec_areaSum.l0 k x1 x2 x3 x4 x5 x13 (wrap64 (x14 + 1)) x683000 x683001 x683002 x683003)
end
def spec_areaSum.f (k : Nat) (a0_0 : Int) (a0_1 : Int) (a0_2 : Int) (l0_3 : List Int) (a1 : Int) (a2 : Int) (a3 : Int) (a4 : Int) (a5 : Int) : Option (Int) := spec_areaSum.l0 k a1 a2 a3 a4 a5 0 0 a0_0 a0_1 a0_2 l0_3
theorem spec_areaSum.mono_l : ∀ k, (∀ y0 y1 y2 y3 y4 y5 y6 y7 y8 y9 y10, LeO (spec_areaSum.l0 k y0 y1 y2 y3 y4 y5 y6 y7 y8 y9 y10) (spec_areaSum.l0 (k + 1) y0 y1 y2 y3 y4 y5 y6 y7 y8 y9 y10)) ∧ (∀ y0 y1 y2 y3 y4 y5 y6 y7 y8 y9 y10 y11, LeO (spec_areaSum.l1 k y0 y1 y2 y3 y4 y5 y6 y7 y8 y9 y10 y11) (spec_areaSum.l1 (k + 1) y0 y1 y2 y3 y4 y5 y6 y7 y8 y9 y10 y11))
 | 0 => ⟨fun _ _ _ _ _ _ _ _ _ _ _ r h => by simp [spec_areaSum.l0] at h, fun _ _ _ _ _ _ _ _ _ _ _ _ r h => by simp [spec_areaSum.l1] at h⟩
 | k + 1 => by
  obtain ⟨ih0, ih1⟩ := spec_areaSum.mono_l k
  refine ⟨?_, ?_⟩
  all_goals intros
  all_goals first | unfold spec_areaSum.l0 | unfold spec_areaSum.l1
  all_goals repeat' first | (with_reducible first | exact ih0 _ _ _ _ _ _ _ _ _ _ _ | exact ih1 _ _ _ _ _ _ _ _ _ _ _ _ | exact lR | exact lN | refine lI ?_ ?_ | refine lB ?_ fun _ => ?_) | exact ih0 _ _ _ _ _ _ _ _ _ _ _ | exact ih1 _ _ _ _ _ _ _ _ _ _ _ _ | exact lN | refine lI ?_ ?_ | refine lB ?_ fun _ => ?_
theorem spec_areaSum.mono : ∀ a0 a1 a2 a3 a4 a5 a6 a7 a8 k, LeO (spec_areaSum.f k a0 a1 a2 a3 a4 a5 a6 a7 a8) (spec_areaSum.f (k + 1) a0 a1 a2 a3 a4 a5 a6 a7 a8) := by
 intro a0 a1 a2 a3 a4 a5 a6 a7 a8 k
 obtain ⟨ih0, ih1⟩ := spec_areaSum.mono_l k
 unfold spec_areaSum.f
 repeat' first | (with_reducible first | exact ih0 _ _ _ _ _ _ _ _ _ _ _ | exact ih1 _ _ _ _ _ _ _ _ _ _ _ _ | exact lR | exact lN | refine lI ?_ ?_ | refine lB ?_ fun _ => ?_) | exact ih0 _ _ _ _ _ _ _ _ _ _ _ | exact ih1 _ _ _ _ _ _ _ _ _ _ _ _ | exact lN | refine lI ?_ ?_ | refine lB ?_ fun _ => ?_
set_option maxHeartbeats 8000000 in
set_option maxRecDepth 100000 in
theorem spec_areaSum.calls (k : Nat) (a0_0 : Int) (a0_1 : Int) (a0_2 : Int) (A0_3 : Option Addr) (c0_3 : Nat) (l0_3 : List Int) (a1 : Int) (a2 : Int) (a3 : Int) (a4 : Int) (a5 : Int) (r : Int) (w : World) (hr0_3 : Kd.C (Kd.int .i64) w A0_3 l0_3.length l0_3) (hc0_3 : l0_3.length ≤ c0_3) (h : spec_areaSum.f k a0_0 a0_1 a0_2 l0_3 a1 a2 a3 a4 a5 = some r) :
  Calls Try.prog 72 #[.agg #[.int .i64 a0_0, .int .i64 a0_1, .int .i64 a0_2, .slice A0_3 l0_3.length c0_3], .int .i64 a1, .int .i64 a2, .int .i64 a3, .int .i64 a4, .int .i64 a5] w fun e w' => e = .returned (.int .i64 r) ∧ Below w.heap.size w w' := by
 have hu26 := Try.underlying26
 have HR0_3 := aM hr0_3
 have HC0_3 := aM hc0_3
 clear hr0_3 hc0_3
 have HB := aM (Below.refl w.heap.size w)
 unfold spec_areaSum.f at h
 have H := h
 clear h
 have H' := aM H
 clear H
 go_enter Try.func72, Try.ntmps72
 go_wp2_with (first | ((with_reducible refine gate_dst (N := 6) rfl ?_); refine bxE (N := 6) (cs := #[.int .i64 a0_0, .int .i64 a0_1, .int .i64 a0_2, .slice A0_3 l0_3.length c0_3]) (t := 26) ?_; intro gb682 hg w7 hbox hb; have BK682 := aM (hbox); have GW682 := gW hg HB; have GE682 := gW hg HB; replace HB := bS HB hb; clear hb hbox hg))
 go_loopg [13, 14] k (fun kq v13 v14 w' => ∃ (x13_1 : Int) (x14_1 : Int), v13 = .int .i64 x13_1 ∧ v14 = .int .i64 x14_1 ∧ Aside0 (spec_areaSum.l0 kq a1 a2 a3 a4 a5 x13_1 x14_1 a0_0 a0_1 a0_2 l0_3 = some r) ∧ Aside0 (kq ≤ k) ∧ Aside0 (w'.heap[gb682]? = some (.cells #[.int .i64 a0_0, .int .i64 a0_1, .int .i64 a0_2, (.slice A0_3 l0_3.length c0_3)] 26 (0, 0))) ∧ Aside0 (Below w.heap.size w w'))
 case atStart => exact ⟨(0), (0), qE, qE, H', ⟨Nat.le_refl _⟩, ⟨by refine qB ?_; exact BK682.out⟩, ⟨by exact qW HB.out⟩⟩
 case round =>
  clear H'
  obtain ⟨x13_1, x14_1, rfl, rfl, HA, HK1, BK682, HB⟩ := hrel
  cases gk with
  | zero => exact absurd HA.out (by simp [spec_areaSum.l0])
  | succ k1 =>
   have H := HA.out
   clear HA
   simp only [spec_areaSum.l0] at H
   by_cases c8 : x14_1 < a0_1
   rotate_left
   ·rw [if_neg c8] at H
    have c8b0 : decide (x14_1 < a0_1) = false := decide_eq_false c8
    clear c8
    obtain rfl := Option.some.inj H
    obtain ⟨⟨hcz22_0, hcz22_1, hcz22_2, hcz22_3⟩, hfz22_0, hfz22_1, hfz22_2, hfz22_3⟩ := cf4 BK682
    go_wp2
    go_ret
    exact ⟨qX, by exact qW HB.out⟩
   rw [if_pos c8] at H
   have c8b0 : decide (x14_1 < a0_1) = true := decide_eq_true c8
   clear c8
   have H' := aM H
   clear H
   obtain ⟨⟨hcz9_0, hcz9_1, hcz9_2, hcz9_3⟩, hfz9_0, hfz9_1, hfz9_2, hfz9_3⟩ := cf4 BK682
   go_wp2
   go_loopg [13, 15] k1 (fun kq v13 v15 w' => ∃ (x13_2 : Int) (x15_2 : Int), v13 = .int .i64 x13_2 ∧ v15 = .int .i64 x15_2 ∧ Aside0 (spec_areaSum.l1 kq a1 a2 a3 a4 a5 x13_2 x14_1 x15_2 a0_0 a0_1 a0_2 l0_3 = some r) ∧ Aside0 (kq ≤ k1) ∧ Aside0 (w'.heap[gb682]? = some (.cells #[.int .i64 a0_0, .int .i64 a0_1, .int .i64 a0_2, (.slice A0_3 l0_3.length c0_3)] 26 (0, 0))) ∧ Aside0 (Below w.heap.size w w'))
   case atStart => exact ⟨(x13_1), (0), qE, qE, H', ⟨Nat.le_refl _⟩, ⟨by refine qB ?_; exact BK682.out⟩, ⟨by exact qW HB.out⟩⟩
   case round =>
    clear H'
    try clear c8
    try clear c8b0
    try clear hcz9_0 hcz9_1 hcz9_2 hcz9_3 hfz9_0 hfz9_1 hfz9_2 hfz9_3
    obtain ⟨x13_2, x15_2, rfl, rfl, HA, HK2, BK682, HB⟩ := hrel
    cases gk with
    | zero => exact absurd HA.out (by simp [spec_areaSum.l1])
    | succ k2 =>
     have H := HA.out
     clear HA
     simp only [spec_areaSum.l1] at H
     by_cases c10 : x15_2 < a0_0
     rotate_left
     ·rw [if_neg c10] at H
      have c10b0 : decide (x15_2 < a0_0) = false := decide_eq_false c10
      clear c10
      have H' := aM H
      clear H
      obtain ⟨⟨hcz21_0, hcz21_1, hcz21_2, hcz21_3⟩, hfz21_0, hfz21_1, hfz21_2, hfz21_3⟩ := cf4 BK682
      go_wp2
      go_roundg k2
      case measure => have := HK1.out; have := HK2.out; omega
      case rel => exact ⟨(x13_2), (wrap64 (x14_1 + 1)), qE, qE, H', ⟨by have := HK1.out; have := HK2.out; omega⟩, ⟨by refine qB ?_; exact BK682.out⟩, ⟨by exact qW HB.out⟩⟩
     rw [if_pos c10] at H
     have c10b0 : decide (x15_2 < a0_0) = true := decide_eq_true c10
     clear c10
     replace H := Option.bind_eq_some_iff.mp H
     obtain ⟨t683, A110, H⟩ := H
     replace H : ((spec_overlap.f (wrap64 (x14_1 * a2)) (wrap64 ((wrap64 (x14_1 + 1)) * a2)) (wrap64 (a4 * a0_1)) (wrap64 ((wrap64 (a4 + 1)) * a0_1))).bind fun t684 => (if 0 ≤ (wrap64 ((wrap64 ((wrap64 ((wrap64 (x14_1 * a0_0)) + x15_2)) * a0_2)) + a5)) then (if (wrap64 ((wrap64 ((wrap64 ((wrap64 (x14_1 * a0_0)) + x15_2)) * a0_2)) + a5)) < (l0_3.length : Int) then (spec_areaSum.l1 k2 a1 a2 a3 a4 a5 (wrap64 (x13_2 + (wrap64 ((wrap64 (t683 * t684)) * (rd l0_3 (wrap64 ((wrap64 ((wrap64 ((wrap64 (x14_1 * a0_0)) + x15_2)) * a0_2)) + a5))))))) x14_1 (wrap64 (x15_2 + 1)) a0_0 a0_1 a0_2 l0_3) else (none)) else (none))) = some r := H
     have A11 := aM A110
     clear A110
     replace H := Option.bind_eq_some_iff.mp H
     obtain ⟨t684, A120, H⟩ := H
     replace H : (if 0 ≤ (wrap64 ((wrap64 ((wrap64 ((wrap64 (x14_1 * a0_0)) + x15_2)) * a0_2)) + a5)) then (if (wrap64 ((wrap64 ((wrap64 ((wrap64 (x14_1 * a0_0)) + x15_2)) * a0_2)) + a5)) < (l0_3.length : Int) then (spec_areaSum.l1 k2 a1 a2 a3 a4 a5 (wrap64 (x13_2 + (wrap64 ((wrap64 (t683 * t684)) * (rd l0_3 (wrap64 ((wrap64 ((wrap64 ((wrap64 (x14_1 * a0_0)) + x15_2)) * a0_2)) + a5))))))) x14_1 (wrap64 (x15_2 + 1)) a0_0 a0_1 a0_2 l0_3) else (none)) else (none)) = some r := H
     have A12 := aM A120
     clear A120
     obtain ⟨ji13, hji13⟩ : ∃ j_ : Int, (wrap64 ((wrap64 ((wrap64 ((wrap64 (x14_1 * a0_0)) + x15_2)) * a0_2)) + a5)) = j_ := ⟨_, rfl⟩
     replace H : (if 0 ≤ (ji13) then (if (ji13) < (l0_3.length : Int) then (spec_areaSum.l1 k2 a1 a2 a3 a4 a5 (wrap64 (x13_2 + (wrap64 ((wrap64 (t683 * t684)) * (rd l0_3 (ji13)))))) x14_1 (wrap64 (x15_2 + 1)) a0_0 a0_1 a0_2 l0_3) else (none)) else (none)) = some r := by first | (rw [hji13] at H; exact H) | (simp only [hji13] at H ⊢; exact H)
     (try rw [hji13] at A11)
     (try rw [hji13] at A12)
     have hji13w : (IntKind.i64.wrap ((wrap64 ((wrap64 ((wrap64 (x14_1 * a0_0)) + x15_2)) * a0_2)) + a5)) = ji13 := (i64_w _).trans hji13
     replace H := iD H
     obtain ⟨c14b0, H⟩ := H
     replace H := iD H
     obtain ⟨c15b0, H⟩ := H
     have H' := aM H
     clear H
     obtain ⟨⟨hcz16_0, hcz16_1, hcz16_2, hcz16_3⟩, hfz16_0, hfz16_1, hfz16_2, hfz16_3⟩ := cf4 BK682
     go_wp2_with (first | ((with_reducible refine gate_callee (f := 86) rfl ?_); refine gL (some 46) Try.func86 #[.int .i64 (wrap64 (x15_2 * a1)), .int .i64 (wrap64 ((wrap64 (x15_2 + 1)) * a1)), .int .i64 (wrap64 (a3 * a0_0)), .int .i64 (wrap64 ((wrap64 (a3 + 1)) * a0_0))] ?_; (with_reducible refine (spec_overlap.calls (wrap64 (x15_2 * a1)) (wrap64 ((wrap64 (x15_2 + 1)) * a1)) (wrap64 (a3 * a0_0)) (wrap64 ((wrap64 (a3 + 1)) * a0_0)) t683 _ A11.out).mono ?_); rintro e w17 ⟨rfl, hb⟩; refine ⟨_, rfl, ?_⟩; replace BK682 := bB BK682 hb; replace HB := bS HB hb; clear hb; obtain ⟨⟨hcz18_0, hcz18_1, hcz18_2, hcz18_3⟩, hfz18_0, hfz18_1, hfz18_2, hfz18_3⟩ := cf4 BK682) | ((with_reducible refine gate_callee (f := 86) rfl ?_); refine gL (some 63) Try.func86 #[.int .i64 (wrap64 (x14_1 * a2)), .int .i64 (wrap64 ((wrap64 (x14_1 + 1)) * a2)), .int .i64 (wrap64 (a4 * a0_1)), .int .i64 (wrap64 ((wrap64 (a4 + 1)) * a0_1))] ?_; (with_reducible refine (spec_overlap.calls (wrap64 (x14_1 * a2)) (wrap64 ((wrap64 (x14_1 + 1)) * a2)) (wrap64 (a4 * a0_1)) (wrap64 ((wrap64 (a4 + 1)) * a0_1)) t684 _ A12.out).mono ?_); rintro e w19 ⟨rfl, hb⟩; refine ⟨_, rfl, ?_⟩; replace BK682 := bB BK682 hb; replace HB := bS HB hb; clear hb; obtain ⟨⟨hcz20_0, hcz20_1, hcz20_2, hcz20_3⟩, hfz20_0, hfz20_1, hfz20_2, hfz20_3⟩ := cf4 BK682; have p685 : 0 ≤ ((ji13) : Int) := oD; have q685 : (ji13) < (l0_3.length : Int) := oD; obtain ⟨ad685, e685, hx685_0⟩ := Kd.at_int HR0_3.out (ji13) p685 q685; cases e685; replace hx685_0 := bD HB hx685_0; replace p685 := eq_true p685; replace q685 := eq_true q685))
     go_roundg k2
     case measure => have := HK1.out; have := HK2.out; omega
     case rel => exact ⟨(wrap64 (x13_2 + (wrap64 ((wrap64 (t683 * t684)) * (rd l0_3 (ji13)))))), (wrap64 (x15_2 + 1)), (by first | rfl | (simp; done) | (simp only [← hji13] <;> (first | rfl | simp)) | (simp [*]; done)), qE, H', ⟨by have := HK1.out; have := HK2.out; omega⟩, ⟨by refine qB ?_; exact BK682.out⟩, ⟨by exact qW HB.out⟩⟩
end Go.Proofs.Ytnamhlcdlbjcfaa.P
