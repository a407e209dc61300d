/- Contracts and row, written by a program of this place out of the translation: the call answers true and its argument reads as before, for every input; no condition. -/
import Derived.Test.YteeeedmmcdlhjaaK0
import Derived.Test.YteeeedmmcdlhjaaK1
import Derived.Test.YteeeedmmcdlhjaaK3
namespace Go.Proofs.Yteeeedmmcdlhjaa.P
open Go.RowKit Go.Proofs.YteeeedmmcdlhjaaW.PrintWords Go.Proofs.YteeeedmmcdlhjaaW.PrintLast Go.Proofs.YteeeedmmcdlhjaaW.PrintMore
attribute [local go_sem] max2_int min2_int max_two min_two max_three min_three max_four min_four   -- for this text's walks alone
set_option linter.unusedVariables false
set_option linter.unusedSimpArgs false
theorem eqInts_l (a b : List Int) (h : a.length = b.length) (hl : a.length ≤ 1000) : ∀ (d i : Nat), i + d = a.length → (∀ j, j < i → a.getD j 0 = b.getD j 0) → slices_Equal_int_int.l0 (d + 1) a b (a.length : Int) i = some (decide (a = b)) := by
 intro d
 induction d with
 | zero =>
  intro i hi hj
  rw [slices_Equal_int_int.l0, if_neg (by omega)]
  congr 1
  refine (decide_eq_true (List.ext_getElem h fun j h1 h2 => ?_)).symm
  have := hj j (by omega)
  simpa [List.getD_eq_getElem?_getD, List.getElem?_eq_getElem h1, List.getElem?_eq_getElem h2] using this
 | succ d ih =>
  intro i hi hj
  rw [slices_Equal_int_int.l0, if_pos (by omega), if_pos (by omega), if_pos (by omega), if_pos (by omega)]
  have r : ∀ l : List Int, rd l (i : Int) = l.getD i 0 := fun l => by simp [rd]
  rw [r, r]
  by_cases e : a.getD i 0 = b.getD i 0
  rotate_left
  ·rw [if_neg e, decide_eq_false fun e2 => e (by rw [e2])]
  rw [if_pos e, wrap_small (by omega) (by omega), show (i : Int) + 1 = ((i + 1 : Nat) : Int) by omega]
  refine ih (i + 1) (by omega) fun j hj2 => ?_
  by_cases e2 : j = i
  ·rw [e2]; exact e
  exact hj j (by omega)
theorem eqInts_f (a b : List Int) (hl : a.length ≤ 1000) : slices_Equal_int_int.f (a.length + 1) a b = some (decide (a = b)) := by
 unfold slices_Equal_int_int.f
 by_cases h : a.length = b.length
 rotate_left
 ·rw [if_neg (by omega), decide_eq_false fun e => h (by rw [e])]
 rw [if_pos (by omega)]
 exact eqInts_l a b h hl a.length 0 (by omega) (fun j hj => by omega)
theorem eqInts_any (a b : List Int) (hl : b.length ≤ 1000) : ∃ k, slices_Equal_int_int.f k a b = some (decide (a = b)) := by
 by_cases h : a.length = b.length
 ·exact ⟨_, eqInts_f a b (by omega)⟩
 refine ⟨0, ?_⟩
 unfold slices_Equal_int_int.f
 rw [if_neg (by omega), decide_eq_false fun e => h (by rw [e])]
theorem palTest (w : World) (B : Nat) (A : Option Addr) (c : Nat) (px : List Int) (hB : w.heap[B]? = some (.cells #[.slice A px.length c] 25 (0, 0))) (hr : Kd.C (Kd.int .i64) w A px.length px) (hc : px.length ≤ c) (hl : px.length ≤ 1000) :
  PredL 85 #[.pointer (some ⟨B, 0, none⟩)] (fun x => decide (x = px)) w := fun W A1 c1 x hb hr1 hl1 => by
 obtain ⟨k, hk⟩ := eqInts_any x px hl
 have HK := aM hk
 have hz : W.cell? ⟨B, 0, none⟩ = some (.slice A px.length c) := (blk_cell (blk_below hB hb) 0).trans rfl
 have HR := aM hr1
 have HL := aM hl1
 have HP := aM (Kd.C_below hr hb)
 have HC := aM hc
 clear hb hB hr hc hr1 hl1 hl hk
 dsimp only
 have hC := slices_Equal_int_int.calls k A1 c1 x A c px _ W HR.out HL.out HP.out HC.out HK.out
 generalize decide (x = px) = b at hC ⊢
 have HCC := aM hC
 clear hC
 go_enter Try.func85, Try.ntmps85
 go_wp2_with (go_at_call 86; refine HCC.out.mono ?_; rintro e w' ⟨rfl, ⟨q, rfl⟩⟩)
 go_ret
 exact ⟨rfl, ⟨⟨q, rfl⟩⟩⟩
def palAdd (xs : List (List Int)) (px : List Int) : List (List Int) := if (xs.any fun x => decide (x = px)) = true then xs else xs ++ [px]
def palRow (l : List Int) (a0 a2 : Int) (y : Nat) (xs : List (List Int)) : Nat → List (List Int)
 | 0 => xs
 | x + 1 => palAdd (palRow l a0 a2 y xs x) (pixOf l a0 a2 (x : Int) (y : Int))
def palAll (l : List Int) (a0 a2 : Int) : Nat → List (List Int)
 | 0 => []
 | y + 1 => palRow l a0 a2 y (palAll l a0 a2 y) a0.toNat
theorem palRow_len (l : List Int) (a0 a2 : Int) (y : Nat) (xs : List (List Int)) : ∀ x, (palRow l a0 a2 y xs x).length ≤ xs.length + x
 | 0 => Nat.le_refl _
 | x + 1 => by
  have := palRow_len l a0 a2 y xs x
  rw [palRow, palAdd]
  split
  ·omega
  ·rw [List.length_append, List.length_singleton]; omega
theorem palAll_len (l : List Int) (a0 a2 : Int) : ∀ y, (palAll l a0 a2 y).length ≤ y * a0.toNat
 | 0 => Nat.zero_le _
 | y + 1 => by
  have h1 := palAll_len l a0 a2 y
  have h2 := palRow_len l a0 a2 y (palAll l a0 a2 y) a0.toNat
  rw [palAll, Nat.succ_mul]
  omega
def impl_PaletteOf.f (a0_0 : Int) (a0_1 : Int) (a0_2 : Int) (l0_3 : List Int) : Option (List (List Int) × Bool) := (impl_isImage.f a0_0 a0_1 a0_2 l0_3).bind fun t0 => (if t0 = true then (if 16 < (palAll l0_3 a0_0 a0_2 a0_1.toNat).length then some (([] : List (List Int)), false) else some (palAll l0_3 a0_0 a0_2 a0_1.toNat, true)) else some (([] : List (List Int)), false))
set_option maxHeartbeats 8000000 in
set_option maxRecDepth 100000 in
theorem impl_PaletteOf.calls (a0_0 : Int) (a0_1 : Int) (a0_2 : Int) (A0_3 : Option Addr) (c0_3 : Nat) (l0_3 : List Int) (r1 : List (List Int)) (r2 : Bool) (w : World) (hr0_3 : Kd.C (Kd.int .i64) w A0_3 l0_3.length l0_3) (hc0_3 : l0_3.length ≤ c0_3) (h : impl_PaletteOf.f a0_0 a0_1 a0_2 l0_3 = some (r1, r2)) :
  Calls Try.prog 40 #[.agg #[.int .i64 a0_0, .int .i64 a0_1, .int .i64 a0_2, .slice A0_3 l0_3.length c0_3]] w fun e w' => ∃ v0_ : Value, e = .returned (.tuple #[v0_, .bool r2]) ∧ Kd.S (Kd.slice 3 (Kd.int .i64)) 25 w' w.heap.size (fun _ => True) v0_ r1 ∧ Below w.heap.size w w' := by
 have HR0 := aM hr0_3
 have HC0 := aM hc0_3
 clear hr0_3 hc0_3
 have HB := aM (Below.refl w.heap.size w)
 unfold impl_PaletteOf.f at h
 obtain ⟨t0, q0, H⟩ := Option.bind_eq_some_iff.mp h
 clear h
 have A0 := aM q0
 clear q0
 cases t0 with
 | false =>
  rw [if_neg (show ¬ (false = true) by decide)] at H
  simp only [Option.some.injEq, Prod.mk.injEq] at H
  obtain ⟨rfl, rfl⟩ := H
  go_enter Try.func40, Try.ntmps40
  go_wp2_with (first | ((with_reducible refine gate_dst (N := 1) rfl ?_); (try (refine gate_guard (by rfl) ?_; dsimp only)); refine bxE (N := 1) (cs := #[.int .i64 a0_0, .int .i64 a0_1, .int .i64 a0_2, .slice A0_3 l0_3.length c0_3]) (t := 27) ?_; intro gm hg w161 hbox hb; have n162 := bS HB hb; have n163 := aM hbox; have n164 := aM ((by rw [hg]; exact (below_size (qW HB.out))) : w.heap.size ≤ gm); clear HB; have HB := n162; have BKgm := n163; have GEgm := n164; clear n162 n163 n164; clear hb hbox hg; have hz165 : w161.cell? ⟨gm, 0, none⟩ = some (.int .i64 a0_0) := (blk_cell BKgm.out 0).trans rfl; have hz166 : w161.cell? ⟨gm, 1, none⟩ = some (.int .i64 a0_1) := (blk_cell BKgm.out 1).trans rfl; have hz167 : w161.cell? ⟨gm, 2, none⟩ = some (.int .i64 a0_2) := (blk_cell BKgm.out 2).trans rfl; have hz168 : w161.cell? ⟨gm, 3, none⟩ = some (.slice A0_3 l0_3.length c0_3) := (blk_cell BKgm.out 3).trans rfl; have hf169 := blk_frozen BKgm.out 0; have hf170 := blk_frozen BKgm.out 1; have hf171 := blk_frozen BKgm.out 2; have hf172 := blk_frozen BKgm.out 3) | (go_at_call 47; (with_reducible refine (impl_isImage.calls a0_0 a0_1 a0_2 _ _ l0_3 false _ ?side1 ?side2 A0.out).mono ?_); (case side1 => exact (Kd.C_below HR0.out (qW HB.out))); (case side2 => exact HC0.out); rintro e w173 ⟨rfl, hb⟩; have n174 := bB BKgm hb; have n175 := bS HB hb; clear HB BKgm; have BKgm := n174; have HB := n175; clear n174 n175 hb; have hz176 : w173.cell? ⟨gm, 0, none⟩ = some (.int .i64 a0_0) := (blk_cell BKgm.out 0).trans rfl; have hz177 : w173.cell? ⟨gm, 1, none⟩ = some (.int .i64 a0_1) := (blk_cell BKgm.out 1).trans rfl; have hz178 : w173.cell? ⟨gm, 2, none⟩ = some (.int .i64 a0_2) := (blk_cell BKgm.out 2).trans rfl; have hz179 : w173.cell? ⟨gm, 3, none⟩ = some (.slice A0_3 l0_3.length c0_3) := (blk_cell BKgm.out 3).trans rfl; have hf180 := blk_frozen BKgm.out 0; have hf181 := blk_frozen BKgm.out 1; have hf182 := blk_frozen BKgm.out 2; have hf183 := blk_frozen BKgm.out 3))
  go_ret2
  exact ⟨_, rfl, Kd.S_nil _ _ _ _ _, by exact qW HB.out⟩
 | true =>
  rw [if_pos rfl] at H
  have V := aM (isImage_true A0.out)
  have b_ := V.out
  obtain ⟨⟨v0, v0'⟩, ⟨v1, v1'⟩, ⟨v2, v2'⟩, hlen, hby⟩ := b_
  have HLN := aM hlen
  clear hlen hby
  obtain ⟨a, rfl⟩ := Int.eq_ofNat_of_zero_le (show 0 ≤ a0_0 by omega)
  obtain ⟨b, rfl⟩ := Int.eq_ofNat_of_zero_le (show 0 ≤ a0_1 by omega)
  rw [Int.toNat_natCast] at H
  have HH := aM H
  clear H
  go_enter Try.func40, Try.ntmps40
  go_wp2_with (first | ((with_reducible refine gate_dst (N := 1) rfl ?_); (try (refine gate_guard (by rfl) ?_; dsimp only)); refine bxE (N := 1) (cs := #[.int .i64 (a : Int), .int .i64 (b : Int), .int .i64 a0_2, .slice A0_3 l0_3.length c0_3]) (t := 27) ?_; intro gm hg w184 hbox hb; have n185 := bS HB hb; have n186 := aM hbox; have n187 := aM ((by rw [hg]; exact (below_size (qW HB.out))) : w.heap.size ≤ gm); clear HB; have HB := n185; have BKgm := n186; have GEgm := n187; clear n185 n186 n187; clear hb hbox hg; have hz188 : w184.cell? ⟨gm, 0, none⟩ = some (.int .i64 (a : Int)) := (blk_cell BKgm.out 0).trans rfl; have hz189 : w184.cell? ⟨gm, 1, none⟩ = some (.int .i64 (b : Int)) := (blk_cell BKgm.out 1).trans rfl; have hz190 : w184.cell? ⟨gm, 2, none⟩ = some (.int .i64 a0_2) := (blk_cell BKgm.out 2).trans rfl; have hz191 : w184.cell? ⟨gm, 3, none⟩ = some (.slice A0_3 l0_3.length c0_3) := (blk_cell BKgm.out 3).trans rfl; have hf192 := blk_frozen BKgm.out 0; have hf193 := blk_frozen BKgm.out 1; have hf194 := blk_frozen BKgm.out 2; have hf195 := blk_frozen BKgm.out 3) | (go_at_call 47; (with_reducible refine (impl_isImage.calls (a : Int) (b : Int) a0_2 _ _ l0_3 true _ ?side1 ?side2 A0.out).mono ?_); (case side1 => exact (Kd.C_below HR0.out (qW HB.out))); (case side2 => exact HC0.out); rintro e w196 ⟨rfl, hb⟩; have n197 := bB BKgm hb; have n198 := bS HB hb; clear HB BKgm; have BKgm := n197; have HB := n198; clear n197 n198 hb; have hz199 : w196.cell? ⟨gm, 0, none⟩ = some (.int .i64 (a : Int)) := (blk_cell BKgm.out 0).trans rfl; have hz200 : w196.cell? ⟨gm, 1, none⟩ = some (.int .i64 (b : Int)) := (blk_cell BKgm.out 1).trans rfl; have hz201 : w196.cell? ⟨gm, 2, none⟩ = some (.int .i64 a0_2) := (blk_cell BKgm.out 2).trans rfl; have hz202 : w196.cell? ⟨gm, 3, none⟩ = some (.slice A0_3 l0_3.length c0_3) := (blk_cell BKgm.out 3).trans rfl; have hf203 := blk_frozen BKgm.out 0; have hf204 := blk_frozen BKgm.out 1; have hf205 := blk_frozen BKgm.out 2; have hf206 := blk_frozen BKgm.out 3) | ((with_reducible refine gate_dst (N := 11) rfl ?_); refine Kd.S_lit (Kd.slice 3 (Kd.int .i64)) _ 25 ?hg (N := 11) ?hd (xs := ([] : List (List Int))) (inner := []) (ok := fun _ => True) (okp := fun _ => True) ?hr ?hp (fun _ hk => hk) trivial (Below.refl _ _) (Nat.le_refl _) (by simp) ?_; (case hd => rfl); (case hg => rfl); (case hr => first | (go_simp; done) | (go_simp; rfl)); (case hp => exact (Reps.none _ _)); intro vl w207 ho4 hb hg_ hnew_; clear hg_ hnew_; have r_ := aM (Kd.S_lower ho4 (below_size (qW HB.out))); have n208 := bB BKgm hb; have n209 := bS HB hb; clear HB BKgm; have BKgm := n208; have HB := n209; clear n208 n209 hb; have hz210 : w207.cell? ⟨gm, 0, none⟩ = some (.int .i64 (a : Int)) := (blk_cell BKgm.out 0).trans rfl; have hz211 : w207.cell? ⟨gm, 1, none⟩ = some (.int .i64 (b : Int)) := (blk_cell BKgm.out 1).trans rfl; have hz212 : w207.cell? ⟨gm, 2, none⟩ = some (.int .i64 a0_2) := (blk_cell BKgm.out 2).trans rfl; have hz213 : w207.cell? ⟨gm, 3, none⟩ = some (.slice A0_3 l0_3.length c0_3) := (blk_cell BKgm.out 3).trans rfl; have hf214 := blk_frozen BKgm.out 0; have hf215 := blk_frozen BKgm.out 1; have hf216 := blk_frozen BKgm.out 2; have hf217 := blk_frozen BKgm.out 3; have HO := r_; clear r_ ho4))
  go_loopg [4, 14] b (fun gg s4 s14 w' => ∃ (y : Nat) (u : Value), y ≤ b ∧ b - y ≤ gg ∧ s14 = .int .i64 y ∧ s4 = u ∧ Aside0 (Kd.S (Kd.slice 3 (Kd.int .i64)) 25 w' w.heap.size (fun _ => True) u (palAll l0_3 a a0_2 y)) ∧ Aside0 (w'.heap[gm]? = some (.cells #[.int .i64 (a : Int), .int .i64 (b : Int), .int .i64 a0_2, .slice A0_3 l0_3.length c0_3] 27 (0, 0))) ∧ Aside0 (Below w.heap.size w w'))
  case atStart => exact ⟨0, _, Nat.zero_le _, by omega, rfl, rfl, ⟨by (with_reducible repeat (first | apply Kd.S_alloc | apply Kd.S_drewN | apply Kd.S_drew)); exact HO.out⟩, ⟨by refine qB ?_; exact BKgm.out⟩, ⟨by exact qW HB.out⟩⟩
  case round =>
   clear HO HB BKgm
   obtain ⟨y, u, hy, hg, rfl, rfl, HO, BKgm, HB⟩ := hrel
   obtain ⟨wo, ewo⟩ : ∃ wo : World, wo = wr := ⟨_, rfl⟩
   subst ewo
   have hz218 : wo.cell? ⟨gm, 0, none⟩ = some (.int .i64 (a : Int)) := (blk_cell BKgm.out 0).trans rfl
   have hz219 : wo.cell? ⟨gm, 1, none⟩ = some (.int .i64 (b : Int)) := (blk_cell BKgm.out 1).trans rfl
   have hz220 : wo.cell? ⟨gm, 2, none⟩ = some (.int .i64 a0_2) := (blk_cell BKgm.out 2).trans rfl
   have hz221 : wo.cell? ⟨gm, 3, none⟩ = some (.slice A0_3 l0_3.length c0_3) := (blk_cell BKgm.out 3).trans rfl
   have hf222 := blk_frozen BKgm.out 0
   have hf223 := blk_frozen BKgm.out 1
   have hf224 := blk_frozen BKgm.out 2
   have hf225 := blk_frozen BKgm.out 3
   by_cases hlt : y < b
   case neg =>
    have hltz : ¬ (y : Int) < (b : Int) := by omega
    have ek : y = b := by omega
    subst ek
    obtain ⟨Au, cu, eu⟩ := Kd.S_slice HO.out
    subst eu
    have H := HH.out
    obtain ⟨xs, hxs⟩ : ∃ xs, palAll l0_3 a a0_2 y = xs := ⟨_, rfl⟩
    rw [hxs] at H HO
    rw [hxs]
    clear hxs
    by_cases k1 : 16 < xs.length
    ·rw [if_pos k1] at H
     simp only [Option.some.injEq, Prod.mk.injEq] at H
     obtain ⟨rfl, rfl⟩ := H
     have k1z : (16 : Int) < (xs.length : Int) := by omega
     go_wp2
     go_ret2
     exact ⟨_, rfl, Kd.S_nil _ _ _ _ _, by exact qW HB.out⟩
    rw [if_neg k1] at H
    simp only [Option.some.injEq, Prod.mk.injEq] at H
    obtain ⟨rfl, rfl⟩ := H
    have k1z : ¬ (16 : Int) < (xs.length : Int) := by omega
    go_wp2
    go_ret2
    exact ⟨_, rfl, by (with_reducible repeat (first | apply Kd.S_alloc | apply Kd.S_drewN | apply Kd.S_drew)); exact HO.out, by exact qW HB.out⟩
   case pos =>
    have hltz : (y : Int) < (b : Int) := by omega
    go_wp2
    go_loopg [4, 19] a (fun gg2 s4 s19 w' => ∃ (x : Nat) (u : Value), x ≤ a ∧ a - x ≤ gg2 ∧ s19 = .int .i64 x ∧ s4 = u ∧ Aside0 (Kd.S (Kd.slice 3 (Kd.int .i64)) 25 w' w.heap.size (fun _ => True) u (palRow l0_3 a a0_2 y (palAll l0_3 a a0_2 y) x)) ∧ Aside0 (w'.heap[gm]? = some (.cells #[.int .i64 (a : Int), .int .i64 (b : Int), .int .i64 a0_2, .slice A0_3 l0_3.length c0_3] 27 (0, 0))) ∧ Aside0 (Below w.heap.size w w'))
    case atStart => exact ⟨0, _, Nat.zero_le _, by omega, rfl, rfl, ⟨by (with_reducible repeat (first | apply Kd.S_alloc | apply Kd.S_drewN | apply Kd.S_drew)); exact HO.out⟩, ⟨by refine qB ?_; exact BKgm.out⟩, ⟨by exact qW HB.out⟩⟩
    case round =>
     clear HO HB BKgm
     obtain ⟨x, u, hx, hg2, rfl, rfl, HO, BKgm, HB⟩ := hrel
     have hz226 : wr.cell? ⟨gm, 0, none⟩ = some (.int .i64 (a : Int)) := (blk_cell BKgm.out 0).trans rfl
     have hz227 : wr.cell? ⟨gm, 1, none⟩ = some (.int .i64 (b : Int)) := (blk_cell BKgm.out 1).trans rfl
     have hz228 : wr.cell? ⟨gm, 2, none⟩ = some (.int .i64 a0_2) := (blk_cell BKgm.out 2).trans rfl
     have hz229 : wr.cell? ⟨gm, 3, none⟩ = some (.slice A0_3 l0_3.length c0_3) := (blk_cell BKgm.out 3).trans rfl
     have hf230 := blk_frozen BKgm.out 0
     have hf231 := blk_frozen BKgm.out 1
     have hf232 := blk_frozen BKgm.out 2
     have hf233 := blk_frozen BKgm.out 3
     by_cases hlx : x < a
     case neg =>
      have hlxz : ¬ (x : Int) < (a : Int) := by omega
      have ek : x = a := by omega
      subst ek
      go_wp2
      go_roundg (b - (y + 1))
      case measure => omega
      case rel => exact ⟨y + 1, _, by omega, by omega, by go_num, rfl, ⟨by rw [palAll, Int.toNat_natCast]; (with_reducible repeat (first | apply Kd.S_alloc | apply Kd.S_drewN | apply Kd.S_drew)); exact HO.out⟩, ⟨by refine qB ?_; exact BKgm.out⟩, ⟨by exact qW HB.out⟩⟩
     case pos =>
      have hlxz : (x : Int) < (a : Int) := by omega
      have hfit := pix_fits (a0 := a) (a1 := b) (a2 := a0_2) (x := x) (y := y) (by omega) (by omega) (by omega) (by omega) (by omega)
      rw [← HLN.out] at hfit
      have HCA := aM (fun (W' : World) (hb' : Below w.heap.size w W') => impl_at.calls2 a b a0_2 A0_3 c0_3 l0_3 x y W' (Kd.C_below HR0.out hb') HC0.out (by omega) v0' (by omega) (by omega) (by omega) (by omega) (by omega) (by omega) hfit)
      have hpl := pixOf_len l0_3 a a0_2 x y (by omega) (by omega)
      clear hfit
      obtain ⟨px, hpx⟩ : ∃ px : List Int, pixOf l0_3 a a0_2 x y = px := ⟨_, rfl⟩
      rw [hpx] at HCA hpl
      have HPL := aM hpl
      have EPX := aM hpx
      clear hpl hpx
      have HLM := aM (show (palRow l0_3 a a0_2 y (palAll l0_3 a a0_2 y) x).length ≤ 1000 by
       have h1 := palRow_len l0_3 a a0_2 y (palAll l0_3 a a0_2 y) x
       have h2 := palAll_len l0_3 a a0_2 y
       rw [Int.toNat_natCast] at h2
       have h3 : y * a ≤ 16 * 16 := Nat.mul_le_mul (by omega) (by omega)
       omega)
      obtain ⟨xs, hxs⟩ : ∃ xs : List (List Int), xs = palRow l0_3 a a0_2 y (palAll l0_3 a a0_2 y) x := ⟨_, rfl⟩
      rw [← hxs] at HO HLM
      have EXS := aM hxs
      clear hxs
      obtain ⟨Au, cu, eu⟩ := Kd.S_slice HO.out
      subst eu
      obtain ⟨bb, hbb⟩ : ∃ z : Bool, (xs.any fun z => decide (z = px)) = z := ⟨_, rfl⟩
      have HBB := aM hbb
      clear hbb
      cases bb with
      | true =>
       have HBT := HBB.out
       have CF : Aside0 (∀ W : World, True) := ⟨fun _ => trivial⟩
       clear HBT CF
       go_wp2_with (first | (go_at_call 50; refine (HCA.out _ (qW HB.out)).mono ?_; rintro e w234 ⟨A', c', rfl, hr', hl', hb, hall⟩; have r_ := aM (Kd.S_below (by (with_reducible repeat (first | apply Kd.S_alloc | apply Kd.S_drewN | apply Kd.S_drew)); exact HO.out) hb); clear HO; have HO := r_; clear r_; have HALL := aM hall; have HLC := aM hl'; clear hr' hall hl'; have n235 := bB BKgm hb; have n236 := bS HB hb; clear HB BKgm; have BKgm := n235; have HB := n236; clear n235 n236 hb; have hz237 : w234.cell? ⟨gm, 0, none⟩ = some (.int .i64 (a : Int)) := (blk_cell BKgm.out 0).trans rfl; have hz238 : w234.cell? ⟨gm, 1, none⟩ = some (.int .i64 (b : Int)) := (blk_cell BKgm.out 1).trans rfl; have hz239 : w234.cell? ⟨gm, 2, none⟩ = some (.int .i64 a0_2) := (blk_cell BKgm.out 2).trans rfl; have hz240 : w234.cell? ⟨gm, 3, none⟩ = some (.slice A0_3 l0_3.length c0_3) := (blk_cell BKgm.out 3).trans rfl; have hf241 := blk_frozen BKgm.out 0; have hf242 := blk_frozen BKgm.out 1; have hf243 := blk_frozen BKgm.out 2; have hf244 := blk_frozen BKgm.out 3) | ((with_reducible refine gate_dst (N := 7) rfl ?_); (try (refine gate_guard (by rfl) ?_; dsimp only)); refine bxE (N := 7) (cs := #[.slice none 0 0]) (t := 25) ?_; intro gp hg w245 hbox hb; have n246 := bB BKgm hb; have n247 := bS HB hb; have n248 := aM hbox; have n249 := aM ((by rw [hg]; exact (below_size (qW HB.out))) : w.heap.size ≤ gp); have n250 := aM ((by rw [hg]; exact Nat.ne_of_lt (blk_lt (g := gm) (o := .cells #[.int .i64 (a : Int), .int .i64 (b : Int), .int .i64 a0_2, .slice A0_3 l0_3.length c0_3] 27 (0, 0)) (qB BKgm.out))) : gm ≠ gp); have n251 := aM ((by rw [hg]; exact Nat.ne_of_gt (blk_lt (g := gm) (o := .cells #[.int .i64 (a : Int), .int .i64 (b : Int), .int .i64 a0_2, .slice A0_3 l0_3.length c0_3] 27 (0, 0)) (qB BKgm.out))) : gp ≠ gm); have r_ := aM (Kd.S_below (Kd.S_elderB (by (with_reducible repeat (first | apply Kd.S_alloc | apply Kd.S_drewN | apply Kd.S_drew)); exact HO.out) gp (Nat.le_of_eq hg.symm)) hb); clear HO; have HO := r_; clear r_; clear HB BKgm; have BKgm := n246; have HB := n247; have BKgp := n248; have GEgp := n249; have NBgm_gp := n250; have NBgp_gm := n251; clear n246 n247 n248 n249 n250 n251; clear hb hbox hg; have hz252 : w245.cell? ⟨gm, 0, none⟩ = some (.int .i64 (a : Int)) := (blk_cell BKgm.out 0).trans rfl; have hz253 : w245.cell? ⟨gm, 1, none⟩ = some (.int .i64 (b : Int)) := (blk_cell BKgm.out 1).trans rfl; have hz254 : w245.cell? ⟨gm, 2, none⟩ = some (.int .i64 a0_2) := (blk_cell BKgm.out 2).trans rfl; have hz255 : w245.cell? ⟨gm, 3, none⟩ = some (.slice A0_3 l0_3.length c0_3) := (blk_cell BKgm.out 3).trans rfl; have hf256 := blk_frozen BKgm.out 0; have hf257 := blk_frozen BKgm.out 1; have hf258 := blk_frozen BKgm.out 2; have hf259 := blk_frozen BKgm.out 3) | ((with_reducible refine gate_store (t := 25) (p := 7) rfl ?_); have hzs0_ : w245.cell? ⟨gp, 0, none⟩ = some (.slice none 0 0) := (blk_cell BKgp.out 0).trans rfl; have hfs0_ := blk_frozen BKgp.out 0; refine store_event (t := 25) (p := 7) (v := ?vo_w262) (w1 := (w245.setCell ⟨gp, 0, none⟩ (.slice A' px.length c'))) ?hg ?ho ?hn ?hr ?_; (case ho => rfl); (case hg => rfl); (case hn => rfl); (case hr => first | (go_simp; done) | (go_simp; rfl)); intro w262 hw; have r_ := aM (show Kd.S (Kd.slice 3 (Kd.int .i64)) 25 w262 w.heap.size (fun k_ => True ∧ k_ ≠ gp) (.slice Au xs.length cu) xs by rw [hw]; exact Kd.S_far (p := ⟨gp, 0, none⟩) HO.out (fun _ hk => hk.2) _); clear HO; have HO := r_; clear r_; have n263 := aM (show w262.heap[gm]? = some (.cells #[.int .i64 (a : Int), .int .i64 (b : Int), .int .i64 a0_2, .slice A0_3 l0_3.length c0_3] 27 (0, 0)) by rw [hw]; exact blk_far (BKgm.out) NBgm_gp.out _); have n264 := aM (show w262.heap[gp]? = some (.cells #[.slice A' px.length c'] 25 (0, 0)) by rw [hw]; refine blk_put (cs := #[.slice none 0 0]) ?_ 0 _ rfl; exact BKgp.out); have n265 := aM (show Below w.heap.size w w262 by rw [hw]; exact below_set (HB.out) GEgp.out); clear hzs0_ hfs0_; clear HB BKgm BKgp hw; have BKgm := n263; have BKgp := n264; have HB := n265; clear n263 n264 n265; have hz266 : w262.cell? ⟨gm, 0, none⟩ = some (.int .i64 (a : Int)) := (blk_cell BKgm.out 0).trans rfl; have hz267 : w262.cell? ⟨gm, 1, none⟩ = some (.int .i64 (b : Int)) := (blk_cell BKgm.out 1).trans rfl; have hz268 : w262.cell? ⟨gm, 2, none⟩ = some (.int .i64 a0_2) := (blk_cell BKgm.out 2).trans rfl; have hz269 : w262.cell? ⟨gm, 3, none⟩ = some (.slice A0_3 l0_3.length c0_3) := (blk_cell BKgm.out 3).trans rfl; have hf270 := blk_frozen BKgm.out 0; have hf271 := blk_frozen BKgm.out 1; have hf272 := blk_frozen BKgm.out 2; have hf273 := blk_frozen BKgm.out 3; have hz274 : w262.cell? ⟨gp, 0, none⟩ = some (.slice A' px.length c') := (blk_cell BKgp.out 0).trans rfl; have hf275 := blk_frozen BKgp.out 0) | (go_at_call 84; refine (containsFuncList.calls 85 #[.pointer (some ⟨gp, 0, none⟩)] (enters_of Try.func85 (by kernel_rfl) rfl) (fun z => decide (z = px)) _ _ xs _ (palTest _ gp A' c' px (qB BKgp.out) (HALL.out _ (Kd.C_below HR0.out (qW HB.out))) HLC.out (by have := HPL.out; omega)) (Kd.S_reads' (by (with_reducible repeat (first | apply Kd.S_alloc | apply Kd.S_drewN | apply Kd.S_drew)); exact HO.out)).2.2 (Kd.S_reads' HO.out).2.1).mono ?_; rw [HBB.out]; rintro e w' ⟨rfl, ⟨q, rfl⟩⟩))
       go_roundg (a - (x + 1))
       case measure => omega
       case rel => exact ⟨x + 1, _, by omega, by omega, by go_num, rfl, ⟨by rw [palRow, ← EXS.out, EPX.out, palAdd, if_pos HBB.out]; (with_reducible repeat (first | apply Kd.S_alloc | apply Kd.S_drewN | apply Kd.S_drew)); exact Kd.S_mono HO.out (fun _ _ => trivial)⟩, ⟨by refine qB ?_; exact BKgm.out⟩, ⟨by exact qW HB.out⟩⟩
      | false =>
       go_wp2_with (first | (go_at_call 50; refine (HCA.out _ (qW HB.out)).mono ?_; rintro e w234 ⟨A', c', rfl, hr', hl', hb, hall⟩; have r_ := aM (Kd.S_below (by (with_reducible repeat (first | apply Kd.S_alloc | apply Kd.S_drewN | apply Kd.S_drew)); exact HO.out) hb); clear HO; have HO := r_; clear r_; have HALL := aM hall; have HLC := aM hl'; clear hr' hall hl'; have n235 := bB BKgm hb; have n236 := bS HB hb; clear HB BKgm; have BKgm := n235; have HB := n236; clear n235 n236 hb; have hz237 : w234.cell? ⟨gm, 0, none⟩ = some (.int .i64 (a : Int)) := (blk_cell BKgm.out 0).trans rfl; have hz238 : w234.cell? ⟨gm, 1, none⟩ = some (.int .i64 (b : Int)) := (blk_cell BKgm.out 1).trans rfl; have hz239 : w234.cell? ⟨gm, 2, none⟩ = some (.int .i64 a0_2) := (blk_cell BKgm.out 2).trans rfl; have hz240 : w234.cell? ⟨gm, 3, none⟩ = some (.slice A0_3 l0_3.length c0_3) := (blk_cell BKgm.out 3).trans rfl; have hf241 := blk_frozen BKgm.out 0; have hf242 := blk_frozen BKgm.out 1; have hf243 := blk_frozen BKgm.out 2; have hf244 := blk_frozen BKgm.out 3) | ((with_reducible refine gate_dst (N := 7) rfl ?_); (try (refine gate_guard (by rfl) ?_; dsimp only)); refine bxE (N := 7) (cs := #[.slice none 0 0]) (t := 25) ?_; intro gp hg w245 hbox hb; have n246 := bB BKgm hb; have n247 := bS HB hb; have n248 := aM hbox; have n249 := aM ((by rw [hg]; exact (below_size (qW HB.out))) : w.heap.size ≤ gp); have n250 := aM ((by rw [hg]; exact Nat.ne_of_lt (blk_lt (g := gm) (o := .cells #[.int .i64 (a : Int), .int .i64 (b : Int), .int .i64 a0_2, .slice A0_3 l0_3.length c0_3] 27 (0, 0)) (qB BKgm.out))) : gm ≠ gp); have n251 := aM ((by rw [hg]; exact Nat.ne_of_gt (blk_lt (g := gm) (o := .cells #[.int .i64 (a : Int), .int .i64 (b : Int), .int .i64 a0_2, .slice A0_3 l0_3.length c0_3] 27 (0, 0)) (qB BKgm.out))) : gp ≠ gm); have r_ := aM (Kd.S_below (Kd.S_elderB (by (with_reducible repeat (first | apply Kd.S_alloc | apply Kd.S_drewN | apply Kd.S_drew)); exact HO.out) gp (Nat.le_of_eq hg.symm)) hb); clear HO; have HO := r_; clear r_; clear HB BKgm; have BKgm := n246; have HB := n247; have BKgp := n248; have GEgp := n249; have NBgm_gp := n250; have NBgp_gm := n251; clear n246 n247 n248 n249 n250 n251; clear hb hbox hg; have hz252 : w245.cell? ⟨gm, 0, none⟩ = some (.int .i64 (a : Int)) := (blk_cell BKgm.out 0).trans rfl; have hz253 : w245.cell? ⟨gm, 1, none⟩ = some (.int .i64 (b : Int)) := (blk_cell BKgm.out 1).trans rfl; have hz254 : w245.cell? ⟨gm, 2, none⟩ = some (.int .i64 a0_2) := (blk_cell BKgm.out 2).trans rfl; have hz255 : w245.cell? ⟨gm, 3, none⟩ = some (.slice A0_3 l0_3.length c0_3) := (blk_cell BKgm.out 3).trans rfl; have hf256 := blk_frozen BKgm.out 0; have hf257 := blk_frozen BKgm.out 1; have hf258 := blk_frozen BKgm.out 2; have hf259 := blk_frozen BKgm.out 3) | ((with_reducible refine gate_store (t := 25) (p := 7) rfl ?_); have hzs0_ : w245.cell? ⟨gp, 0, none⟩ = some (.slice none 0 0) := (blk_cell BKgp.out 0).trans rfl; have hfs0_ := blk_frozen BKgp.out 0; refine store_event (t := 25) (p := 7) (v := ?vo_w262) (w1 := (w245.setCell ⟨gp, 0, none⟩ (.slice A' px.length c'))) ?hg ?ho ?hn ?hr ?_; (case ho => rfl); (case hg => rfl); (case hn => rfl); (case hr => first | (go_simp; done) | (go_simp; rfl)); intro w262 hw; have r_ := aM (show Kd.S (Kd.slice 3 (Kd.int .i64)) 25 w262 w.heap.size (fun k_ => True ∧ k_ ≠ gp) (.slice Au xs.length cu) xs by rw [hw]; exact Kd.S_far (p := ⟨gp, 0, none⟩) HO.out (fun _ hk => hk.2) _); clear HO; have HO := r_; clear r_; have n263 := aM (show w262.heap[gm]? = some (.cells #[.int .i64 (a : Int), .int .i64 (b : Int), .int .i64 a0_2, .slice A0_3 l0_3.length c0_3] 27 (0, 0)) by rw [hw]; exact blk_far (BKgm.out) NBgm_gp.out _); have n264 := aM (show w262.heap[gp]? = some (.cells #[.slice A' px.length c'] 25 (0, 0)) by rw [hw]; refine blk_put (cs := #[.slice none 0 0]) ?_ 0 _ rfl; exact BKgp.out); have n265 := aM (show Below w.heap.size w w262 by rw [hw]; exact below_set (HB.out) GEgp.out); clear hzs0_ hfs0_; clear HB BKgm BKgp hw; have BKgm := n263; have BKgp := n264; have HB := n265; clear n263 n264 n265; have hz266 : w262.cell? ⟨gm, 0, none⟩ = some (.int .i64 (a : Int)) := (blk_cell BKgm.out 0).trans rfl; have hz267 : w262.cell? ⟨gm, 1, none⟩ = some (.int .i64 (b : Int)) := (blk_cell BKgm.out 1).trans rfl; have hz268 : w262.cell? ⟨gm, 2, none⟩ = some (.int .i64 a0_2) := (blk_cell BKgm.out 2).trans rfl; have hz269 : w262.cell? ⟨gm, 3, none⟩ = some (.slice A0_3 l0_3.length c0_3) := (blk_cell BKgm.out 3).trans rfl; have hf270 := blk_frozen BKgm.out 0; have hf271 := blk_frozen BKgm.out 1; have hf272 := blk_frozen BKgm.out 2; have hf273 := blk_frozen BKgm.out 3; have hz274 : w262.cell? ⟨gp, 0, none⟩ = some (.slice A' px.length c') := (blk_cell BKgp.out 0).trans rfl; have hf275 := blk_frozen BKgp.out 0) | (go_at_call 84; refine (containsFuncList.calls 85 #[.pointer (some ⟨gp, 0, none⟩)] (enters_of Try.func85 (by kernel_rfl) rfl) (fun z => decide (z = px)) _ _ xs _ (palTest _ gp A' c' px (qB BKgp.out) (HALL.out _ (Kd.C_below HR0.out (qW HB.out))) HLC.out (by have := HPL.out; omega)) (Kd.S_reads' (by (with_reducible repeat (first | apply Kd.S_alloc | apply Kd.S_drewN | apply Kd.S_drew)); exact HO.out)).2.2 (Kd.S_reads' HO.out).2.1).mono ?_; rw [HBB.out]; rintro e w' ⟨rfl, ⟨q, rfl⟩⟩) | ((with_reducible refine gate_dst (N := 31) rfl ?_); refine iL ([] : List Int) [] ?_; intro v31 w276 ho4 hb hg_ hnew_; clear hg_ hnew_; have BKs := BKgm; have HBs := HB; have HZ := aM (below_step (pw_below_drewN (Below.refl w262.heap.size w262) q) hb); have HR31 := aM ho4; clear ho4; have n279 := bB BKgm hb; have n280 := bB BKgp hb; have n281 := bS HB hb; clear HB BKgm BKgp; have BKgm := n279; have BKgp := n280; have HB := n281; clear n279 n280 n281 hb; have hz282 : w276.cell? ⟨gm, 0, none⟩ = some (.int .i64 (a : Int)) := (blk_cell BKgm.out 0).trans rfl; have hz283 : w276.cell? ⟨gm, 1, none⟩ = some (.int .i64 (b : Int)) := (blk_cell BKgm.out 1).trans rfl; have hz284 : w276.cell? ⟨gm, 2, none⟩ = some (.int .i64 a0_2) := (blk_cell BKgm.out 2).trans rfl; have hz285 : w276.cell? ⟨gm, 3, none⟩ = some (.slice A0_3 l0_3.length c0_3) := (blk_cell BKgm.out 3).trans rfl; have hf286 := blk_frozen BKgm.out 0; have hf287 := blk_frozen BKgm.out 1; have hf288 := blk_frozen BKgm.out 2; have hf289 := blk_frozen BKgm.out 3; have hz290 : w276.cell? ⟨gp, 0, none⟩ = some (.slice A' px.length c') := (blk_cell BKgp.out 0).trans rfl; have hf291 := blk_frozen BKgp.out 0) | ((with_reducible refine gate_builtin (b := .append) (xs := #[.tmp 31, .tmp 32]) rfl ?_); at_builtin; refine Kd.R_append_rows (Kd.int .i64) (w0 := w262) w262.heap.size rfl (.tmp 31) (.tmp 32) 25 3 (.int .i64 0) 8 rfl Try.underlying25 info3 rfl (by decide) (by omega) v31 [] px _ _ _ (fun _ => True) (fun _ => False) rfl rfl ?aO ?aR (fun _ _ h => h) (fun _ h => h.elim) ?aF ?aB ?aS ?aL ?_; (case aR => exact (HALL.out _ (Kd.C_below HR0.out (qW HB.out)))); (case aB => exact HZ.out); (case aF => exact (fun _ _ => trivial)); (case aO => exact HR31.out); (case aS => exact HZ.out.size); (case aL => have := HPL.out; simp only [List.length_nil]; omega); intro v33 w277 ho hb hg hat; rw [List.nil_append] at ho; have m1_ := aM (Kd.S_elder' HO.out (Kd.R_base ho) hb); have m2_ := aM (blk_below BKs.out hb); have m3_ := aM (below_step HBs.out hb); have m4_ := aM (Kd.R_lower ho HBs.out.size); clear HO BKgm BKgp HB BKs HBs HZ HR31; have HO := m1_; have BKgm := m2_; have HB := m3_; have HV := m4_; clear m1_ m2_ m3_ m4_ ho hb hg hat; obtain ⟨A33, c33, rfl⟩ := sL HV) | ((with_reducible refine gate_builtin (b := .append) (xs := #[.tmp 30, .tmp 34]) rfl ?_); at_builtin; refine Kd.S_append (Kd.slice 3 (Kd.int .i64)) (w0 := w) w.heap.size rfl (.tmp 30) (.tmp 34) 57 25 (.slice none 0 0) 24 rfl Try.underlying57 (show (Try.prog.info? 25).map (fun i => (i.zero, i.size, i.bytes)) = some (some (.slice none 0 0), 1, 24) from by kernel_rfl) rfl (by decide) (by omega) (.slice Au xs.length cu) xs px [.slice A33 px.length c33] (fun _ => True) (fun k_ => some k_ = (.slice A33 px.length c33 : Value).ownBlock) rfl rfl ?aP (fun k_ hk_ => (Kd.R_mono (ok' := fun k_ => True ∧ some k_ ≠ (.slice Au xs.length cu : Value).ownBlock) (Kd.R_apart' (HV.out) (Kd.S_typed HO.out) (by decide)) (fun k_ hk => ⟨trivial, hk.2⟩)).1 k_ hk_.symm) ?aF ?aO ?aB ?aS ?aL ?_; (case aP => exact Kd.M_row (Kd.R_mono (Kd.R_tight rfl (Kd.R_mono (ok' := fun k_ => True ∧ some k_ ≠ (.slice Au xs.length cu : Value).ownBlock) (Kd.R_apart' (HV.out) (Kd.S_typed HO.out) (by decide)) (fun k_ hk => ⟨trivial, hk.2⟩))) (fun _ h_ => h_))); (case aB => exact HB.out); (case aF => exact (fun _ _ => trivial)); (case aO => exact Kd.S_mono HO.out (fun k_ hk => ⟨trivial, fun e_ => hk.2 e_⟩)); (case aS => exact HB.out.size); (case aL => have := HLM.out; omega); intro v35 w278 ho hb hg hat; have m1_ := aM (blk_grown BKgm.out hg (Kd.S_ne HO.out BKgm.out (by decide))); have m2_ := aM ho; have m3_ := aM hb; clear HO BKgm HB HV; have HO := m2_; have BKgm := m1_; have HB := m3_; clear m1_ m2_ m3_ ho hb hg hat))
       go_roundg (a - (x + 1))
       case measure => omega
       case rel => exact ⟨x + 1, _, by omega, by omega, by go_num, rfl, ⟨by rw [palRow, ← EXS.out, EPX.out, palAdd, if_neg (by rw [HBB.out]; decide)]; (with_reducible repeat (first | apply Kd.S_alloc | apply Kd.S_drewN | apply Kd.S_drew)); exact HO.out⟩, ⟨by refine qB ?_; exact BKgm.out⟩, ⟨by exact qW HB.out⟩⟩
mutual
def impl_FillImage.j0 : Nat → Int → Int → List Int → Bool → Int → Int → Int → Option (Int × Int × Int × List Int)
 | 0, _, _, _, _, _, _, _ => none
 | k + 1, x0, x1, x2, x35, x600000, x600001, x600002 => if x35 = true then (some (0, 0, 0, ([] : List Int))) else (impl_FillImage.l0 k x2 (wrap64 (x0 * x1)) 0 x600000 x600001 x600002 ([] : List Int))
def impl_FillImage.l0 : Nat → List Int → Int → Int → Int → Int → Int → List Int → Option (Int × Int × Int × List Int)
 | 0, _, _, _, _, _, _, _ => none
 | k + 1, x2, x39, x40, x600000, x600001, x600002, x600003 => if x40 < x39 then (if x600003.length + x2.length < 17592186044416 then (impl_FillImage.l0 k x2 x39 (wrap64 (x40 + 1)) x600000 x600001 x600002 (x600003 ++ x2)) else (none)) else (some (x600000, x600001, x600002, x600003))
end
def impl_FillImage.f (k : Nat) (a0 : Int) (a1 : Int) (l2 : List Int) : Option (Int × Int × Int × List Int) := (impl_isSide.f a0).bind fun t600 => (if t600 = true then ((impl_isSide.f a1).bind fun t601 => (if t601 = true then (if (l2.length : Int) < 1 then (impl_FillImage.j0 k a0 a1 l2 true a0 a1 (l2.length : Int)) else (if (l2.length : Int) > 4 then (impl_FillImage.j0 k a0 a1 l2 true a0 a1 (l2.length : Int)) else ((impl_areBytes.f l2).bind fun t602 => (impl_FillImage.j0 k a0 a1 l2 (!t602) a0 a1 (l2.length : Int))))) else (impl_FillImage.j0 k a0 a1 l2 true a0 a1 (l2.length : Int)))) else (impl_FillImage.j0 k a0 a1 l2 true a0 a1 (l2.length : Int)))
theorem impl_FillImage.mono_l : ∀ k, (∀ y0 y1 y2 y3 y4 y5 y6, LeO (impl_FillImage.j0 k y0 y1 y2 y3 y4 y5 y6) (impl_FillImage.j0 (k + 1) y0 y1 y2 y3 y4 y5 y6)) ∧ (∀ y0 y1 y2 y3 y4 y5 y6, LeO (impl_FillImage.l0 k y0 y1 y2 y3 y4 y5 y6) (impl_FillImage.l0 (k + 1) y0 y1 y2 y3 y4 y5 y6))
 | 0 => ⟨fun _ _ _ _ _ _ _ r h => by simp [impl_FillImage.j0] at h, fun _ _ _ _ _ _ _ r h => by simp [impl_FillImage.l0] at h⟩
 | k + 1 => by
  obtain ⟨ih0, ih1⟩ := impl_FillImage.mono_l k
  refine ⟨?_, ?_⟩
  all_goals intros
  all_goals first | unfold impl_FillImage.j0 | unfold impl_FillImage.l0
  all_goals repeat' first | (with_reducible first | exact ih0 _ _ _ _ _ _ _ | exact ih1 _ _ _ _ _ _ _ | exact lR | exact lN | refine lI ?_ ?_ | refine lB ?_ fun _ => ?_) | exact ih0 _ _ _ _ _ _ _ | exact ih1 _ _ _ _ _ _ _ | exact lN | refine lI ?_ ?_ | refine lB ?_ fun _ => ?_
theorem impl_FillImage.mono : ∀ a0 a1 a2 k, LeO (impl_FillImage.f k a0 a1 a2) (impl_FillImage.f (k + 1) a0 a1 a2) := by
 intro a0 a1 a2 k
 obtain ⟨ih0, ih1⟩ := impl_FillImage.mono_l k
 unfold impl_FillImage.f
 repeat' first | (with_reducible first | exact ih0 _ _ _ _ _ _ _ | exact ih1 _ _ _ _ _ _ _ | exact lR | exact lN | refine lI ?_ ?_ | refine lB ?_ fun _ => ?_) | exact ih0 _ _ _ _ _ _ _ | exact ih1 _ _ _ _ _ _ _ | exact lN | refine lI ?_ ?_ | refine lB ?_ fun _ => ?_
set_option maxHeartbeats 8000000 in
set_option maxRecDepth 100000 in
theorem impl_FillImage.calls (k : Nat) (a0 : Int) (a1 : Int) (A2 : Option Addr) (c2 : Nat) (l2 : List Int) (r1 : Int) (r2 : Int) (r3 : Int) (r4 : List Int) (w : World) (hr2 : Kd.C (Kd.int .i64) w A2 l2.length l2) (hc2 : l2.length ≤ c2) (h : impl_FillImage.f k a0 a1 l2 = some (r1, r2, r3, r4)) :
  Calls Try.prog 31 #[.int .i64 a0, .int .i64 a1, .slice A2 l2.length c2] w fun e w' => ∃ v3_ : Value, e = .returned (.agg #[.int .i64 r1, .int .i64 r2, .int .i64 r3, v3_]) ∧ Kd.R (Kd.int .i64) 3 w' w.heap.size (fun _ => True) v3_ r4 ∧ Below w.heap.size w w' := by
 have hu27 := Try.underlying27
 have HR2 := aM hr2
 have HC2 := aM hc2
 clear hr2 hc2
 have HB := aM (Below.refl w.heap.size w)
 unfold impl_FillImage.f at h
 have H := h
 clear h
 have HC4 := aM H
 clear H
 go_enter Try.func31, Try.ntmps31
 go_upto_region 2 with (first | ((with_reducible refine gate_dst (N := 6) rfl ?_); (try (refine gate_guard (by rfl) ?_; dsimp only)); refine bxE (N := 6) (cs := #[.int .i64 0, .int .i64 0, .int .i64 0, .slice none 0 0]) (t := 27) ?_; intro gb598 hg w5 hbox hb; have BK598 := aM (hbox); have GW598 := gW hg HB; have GE598 := gW hg HB; replace HB := bS HB hb; clear hb hbox hg) | ((with_reducible refine gate_dst (N := 7) rfl ?_); (try (refine gate_guard (by rfl) ?_; dsimp only)); refine bxE (N := 7) (cs := #[.int .i64 0, .int .i64 0, .int .i64 0, .slice none 0 0]) (t := 27) ?_; intro gb599 hg w6 hbox hb; have BK599 := aM (hbox); have GW599 := gW hg HB; have GE599 := gW hg HB; replace HB := bS HB hb; have NB598_599 := nL hg BK598; have NB599_598 := nG hg BK598; replace BK598 := bB BK598 hb; clear hb hbox hg; have hnb7 := NB599_598.out; have hnc7 := NB598_599.out; obtain ⟨⟨hcz8_0, hcz8_1, hcz8_2, hcz8_3⟩, hfz8_0, hfz8_1, hfz8_2, hfz8_3⟩ := cf4 BK599))
 (try simp only [Act.put, List.setIfInBounds_toArray, List.set_cons_zero, List.set_cons_succ])
 go_cut [35] (fun v35 wc => ∃ (kq : Nat) (x35_3 : Bool), v35 = .bool x35_3 ∧ Aside0 (impl_FillImage.j0 kq a0 a1 l2 x35_3 a0 a1 (l2.length : Int) = some (r1, r2, r3, r4)) ∧ Aside0 (kq ≤ k) ∧ Aside0 (wc.heap[gb598]? = some (.cells #[.int .i64 0, .int .i64 0, .int .i64 0, (.slice none 0 0)] 27 (0, 0))) ∧ Aside0 (wc.heap[gb599]? = some (.cells #[.int .i64 a0, .int .i64 a1, .int .i64 (l2.length : Int), (.slice none 0 0)] 27 (0, 0))) ∧ Aside0 (Below w.heap.size w wc))
 case first =>
  have H := HC4.out
  clear HC4
  replace H := Option.bind_eq_some_iff.mp H
  obtain ⟨t600, A90, H⟩ := H
  replace H : (if t600 = true then ((impl_isSide.f a1).bind fun t601 => (if t601 = true then (if (l2.length : Int) < 1 then (impl_FillImage.j0 k a0 a1 l2 true a0 a1 (l2.length : Int)) else (if (l2.length : Int) > 4 then (impl_FillImage.j0 k a0 a1 l2 true a0 a1 (l2.length : Int)) else ((impl_areBytes.f l2).bind fun t602 => (impl_FillImage.j0 k a0 a1 l2 (!t602) a0 a1 (l2.length : Int))))) else (impl_FillImage.j0 k a0 a1 l2 true a0 a1 (l2.length : Int)))) else (impl_FillImage.j0 k a0 a1 l2 true a0 a1 (l2.length : Int))) = some (r1, r2, r3, r4) := H
  have A9 := aM A90
  clear A90
  by_cases c10 : t600 = true
  rotate_left
  ·replace c10 := Bool.eq_false_iff.mpr c10
   subst c10
   have H1 : (impl_FillImage.j0 k a0 a1 l2 true a0 a1 (l2.length : Int)) = some (r1, r2, r3, r4) := by rw [if_neg (show ¬ (false = true) by decide)] at H; exact H
   clear H
   have H := H1
   clear H1
   have H' := aM H
   clear H
   go_wp2_with (first | ((with_reducible refine gate_callee (f := 76) rfl ?_); refine gL (some 14) Try.func76 #[.int .i64 a0] ?_; (with_reducible refine (impl_isSide.calls a0 false _ A9.out).mono ?_); rintro e w' ⟨rfl, ⟨nd, rfl⟩⟩; refine ⟨_, rfl, ?_⟩))
   go_meet
   case rel => exact ⟨_, (true), qE, H', ⟨by first | omega | exact Nat.le_refl _⟩, ⟨by refine qB ?_; refine blk_far ?_ NB598_599.out _; refine qB ?_; refine blk_far ?_ NB598_599.out _; refine qB ?_; refine blk_far ?_ NB598_599.out _; refine qB ?_; refine blk_far ?_ NB598_599.out _; refine qB ?_; exact BK598.out⟩, ⟨by exact bP BK599.out⟩, ⟨by exact qW HB.out⟩⟩
  subst c10
  have H1 : ((impl_isSide.f a1).bind fun t601 => (if t601 = true then (if (l2.length : Int) < 1 then (impl_FillImage.j0 k a0 a1 l2 true a0 a1 (l2.length : Int)) else (if (l2.length : Int) > 4 then (impl_FillImage.j0 k a0 a1 l2 true a0 a1 (l2.length : Int)) else ((impl_areBytes.f l2).bind fun t602 => (impl_FillImage.j0 k a0 a1 l2 (!t602) a0 a1 (l2.length : Int))))) else (impl_FillImage.j0 k a0 a1 l2 true a0 a1 (l2.length : Int)))) = some (r1, r2, r3, r4) := by rw [if_pos rfl] at H; exact H
  clear H
  have H := H1
  clear H1
  replace H := Option.bind_eq_some_iff.mp H
  obtain ⟨t601, A110, H⟩ := H
  replace H : (if t601 = true then (if (l2.length : Int) < 1 then (impl_FillImage.j0 k a0 a1 l2 true a0 a1 (l2.length : Int)) else (if (l2.length : Int) > 4 then (impl_FillImage.j0 k a0 a1 l2 true a0 a1 (l2.length : Int)) else ((impl_areBytes.f l2).bind fun t602 => (impl_FillImage.j0 k a0 a1 l2 (!t602) a0 a1 (l2.length : Int))))) else (impl_FillImage.j0 k a0 a1 l2 true a0 a1 (l2.length : Int))) = some (r1, r2, r3, r4) := H
  have A11 := aM A110
  clear A110
  by_cases c12 : t601 = true
  rotate_left
  ·replace c12 := Bool.eq_false_iff.mpr c12
   subst c12
   have H1 : (impl_FillImage.j0 k a0 a1 l2 true a0 a1 (l2.length : Int)) = some (r1, r2, r3, r4) := by rw [if_neg (show ¬ (false = true) by decide)] at H; exact H
   clear H
   have H := H1
   clear H1
   have H' := aM H
   clear H
   go_wp2_with (first | ((with_reducible refine gate_callee (f := 76) rfl ?_); refine gL (some 14) Try.func76 #[.int .i64 a0] ?_; (with_reducible refine (impl_isSide.calls a0 true _ A9.out).mono ?_); rintro e w' ⟨rfl, ⟨nd, rfl⟩⟩; refine ⟨_, rfl, ?_⟩) | (go_at_call 76; (with_reducible refine (impl_isSide.calls a1 false _ A11.out).mono ?_); rintro e w' ⟨rfl, ⟨nd, rfl⟩⟩))
   go_meet
   case rel => exact ⟨_, (true), qE, H', ⟨by first | omega | exact Nat.le_refl _⟩, ⟨by refine qB ?_; refine blk_far ?_ NB598_599.out _; refine qB ?_; refine blk_far ?_ NB598_599.out _; refine qB ?_; refine blk_far ?_ NB598_599.out _; refine qB ?_; refine blk_far ?_ NB598_599.out _; refine qB ?_; exact BK598.out⟩, ⟨by exact bP BK599.out⟩, ⟨by exact qW HB.out⟩⟩
  subst c12
  have H1 : (if (l2.length : Int) < 1 then (impl_FillImage.j0 k a0 a1 l2 true a0 a1 (l2.length : Int)) else (if (l2.length : Int) > 4 then (impl_FillImage.j0 k a0 a1 l2 true a0 a1 (l2.length : Int)) else ((impl_areBytes.f l2).bind fun t602 => (impl_FillImage.j0 k a0 a1 l2 (!t602) a0 a1 (l2.length : Int))))) = some (r1, r2, r3, r4) := by rw [if_pos rfl] at H; exact H
  clear H
  have H := H1
  clear H1
  by_cases c13 : (l2.length : Int) < 1
  ·rw [if_pos c13] at H
   have c13b0 : decide ((l2.length : Int) < 1) = true := decide_eq_true c13
   have c13b1 : decide (l2.length < 1) = true := decide_eq_true (by omega)
   clear c13
   (first | rw [c13b0] | (simp only [i64_w, i32_w]; rw [c13b0]) | skip)
   have H' := aM H
   clear H
   go_wp2_with (first | ((with_reducible refine gate_callee (f := 76) rfl ?_); refine gL (some 14) Try.func76 #[.int .i64 a0] ?_; (with_reducible refine (impl_isSide.calls a0 true _ A9.out).mono ?_); rintro e w' ⟨rfl, ⟨nd, rfl⟩⟩; refine ⟨_, rfl, ?_⟩) | (go_at_call 76; (with_reducible refine (impl_isSide.calls a1 true _ A11.out).mono ?_); rintro e w' ⟨rfl, ⟨nd, rfl⟩⟩))
   go_meet
   case rel => exact ⟨_, (true), qE, H', ⟨by first | omega | exact Nat.le_refl _⟩, ⟨by refine qB ?_; refine blk_far ?_ NB598_599.out _; refine qB ?_; refine blk_far ?_ NB598_599.out _; refine qB ?_; refine blk_far ?_ NB598_599.out _; refine qB ?_; refine blk_far ?_ NB598_599.out _; refine qB ?_; exact BK598.out⟩, ⟨by exact bP BK599.out⟩, ⟨by exact qW HB.out⟩⟩
  rw [if_neg c13] at H
  have c13b0 : decide ((l2.length : Int) < 1) = false := decide_eq_false c13
  have c13b1 : decide (l2.length < 1) = false := decide_eq_false (by omega)
  clear c13
  (first | rw [c13b0] | (simp only [i64_w, i32_w]; rw [c13b0]) | skip)
  by_cases c14 : (l2.length : Int) > 4
  ·rw [if_pos c14] at H
   have c14b0 : decide (4 < (l2.length : Int)) = true := decide_eq_true c14
   have c14b1 : decide (4 < l2.length) = true := decide_eq_true (by omega)
   clear c14
   have H' := aM H
   clear H
   go_wp2_with (first | ((with_reducible refine gate_callee (f := 76) rfl ?_); refine gL (some 14) Try.func76 #[.int .i64 a0] ?_; (with_reducible refine (impl_isSide.calls a0 true _ A9.out).mono ?_); rintro e w' ⟨rfl, ⟨nd, rfl⟩⟩; refine ⟨_, rfl, ?_⟩) | (go_at_call 76; (with_reducible refine (impl_isSide.calls a1 true _ A11.out).mono ?_); rintro e w' ⟨rfl, ⟨nd, rfl⟩⟩))
   go_meet
   case rel => exact ⟨_, (true), qE, H', ⟨by first | omega | exact Nat.le_refl _⟩, ⟨by refine qB ?_; refine blk_far ?_ NB598_599.out _; refine qB ?_; refine blk_far ?_ NB598_599.out _; refine qB ?_; refine blk_far ?_ NB598_599.out _; refine qB ?_; refine blk_far ?_ NB598_599.out _; refine qB ?_; exact BK598.out⟩, ⟨by exact bP BK599.out⟩, ⟨by exact qW HB.out⟩⟩
  rw [if_neg c14] at H
  have c14b0 : decide (4 < (l2.length : Int)) = false := decide_eq_false c14
  have c14b1 : decide (4 < l2.length) = false := decide_eq_false (by omega)
  clear c14
  replace H := Option.bind_eq_some_iff.mp H
  obtain ⟨t602, A150, H⟩ := H
  replace H : (impl_FillImage.j0 k a0 a1 l2 (!t602) a0 a1 (l2.length : Int)) = some (r1, r2, r3, r4) := H
  have A15 := aM A150
  clear A150
  have H' := aM H
  clear H
  go_wp2_with (first | ((with_reducible refine gate_callee (f := 76) rfl ?_); refine gL (some 14) Try.func76 #[.int .i64 a0] ?_; (with_reducible refine (impl_isSide.calls a0 true _ A9.out).mono ?_); rintro e w' ⟨rfl, ⟨nd, rfl⟩⟩; refine ⟨_, rfl, ?_⟩) | (go_at_call 76; (with_reducible refine (impl_isSide.calls a1 true _ A11.out).mono ?_); rintro e w' ⟨rfl, ⟨nd, rfl⟩⟩) | (go_at_call 77; (with_reducible refine (impl_areBytes.calls _ _ l2 t602 _ ?side1 ?side2 A15.out).mono ?_); (case side1 => exact Kd.C_below HR2.out (qW HB.out)); (case side2 => exact HC2.out); rintro e w' ⟨rfl, ⟨nd, rfl⟩⟩))
  go_meet
  case rel => exact ⟨_, (!t602), qE, H', ⟨by first | omega | exact Nat.le_refl _⟩, ⟨by refine qB ?_; refine blk_far ?_ NB598_599.out _; refine qB ?_; refine blk_far ?_ NB598_599.out _; refine qB ?_; refine blk_far ?_ NB598_599.out _; refine qB ?_; refine blk_far ?_ NB598_599.out _; refine qB ?_; exact BK598.out⟩, ⟨by exact bP BK599.out⟩, ⟨by exact qW HB.out⟩⟩
 case rest =>
  clear HC4
  try clear c2
  try clear c10
  try clear c12
  try clear c13
  try clear c13b0
  try clear c13b1
  try clear c14
  try clear c14b0
  try clear c14b1
  try clear hcz8_0 hcz8_1 hcz8_2 hcz8_3 hfz8_0 hfz8_1 hfz8_2 hfz8_3
  obtain ⟨kq, x35_3, rfl, HA, HJ3, BK598, BK599, HB⟩ := hcut
  cases kq with
  | zero => exact absurd HA.out (by simp [impl_FillImage.j0])
  | succ kj3 =>
   have H := HA.out
   clear HA
   simp only [impl_FillImage.j0] at H
   by_cases c16 : x35_3 = true
   ·subst c16
    have H1 : (some (0, 0, 0, ([] : List Int))) = some (r1, r2, r3, r4) := by rw [if_pos rfl] at H; exact H
    clear H
    have H := H1
    clear H1
    simp only [Option.some.injEq, Prod.mk.injEq] at H
    obtain ⟨rfl, rfl, rfl, rfl⟩ := H
    have hnb17 := NB598_599.out
    have hnc17 := NB599_598.out
    obtain ⟨⟨hcz18_0, hcz18_1, hcz18_2, hcz18_3⟩, hfz18_0, hfz18_1, hfz18_2, hfz18_3⟩ := cf4 BK598
    go_wp2
    refine bodyPost_ret (results_cell_row rfl _ _ gb598 27 #[.int .i64 0, .int .i64 0, .int .i64 0, .slice none 0 0] (0, 0) _ rfl (by exact bP BK598.out) Try.underlying27 rfl (by kernel_rfl)) rfl ?_
    exact ⟨_, qX, qN, by exact qW HB.out⟩
   replace c16 := Bool.eq_false_iff.mpr c16
   subst c16
   have H1 : (impl_FillImage.l0 kj3 l2 (wrap64 (a0 * a1)) 0 a0 a1 (l2.length : Int) ([] : List Int)) = some (r1, r2, r3, r4) := by rw [if_neg (show ¬ (false = true) by decide)] at H; exact H
   clear H
   have H := H1
   clear H1
   have H' := aM H
   clear H
   go_wp2
   go_loopg [40] kj3 (fun kq v40 w' => ∃ (x40_2 : Int) (x600003_2 : List Int) (u600003 : Value), v40 = .int .i64 x40_2 ∧ Aside0 (impl_FillImage.l0 kq l2 (wrap64 (a0 * a1)) x40_2 a0 a1 (l2.length : Int) x600003_2 = some (r1, r2, r3, r4)) ∧ Aside0 (kq ≤ kj3) ∧ Aside0 (Kd.R (Kd.int .i64) 3 w' w.heap.size (fun _ => True) u600003 x600003_2) ∧ Aside0 (w'.heap[gb598]? = some (.cells #[.int .i64 0, .int .i64 0, .int .i64 0, (.slice none 0 0)] 27 (0, 0))) ∧ Aside0 (w'.heap[gb599]? = some (.cells #[.int .i64 a0, .int .i64 a1, .int .i64 (l2.length : Int), u600003] 27 (0, 0))) ∧ Aside0 (Below w.heap.size w w'))
   case atStart => exact ⟨(0), (([] : List Int)), (.slice none 0 0), qE, H', ⟨Nat.le_refl _⟩, ⟨qN⟩, ⟨by refine qB ?_; exact BK598.out⟩, ⟨by refine qB ?_; exact BK599.out⟩, ⟨by exact qW HB.out⟩⟩
   case round =>
    clear H'
    try clear c2
    try clear c10
    try clear c12
    try clear c13
    try clear c13b0
    try clear c13b1
    try clear c14
    try clear c14b0
    try clear c14b1
    try clear c16
    try clear hcz18_0 hcz18_1 hcz18_2 hcz18_3 hfz18_0 hfz18_1 hfz18_2 hfz18_3
    try clear hcz8_0 hcz8_1 hcz8_2 hcz8_3 hfz8_0 hfz8_1 hfz8_2 hfz8_3
    obtain ⟨x40_2, x600003_2, u600003, rfl, HA, HK2, HO_600003, BK598, BK599, HB⟩ := hrel
    cases gk with
    | zero => exact absurd HA.out (by simp [impl_FillImage.l0])
    | succ k2 =>
     have H := HA.out
     clear HA
     simp only [impl_FillImage.l0] at H
     by_cases c19 : x40_2 < (wrap64 (a0 * a1))
     rotate_left
     ·rw [if_neg c19] at H
      have c19b0 : decide (x40_2 < (wrap64 (a0 * a1))) = false := decide_eq_false c19
      clear c19
      simp only [Option.some.injEq, Prod.mk.injEq] at H
      obtain ⟨rfl, rfl, rfl, rfl⟩ := H
      have hnb26 := NB599_598.out
      have hnc26 := NB598_599.out
      obtain ⟨⟨hcz27_0, hcz27_1, hcz27_2, hcz27_3⟩, hfz27_0, hfz27_1, hfz27_2, hfz27_3⟩ := cf4 BK599
      obtain ⟨⟨hcz28_0, hcz28_1, hcz28_2, hcz28_3⟩, hfz28_0, hfz28_1, hfz28_2, hfz28_3⟩ := cf4 BK598
      obtain ⟨Ao29, co29, rfl⟩ := sL HO_600003
      go_wp2
      refine bodyPost_ret (results_cell_row rfl _ _ gb598 27 #[.int .i64 a0, .int .i64 a1, .int .i64 (l2.length : Int), .slice Ao29 x600003_2.length co29] (0, 0) _ rfl (by exact bP BK598.out) Try.underlying27 rfl (by kernel_rfl)) rfl ?_
      exact ⟨_, qX, by refine qR ?_; exact Kd.R_mono (rT HO_600003 BK598) (fun _ hk => trivial), by exact qW HB.out⟩
     rw [if_pos c19] at H
     have c19b0 : decide (x40_2 < (wrap64 (a0 * a1))) = true := decide_eq_true c19
     clear c19
     replace H := iS H
     obtain ⟨c20, H⟩ := H
     have LMc20 := aM c20
     clear c20
     obtain ⟨y603, hy603⟩ : ∃ y_ : List Int, y_ = (x600003_2 ++ l2) := ⟨_, rfl⟩
     replace H : (impl_FillImage.l0 k2 l2 (wrap64 (a0 * a1)) (wrap64 (x40_2 + 1)) a0 a1 (l2.length : Int) y603) = some (r1, r2, r3, r4) := rY hy603 H
     have Ny603 := aM hy603
     clear hy603
     have H' := aM H
     clear H
     have hnb21 := NB599_598.out
     have hnc21 := NB598_599.out
     obtain ⟨⟨hcz22_0, hcz22_1, hcz22_2, hcz22_3⟩, hfz22_0, hfz22_1, hfz22_2, hfz22_3⟩ := cf4 BK599
     go_wp2_with (first | ((with_reducible refine gate_builtin (b := .append) (xs := #[.tmp 43, .tmp 44]) rfl ?_); (try (refine gate_guard (by rfl) ?_; dsimp only)); at_builtin; refine Kd.R_append_rows (Kd.int .i64) (w0 := w) w.heap.size rfl (.tmp 43) (.tmp 44) 25 3 (.int .i64 0) 8 rfl Try.underlying25 info3 rfl (by decide) (by omega) u600003 x600003_2 l2 _ _ _ (fun _ => True) (fun _ => False) rfl rfl ?aO ?aR (fun _ _ h => h) (fun _ h => h.elim) ?aF ?aB ?aS ?aL ?_; (case aR => exact qC (Kd.C_below HR2.out HB.out)); (case aB => exact (qW HB.out)); (case aF => exact (fun _ _ => trivial)); (case aO => exact (qR HO_600003.out)); (case aS => exact (below_size (qW HB.out))); (case aL => have := LMc20.out; omega); intro v604 w23 ho hb hg hat; rw [← Ny603.out] at ho; replace BK598 := gB BK598 hg (Kd.R_ne HO_600003.out BK598.out (by decide)); replace BK599 := gB BK599 hg (Kd.R_ne HO_600003.out BK599.out (by decide)); replace HB := aM (hb); have HO605 := aM (ho); clear HO_600003; clear ho hb hg hat; obtain ⟨Ao24, co24, rfl⟩ := sL HO605; obtain ⟨⟨hcz25_0, hcz25_1, hcz25_2, hcz25_3⟩, hfz25_0, hfz25_1, hfz25_2, hfz25_3⟩ := cf4 BK599))
     go_roundg k2
     case measure => have := HJ3.out; have := HK2.out; omega
     case rel => exact ⟨(wrap64 (x40_2 + 1)), (y603), (.slice Ao24 y603.length co24), qE, H', ⟨by have := HJ3.out; have := HK2.out; omega⟩, ⟨by refine qR ?_; exact Kd.R_mono (rT HO605 BK599) (fun _ hk => trivial)⟩, ⟨by refine qB ?_; refine blk_far ?_ NB598_599.out _; refine qB ?_; exact BK598.out⟩, ⟨by exact bP BK599.out⟩, ⟨by exact qW HB.out⟩⟩
def IsS85 (w0 W : World) (g : Nat) (f0 : List Int) (f1 : Int) : Prop := ∃ A0 c0, W.heap[g]? = some (.cells #[.slice A0 f0.length c0, .int .i64 f1] 85 (0, 0)) ∧ w0.heap.size ≤ g ∧ Kd.C (Kd.int .u8) w0 A0 f0.length f0
theorem IsS85.grown {w0 W : World} {g : Nat} {f0 : List Int} {f1 : Int} {W1 : World} {row : Option Nat} (h : IsS85 w0 W g f0 f1) (hw : W.grownBy W1 row) (hne : some g ≠ row) : IsS85 w0 W1 g f0 f1 := by
 obtain ⟨A0, c0, hb, hg, hr0⟩ := h
 exact ⟨A0, c0, blk_grown hb hw hne, hg, hr0⟩
theorem IsS85.own_neN {w0 W : World} {g : Nat} {f0 : List Int} {f1 : Int} {α : Type} {d : Kd α} {e : Nat} {base : Nat} {ok : Nat → Prop} {v : Value} {xs : List α} (h : IsS85 w0 W g f0 f1) (ho : Kd.N d e W base ok v xs) (ht : e ≠ 85) : some g ≠ v.ownBlock := by
 obtain ⟨A0, c0, hb, hg, hr0⟩ := h
 exact Kd.N_ne ho hb ht
theorem IsS85.fresh {w0 W : World} {g : Nat} {f0 : List Int} {f1 : Int} (h : IsS85 w0 W g f0 f1) : ∀ k, W.heap.size ≤ k → k ≠ g := by
 obtain ⟨A0, c0, hb, hg, hr0⟩ := h
 exact Kd.freshB hb
theorem IsS85.kept {w0 W : World} {g : Nat} {f0 : List Int} {f1 : Int} {W1 : World} {S : Nat → Prop} (h : IsS85 w0 W g f0 f1) (hk : Kept W W1 S) (hne : ¬ S g) : IsS85 w0 W1 g f0 f1 := by
 obtain ⟨A0, c0, hb, hg, hr0⟩ := h
 exact ⟨A0, c0, blk_kept hb hk hne, hg, hr0⟩
theorem IsS85.below {w0 W : World} {g : Nat} {f0 : List Int} {f1 : Int} {W1 : World} (h : IsS85 w0 W g f0 f1) (hw : Below W.heap.size W W1) : IsS85 w0 W1 g f0 f1 := h.grown (grown_of_below hw none) (by simp)
theorem IsS85.alloc {w0 W : World} {g : Nat} {f0 : List Int} {f1 : Int} (h : IsS85 w0 W g f0 f1) (o : Obj) : IsS85 w0 (W.alloc o) g f0 f1 := h.below (below_alloc (Below.refl _ _) o)
theorem IsS85.drewN {w0 W : World} {g : Nat} {f0 : List Int} {f1 : Int} (h : IsS85 w0 W g f0 f1) (m : Nat) : IsS85 w0 (W.drewN m) g f0 f1 := h
theorem IsS85.drew {w0 W : World} {g : Nat} {f0 : List Int} {f1 : Int} (h : IsS85 w0 W g f0 f1) : IsS85 w0 W.drew g f0 f1 := h
theorem IsS85.at_ {w0 W : World} {g : Nat} {f0 : List Int} {f1 : Int} {w' : World} {m : Nat} (hq : W.drewN m = w') (h : IsS85 w0 W g f0 f1) : IsS85 w0 w' g f0 f1 := by subst hq; exact IsS85.drewN h m
theorem IsS85.apart {w0 W : World} {g : Nat} {f0 : List Int} {f1 : Int} {α : Type} {d : Kd α} {e : Nat} {base : Nat} {ok : Nat → Prop} {v : Value} {xs : List α} (h : IsS85 w0 W g f0 f1) (ho : d.R e W base ok v xs) (ht : ∀ q, q ∈ e :: d.E → q ≠ 85) : d.R e W base (fun k => ok k ∧ k ≠ g) v xs := by
 obtain ⟨A0, c0, hb, hg, hr0⟩ := h
 exact Kd.R_types ho hb ht
theorem IsS85.own_ne {w0 W : World} {g : Nat} {f0 : List Int} {f1 : Int} {α : Type} {d : Kd α} {e : Nat} {base : Nat} {ok : Nat → Prop} {v : Value} {xs : List α} (h : IsS85 w0 W g f0 f1) (ho : d.R e W base ok v xs) (ht : e ≠ 85) : some g ≠ v.ownBlock := by
 obtain ⟨A0, c0, hb, hg, hr0⟩ := h
 exact Kd.R_ne ho hb ht
theorem IsS85.apartQ {w0 W : World} {g : Nat} {f0 : List Int} {f1 : Int} {α : Type} {d : Kd α} {e : Nat} {base : Nat} {ok : Nat → Prop} {v : Value} {xs : List α} (h : IsS85 w0 W g f0 f1) (ho : d.Q e W base ok v xs) (ht : ∀ q, q ∈ e :: d.E → q ≠ 85) : d.Q e W base (fun k => ok k ∧ k ≠ g) v xs := by
 obtain ⟨A0, c0, hb, hg, hr0⟩ := h
 exact Kd.Q_types ho hb ht
theorem IsS85.own_neQ {w0 W : World} {g : Nat} {f0 : List Int} {f1 : Int} {α : Type} {d : Kd α} {e : Nat} {base : Nat} {ok : Nat → Prop} {v : Value} {xs : List α} (h : IsS85 w0 W g f0 f1) (ho : d.Q e W base ok v xs) (ht : e ≠ 85) : some g ≠ v.ownBlock := by
 obtain ⟨A0, c0, hb, hg, hr0⟩ := h
 exact Kd.Q_ne ho hb ht
theorem IsS85.apartS {w0 W : World} {g : Nat} {f0 : List Int} {f1 : Int} {α : Type} {d : Kd α} {e : Nat} {base : Nat} {ok : Nat → Prop} {v : Value} {xs : List α} (h : IsS85 w0 W g f0 f1) (ho : d.S e W base ok v xs) (ht : ∀ q, q ∈ e :: d.E → q ≠ 85) : d.S e W base (fun k => ok k ∧ k ≠ g) v xs := by
 obtain ⟨A0, c0, hb, hg, hr0⟩ := h
 exact Kd.S_types ho hb ht
theorem IsS85.own_neS {w0 W : World} {g : Nat} {f0 : List Int} {f1 : Int} {α : Type} {d : Kd α} {e : Nat} {base : Nat} {ok : Nat → Prop} {v : Value} {xs : List α} (h : IsS85 w0 W g f0 f1) (ho : d.S e W base ok v xs) (ht : e ≠ 85) : some g ≠ v.ownBlock := by
 obtain ⟨A0, c0, hb, hg, hr0⟩ := h
 exact Kd.S_ne ho hb ht
theorem IsS85.lt {w0 W : World} {g : Nat} {f0 : List Int} {f1 : Int} (h : IsS85 w0 W g f0 f1) : g < W.heap.size := by
 obtain ⟨A0, c0, hb, hg, hr0⟩ := h
 exact blk_lt hb
theorem IsS85.ge {w0 W : World} {g : Nat} {f0 : List Int} {f1 : Int} (h : IsS85 w0 W g f0 f1) : w0.heap.size ≤ g := by
 obtain ⟨A0, c0, hb, hg, hr0⟩ := h
 exact hg
theorem IsS85.ne_blk {w0 W : World} {g : Nat} {f0 : List Int} {f1 : Int} {a : Nat} {cs : Array Value} {t : TypeId} {fr : Nat × Nat} (h : IsS85 w0 W g f0 f1) (hb2 : W.heap[a]? = some (.cells cs t fr)) (ht : t ≠ 85) : g ≠ a := by
 obtain ⟨A0, c0, hb, hg, hr0⟩ := h
 rintro rfl
 rw [hb] at hb2
 injection hb2 with hb2
 injection hb2 with _ ht2
 exact ht ht2.symm
theorem IsS85.far {w0 W : World} {g : Nat} {f0 : List Int} {f1 : Int} {p : Addr} (h : IsS85 w0 W g f0 f1) (hne : g ≠ p.block) (u : Value) : IsS85 w0 (W.setCell p u) g f0 f1 := by
 obtain ⟨A0, c0, hb, hg, hr0⟩ := h
 exact ⟨A0, c0, blk_far hb hne u, hg, hr0⟩
theorem cellS85_0 {W : World} {g : Nat} {A0 : Option Addr} {c0 : Nat} {f0 : List Int} {f1 : Int} (h : W.heap[g]? = some (.cells #[.slice A0 f0.length c0, .int .i64 f1] 85 (0, 0))) : W.cell? ⟨g, 0, none⟩ = some (.slice A0 f0.length c0) := (blk_cell h 0).trans rfl
theorem cellS85_1 {W : World} {g : Nat} {A0 : Option Addr} {c0 : Nat} {f0 : List Int} {f1 : Int} (h : W.heap[g]? = some (.cells #[.slice A0 f0.length c0, .int .i64 f1] 85 (0, 0))) : W.cell? ⟨g, 1, none⟩ = some (.int .i64 f1) := (blk_cell h 1).trans rfl
theorem IsS85.set_1 {w0 W : World} {g : Nat} {f0 : List Int} {f1 : Int} (h : IsS85 w0 W g f0 f1) (x : Int) : IsS85 w0 (W.setCell ⟨g, 1, none⟩ (.int .i64 x)) g f0 x := by
 obtain ⟨A0, c0, hb, hg, hr0⟩ := h
 exact ⟨A0, c0, by simpa using blk_set hb 1 (.int .i64 x), hg, hr0⟩
theorem IsS85.new (w0 W : World) (A0 : Option Addr) (c0 : Nat) (f0 : List Int) (f1 : Int) (hB : Below w0.heap.size w0 W) (hr0 : Kd.C (Kd.int .u8) w0 A0 f0.length f0) : IsS85 w0 (W.alloc (.cells #[.slice A0 f0.length c0, .int .i64 f1] 85)) W.heap.size f0 f1 := ⟨A0, c0, by simpa using heap_alloc_new W _, hB.size, hr0⟩
theorem farA85 {w0 W : World} {g : Nat} {f0 : List Int} {f1 : Int} {g2 j : Nat} {u : Value} (h : IsS85 w0 W g f0 f1) (hn : Aside0 (g ≠ g2)) : IsS85 w0 (W.setCell ⟨g2, j, none⟩ u) g f0 f1 := IsS85.far h hn.out u
theorem iS85 {w0 W W2 : World} {g : Nat} {f0 : List Int} {f1 : Int} {f0' : List Int} {f1' : Int} (a : IsS85 w0 W g f0 f1) (f : IsS85 w0 W g f0 f1 → IsS85 w0 W2 g f0' f1' := by intro h_; repeat (first | (with_reducible first | exact h_ | apply IsS85.alloc | apply IsS85.drewN | apply IsS85.drew | apply IsS85.set_1 | (refine farA85 ?_ ?_; rotate_left; assumption)) | exact h_)) : IsS85 w0 W2 g f0' f1' := f a
theorem wS85 {n : Nat} {w w' W : World} (a : Below n w w') (f : Below n w w' → Below n w W := by intro h_; repeat (first | (with_reducible first | exact h_ | apply below_alloc | apply pw_below_drewN | apply below_drew1 | (refine below_set ?_ ?_; rotate_left; exact IsS85.ge (Aside0.out (by assumption))) | (refine below_setA ?_ ?_; rotate_left; assumption)) | exact h_)) : Below n w W := f a
def spec_newReader.f (l0 : List Int) : Option (List Int × Int) := if (l0.length : Int) > 2000 then (if 2000 ≤ (l0.length : Int) then (some (l0.take 2000, 0)) else (none)) else (some (l0, 0))
set_option maxHeartbeats 8000000 in
set_option maxRecDepth 100000 in
theorem spec_newReader.calls (A0 : Option Addr) (c0 : Nat) (l0 : List Int) (r1 : List Int) (r2 : Int) (w0 w : World) (hB : Below w0.heap.size w0 w) (hr0 : Kd.C (Kd.int .u8) w0 A0 l0.length l0) (hc0 : l0.length ≤ c0) (h : spec_newReader.f l0 = some (r1, r2)) :
  Calls Try.prog 42 #[.slice A0 l0.length c0] w fun e w' => ∃ g_ : Nat, e = .returned (.pointer (some ⟨g_, 0, none⟩)) ∧ IsS85 w0 w' g_ r1 r2 ∧ Below w0.heap.size w0 w' ∧ Below w.heap.size w w' := by
 have hu85 := Try.underlying85
 have HR0 := aM hr0
 have HC0 := aM hc0
 clear hr0 hc0
 have HBW := aM (Below.refl w.heap.size w)
 have HW0 := aM hB.size
 have HB := aM hB
 clear hB
 unfold spec_newReader.f at h
 have H := h
 clear h
 by_cases c2 : (l0.length : Int) > 2000
 rotate_left
 ·rw [if_neg c2] at H
  have c2b0 : decide (2000 < (l0.length : Int)) = false := decide_eq_false c2
  have c2b1 : decide (2000 < l0.length) = false := decide_eq_false (by omega)
  clear c2
  simp only [Option.some.injEq, Prod.mk.injEq] at H
  obtain ⟨rfl, rfl⟩ := H
  go_enter Try.func42, Try.ntmps42
  go_wp2_with (first | ((with_reducible refine gate_dst (N := 10) rfl ?_); refine bxE (N := 10) (cs := #[.slice A0 l0.length c0, .int .i64 0]) (t := 85) ?_; intro gb103 hg w6 hbox hb; replace HB := bS HB hb; have BK103 := aM (hbox); have GW103 := aM ((by rw [hg]; exact (below_size (qW HBW.out)) : w.heap.size ≤ gb103)); have GE103 := aM ((Nat.le_trans HW0.out (by rw [hg]; exact (below_size (qW HBW.out)) : w.heap.size ≤ gb103) : w0.heap.size ≤ gb103)); replace HBW := aM (below_step HBW.out hb); clear hb hbox hg))
  go_ret
  exact ⟨_, rfl, (show IsS85 w0 _ gb103 l0 0 from ⟨_, _, by refine qB ?_; exact BK103.out, GE103.out, HR0.out⟩), by exact qW HB.out, by exact qW HBW.out⟩
 rw [if_pos c2] at H
 have c2b0 : decide (2000 < (l0.length : Int)) = true := decide_eq_true c2
 have c2b1 : decide (2000 < l0.length) = true := decide_eq_true (by omega)
 clear c2
 replace H := iS H
 obtain ⟨c3, H⟩ := H
 have c3b0 := eq_true c3
 have c3b1 : decide (2000 ≤ (l0.length : Int)) = true := decide_eq_true c3
 clear c3
 simp only [Option.some.injEq, Prod.mk.injEq] at H
 obtain ⟨rfl, rfl⟩ := H
 obtain ⟨i04, hi04, _, hsz4, _⟩ := info_parts info5
 obtain ⟨hcut4, hA4, hC4⟩ := print_take_of (P := Try.prog) (Value.int .u8) 0 22 5 .i64 Try.underlying22 hi04 hsz4 A0 c0 l0 2000 (by omega) oD HC0.out
 have HR101 := aM (Kd.C_of_reads (h1 := fun _ => rfl) (hA4 _ (Kd.reads_of_C HR0.out)))
 have HC101 := aM hC4
 clear hA4 hC4 hi04 hsz4
 go_enter Try.func42, Try.ntmps42
 go_wp2_with (first | ((with_reducible refine gate_dst (N := 10) rfl ?_); refine bxE (N := 10) (cs := #[.slice A0 (l0.take 2000).length c0, .int .i64 0]) (t := 85) ?_; intro gb102 hg w5 hbox hb; replace HB := bS HB hb; have BK102 := aM (hbox); have GW102 := aM ((by rw [hg]; exact (below_size (qW HBW.out)) : w.heap.size ≤ gb102)); have GE102 := aM ((Nat.le_trans HW0.out (by rw [hg]; exact (below_size (qW HBW.out)) : w.heap.size ≤ gb102) : w0.heap.size ≤ gb102)); replace HBW := aM (below_step HBW.out hb); clear hb hbox hg))
 go_ret
 exact ⟨_, rfl, (show IsS85 w0 _ gb102 (l0.take 2000) 0 from ⟨_, _, by refine qB ?_; exact BK102.out, GE102.out, HR101.out⟩), by exact qW HB.out, by exact qW HBW.out⟩
def spec_reader_pick.j0 : Nat → Int → Bool → List Int → Int → Option (Int × Int)
 | 0, _, _, _, _ => none
 | k + 1, x1, x24, x1000, x1001 => if x24 = true then (some (0, x1001)) else (if (wrap64 (x1001 - 1)) < (x1000.length : Int) then (if 0 ≤ (wrap64 (x1001 - 1)) then (if x1 = 0 then (none) else (some (Int.tmod (wrap64 (rd x1000 (wrap64 (x1001 - 1)))) x1, x1001))) else (none)) else (if (x1000.length : Int) = 0 then (none) else (if 0 ≤ (Int.tmod (wrap64 (x1001 - 1)) (x1000.length : Int)) then (if (Int.tmod (wrap64 (x1001 - 1)) (x1000.length : Int)) < (x1000.length : Int) then (if 0 ≤ (Int.tmod (wrap64 ((wrap64 ((wrap64 (x1001 - 1)) * 7)) + 3)) (x1000.length : Int)) then (if (Int.tmod (wrap64 ((wrap64 ((wrap64 (x1001 - 1)) * 7)) + 3)) (x1000.length : Int)) < (x1000.length : Int) then (if x1 = 0 then (none) else (some (Int.tmod (Go.bits .xor .i64 (wrap64 ((wrap64 ((wrap64 ((wrap64 ((wrap64 (rd x1000 (Int.tmod (wrap64 (x1001 - 1)) (x1000.length : Int)))) * 131)) + (wrap64 ((wrap64 (rd x1000 (Int.tmod (wrap64 ((wrap64 ((wrap64 (x1001 - 1)) * 7)) + 3)) (x1000.length : Int)))) * 1117)))) + (wrap64 ((wrap64 (x1001 - 1)) * 29)))) + (wrap64 ((wrap64 (Int.tdiv (wrap64 (x1001 - 1)) (x1000.length : Int))) * 53)))) (wrap64 (Int.tdiv (wrap64 ((wrap64 ((wrap64 ((wrap64 ((wrap64 (rd x1000 (Int.tmod (wrap64 (x1001 - 1)) (x1000.length : Int)))) * 131)) + (wrap64 ((wrap64 (rd x1000 (Int.tmod (wrap64 ((wrap64 ((wrap64 (x1001 - 1)) * 7)) + 3)) (x1000.length : Int)))) * 1117)))) + (wrap64 ((wrap64 (x1001 - 1)) * 29)))) + (wrap64 ((wrap64 (Int.tdiv (wrap64 (x1001 - 1)) (x1000.length : Int))) * 53)))) 64))) x1, x1001))) else (none)) else (none)) else (none)) else (none))))
def spec_reader_pick.f (k : Nat) (s0_0 : List Int) (s0_1 : Int) (a1 : Int) : Option (Int × Int) := if a1 < 1 then (spec_reader_pick.j0 k a1 true s0_0 (wrap64 (s0_1 + 1))) else (spec_reader_pick.j0 k a1 ((s0_0.length : Int) == 0) s0_0 (wrap64 (s0_1 + 1)))
theorem spec_reader_pick.mono_l : ∀ k, (∀ y0 y1 y2 y3, LeO (spec_reader_pick.j0 k y0 y1 y2 y3) (spec_reader_pick.j0 (k + 1) y0 y1 y2 y3))
 | 0 => fun _ _ _ _ r h => by simp [spec_reader_pick.j0] at h
 | k + 1 => by
  have ih0 := spec_reader_pick.mono_l k
  ·intro y0 y1 y2 y3
   unfold spec_reader_pick.j0
   repeat' first | (with_reducible first | exact ih0 _ _ _ _ | exact lR | exact lN | refine lI ?_ ?_ | refine lB ?_ fun _ => ?_) | exact ih0 _ _ _ _ | exact lN | refine lI ?_ ?_ | refine lB ?_ fun _ => ?_
theorem spec_reader_pick.mono : ∀ a0 a1 a2 k, LeO (spec_reader_pick.f k a0 a1 a2) (spec_reader_pick.f (k + 1) a0 a1 a2) := by
 intro a0 a1 a2 k
 have ih0 := spec_reader_pick.mono_l k
 unfold spec_reader_pick.f
 repeat' first | (with_reducible first | exact ih0 _ _ _ _ | exact lR | exact lN | refine lI ?_ ?_ | refine lB ?_ fun _ => ?_) | exact ih0 _ _ _ _ | exact lN | refine lI ?_ ?_ | refine lB ?_ fun _ => ?_
set_option maxHeartbeats 8000000 in
set_option maxRecDepth 100000 in
theorem spec_reader_pick.calls (k : Nat) (g : Nat) (s0_0 : List Int) (s0_1 : Int) (a1 : Int) (r1 : Int) (r2 : Int) (w0 w : World) (hI : IsS85 w0 w g s0_0 s0_1) (hB : Below w0.heap.size w0 w) (h : spec_reader_pick.f k s0_0 s0_1 a1 = some (r1, r2)) :
  Calls Try.prog 45 #[.pointer (some ⟨g, 0, none⟩), .int .i64 a1] w fun e w' => e = .returned (.int .i64 r1) ∧ IsS85 w0 w' g s0_0 r2 ∧ Below w0.heap.size w0 w' ∧ KeepBut w w' g none := by
 have HI0 := aM hI
 have HK := aM (KeepBut.refl w g none)
 have HL := aM hB.size
 clear hI
 have HW0 := aM hB.size
 have HB := aM hB
 clear hB
 unfold spec_reader_pick.f at h
 have H := h
 clear h
 have HC3 := aM H
 clear H
 obtain ⟨ASz4_0, cSz4_0, HGz4, hgz4, HSz4_0⟩ := HI0.out
 have hcz4_0 := cellS85_0 HGz4
 have hcz4_1 := cellS85_1 HGz4
 have hfz4_1 := blk_frozen HGz4 1
 clear HGz4 hgz4
 go_enter Try.func45, Try.ntmps45
 go_upto_region 2 with (fail)
 repeat (go_quiet (fail); go_upto_region 2 with (fail))
 go_cut [24] (fun v24 wc => ∃ (kq : Nat) (x24_2 : Bool), v24 = .bool x24_2 ∧ Aside0 (spec_reader_pick.j0 kq a1 x24_2 s0_0 (wrap64 (s0_1 + 1)) = some (r1, r2)) ∧ Aside0 (kq ≤ k) ∧ Aside0 (IsS85 w0 wc g s0_0 (wrap64 (s0_1 + 1))) ∧ Aside0 (KeepBut w wc g none) ∧ Aside0 (Below w0.heap.size w0 wc))
 case first =>
  have H := HC3.out
  clear HC3
  by_cases c5 : a1 < 1
  ·rw [if_pos c5] at H
   have c5b0 : decide (a1 < 1) = true := decide_eq_true c5
   clear c5
   (first | rw [c5b0] | (simp only [i64_w, i32_w]; rw [c5b0]) | skip)
   have H' := aM H
   clear H
   go_wp2
   repeat (go_quiet (fail); try go_wp2)
   go_meet
   case rel => exact ⟨_, (true), qE, H', ⟨by first | omega | exact Nat.le_refl _⟩, ⟨iS85 HI0.out⟩, ⟨kB HK.out⟩, ⟨wS85 HB.out⟩⟩
  rw [if_neg c5] at H
  have c5b0 : decide (a1 < 1) = false := decide_eq_false c5
  clear c5
  (first | rw [c5b0] | (simp only [i64_w, i32_w]; rw [c5b0]) | skip)
  have H' := aM H
  clear H
  obtain ⟨ASz6_0, cSz6_0, HGz6, hgz6, HSz6_0⟩ := HI0.out
  have hcz6_0 := cellS85_0 HGz6
  have hcz6_1 := cellS85_1 HGz6
  have hfz6_1 := blk_frozen HGz6 1
  clear HGz6 hgz6
  go_wp2
  repeat (go_quiet (fail); try go_wp2)
  go_meet
  case rel => exact ⟨_, (((s0_0.length : Int) == 0)), qE, H', ⟨by first | omega | exact Nat.le_refl _⟩, ⟨iS85 HI0.out⟩, ⟨kB HK.out⟩, ⟨wS85 HB.out⟩⟩
 case rest =>
  clear HC3
  try clear c5
  try clear c5b0
  try clear hcz4_0 hcz4_1 hfz4_1
  try clear hcz6_0 hcz6_1 hfz6_1
  obtain ⟨kq, x24_2, rfl, HA, HJ2, HI0, HK, HB⟩ := hcut
  cases kq with
  | zero => exact absurd HA.out (by simp [spec_reader_pick.j0])
  | succ kj2 =>
   have H := HA.out
   clear HA
   simp only [spec_reader_pick.j0] at H
   by_cases c7 : x24_2 = true
   ·subst c7
    have H1 : (some (0, (wrap64 (s0_1 + 1)))) = some (r1, r2) := by rw [if_pos rfl] at H; exact H
    clear H
    have H := H1
    clear H1
    simp only [Option.some.injEq, Prod.mk.injEq] at H
    obtain ⟨rfl, rfl⟩ := H
    go_wp2
    repeat (go_quiet (fail); try go_wp2)
    go_ret
    exact ⟨qX, iS85 HI0.out, wS85 HB.out, kB HK.out⟩
   replace c7 := Bool.eq_false_iff.mpr c7
   subst c7
   have H1 : (if (wrap64 ((wrap64 (s0_1 + 1)) - 1)) < (s0_0.length : Int) then (if 0 ≤ (wrap64 ((wrap64 (s0_1 + 1)) - 1)) then (if a1 = 0 then (none) else (some (Int.tmod (wrap64 (rd s0_0 (wrap64 ((wrap64 (s0_1 + 1)) - 1)))) a1, (wrap64 (s0_1 + 1))))) else (none)) else (if (s0_0.length : Int) = 0 then (none) else (if 0 ≤ (Int.tmod (wrap64 ((wrap64 (s0_1 + 1)) - 1)) (s0_0.length : Int)) then (if (Int.tmod (wrap64 ((wrap64 (s0_1 + 1)) - 1)) (s0_0.length : Int)) < (s0_0.length : Int) then (if 0 ≤ (Int.tmod (wrap64 ((wrap64 ((wrap64 ((wrap64 (s0_1 + 1)) - 1)) * 7)) + 3)) (s0_0.length : Int)) then (if (Int.tmod (wrap64 ((wrap64 ((wrap64 ((wrap64 (s0_1 + 1)) - 1)) * 7)) + 3)) (s0_0.length : Int)) < (s0_0.length : Int) then (if a1 = 0 then (none) else (some (Int.tmod (Go.bits .xor .i64 (wrap64 ((wrap64 ((wrap64 ((wrap64 ((wrap64 (rd s0_0 (Int.tmod (wrap64 ((wrap64 (s0_1 + 1)) - 1)) (s0_0.length : Int)))) * 131)) + (wrap64 ((wrap64 (rd s0_0 (Int.tmod (wrap64 ((wrap64 ((wrap64 ((wrap64 (s0_1 + 1)) - 1)) * 7)) + 3)) (s0_0.length : Int)))) * 1117)))) + (wrap64 ((wrap64 ((wrap64 (s0_1 + 1)) - 1)) * 29)))) + (wrap64 ((wrap64 (Int.tdiv (wrap64 ((wrap64 (s0_1 + 1)) - 1)) (s0_0.length : Int))) * 53)))) (wrap64 (Int.tdiv (wrap64 ((wrap64 ((wrap64 ((wrap64 ((wrap64 (rd s0_0 (Int.tmod (wrap64 ((wrap64 (s0_1 + 1)) - 1)) (s0_0.length : Int)))) * 131)) + (wrap64 ((wrap64 (rd s0_0 (Int.tmod (wrap64 ((wrap64 ((wrap64 ((wrap64 (s0_1 + 1)) - 1)) * 7)) + 3)) (s0_0.length : Int)))) * 1117)))) + (wrap64 ((wrap64 ((wrap64 (s0_1 + 1)) - 1)) * 29)))) + (wrap64 ((wrap64 (Int.tdiv (wrap64 ((wrap64 (s0_1 + 1)) - 1)) (s0_0.length : Int))) * 53)))) 64))) a1, (wrap64 (s0_1 + 1))))) else (none)) else (none)) else (none)) else (none)))) = some (r1, r2) := by rw [if_neg (show ¬ (false = true) by decide)] at H; exact H
   clear H
   have H := H1
   clear H1
   by_cases c8 : (wrap64 ((wrap64 (s0_1 + 1)) - 1)) < (s0_0.length : Int)
   ·rw [if_pos c8] at H
    have c8b0 : decide ((wrap64 ((wrap64 (s0_1 + 1)) - 1)) < (s0_0.length : Int)) = true := decide_eq_true c8
    clear c8
    obtain ⟨ji9, hji9⟩ : ∃ j_ : Int, (wrap64 ((wrap64 (s0_1 + 1)) - 1)) = j_ := ⟨_, rfl⟩
    replace H : (if 0 ≤ (ji9) then (if a1 = 0 then (none) else (some (Int.tmod (wrap64 (rd s0_0 (ji9))) a1, (wrap64 (s0_1 + 1))))) else (none)) = some (r1, r2) := by first | (rw [hji9] at H; exact H) | (simp only [hji9] at H ⊢; exact H)
    (try rw [hji9] at c8b0)
    have hji9w : (IntKind.i64.wrap ((wrap64 (s0_1 + 1)) - 1)) = ji9 := (i64_w _).trans hji9
    replace H := iD H
    obtain ⟨c10b0, H⟩ := H
    by_cases c11 : a1 = 0
    ·rw [if_pos c11] at H
     exact absurd H (by simp)
    rw [if_neg c11] at H
    have c11b0 : (a1 == 0) = false := beq_eq_false_iff_ne.mpr c11
    have c11b1 : (a1 != 0) = true := bne_iff_ne.mpr c11
    simp only [Option.some.injEq, Prod.mk.injEq] at H
    obtain ⟨rfl, rfl⟩ := H
    obtain ⟨ASz12_0, cSz12_0, HGz12, hgz12, HSz12_0⟩ := HI0.out
    have hcz12_0 := cellS85_0 HGz12
    have hcz12_1 := cellS85_1 HGz12
    have hfz12_1 := blk_frozen HGz12 1
    clear HGz12 hgz12
    obtain ⟨ad133, e133, hx133_0⟩ := Kd.at_int HSz12_0 (ji9) oD oD
    cases e133
    replace hx133_0 := pw_cell_below HB.out hx133_0
    have p133 := eq_true (oD : 0 ≤ ((ji9) : Int))
    have q133 := eq_true (oD : (ji9) < (s0_0.length : Int))
    go_wp2
    repeat (go_quiet (fail); try go_wp2)
    go_ret
    exact ⟨by first | rfl | (simp [errW_none, errW_some] <;> rfl) | (simp only [← hji9]; first | rfl | (simp [errW_none, errW_some] <;> rfl)) | (simp [*, errW_none, errW_some] <;> rfl), iS85 HI0.out, wS85 HB.out, kB HK.out⟩
   rw [if_neg c8] at H
   have c8b0 : decide ((wrap64 ((wrap64 (s0_1 + 1)) - 1)) < (s0_0.length : Int)) = false := decide_eq_false c8
   clear c8
   by_cases c13 : (s0_0.length : Int) = 0
   ·rw [if_pos c13] at H
    exact absurd H (by simp)
   rw [if_neg c13] at H
   have c13b0 : ((s0_0.length : Int) == 0) = false := beq_eq_false_iff_ne.mpr c13
   have c13b1 : ((s0_0.length : Int) != 0) = true := bne_iff_ne.mpr c13
   have c13b2 : ¬ (s0_0 = []) := fun h_ => c13 (by rw [h_]; rfl)
   obtain ⟨ji14, hji14⟩ : ∃ j_ : Int, (Int.tmod (wrap64 ((wrap64 (s0_1 + 1)) - 1)) (s0_0.length : Int)) = j_ := ⟨_, rfl⟩
   replace H : (if 0 ≤ (ji14) then (if (ji14) < (s0_0.length : Int) then (if 0 ≤ (Int.tmod (wrap64 ((wrap64 ((wrap64 ((wrap64 (s0_1 + 1)) - 1)) * 7)) + 3)) (s0_0.length : Int)) then (if (Int.tmod (wrap64 ((wrap64 ((wrap64 ((wrap64 (s0_1 + 1)) - 1)) * 7)) + 3)) (s0_0.length : Int)) < (s0_0.length : Int) then (if a1 = 0 then (none) else (some (Int.tmod (Go.bits .xor .i64 (wrap64 ((wrap64 ((wrap64 ((wrap64 ((wrap64 (rd s0_0 (ji14))) * 131)) + (wrap64 ((wrap64 (rd s0_0 (Int.tmod (wrap64 ((wrap64 ((wrap64 ((wrap64 (s0_1 + 1)) - 1)) * 7)) + 3)) (s0_0.length : Int)))) * 1117)))) + (wrap64 ((wrap64 ((wrap64 (s0_1 + 1)) - 1)) * 29)))) + (wrap64 ((wrap64 (Int.tdiv (wrap64 ((wrap64 (s0_1 + 1)) - 1)) (s0_0.length : Int))) * 53)))) (wrap64 (Int.tdiv (wrap64 ((wrap64 ((wrap64 ((wrap64 ((wrap64 (rd s0_0 (ji14))) * 131)) + (wrap64 ((wrap64 (rd s0_0 (Int.tmod (wrap64 ((wrap64 ((wrap64 ((wrap64 (s0_1 + 1)) - 1)) * 7)) + 3)) (s0_0.length : Int)))) * 1117)))) + (wrap64 ((wrap64 ((wrap64 (s0_1 + 1)) - 1)) * 29)))) + (wrap64 ((wrap64 (Int.tdiv (wrap64 ((wrap64 (s0_1 + 1)) - 1)) (s0_0.length : Int))) * 53)))) 64))) a1, (wrap64 (s0_1 + 1))))) else (none)) else (none)) else (none)) else (none)) = some (r1, r2) := by first | (rw [hji14] at H; exact H) | (simp only [hji14] at H ⊢; exact H)
   replace H := iD H
   obtain ⟨c15b0, H⟩ := H
   replace H := iD H
   obtain ⟨c16b0, H⟩ := H
   obtain ⟨ji17, hji17⟩ : ∃ j_ : Int, (Int.tmod (wrap64 ((wrap64 ((wrap64 ((wrap64 (s0_1 + 1)) - 1)) * 7)) + 3)) (s0_0.length : Int)) = j_ := ⟨_, rfl⟩
   replace H : (if 0 ≤ (ji17) then (if (ji17) < (s0_0.length : Int) then (if a1 = 0 then (none) else (some (Int.tmod (Go.bits .xor .i64 (wrap64 ((wrap64 ((wrap64 ((wrap64 ((wrap64 (rd s0_0 (ji14))) * 131)) + (wrap64 ((wrap64 (rd s0_0 (ji17))) * 1117)))) + (wrap64 ((wrap64 ((wrap64 (s0_1 + 1)) - 1)) * 29)))) + (wrap64 ((wrap64 (Int.tdiv (wrap64 ((wrap64 (s0_1 + 1)) - 1)) (s0_0.length : Int))) * 53)))) (wrap64 (Int.tdiv (wrap64 ((wrap64 ((wrap64 ((wrap64 ((wrap64 (rd s0_0 (ji14))) * 131)) + (wrap64 ((wrap64 (rd s0_0 (ji17))) * 1117)))) + (wrap64 ((wrap64 ((wrap64 (s0_1 + 1)) - 1)) * 29)))) + (wrap64 ((wrap64 (Int.tdiv (wrap64 ((wrap64 (s0_1 + 1)) - 1)) (s0_0.length : Int))) * 53)))) 64))) a1, (wrap64 (s0_1 + 1))))) else (none)) else (none)) = some (r1, r2) := by first | (rw [hji17] at H; exact H) | (simp only [hji17] at H ⊢; exact H)
   replace H := iD H
   obtain ⟨c18b0, H⟩ := H
   replace H := iD H
   obtain ⟨c19b0, H⟩ := H
   by_cases c20 : a1 = 0
   ·rw [if_pos c20] at H
    exact absurd H (by simp)
   rw [if_neg c20] at H
   have c20b0 : (a1 == 0) = false := beq_eq_false_iff_ne.mpr c20
   have c20b1 : (a1 != 0) = true := bne_iff_ne.mpr c20
   simp only [Option.some.injEq, Prod.mk.injEq] at H
   obtain ⟨rfl, rfl⟩ := H
   obtain ⟨ASz21_0, cSz21_0, HGz21, hgz21, HSz21_0⟩ := HI0.out
   have hcz21_0 := cellS85_0 HGz21
   have hcz21_1 := cellS85_1 HGz21
   have hfz21_1 := blk_frozen HGz21 1
   clear HGz21 hgz21
   obtain ⟨ad134, e134, hx134_0⟩ := Kd.at_int HSz21_0 (ji14) oD oD
   cases e134
   replace hx134_0 := pw_cell_below HB.out hx134_0
   have p134 := eq_true (oD : 0 ≤ ((ji14) : Int))
   have q134 := eq_true (oD : (ji14) < (s0_0.length : Int))
   obtain ⟨ad135, e135, hx135_0⟩ := Kd.at_int HSz21_0 (ji17) oD oD
   obtain rfl : ad134 = ad135 := (by injection e135)
   replace hx135_0 := pw_cell_below HB.out hx135_0
   have p135 := eq_true (oD : 0 ≤ ((ji17) : Int))
   have q135 := eq_true (oD : (ji17) < (s0_0.length : Int))
   go_wp2
   repeat (go_quiet (fail); try go_wp2)
   go_ret
   exact ⟨by first | rfl | (simp [errW_none, errW_some] <;> rfl) | (simp only [← hji14, ← hji17]; first | rfl | (simp [errW_none, errW_some] <;> rfl)) | (simp [*, errW_none, errW_some] <;> rfl), iS85 HI0.out, wS85 HB.out, kB HK.out⟩
def spec_reader_one.f (k : Nat) (s0_0 : List Int) (s0_1 : Int) (l1 : List Int) : Option (Int × Int) := (spec_reader_pick.f k s0_0 s0_1 (l1.length : Int)).bind fun bt136 => (if 0 ≤ bt136.1 then (if bt136.1 < (l1.length : Int) then (some (rd l1 bt136.1, bt136.2)) else (none)) else (none))
theorem spec_reader_one.mono : ∀ a0 a1 a2 k, LeO (spec_reader_one.f k a0 a1 a2) (spec_reader_one.f (k + 1) a0 a1 a2) := by
 intro a0 a1 a2 k
 unfold spec_reader_one.f
 repeat' first | (with_reducible first | exact spec_reader_pick.mono _ _ _ _ | exact lR | exact lN | refine lI ?_ ?_ | refine lB ?_ fun _ => ?_) | exact spec_reader_pick.mono _ _ _ _ | exact lN | refine lI ?_ ?_ | refine lB ?_ fun _ => ?_
set_option maxHeartbeats 8000000 in
set_option maxRecDepth 100000 in
theorem spec_reader_one.calls (k : Nat) (g : Nat) (s0_0 : List Int) (s0_1 : Int) (A1 : Option Addr) (c1 : Nat) (l1 : List Int) (r1 : Int) (r2 : Int) (w0 w : World) (hI : IsS85 w0 w g s0_0 s0_1) (hB : Below w0.heap.size w0 w) (hr1 : Kd.C (Kd.int .i64) w A1 l1.length l1) (hc1 : l1.length ≤ c1) (hf1 : ∀ ad, A1 = some ad → 0 < l1.length → ad.block ≠ g) (h : spec_reader_one.f k s0_0 s0_1 l1 = some (r1, r2)) :
  Calls Try.prog 98 #[.pointer (some ⟨g, 0, none⟩), .slice A1 l1.length c1] w fun e w' => e = .returned (.int .i64 r1) ∧ IsS85 w0 w' g s0_0 r2 ∧ Below w0.heap.size w0 w' ∧ KeepBut w w' g none := by
 have HR1 := aM hr1
 have HC1 := aM hc1
 clear hr1 hc1
 have HI0 := aM hI
 have HK := aM (KeepBut.refl w g none)
 have HL := aM hB.size
 clear hI
 have HW0 := aM hB.size
 have HB := aM hB
 clear hB
 unfold spec_reader_one.f at h
 have H := h
 clear h
 replace H := Option.bind_eq_some_iff.mp H
 obtain ⟨⟨t136, t137⟩, A30, H⟩ := H
 replace H : (if 0 ≤ t136 then (if t136 < (l1.length : Int) then (some (rd l1 t136, t137)) else (none)) else (none)) = some (r1, r2) := H
 have A3 := aM A30
 clear A30
 replace H := iD H
 obtain ⟨c4b0, H⟩ := H
 replace H := iD H
 obtain ⟨c5b0, H⟩ := H
 simp only [Option.some.injEq, Prod.mk.injEq] at H
 obtain ⟨rfl, rfl⟩ := H
 go_enter Try.func98, Try.ntmps98
 go_wp2_with (first | ((with_reducible refine gate_callee (f := 45) rfl ?_); refine gL (some 9) Try.func45 #[.pointer (some ⟨g, 0, none⟩), .int .i64 (l1.length : Int)] ?_; (with_reducible refine (spec_reader_pick.calls k g s0_0 s0_1 (l1.length : Int) t136 t137 w0 _ ?side1 ?side2 A3.out).mono ?_); (case side1 => exact iS85 HI0.out); (case side2 => exact wS85 HB.out); rintro e w6 ⟨rfl, hi, hb, hk⟩; refine ⟨_, rfl, ?_⟩; replace HK := aM (KeepBut.trans (kB HK.out) hk (.inl rfl)); replace HB := aM (hb); replace HI0 := aM (hi); clear hb hk hi; have p138 : 0 ≤ (t136 : Int) := oD; have q138 : t136 < (l1.length : Int) := oD; obtain ⟨ad138, e138, hx138_0⟩ := Kd.at_int HR1.out t136 p138 q138; cases e138; replace hx138_0 := keep_cell HK.out hx138_0 (by first | (rw [add_block]; exact hf1 _ rfl (by omega)) | exact hf1 _ rfl (by omega) | exact hf1 ad138 rfl (by omega)); replace p138 := eq_true p138; replace q138 := eq_true q138))
 go_ret
 exact ⟨qX, iS85 HI0.out, wS85 HB.out, kB HK.out⟩
end Go.Proofs.Yteeeedmmcdlhjaa.P
