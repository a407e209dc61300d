/- Contracts and row, written by a program of this place out of the translation: the call answers true and its argument reads as before, for every input; no condition. -/
import Derived.Test.YtohbpilokmppbaaK0
import Derived.Test.YtohbpilokmppbaaK1
namespace Go.Proofs.Ytohbpilokmppbaa.P
open Go.RowKit Go.Proofs.YtohbpilokmppbaaW.PrintWords Go.Proofs.YtohbpilokmppbaaW.PrintLast Go.Proofs.YtohbpilokmppbaaW.PrintMore
attribute [local go_sem] max2_int min2_int max_two min_two max_three min_three max_four min_four   -- for this text's walks alone
set_option linter.unusedVariables false
set_option linter.unusedSimpArgs false
theorem eqInts_l (a b : List Int) (h : a.length = b.length) (hl : a.length ≤ 1000) : ∀ (d i : Nat), i + d = a.length → (∀ j, j < i → a.getD j 0 = b.getD j 0) → slices_Equal_int_int.l0 (d + 1) a b (a.length : Int) i = some (decide (a = b)) := by
 intro d
 induction d with
 | zero =>
  intro i hi hj
  rw [slices_Equal_int_int.l0, if_neg (by omega)]
  congr 1
  refine (decide_eq_true (List.ext_getElem h fun j h1 h2 => ?_)).symm
  have := hj j (by omega)
  simpa [List.getD_eq_getElem?_getD, List.getElem?_eq_getElem h1, List.getElem?_eq_getElem h2] using this
 | succ d ih =>
  intro i hi hj
  rw [slices_Equal_int_int.l0, if_pos (by omega), if_pos (by omega), if_pos (by omega), if_pos (by omega)]
  have r : ∀ l : List Int, rd l (i : Int) = l.getD i 0 := fun l => by simp [rd]
  rw [r, r]
  by_cases e : a.getD i 0 = b.getD i 0
  rotate_left
  ·rw [if_neg e, decide_eq_false fun e2 => e (by rw [e2])]
  rw [if_pos e, wrap_small (by omega) (by omega), show (i : Int) + 1 = ((i + 1 : Nat) : Int) by omega]
  refine ih (i + 1) (by omega) fun j hj2 => ?_
  by_cases e2 : j = i
  ·rw [e2]; exact e
  exact hj j (by omega)
theorem eqInts_f (a b : List Int) (hl : a.length ≤ 1000) : slices_Equal_int_int.f (a.length + 1) a b = some (decide (a = b)) := by
 unfold slices_Equal_int_int.f
 by_cases h : a.length = b.length
 rotate_left
 ·rw [if_neg (by omega), decide_eq_false fun e => h (by rw [e])]
 rw [if_pos (by omega)]
 exact eqInts_l a b h hl a.length 0 (by omega) (fun j hj => by omega)
theorem eqInts_any (a b : List Int) (hl : b.length ≤ 1000) : ∃ k, slices_Equal_int_int.f k a b = some (decide (a = b)) := by
 by_cases h : a.length = b.length
 ·exact ⟨_, eqInts_f a b (by omega)⟩
 refine ⟨0, ?_⟩
 unfold slices_Equal_int_int.f
 rw [if_neg (by omega), decide_eq_false fun e => h (by rw [e])]
theorem palTest (w : World) (B : Nat) (A : Option Addr) (c : Nat) (px : List Int) (hB : w.heap[B]? = some (.cells #[.slice A px.length c] 22 (0, 0))) (hr : Kd.C (Kd.int .i64) w A px.length px) (hc : px.length ≤ c) (hl : px.length ≤ 1000) :
  PredL 46 #[.pointer (some ⟨B, 0, none⟩)] (fun x => decide (x = px)) w := fun W A1 c1 x hb hr1 hl1 => by
 obtain ⟨k, hk⟩ := eqInts_any x px hl
 have HK := aM hk
 have hz : W.cell? ⟨B, 0, none⟩ = some (.slice A px.length c) := (blk_cell (blk_below hB hb) 0).trans rfl
 have HR := aM hr1
 have HL := aM hl1
 have HP := aM (Kd.C_below hr hb)
 have HC := aM hc
 clear hb hB hr hc hr1 hl1 hl hk
 dsimp only
 have hC := slices_Equal_int_int.calls k A1 c1 x A c px _ W HR.out HL.out HP.out HC.out HK.out
 generalize decide (x = px) = b at hC ⊢
 have HCC := aM hC
 clear hC
 go_enter Try.func46, Try.ntmps46
 go_wp2_with (go_at_call 47; refine HCC.out.mono ?_; rintro e w' ⟨rfl, ⟨q, rfl⟩⟩)
 go_ret
 exact ⟨rfl, ⟨⟨q, rfl⟩⟩⟩
def palAdd (xs : List (List Int)) (px : List Int) : List (List Int) := if (xs.any fun x => decide (x = px)) = true then xs else xs ++ [px]
def palRow (l : List Int) (a0 a2 : Int) (y : Nat) (xs : List (List Int)) : Nat → List (List Int)
 | 0 => xs
 | x + 1 => palAdd (palRow l a0 a2 y xs x) (pixOf l a0 a2 (x : Int) (y : Int))
def palAll (l : List Int) (a0 a2 : Int) : Nat → List (List Int)
 | 0 => []
 | y + 1 => palRow l a0 a2 y (palAll l a0 a2 y) a0.toNat
theorem palRow_len (l : List Int) (a0 a2 : Int) (y : Nat) (xs : List (List Int)) : ∀ x, (palRow l a0 a2 y xs x).length ≤ xs.length + x
 | 0 => Nat.le_refl _
 | x + 1 => by
  have := palRow_len l a0 a2 y xs x
  rw [palRow, palAdd]
  split
  ·omega
  ·rw [List.length_append, List.length_singleton]; omega
theorem palAll_len (l : List Int) (a0 a2 : Int) : ∀ y, (palAll l a0 a2 y).length ≤ y * a0.toNat
 | 0 => Nat.zero_le _
 | y + 1 => by
  have h1 := palAll_len l a0 a2 y
  have h2 := palRow_len l a0 a2 y (palAll l a0 a2 y) a0.toNat
  rw [palAll, Nat.succ_mul]
  omega
def impl_PaletteOf.f (a0_0 : Int) (a0_1 : Int) (a0_2 : Int) (l0_3 : List Int) : Option (List (List Int) × Bool) := (impl_isImage.f a0_0 a0_1 a0_2 l0_3).bind fun t0 => (if t0 = true then (if 16 < (palAll l0_3 a0_0 a0_2 a0_1.toNat).length then some (([] : List (List Int)), false) else some (palAll l0_3 a0_0 a0_2 a0_1.toNat, true)) else some (([] : List (List Int)), false))
set_option maxHeartbeats 8000000 in
set_option maxRecDepth 100000 in
theorem impl_PaletteOf.calls (a0_0 : Int) (a0_1 : Int) (a0_2 : Int) (A0_3 : Option Addr) (c0_3 : Nat) (l0_3 : List Int) (r1 : List (List Int)) (r2 : Bool) (w : World) (hr0_3 : Kd.C (Kd.int .i64) w A0_3 l0_3.length l0_3) (hc0_3 : l0_3.length ≤ c0_3) (h : impl_PaletteOf.f a0_0 a0_1 a0_2 l0_3 = some (r1, r2)) :
  Calls Try.prog 15 #[.agg #[.int .i64 a0_0, .int .i64 a0_1, .int .i64 a0_2, .slice A0_3 l0_3.length c0_3]] w fun e w' => ∃ v0_ : Value, e = .returned (.tuple #[v0_, .bool r2]) ∧ Kd.S (Kd.slice 3 (Kd.int .i64)) 22 w' w.heap.size (fun _ => True) v0_ r1 ∧ Below w.heap.size w w' := by
 have HR0 := aM hr0_3
 have HC0 := aM hc0_3
 clear hr0_3 hc0_3
 have HB := aM (Below.refl w.heap.size w)
 unfold impl_PaletteOf.f at h
 obtain ⟨t0, q0, H⟩ := Option.bind_eq_some_iff.mp h
 clear h
 have A0 := aM q0
 clear q0
 cases t0 with
 | false =>
  rw [if_neg (show ¬ (false = true) by decide)] at H
  simp only [Option.some.injEq, Prod.mk.injEq] at H
  obtain ⟨rfl, rfl⟩ := H
  go_enter Try.func15, Try.ntmps15
  go_wp2_with (first | ((with_reducible refine gate_dst (N := 1) rfl ?_); (try (refine gate_guard (by rfl) ?_; dsimp only)); refine bxE (N := 1) (cs := #[.int .i64 a0_0, .int .i64 a0_1, .int .i64 a0_2, .slice A0_3 l0_3.length c0_3]) (t := 29) ?_; intro gm hg w161 hbox hb; have n162 := bS HB hb; have n163 := aM hbox; have n164 := aM ((by rw [hg]; exact (below_size (qW HB.out))) : w.heap.size ≤ gm); clear HB; have HB := n162; have BKgm := n163; have GEgm := n164; clear n162 n163 n164; clear hb hbox hg; have hz165 : w161.cell? ⟨gm, 0, none⟩ = some (.int .i64 a0_0) := (blk_cell BKgm.out 0).trans rfl; have hz166 : w161.cell? ⟨gm, 1, none⟩ = some (.int .i64 a0_1) := (blk_cell BKgm.out 1).trans rfl; have hz167 : w161.cell? ⟨gm, 2, none⟩ = some (.int .i64 a0_2) := (blk_cell BKgm.out 2).trans rfl; have hz168 : w161.cell? ⟨gm, 3, none⟩ = some (.slice A0_3 l0_3.length c0_3) := (blk_cell BKgm.out 3).trans rfl; have hf169 := blk_frozen BKgm.out 0; have hf170 := blk_frozen BKgm.out 1; have hf171 := blk_frozen BKgm.out 2; have hf172 := blk_frozen BKgm.out 3) | (go_at_call 43; (with_reducible refine (impl_isImage.calls a0_0 a0_1 a0_2 _ _ l0_3 false _ ?side1 ?side2 A0.out).mono ?_); (case side1 => exact (Kd.C_below HR0.out (qW HB.out))); (case side2 => exact HC0.out); rintro e w173 ⟨rfl, hb⟩; have n174 := bB BKgm hb; have n175 := bS HB hb; clear HB BKgm; have BKgm := n174; have HB := n175; clear n174 n175 hb; have hz176 : w173.cell? ⟨gm, 0, none⟩ = some (.int .i64 a0_0) := (blk_cell BKgm.out 0).trans rfl; have hz177 : w173.cell? ⟨gm, 1, none⟩ = some (.int .i64 a0_1) := (blk_cell BKgm.out 1).trans rfl; have hz178 : w173.cell? ⟨gm, 2, none⟩ = some (.int .i64 a0_2) := (blk_cell BKgm.out 2).trans rfl; have hz179 : w173.cell? ⟨gm, 3, none⟩ = some (.slice A0_3 l0_3.length c0_3) := (blk_cell BKgm.out 3).trans rfl; have hf180 := blk_frozen BKgm.out 0; have hf181 := blk_frozen BKgm.out 1; have hf182 := blk_frozen BKgm.out 2; have hf183 := blk_frozen BKgm.out 3))
  go_ret2
  exact ⟨_, rfl, Kd.S_nil _ _ _ _ _, by exact qW HB.out⟩
 | true =>
  rw [if_pos rfl] at H
  have V := aM (isImage_true A0.out)
  have b_ := V.out
  obtain ⟨⟨v0, v0'⟩, ⟨v1, v1'⟩, ⟨v2, v2'⟩, hlen, hby⟩ := b_
  have HLN := aM hlen
  clear hlen hby
  obtain ⟨a, rfl⟩ := Int.eq_ofNat_of_zero_le (show 0 ≤ a0_0 by omega)
  obtain ⟨b, rfl⟩ := Int.eq_ofNat_of_zero_le (show 0 ≤ a0_1 by omega)
  rw [Int.toNat_natCast] at H
  have HH := aM H
  clear H
  go_enter Try.func15, Try.ntmps15
  go_wp2_with (first | ((with_reducible refine gate_dst (N := 1) rfl ?_); (try (refine gate_guard (by rfl) ?_; dsimp only)); refine bxE (N := 1) (cs := #[.int .i64 (a : Int), .int .i64 (b : Int), .int .i64 a0_2, .slice A0_3 l0_3.length c0_3]) (t := 29) ?_; intro gm hg w184 hbox hb; have n185 := bS HB hb; have n186 := aM hbox; have n187 := aM ((by rw [hg]; exact (below_size (qW HB.out))) : w.heap.size ≤ gm); clear HB; have HB := n185; have BKgm := n186; have GEgm := n187; clear n185 n186 n187; clear hb hbox hg; have hz188 : w184.cell? ⟨gm, 0, none⟩ = some (.int .i64 (a : Int)) := (blk_cell BKgm.out 0).trans rfl; have hz189 : w184.cell? ⟨gm, 1, none⟩ = some (.int .i64 (b : Int)) := (blk_cell BKgm.out 1).trans rfl; have hz190 : w184.cell? ⟨gm, 2, none⟩ = some (.int .i64 a0_2) := (blk_cell BKgm.out 2).trans rfl; have hz191 : w184.cell? ⟨gm, 3, none⟩ = some (.slice A0_3 l0_3.length c0_3) := (blk_cell BKgm.out 3).trans rfl; have hf192 := blk_frozen BKgm.out 0; have hf193 := blk_frozen BKgm.out 1; have hf194 := blk_frozen BKgm.out 2; have hf195 := blk_frozen BKgm.out 3) | (go_at_call 43; (with_reducible refine (impl_isImage.calls (a : Int) (b : Int) a0_2 _ _ l0_3 true _ ?side1 ?side2 A0.out).mono ?_); (case side1 => exact (Kd.C_below HR0.out (qW HB.out))); (case side2 => exact HC0.out); rintro e w196 ⟨rfl, hb⟩; have n197 := bB BKgm hb; have n198 := bS HB hb; clear HB BKgm; have BKgm := n197; have HB := n198; clear n197 n198 hb; have hz199 : w196.cell? ⟨gm, 0, none⟩ = some (.int .i64 (a : Int)) := (blk_cell BKgm.out 0).trans rfl; have hz200 : w196.cell? ⟨gm, 1, none⟩ = some (.int .i64 (b : Int)) := (blk_cell BKgm.out 1).trans rfl; have hz201 : w196.cell? ⟨gm, 2, none⟩ = some (.int .i64 a0_2) := (blk_cell BKgm.out 2).trans rfl; have hz202 : w196.cell? ⟨gm, 3, none⟩ = some (.slice A0_3 l0_3.length c0_3) := (blk_cell BKgm.out 3).trans rfl; have hf203 := blk_frozen BKgm.out 0; have hf204 := blk_frozen BKgm.out 1; have hf205 := blk_frozen BKgm.out 2; have hf206 := blk_frozen BKgm.out 3) | ((with_reducible refine gate_dst (N := 11) rfl ?_); refine Kd.S_lit (Kd.slice 3 (Kd.int .i64)) _ 22 ?hg (N := 11) ?hd (xs := ([] : List (List Int))) (inner := []) (ok := fun _ => True) (okp := fun _ => True) ?hr ?hp (fun _ hk => hk) trivial (Below.refl _ _) (Nat.le_refl _) (by simp) ?_; (case hd => rfl); (case hg => rfl); (case hr => first | (go_simp; done) | (go_simp; rfl)); (case hp => exact (Reps.none _ _)); intro vl w207 ho4 hb hg_ hnew_; clear hg_ hnew_; have r_ := aM (Kd.S_lower ho4 (below_size (qW HB.out))); have n208 := bB BKgm hb; have n209 := bS HB hb; clear HB BKgm; have BKgm := n208; have HB := n209; clear n208 n209 hb; have hz210 : w207.cell? ⟨gm, 0, none⟩ = some (.int .i64 (a : Int)) := (blk_cell BKgm.out 0).trans rfl; have hz211 : w207.cell? ⟨gm, 1, none⟩ = some (.int .i64 (b : Int)) := (blk_cell BKgm.out 1).trans rfl; have hz212 : w207.cell? ⟨gm, 2, none⟩ = some (.int .i64 a0_2) := (blk_cell BKgm.out 2).trans rfl; have hz213 : w207.cell? ⟨gm, 3, none⟩ = some (.slice A0_3 l0_3.length c0_3) := (blk_cell BKgm.out 3).trans rfl; have hf214 := blk_frozen BKgm.out 0; have hf215 := blk_frozen BKgm.out 1; have hf216 := blk_frozen BKgm.out 2; have hf217 := blk_frozen BKgm.out 3; have HO := r_; clear r_ ho4))
  go_loopg [4, 14] b (fun gg s4 s14 w' => ∃ (y : Nat) (u : Value), y ≤ b ∧ b - y ≤ gg ∧ s14 = .int .i64 y ∧ s4 = u ∧ Aside0 (Kd.S (Kd.slice 3 (Kd.int .i64)) 22 w' w.heap.size (fun _ => True) u (palAll l0_3 a a0_2 y)) ∧ Aside0 (w'.heap[gm]? = some (.cells #[.int .i64 (a : Int), .int .i64 (b : Int), .int .i64 a0_2, .slice A0_3 l0_3.length c0_3] 29 (0, 0))) ∧ Aside0 (Below w.heap.size w w'))
  case atStart => exact ⟨0, _, Nat.zero_le _, by omega, rfl, rfl, ⟨by (with_reducible repeat (first | apply Kd.S_alloc | apply Kd.S_drewN | apply Kd.S_drew)); exact HO.out⟩, ⟨by refine qB ?_; exact BKgm.out⟩, ⟨by exact qW HB.out⟩⟩
  case round =>
   clear HO HB BKgm
   obtain ⟨y, u, hy, hg, rfl, rfl, HO, BKgm, HB⟩ := hrel
   obtain ⟨wo, ewo⟩ : ∃ wo : World, wo = wr := ⟨_, rfl⟩
   subst ewo
   have hz218 : wo.cell? ⟨gm, 0, none⟩ = some (.int .i64 (a : Int)) := (blk_cell BKgm.out 0).trans rfl
   have hz219 : wo.cell? ⟨gm, 1, none⟩ = some (.int .i64 (b : Int)) := (blk_cell BKgm.out 1).trans rfl
   have hz220 : wo.cell? ⟨gm, 2, none⟩ = some (.int .i64 a0_2) := (blk_cell BKgm.out 2).trans rfl
   have hz221 : wo.cell? ⟨gm, 3, none⟩ = some (.slice A0_3 l0_3.length c0_3) := (blk_cell BKgm.out 3).trans rfl
   have hf222 := blk_frozen BKgm.out 0
   have hf223 := blk_frozen BKgm.out 1
   have hf224 := blk_frozen BKgm.out 2
   have hf225 := blk_frozen BKgm.out 3
   by_cases hlt : y < b
   case neg =>
    have hltz : ¬ (y : Int) < (b : Int) := by omega
    have ek : y = b := by omega
    subst ek
    obtain ⟨Au, cu, eu⟩ := Kd.S_slice HO.out
    subst eu
    have H := HH.out
    obtain ⟨xs, hxs⟩ : ∃ xs, palAll l0_3 a a0_2 y = xs := ⟨_, rfl⟩
    rw [hxs] at H HO
    rw [hxs]
    clear hxs
    by_cases k1 : 16 < xs.length
    ·rw [if_pos k1] at H
     simp only [Option.some.injEq, Prod.mk.injEq] at H
     obtain ⟨rfl, rfl⟩ := H
     have k1z : (16 : Int) < (xs.length : Int) := by omega
     go_wp2
     go_ret2
     exact ⟨_, rfl, Kd.S_nil _ _ _ _ _, by exact qW HB.out⟩
    rw [if_neg k1] at H
    simp only [Option.some.injEq, Prod.mk.injEq] at H
    obtain ⟨rfl, rfl⟩ := H
    have k1z : ¬ (16 : Int) < (xs.length : Int) := by omega
    go_wp2
    go_ret2
    exact ⟨_, rfl, by (with_reducible repeat (first | apply Kd.S_alloc | apply Kd.S_drewN | apply Kd.S_drew)); exact HO.out, by exact qW HB.out⟩
   case pos =>
    have hltz : (y : Int) < (b : Int) := by omega
    go_wp2
    go_loopg [4, 19] a (fun gg2 s4 s19 w' => ∃ (x : Nat) (u : Value), x ≤ a ∧ a - x ≤ gg2 ∧ s19 = .int .i64 x ∧ s4 = u ∧ Aside0 (Kd.S (Kd.slice 3 (Kd.int .i64)) 22 w' w.heap.size (fun _ => True) u (palRow l0_3 a a0_2 y (palAll l0_3 a a0_2 y) x)) ∧ Aside0 (w'.heap[gm]? = some (.cells #[.int .i64 (a : Int), .int .i64 (b : Int), .int .i64 a0_2, .slice A0_3 l0_3.length c0_3] 29 (0, 0))) ∧ Aside0 (Below w.heap.size w w'))
    case atStart => exact ⟨0, _, Nat.zero_le _, by omega, rfl, rfl, ⟨by (with_reducible repeat (first | apply Kd.S_alloc | apply Kd.S_drewN | apply Kd.S_drew)); exact HO.out⟩, ⟨by refine qB ?_; exact BKgm.out⟩, ⟨by exact qW HB.out⟩⟩
    case round =>
     clear HO HB BKgm
     obtain ⟨x, u, hx, hg2, rfl, rfl, HO, BKgm, HB⟩ := hrel
     have hz226 : wr.cell? ⟨gm, 0, none⟩ = some (.int .i64 (a : Int)) := (blk_cell BKgm.out 0).trans rfl
     have hz227 : wr.cell? ⟨gm, 1, none⟩ = some (.int .i64 (b : Int)) := (blk_cell BKgm.out 1).trans rfl
     have hz228 : wr.cell? ⟨gm, 2, none⟩ = some (.int .i64 a0_2) := (blk_cell BKgm.out 2).trans rfl
     have hz229 : wr.cell? ⟨gm, 3, none⟩ = some (.slice A0_3 l0_3.length c0_3) := (blk_cell BKgm.out 3).trans rfl
     have hf230 := blk_frozen BKgm.out 0
     have hf231 := blk_frozen BKgm.out 1
     have hf232 := blk_frozen BKgm.out 2
     have hf233 := blk_frozen BKgm.out 3
     by_cases hlx : x < a
     case neg =>
      have hlxz : ¬ (x : Int) < (a : Int) := by omega
      have ek : x = a := by omega
      subst ek
      go_wp2
      go_roundg (b - (y + 1))
      case measure => omega
      case rel => exact ⟨y + 1, _, by omega, by omega, by go_num, rfl, ⟨by rw [palAll, Int.toNat_natCast]; (with_reducible repeat (first | apply Kd.S_alloc | apply Kd.S_drewN | apply Kd.S_drew)); exact HO.out⟩, ⟨by refine qB ?_; exact BKgm.out⟩, ⟨by exact qW HB.out⟩⟩
     case pos =>
      have hlxz : (x : Int) < (a : Int) := by omega
      have hfit := pix_fits (a0 := a) (a1 := b) (a2 := a0_2) (x := x) (y := y) (by omega) (by omega) (by omega) (by omega) (by omega)
      rw [← HLN.out] at hfit
      have HCA := aM (fun (W' : World) (hb' : Below w.heap.size w W') => impl_at.calls2 a b a0_2 A0_3 c0_3 l0_3 x y W' (Kd.C_below HR0.out hb') HC0.out (by omega) v0' (by omega) (by omega) (by omega) (by omega) (by omega) (by omega) hfit)
      have hpl := pixOf_len l0_3 a a0_2 x y (by omega) (by omega)
      clear hfit
      obtain ⟨px, hpx⟩ : ∃ px : List Int, pixOf l0_3 a a0_2 x y = px := ⟨_, rfl⟩
      rw [hpx] at HCA hpl
      have HPL := aM hpl
      have EPX := aM hpx
      clear hpl hpx
      have HLM := aM (show (palRow l0_3 a a0_2 y (palAll l0_3 a a0_2 y) x).length ≤ 1000 by
       have h1 := palRow_len l0_3 a a0_2 y (palAll l0_3 a a0_2 y) x
       have h2 := palAll_len l0_3 a a0_2 y
       rw [Int.toNat_natCast] at h2
       have h3 : y * a ≤ 16 * 16 := Nat.mul_le_mul (by omega) (by omega)
       omega)
      obtain ⟨xs, hxs⟩ : ∃ xs : List (List Int), xs = palRow l0_3 a a0_2 y (palAll l0_3 a a0_2 y) x := ⟨_, rfl⟩
      rw [← hxs] at HO HLM
      have EXS := aM hxs
      clear hxs
      obtain ⟨Au, cu, eu⟩ := Kd.S_slice HO.out
      subst eu
      obtain ⟨bb, hbb⟩ : ∃ z : Bool, (xs.any fun z => decide (z = px)) = z := ⟨_, rfl⟩
      have HBB := aM hbb
      clear hbb
      cases bb with
      | true =>
       have HBT := HBB.out
       have CF : Aside0 (∀ W : World, True) := ⟨fun _ => trivial⟩
       clear HBT CF
       go_wp2_with (first | (go_at_call 44; refine (HCA.out _ (qW HB.out)).mono ?_; rintro e w234 ⟨A', c', rfl, hr', hl', hb, hall⟩; have r_ := aM (Kd.S_below (by (with_reducible repeat (first | apply Kd.S_alloc | apply Kd.S_drewN | apply Kd.S_drew)); exact HO.out) hb); clear HO; have HO := r_; clear r_; have HALL := aM hall; have HLC := aM hl'; clear hr' hall hl'; have n235 := bB BKgm hb; have n236 := bS HB hb; clear HB BKgm; have BKgm := n235; have HB := n236; clear n235 n236 hb; have hz237 : w234.cell? ⟨gm, 0, none⟩ = some (.int .i64 (a : Int)) := (blk_cell BKgm.out 0).trans rfl; have hz238 : w234.cell? ⟨gm, 1, none⟩ = some (.int .i64 (b : Int)) := (blk_cell BKgm.out 1).trans rfl; have hz239 : w234.cell? ⟨gm, 2, none⟩ = some (.int .i64 a0_2) := (blk_cell BKgm.out 2).trans rfl; have hz240 : w234.cell? ⟨gm, 3, none⟩ = some (.slice A0_3 l0_3.length c0_3) := (blk_cell BKgm.out 3).trans rfl; have hf241 := blk_frozen BKgm.out 0; have hf242 := blk_frozen BKgm.out 1; have hf243 := blk_frozen BKgm.out 2; have hf244 := blk_frozen BKgm.out 3) | ((with_reducible refine gate_dst (N := 7) rfl ?_); (try (refine gate_guard (by rfl) ?_; dsimp only)); refine bxE (N := 7) (cs := #[.slice none 0 0]) (t := 22) ?_; intro gp hg w245 hbox hb; have n246 := bB BKgm hb; have n247 := bS HB hb; have n248 := aM hbox; have n249 := aM ((by rw [hg]; exact (below_size (qW HB.out))) : w.heap.size ≤ gp); have n250 := aM ((by rw [hg]; exact Nat.ne_of_lt (blk_lt (g := gm) (o := .cells #[.int .i64 (a : Int), .int .i64 (b : Int), .int .i64 a0_2, .slice A0_3 l0_3.length c0_3] 29 (0, 0)) (qB BKgm.out))) : gm ≠ gp); have n251 := aM ((by rw [hg]; exact Nat.ne_of_gt (blk_lt (g := gm) (o := .cells #[.int .i64 (a : Int), .int .i64 (b : Int), .int .i64 a0_2, .slice A0_3 l0_3.length c0_3] 29 (0, 0)) (qB BKgm.out))) : gp ≠ gm); have r_ := aM (Kd.S_below (Kd.S_elderB (by (with_reducible repeat (first | apply Kd.S_alloc | apply Kd.S_drewN | apply Kd.S_drew)); exact HO.out) gp (Nat.le_of_eq hg.symm)) hb); clear HO; have HO := r_; clear r_; clear HB BKgm; have BKgm := n246; have HB := n247; have BKgp := n248; have GEgp := n249; have NBgm_gp := n250; have NBgp_gm := n251; clear n246 n247 n248 n249 n250 n251; clear hb hbox hg; have hz252 : w245.cell? ⟨gm, 0, none⟩ = some (.int .i64 (a : Int)) := (blk_cell BKgm.out 0).trans rfl; have hz253 : w245.cell? ⟨gm, 1, none⟩ = some (.int .i64 (b : Int)) := (blk_cell BKgm.out 1).trans rfl; have hz254 : w245.cell? ⟨gm, 2, none⟩ = some (.int .i64 a0_2) := (blk_cell BKgm.out 2).trans rfl; have hz255 : w245.cell? ⟨gm, 3, none⟩ = some (.slice A0_3 l0_3.length c0_3) := (blk_cell BKgm.out 3).trans rfl; have hf256 := blk_frozen BKgm.out 0; have hf257 := blk_frozen BKgm.out 1; have hf258 := blk_frozen BKgm.out 2; have hf259 := blk_frozen BKgm.out 3) | ((with_reducible refine gate_store (t := 22) (p := 7) rfl ?_); have hzs0_ : w245.cell? ⟨gp, 0, none⟩ = some (.slice none 0 0) := (blk_cell BKgp.out 0).trans rfl; have hfs0_ := blk_frozen BKgp.out 0; refine store_event (t := 22) (p := 7) (v := ?vo_w262) (w1 := (w245.setCell ⟨gp, 0, none⟩ (.slice A' px.length c'))) ?hg ?ho ?hn ?hr ?_; (case ho => rfl); (case hg => rfl); (case hn => rfl); (case hr => first | (go_simp; done) | (go_simp; rfl)); intro w262 hw; have r_ := aM (show Kd.S (Kd.slice 3 (Kd.int .i64)) 22 w262 w.heap.size (fun k_ => True ∧ k_ ≠ gp) (.slice Au xs.length cu) xs by rw [hw]; exact Kd.S_far (p := ⟨gp, 0, none⟩) HO.out (fun _ hk => hk.2) _); clear HO; have HO := r_; clear r_; have n263 := aM (show w262.heap[gm]? = some (.cells #[.int .i64 (a : Int), .int .i64 (b : Int), .int .i64 a0_2, .slice A0_3 l0_3.length c0_3] 29 (0, 0)) by rw [hw]; exact blk_far (BKgm.out) NBgm_gp.out _); have n264 := aM (show w262.heap[gp]? = some (.cells #[.slice A' px.length c'] 22 (0, 0)) by rw [hw]; refine blk_put (cs := #[.slice none 0 0]) ?_ 0 _ rfl; exact BKgp.out); have n265 := aM (show Below w.heap.size w w262 by rw [hw]; exact below_set (HB.out) GEgp.out); clear hzs0_ hfs0_; clear HB BKgm BKgp hw; have BKgm := n263; have BKgp := n264; have HB := n265; clear n263 n264 n265; have hz266 : w262.cell? ⟨gm, 0, none⟩ = some (.int .i64 (a : Int)) := (blk_cell BKgm.out 0).trans rfl; have hz267 : w262.cell? ⟨gm, 1, none⟩ = some (.int .i64 (b : Int)) := (blk_cell BKgm.out 1).trans rfl; have hz268 : w262.cell? ⟨gm, 2, none⟩ = some (.int .i64 a0_2) := (blk_cell BKgm.out 2).trans rfl; have hz269 : w262.cell? ⟨gm, 3, none⟩ = some (.slice A0_3 l0_3.length c0_3) := (blk_cell BKgm.out 3).trans rfl; have hf270 := blk_frozen BKgm.out 0; have hf271 := blk_frozen BKgm.out 1; have hf272 := blk_frozen BKgm.out 2; have hf273 := blk_frozen BKgm.out 3; have hz274 : w262.cell? ⟨gp, 0, none⟩ = some (.slice A' px.length c') := (blk_cell BKgp.out 0).trans rfl; have hf275 := blk_frozen BKgp.out 0) | (go_at_call 45; refine (containsFuncList.calls 46 #[.pointer (some ⟨gp, 0, none⟩)] (enters_of Try.func46 (by kernel_rfl) rfl) (fun z => decide (z = px)) _ _ xs _ (palTest _ gp A' c' px (qB BKgp.out) (HALL.out _ (Kd.C_below HR0.out (qW HB.out))) HLC.out (by have := HPL.out; omega)) (Kd.S_reads' (by (with_reducible repeat (first | apply Kd.S_alloc | apply Kd.S_drewN | apply Kd.S_drew)); exact HO.out)).2.2 (Kd.S_reads' HO.out).2.1).mono ?_; rw [HBB.out]; rintro e w' ⟨rfl, ⟨q, rfl⟩⟩))
       go_roundg (a - (x + 1))
       case measure => omega
       case rel => exact ⟨x + 1, _, by omega, by omega, by go_num, rfl, ⟨by rw [palRow, ← EXS.out, EPX.out, palAdd, if_pos HBB.out]; (with_reducible repeat (first | apply Kd.S_alloc | apply Kd.S_drewN | apply Kd.S_drew)); exact Kd.S_mono HO.out (fun _ _ => trivial)⟩, ⟨by refine qB ?_; exact BKgm.out⟩, ⟨by exact qW HB.out⟩⟩
      | false =>
       go_wp2_with (first | (go_at_call 44; refine (HCA.out _ (qW HB.out)).mono ?_; rintro e w234 ⟨A', c', rfl, hr', hl', hb, hall⟩; have r_ := aM (Kd.S_below (by (with_reducible repeat (first | apply Kd.S_alloc | apply Kd.S_drewN | apply Kd.S_drew)); exact HO.out) hb); clear HO; have HO := r_; clear r_; have HALL := aM hall; have HLC := aM hl'; clear hr' hall hl'; have n235 := bB BKgm hb; have n236 := bS HB hb; clear HB BKgm; have BKgm := n235; have HB := n236; clear n235 n236 hb; have hz237 : w234.cell? ⟨gm, 0, none⟩ = some (.int .i64 (a : Int)) := (blk_cell BKgm.out 0).trans rfl; have hz238 : w234.cell? ⟨gm, 1, none⟩ = some (.int .i64 (b : Int)) := (blk_cell BKgm.out 1).trans rfl; have hz239 : w234.cell? ⟨gm, 2, none⟩ = some (.int .i64 a0_2) := (blk_cell BKgm.out 2).trans rfl; have hz240 : w234.cell? ⟨gm, 3, none⟩ = some (.slice A0_3 l0_3.length c0_3) := (blk_cell BKgm.out 3).trans rfl; have hf241 := blk_frozen BKgm.out 0; have hf242 := blk_frozen BKgm.out 1; have hf243 := blk_frozen BKgm.out 2; have hf244 := blk_frozen BKgm.out 3) | ((with_reducible refine gate_dst (N := 7) rfl ?_); (try (refine gate_guard (by rfl) ?_; dsimp only)); refine bxE (N := 7) (cs := #[.slice none 0 0]) (t := 22) ?_; intro gp hg w245 hbox hb; have n246 := bB BKgm hb; have n247 := bS HB hb; have n248 := aM hbox; have n249 := aM ((by rw [hg]; exact (below_size (qW HB.out))) : w.heap.size ≤ gp); have n250 := aM ((by rw [hg]; exact Nat.ne_of_lt (blk_lt (g := gm) (o := .cells #[.int .i64 (a : Int), .int .i64 (b : Int), .int .i64 a0_2, .slice A0_3 l0_3.length c0_3] 29 (0, 0)) (qB BKgm.out))) : gm ≠ gp); have n251 := aM ((by rw [hg]; exact Nat.ne_of_gt (blk_lt (g := gm) (o := .cells #[.int .i64 (a : Int), .int .i64 (b : Int), .int .i64 a0_2, .slice A0_3 l0_3.length c0_3] 29 (0, 0)) (qB BKgm.out))) : gp ≠ gm); have r_ := aM (Kd.S_below (Kd.S_elderB (by (with_reducible repeat (first | apply Kd.S_alloc | apply Kd.S_drewN | apply Kd.S_drew)); exact HO.out) gp (Nat.le_of_eq hg.symm)) hb); clear HO; have HO := r_; clear r_; clear HB BKgm; have BKgm := n246; have HB := n247; have BKgp := n248; have GEgp := n249; have NBgm_gp := n250; have NBgp_gm := n251; clear n246 n247 n248 n249 n250 n251; clear hb hbox hg; have hz252 : w245.cell? ⟨gm, 0, none⟩ = some (.int .i64 (a : Int)) := (blk_cell BKgm.out 0).trans rfl; have hz253 : w245.cell? ⟨gm, 1, none⟩ = some (.int .i64 (b : Int)) := (blk_cell BKgm.out 1).trans rfl; have hz254 : w245.cell? ⟨gm, 2, none⟩ = some (.int .i64 a0_2) := (blk_cell BKgm.out 2).trans rfl; have hz255 : w245.cell? ⟨gm, 3, none⟩ = some (.slice A0_3 l0_3.length c0_3) := (blk_cell BKgm.out 3).trans rfl; have hf256 := blk_frozen BKgm.out 0; have hf257 := blk_frozen BKgm.out 1; have hf258 := blk_frozen BKgm.out 2; have hf259 := blk_frozen BKgm.out 3) | ((with_reducible refine gate_store (t := 22) (p := 7) rfl ?_); have hzs0_ : w245.cell? ⟨gp, 0, none⟩ = some (.slice none 0 0) := (blk_cell BKgp.out 0).trans rfl; have hfs0_ := blk_frozen BKgp.out 0; refine store_event (t := 22) (p := 7) (v := ?vo_w262) (w1 := (w245.setCell ⟨gp, 0, none⟩ (.slice A' px.length c'))) ?hg ?ho ?hn ?hr ?_; (case ho => rfl); (case hg => rfl); (case hn => rfl); (case hr => first | (go_simp; done) | (go_simp; rfl)); intro w262 hw; have r_ := aM (show Kd.S (Kd.slice 3 (Kd.int .i64)) 22 w262 w.heap.size (fun k_ => True ∧ k_ ≠ gp) (.slice Au xs.length cu) xs by rw [hw]; exact Kd.S_far (p := ⟨gp, 0, none⟩) HO.out (fun _ hk => hk.2) _); clear HO; have HO := r_; clear r_; have n263 := aM (show w262.heap[gm]? = some (.cells #[.int .i64 (a : Int), .int .i64 (b : Int), .int .i64 a0_2, .slice A0_3 l0_3.length c0_3] 29 (0, 0)) by rw [hw]; exact blk_far (BKgm.out) NBgm_gp.out _); have n264 := aM (show w262.heap[gp]? = some (.cells #[.slice A' px.length c'] 22 (0, 0)) by rw [hw]; refine blk_put (cs := #[.slice none 0 0]) ?_ 0 _ rfl; exact BKgp.out); have n265 := aM (show Below w.heap.size w w262 by rw [hw]; exact below_set (HB.out) GEgp.out); clear hzs0_ hfs0_; clear HB BKgm BKgp hw; have BKgm := n263; have BKgp := n264; have HB := n265; clear n263 n264 n265; have hz266 : w262.cell? ⟨gm, 0, none⟩ = some (.int .i64 (a : Int)) := (blk_cell BKgm.out 0).trans rfl; have hz267 : w262.cell? ⟨gm, 1, none⟩ = some (.int .i64 (b : Int)) := (blk_cell BKgm.out 1).trans rfl; have hz268 : w262.cell? ⟨gm, 2, none⟩ = some (.int .i64 a0_2) := (blk_cell BKgm.out 2).trans rfl; have hz269 : w262.cell? ⟨gm, 3, none⟩ = some (.slice A0_3 l0_3.length c0_3) := (blk_cell BKgm.out 3).trans rfl; have hf270 := blk_frozen BKgm.out 0; have hf271 := blk_frozen BKgm.out 1; have hf272 := blk_frozen BKgm.out 2; have hf273 := blk_frozen BKgm.out 3; have hz274 : w262.cell? ⟨gp, 0, none⟩ = some (.slice A' px.length c') := (blk_cell BKgp.out 0).trans rfl; have hf275 := blk_frozen BKgp.out 0) | (go_at_call 45; refine (containsFuncList.calls 46 #[.pointer (some ⟨gp, 0, none⟩)] (enters_of Try.func46 (by kernel_rfl) rfl) (fun z => decide (z = px)) _ _ xs _ (palTest _ gp A' c' px (qB BKgp.out) (HALL.out _ (Kd.C_below HR0.out (qW HB.out))) HLC.out (by have := HPL.out; omega)) (Kd.S_reads' (by (with_reducible repeat (first | apply Kd.S_alloc | apply Kd.S_drewN | apply Kd.S_drew)); exact HO.out)).2.2 (Kd.S_reads' HO.out).2.1).mono ?_; rw [HBB.out]; rintro e w' ⟨rfl, ⟨q, rfl⟩⟩) | ((with_reducible refine gate_dst (N := 31) rfl ?_); refine iL ([] : List Int) [] ?_; intro v31 w276 ho4 hb hg_ hnew_; clear hg_ hnew_; have BKs := BKgm; have HBs := HB; have HZ := aM (below_step (pw_below_drewN (Below.refl w262.heap.size w262) q) hb); have HR31 := aM ho4; clear ho4; have n279 := bB BKgm hb; have n280 := bB BKgp hb; have n281 := bS HB hb; clear HB BKgm BKgp; have BKgm := n279; have BKgp := n280; have HB := n281; clear n279 n280 n281 hb; have hz282 : w276.cell? ⟨gm, 0, none⟩ = some (.int .i64 (a : Int)) := (blk_cell BKgm.out 0).trans rfl; have hz283 : w276.cell? ⟨gm, 1, none⟩ = some (.int .i64 (b : Int)) := (blk_cell BKgm.out 1).trans rfl; have hz284 : w276.cell? ⟨gm, 2, none⟩ = some (.int .i64 a0_2) := (blk_cell BKgm.out 2).trans rfl; have hz285 : w276.cell? ⟨gm, 3, none⟩ = some (.slice A0_3 l0_3.length c0_3) := (blk_cell BKgm.out 3).trans rfl; have hf286 := blk_frozen BKgm.out 0; have hf287 := blk_frozen BKgm.out 1; have hf288 := blk_frozen BKgm.out 2; have hf289 := blk_frozen BKgm.out 3; have hz290 : w276.cell? ⟨gp, 0, none⟩ = some (.slice A' px.length c') := (blk_cell BKgp.out 0).trans rfl; have hf291 := blk_frozen BKgp.out 0) | ((with_reducible refine gate_builtin (b := .append) (xs := #[.tmp 31, .tmp 32]) rfl ?_); at_builtin; refine Kd.R_append_rows (Kd.int .i64) (w0 := w262) w262.heap.size rfl (.tmp 31) (.tmp 32) 22 3 (.int .i64 0) 8 rfl Try.underlying22 info3 rfl (by decide) (by omega) v31 [] px _ _ _ (fun _ => True) (fun _ => False) rfl rfl ?aO ?aR (fun _ _ h => h) (fun _ h => h.elim) ?aF ?aB ?aS ?aL ?_; (case aR => exact (HALL.out _ (Kd.C_below HR0.out (qW HB.out)))); (case aB => exact HZ.out); (case aF => exact (fun _ _ => trivial)); (case aO => exact HR31.out); (case aS => exact HZ.out.size); (case aL => have := HPL.out; simp only [List.length_nil]; omega); intro v33 w277 ho hb hg hat; rw [List.nil_append] at ho; have m1_ := aM (Kd.S_elder' HO.out (Kd.R_base ho) hb); have m2_ := aM (blk_below BKs.out hb); have m3_ := aM (below_step HBs.out hb); have m4_ := aM (Kd.R_lower ho HBs.out.size); clear HO BKgm BKgp HB BKs HBs HZ HR31; have HO := m1_; have BKgm := m2_; have HB := m3_; have HV := m4_; clear m1_ m2_ m3_ m4_ ho hb hg hat; obtain ⟨A33, c33, rfl⟩ := sL HV) | ((with_reducible refine gate_builtin (b := .append) (xs := #[.tmp 30, .tmp 34]) rfl ?_); at_builtin; refine Kd.S_append (Kd.slice 3 (Kd.int .i64)) (w0 := w) w.heap.size rfl (.tmp 30) (.tmp 34) 26 22 (.slice none 0 0) 24 rfl Try.underlying26 (show (Try.prog.info? 22).map (fun i => (i.zero, i.size, i.bytes)) = some (some (.slice none 0 0), 1, 24) from by kernel_rfl) rfl (by decide) (by omega) (.slice Au xs.length cu) xs px [.slice A33 px.length c33] (fun _ => True) (fun k_ => some k_ = (.slice A33 px.length c33 : Value).ownBlock) rfl rfl ?aP (fun k_ hk_ => (Kd.R_mono (ok' := fun k_ => True ∧ some k_ ≠ (.slice Au xs.length cu : Value).ownBlock) (Kd.R_apart' (HV.out) (Kd.S_typed HO.out) (by decide)) (fun k_ hk => ⟨trivial, hk.2⟩)).1 k_ hk_.symm) ?aF ?aO ?aB ?aS ?aL ?_; (case aP => exact Kd.M_row (Kd.R_mono (Kd.R_tight rfl (Kd.R_mono (ok' := fun k_ => True ∧ some k_ ≠ (.slice Au xs.length cu : Value).ownBlock) (Kd.R_apart' (HV.out) (Kd.S_typed HO.out) (by decide)) (fun k_ hk => ⟨trivial, hk.2⟩))) (fun _ h_ => h_))); (case aB => exact HB.out); (case aF => exact (fun _ _ => trivial)); (case aO => exact Kd.S_mono HO.out (fun k_ hk => ⟨trivial, fun e_ => hk.2 e_⟩)); (case aS => exact HB.out.size); (case aL => have := HLM.out; omega); intro v35 w278 ho hb hg hat; have m1_ := aM (blk_grown BKgm.out hg (Kd.S_ne HO.out BKgm.out (by decide))); have m2_ := aM ho; have m3_ := aM hb; clear HO BKgm HB HV; have HO := m2_; have BKgm := m1_; have HB := m3_; clear m1_ m2_ m3_ ho hb hg hat))
       go_roundg (a - (x + 1))
       case measure => omega
       case rel => exact ⟨x + 1, _, by omega, by omega, by go_num, rfl, ⟨by rw [palRow, ← EXS.out, EPX.out, palAdd, if_neg (by rw [HBB.out]; decide)]; (with_reducible repeat (first | apply Kd.S_alloc | apply Kd.S_drewN | apply Kd.S_drew)); exact HO.out⟩, ⟨by refine qB ?_; exact BKgm.out⟩, ⟨by exact qW HB.out⟩⟩
def impl_PixelAt.f (a0_0 : Int) (a0_1 : Int) (a0_2 : Int) (l0_3 : List Int) (a1 : Int) (a2 : Int) : Option (List Int) := (impl_isImage.f a0_0 a0_1 a0_2 l0_3).bind fun t0 => (if t0 = true then (if (0 ≤ a1 ∧ a1 < a0_0) ∧ (0 ≤ a2 ∧ a2 < a0_1) then some (pixOf l0_3 a0_0 a0_2 a1 a2) else some ([] : List Int)) else some ([] : List Int))
set_option maxHeartbeats 8000000 in
set_option maxRecDepth 100000 in
theorem impl_PixelAt.calls (a0_0 : Int) (a0_1 : Int) (a0_2 : Int) (A0_3 : Option Addr) (c0_3 : Nat) (l0_3 : List Int) (a1 : Int) (a2 : Int) (r : List Int) (w : World) (hr0_3 : Kd.C (Kd.int .i64) w A0_3 l0_3.length l0_3) (hc0_3 : l0_3.length ≤ c0_3) (h : impl_PixelAt.f a0_0 a0_1 a0_2 l0_3 a1 a2 = some r) :
  Calls Try.prog 27 #[.agg #[.int .i64 a0_0, .int .i64 a0_1, .int .i64 a0_2, .slice A0_3 l0_3.length c0_3], .int .i64 a1, .int .i64 a2] w fun e w' => ∃ v0_ : Value, e = .returned (v0_) ∧ Kd.R (Kd.int .i64) 3 w' w.heap.size (fun _ => True) v0_ r ∧ Below w.heap.size w w' := by
 have HR0 := aM hr0_3
 have HC0 := aM hc0_3
 clear hr0_3 hc0_3
 have HB := aM (Below.refl w.heap.size w)
 unfold impl_PixelAt.f at h
 obtain ⟨t0, q0, H⟩ := Option.bind_eq_some_iff.mp h
 clear h
 have A0 := aM q0
 clear q0
 cases t0 with
 | false =>
  rw [if_neg (show ¬ (false = true) by decide)] at H
  obtain rfl := Option.some.inj H
  go_enter Try.func27, Try.ntmps27
  go_wp2_with (first | ((with_reducible refine gate_dst (N := 3) rfl ?_); (try (refine gate_guard (by rfl) ?_; dsimp only)); refine bxE (N := 3) (cs := #[.int .i64 a0_0, .int .i64 a0_1, .int .i64 a0_2, .slice A0_3 l0_3.length c0_3]) (t := 29) ?_; intro gm hg w1 hbox hb; have n2 := bS HB hb; have n3 := aM hbox; have n4 := aM ((by rw [hg]; exact (below_size (qW HB.out))) : w.heap.size ≤ gm); clear HB; have HB := n2; have BKgm := n3; have GEgm := n4; clear n2 n3 n4; clear hb hbox hg; have hz5 : w1.cell? ⟨gm, 0, none⟩ = some (.int .i64 a0_0) := (blk_cell BKgm.out 0).trans rfl; have hz6 : w1.cell? ⟨gm, 1, none⟩ = some (.int .i64 a0_1) := (blk_cell BKgm.out 1).trans rfl; have hz7 : w1.cell? ⟨gm, 2, none⟩ = some (.int .i64 a0_2) := (blk_cell BKgm.out 2).trans rfl; have hz8 : w1.cell? ⟨gm, 3, none⟩ = some (.slice A0_3 l0_3.length c0_3) := (blk_cell BKgm.out 3).trans rfl; have hf9 := blk_frozen BKgm.out 0; have hf10 := blk_frozen BKgm.out 1; have hf11 := blk_frozen BKgm.out 2; have hf12 := blk_frozen BKgm.out 3) | (go_at_call 43; (with_reducible refine (impl_isImage.calls a0_0 a0_1 a0_2 _ _ l0_3 false _ ?side1 ?side2 A0.out).mono ?_); (case side1 => exact (Kd.C_below HR0.out (qW HB.out))); (case side2 => exact HC0.out); rintro e w13 ⟨rfl, hb⟩; have n14 := bB BKgm hb; have n15 := bS HB hb; clear HB BKgm; have BKgm := n14; have HB := n15; clear n14 n15 hb; have hz16 : w13.cell? ⟨gm, 0, none⟩ = some (.int .i64 a0_0) := (blk_cell BKgm.out 0).trans rfl; have hz17 : w13.cell? ⟨gm, 1, none⟩ = some (.int .i64 a0_1) := (blk_cell BKgm.out 1).trans rfl; have hz18 : w13.cell? ⟨gm, 2, none⟩ = some (.int .i64 a0_2) := (blk_cell BKgm.out 2).trans rfl; have hz19 : w13.cell? ⟨gm, 3, none⟩ = some (.slice A0_3 l0_3.length c0_3) := (blk_cell BKgm.out 3).trans rfl; have hf20 := blk_frozen BKgm.out 0; have hf21 := blk_frozen BKgm.out 1; have hf22 := blk_frozen BKgm.out 2; have hf23 := blk_frozen BKgm.out 3))
  go_ret
  exact ⟨_, rfl, Kd.R_nil _ _ _ _ _, by exact qW HB.out⟩
 | true =>
  rw [if_pos rfl] at H
  have V := aM (isImage_true A0.out)
  by_cases k1 : 0 ≤ a1
  case neg =>
   rw [if_neg (by omega)] at H
   obtain rfl := Option.some.inj H
   go_enter Try.func27, Try.ntmps27
   go_wp2_with (first | ((with_reducible refine gate_dst (N := 3) rfl ?_); (try (refine gate_guard (by rfl) ?_; dsimp only)); refine bxE (N := 3) (cs := #[.int .i64 a0_0, .int .i64 a0_1, .int .i64 a0_2, .slice A0_3 l0_3.length c0_3]) (t := 29) ?_; intro gm hg w24 hbox hb; have n25 := bS HB hb; have n26 := aM hbox; have n27 := aM ((by rw [hg]; exact (below_size (qW HB.out))) : w.heap.size ≤ gm); clear HB; have HB := n25; have BKgm := n26; have GEgm := n27; clear n25 n26 n27; clear hb hbox hg; have hz28 : w24.cell? ⟨gm, 0, none⟩ = some (.int .i64 a0_0) := (blk_cell BKgm.out 0).trans rfl; have hz29 : w24.cell? ⟨gm, 1, none⟩ = some (.int .i64 a0_1) := (blk_cell BKgm.out 1).trans rfl; have hz30 : w24.cell? ⟨gm, 2, none⟩ = some (.int .i64 a0_2) := (blk_cell BKgm.out 2).trans rfl; have hz31 : w24.cell? ⟨gm, 3, none⟩ = some (.slice A0_3 l0_3.length c0_3) := (blk_cell BKgm.out 3).trans rfl; have hf32 := blk_frozen BKgm.out 0; have hf33 := blk_frozen BKgm.out 1; have hf34 := blk_frozen BKgm.out 2; have hf35 := blk_frozen BKgm.out 3) | (go_at_call 43; (with_reducible refine (impl_isImage.calls a0_0 a0_1 a0_2 _ _ l0_3 true _ ?side1 ?side2 A0.out).mono ?_); (case side1 => exact (Kd.C_below HR0.out (qW HB.out))); (case side2 => exact HC0.out); rintro e w36 ⟨rfl, hb⟩; have n37 := bB BKgm hb; have n38 := bS HB hb; clear HB BKgm; have BKgm := n37; have HB := n38; clear n37 n38 hb; have hz39 : w36.cell? ⟨gm, 0, none⟩ = some (.int .i64 a0_0) := (blk_cell BKgm.out 0).trans rfl; have hz40 : w36.cell? ⟨gm, 1, none⟩ = some (.int .i64 a0_1) := (blk_cell BKgm.out 1).trans rfl; have hz41 : w36.cell? ⟨gm, 2, none⟩ = some (.int .i64 a0_2) := (blk_cell BKgm.out 2).trans rfl; have hz42 : w36.cell? ⟨gm, 3, none⟩ = some (.slice A0_3 l0_3.length c0_3) := (blk_cell BKgm.out 3).trans rfl; have hf43 := blk_frozen BKgm.out 0; have hf44 := blk_frozen BKgm.out 1; have hf45 := blk_frozen BKgm.out 2; have hf46 := blk_frozen BKgm.out 3))
   go_ret
   exact ⟨_, rfl, Kd.R_nil _ _ _ _ _, by exact qW HB.out⟩
  by_cases k2 : a1 < a0_0
  case neg =>
   have k2b : a0_0 ≤ a1 := by omega
   rw [if_neg (by omega)] at H
   obtain rfl := Option.some.inj H
   go_enter Try.func27, Try.ntmps27
   go_wp2_with (first | ((with_reducible refine gate_dst (N := 3) rfl ?_); (try (refine gate_guard (by rfl) ?_; dsimp only)); refine bxE (N := 3) (cs := #[.int .i64 a0_0, .int .i64 a0_1, .int .i64 a0_2, .slice A0_3 l0_3.length c0_3]) (t := 29) ?_; intro gm hg w47 hbox hb; have n48 := bS HB hb; have n49 := aM hbox; have n50 := aM ((by rw [hg]; exact (below_size (qW HB.out))) : w.heap.size ≤ gm); clear HB; have HB := n48; have BKgm := n49; have GEgm := n50; clear n48 n49 n50; clear hb hbox hg; have hz51 : w47.cell? ⟨gm, 0, none⟩ = some (.int .i64 a0_0) := (blk_cell BKgm.out 0).trans rfl; have hz52 : w47.cell? ⟨gm, 1, none⟩ = some (.int .i64 a0_1) := (blk_cell BKgm.out 1).trans rfl; have hz53 : w47.cell? ⟨gm, 2, none⟩ = some (.int .i64 a0_2) := (blk_cell BKgm.out 2).trans rfl; have hz54 : w47.cell? ⟨gm, 3, none⟩ = some (.slice A0_3 l0_3.length c0_3) := (blk_cell BKgm.out 3).trans rfl; have hf55 := blk_frozen BKgm.out 0; have hf56 := blk_frozen BKgm.out 1; have hf57 := blk_frozen BKgm.out 2; have hf58 := blk_frozen BKgm.out 3) | (go_at_call 43; (with_reducible refine (impl_isImage.calls a0_0 a0_1 a0_2 _ _ l0_3 true _ ?side1 ?side2 A0.out).mono ?_); (case side1 => exact (Kd.C_below HR0.out (qW HB.out))); (case side2 => exact HC0.out); rintro e w59 ⟨rfl, hb⟩; have n60 := bB BKgm hb; have n61 := bS HB hb; clear HB BKgm; have BKgm := n60; have HB := n61; clear n60 n61 hb; have hz62 : w59.cell? ⟨gm, 0, none⟩ = some (.int .i64 a0_0) := (blk_cell BKgm.out 0).trans rfl; have hz63 : w59.cell? ⟨gm, 1, none⟩ = some (.int .i64 a0_1) := (blk_cell BKgm.out 1).trans rfl; have hz64 : w59.cell? ⟨gm, 2, none⟩ = some (.int .i64 a0_2) := (blk_cell BKgm.out 2).trans rfl; have hz65 : w59.cell? ⟨gm, 3, none⟩ = some (.slice A0_3 l0_3.length c0_3) := (blk_cell BKgm.out 3).trans rfl; have hf66 := blk_frozen BKgm.out 0; have hf67 := blk_frozen BKgm.out 1; have hf68 := blk_frozen BKgm.out 2; have hf69 := blk_frozen BKgm.out 3))
   go_ret
   exact ⟨_, rfl, Kd.R_nil _ _ _ _ _, by exact qW HB.out⟩
  by_cases k3 : 0 ≤ a2
  case neg =>
   rw [if_neg (by omega)] at H
   obtain rfl := Option.some.inj H
   go_enter Try.func27, Try.ntmps27
   go_wp2_with (first | ((with_reducible refine gate_dst (N := 3) rfl ?_); (try (refine gate_guard (by rfl) ?_; dsimp only)); refine bxE (N := 3) (cs := #[.int .i64 a0_0, .int .i64 a0_1, .int .i64 a0_2, .slice A0_3 l0_3.length c0_3]) (t := 29) ?_; intro gm hg w70 hbox hb; have n71 := bS HB hb; have n72 := aM hbox; have n73 := aM ((by rw [hg]; exact (below_size (qW HB.out))) : w.heap.size ≤ gm); clear HB; have HB := n71; have BKgm := n72; have GEgm := n73; clear n71 n72 n73; clear hb hbox hg; have hz74 : w70.cell? ⟨gm, 0, none⟩ = some (.int .i64 a0_0) := (blk_cell BKgm.out 0).trans rfl; have hz75 : w70.cell? ⟨gm, 1, none⟩ = some (.int .i64 a0_1) := (blk_cell BKgm.out 1).trans rfl; have hz76 : w70.cell? ⟨gm, 2, none⟩ = some (.int .i64 a0_2) := (blk_cell BKgm.out 2).trans rfl; have hz77 : w70.cell? ⟨gm, 3, none⟩ = some (.slice A0_3 l0_3.length c0_3) := (blk_cell BKgm.out 3).trans rfl; have hf78 := blk_frozen BKgm.out 0; have hf79 := blk_frozen BKgm.out 1; have hf80 := blk_frozen BKgm.out 2; have hf81 := blk_frozen BKgm.out 3) | (go_at_call 43; (with_reducible refine (impl_isImage.calls a0_0 a0_1 a0_2 _ _ l0_3 true _ ?side1 ?side2 A0.out).mono ?_); (case side1 => exact (Kd.C_below HR0.out (qW HB.out))); (case side2 => exact HC0.out); rintro e w82 ⟨rfl, hb⟩; have n83 := bB BKgm hb; have n84 := bS HB hb; clear HB BKgm; have BKgm := n83; have HB := n84; clear n83 n84 hb; have hz85 : w82.cell? ⟨gm, 0, none⟩ = some (.int .i64 a0_0) := (blk_cell BKgm.out 0).trans rfl; have hz86 : w82.cell? ⟨gm, 1, none⟩ = some (.int .i64 a0_1) := (blk_cell BKgm.out 1).trans rfl; have hz87 : w82.cell? ⟨gm, 2, none⟩ = some (.int .i64 a0_2) := (blk_cell BKgm.out 2).trans rfl; have hz88 : w82.cell? ⟨gm, 3, none⟩ = some (.slice A0_3 l0_3.length c0_3) := (blk_cell BKgm.out 3).trans rfl; have hf89 := blk_frozen BKgm.out 0; have hf90 := blk_frozen BKgm.out 1; have hf91 := blk_frozen BKgm.out 2; have hf92 := blk_frozen BKgm.out 3))
   go_ret
   exact ⟨_, rfl, Kd.R_nil _ _ _ _ _, by exact qW HB.out⟩
  by_cases k4 : a2 < a0_1
  case neg =>
   have k4b : a0_1 ≤ a2 := by omega
   rw [if_neg (by omega)] at H
   obtain rfl := Option.some.inj H
   go_enter Try.func27, Try.ntmps27
   go_wp2_with (first | ((with_reducible refine gate_dst (N := 3) rfl ?_); (try (refine gate_guard (by rfl) ?_; dsimp only)); refine bxE (N := 3) (cs := #[.int .i64 a0_0, .int .i64 a0_1, .int .i64 a0_2, .slice A0_3 l0_3.length c0_3]) (t := 29) ?_; intro gm hg w93 hbox hb; have n94 := bS HB hb; have n95 := aM hbox; have n96 := aM ((by rw [hg]; exact (below_size (qW HB.out))) : w.heap.size ≤ gm); clear HB; have HB := n94; have BKgm := n95; have GEgm := n96; clear n94 n95 n96; clear hb hbox hg; have hz97 : w93.cell? ⟨gm, 0, none⟩ = some (.int .i64 a0_0) := (blk_cell BKgm.out 0).trans rfl; have hz98 : w93.cell? ⟨gm, 1, none⟩ = some (.int .i64 a0_1) := (blk_cell BKgm.out 1).trans rfl; have hz99 : w93.cell? ⟨gm, 2, none⟩ = some (.int .i64 a0_2) := (blk_cell BKgm.out 2).trans rfl; have hz100 : w93.cell? ⟨gm, 3, none⟩ = some (.slice A0_3 l0_3.length c0_3) := (blk_cell BKgm.out 3).trans rfl; have hf101 := blk_frozen BKgm.out 0; have hf102 := blk_frozen BKgm.out 1; have hf103 := blk_frozen BKgm.out 2; have hf104 := blk_frozen BKgm.out 3) | (go_at_call 43; (with_reducible refine (impl_isImage.calls a0_0 a0_1 a0_2 _ _ l0_3 true _ ?side1 ?side2 A0.out).mono ?_); (case side1 => exact (Kd.C_below HR0.out (qW HB.out))); (case side2 => exact HC0.out); rintro e w105 ⟨rfl, hb⟩; have n106 := bB BKgm hb; have n107 := bS HB hb; clear HB BKgm; have BKgm := n106; have HB := n107; clear n106 n107 hb; have hz108 : w105.cell? ⟨gm, 0, none⟩ = some (.int .i64 a0_0) := (blk_cell BKgm.out 0).trans rfl; have hz109 : w105.cell? ⟨gm, 1, none⟩ = some (.int .i64 a0_1) := (blk_cell BKgm.out 1).trans rfl; have hz110 : w105.cell? ⟨gm, 2, none⟩ = some (.int .i64 a0_2) := (blk_cell BKgm.out 2).trans rfl; have hz111 : w105.cell? ⟨gm, 3, none⟩ = some (.slice A0_3 l0_3.length c0_3) := (blk_cell BKgm.out 3).trans rfl; have hf112 := blk_frozen BKgm.out 0; have hf113 := blk_frozen BKgm.out 1; have hf114 := blk_frozen BKgm.out 2; have hf115 := blk_frozen BKgm.out 3))
   go_ret
   exact ⟨_, rfl, Kd.R_nil _ _ _ _ _, by exact qW HB.out⟩
  rw [if_pos ⟨⟨k1, k2⟩, ⟨k3, k4⟩⟩] at H
  obtain rfl := Option.some.inj H
  have b_ := V.out
  obtain ⟨⟨v0, v0'⟩, ⟨v1, v1'⟩, ⟨v2, v2'⟩, hlen, hby⟩ := b_
  have hfit := pix_fits (a0 := a0_0) (a1 := a0_1) (a2 := a0_2) (x := a1) (y := a2) (by omega) (by omega) (by omega) (by omega) (by omega)
  rw [← hlen] at hfit
  have HCA := aM (fun (W' : World) (hb' : Below w.heap.size w W') => impl_at.calls a0_0 a0_1 a0_2 A0_3 c0_3 l0_3 a1 a2 W' (Kd.C_below HR0.out hb') HC0.out (by omega) v0' (by omega) (by omega) (by omega) (by omega) (by omega) (by omega) hfit)
  have hpl := pixOf_len l0_3 a0_0 a0_2 a1 a2 (by omega) (by omega)
  clear hfit hlen hby
  generalize pixOf l0_3 a0_0 a0_2 a1 a2 = px at HCA hpl ⊢
  have HPL := aM hpl
  clear hpl
  go_enter Try.func27, Try.ntmps27
  go_wp2_with (first | ((with_reducible refine gate_dst (N := 3) rfl ?_); (try (refine gate_guard (by rfl) ?_; dsimp only)); refine bxE (N := 3) (cs := #[.int .i64 a0_0, .int .i64 a0_1, .int .i64 a0_2, .slice A0_3 l0_3.length c0_3]) (t := 29) ?_; intro gm hg w116 hbox hb; have n117 := bS HB hb; have n118 := aM hbox; have n119 := aM ((by rw [hg]; exact (below_size (qW HB.out))) : w.heap.size ≤ gm); clear HB; have HB := n117; have BKgm := n118; have GEgm := n119; clear n117 n118 n119; clear hb hbox hg; have hz120 : w116.cell? ⟨gm, 0, none⟩ = some (.int .i64 a0_0) := (blk_cell BKgm.out 0).trans rfl; have hz121 : w116.cell? ⟨gm, 1, none⟩ = some (.int .i64 a0_1) := (blk_cell BKgm.out 1).trans rfl; have hz122 : w116.cell? ⟨gm, 2, none⟩ = some (.int .i64 a0_2) := (blk_cell BKgm.out 2).trans rfl; have hz123 : w116.cell? ⟨gm, 3, none⟩ = some (.slice A0_3 l0_3.length c0_3) := (blk_cell BKgm.out 3).trans rfl; have hf124 := blk_frozen BKgm.out 0; have hf125 := blk_frozen BKgm.out 1; have hf126 := blk_frozen BKgm.out 2; have hf127 := blk_frozen BKgm.out 3) | (go_at_call 43; (with_reducible refine (impl_isImage.calls a0_0 a0_1 a0_2 _ _ l0_3 true _ ?side1 ?side2 A0.out).mono ?_); (case side1 => exact (Kd.C_below HR0.out (qW HB.out))); (case side2 => exact HC0.out); rintro e w128 ⟨rfl, hb⟩; have n129 := bB BKgm hb; have n130 := bS HB hb; clear HB BKgm; have BKgm := n129; have HB := n130; clear n129 n130 hb; have hz131 : w128.cell? ⟨gm, 0, none⟩ = some (.int .i64 a0_0) := (blk_cell BKgm.out 0).trans rfl; have hz132 : w128.cell? ⟨gm, 1, none⟩ = some (.int .i64 a0_1) := (blk_cell BKgm.out 1).trans rfl; have hz133 : w128.cell? ⟨gm, 2, none⟩ = some (.int .i64 a0_2) := (blk_cell BKgm.out 2).trans rfl; have hz134 : w128.cell? ⟨gm, 3, none⟩ = some (.slice A0_3 l0_3.length c0_3) := (blk_cell BKgm.out 3).trans rfl; have hf135 := blk_frozen BKgm.out 0; have hf136 := blk_frozen BKgm.out 1; have hf137 := blk_frozen BKgm.out 2; have hf138 := blk_frozen BKgm.out 3) | ((with_reducible refine gate_dst (N := 30) rfl ?_); refine Kd.R_lit (Kd.int .i64) _ 3 ?hg (N := 30) ?hd (xs := ([] : List (Int))) (inner := []) (ok := fun _ => True) (okp := fun _ => True) ?hr ?hp (fun _ hk => hk) trivial (Below.refl _ _) (Nat.le_refl _) (by simp) ?_; (case hd => rfl); (case hg => rfl); (case hr => first | (go_simp; done) | (go_simp; rfl)); (case hp => exact (Reps.none _ _)); intro vl w139 ho4 hb hg_ hnew_; clear hg_ hnew_; have r_ := oR ho4 HB; have n140 := bB BKgm hb; have n141 := bS HB hb; clear HB BKgm; have BKgm := n140; have HB := n141; clear n140 n141 hb; have hz142 : w139.cell? ⟨gm, 0, none⟩ = some (.int .i64 a0_0) := (blk_cell BKgm.out 0).trans rfl; have hz143 : w139.cell? ⟨gm, 1, none⟩ = some (.int .i64 a0_1) := (blk_cell BKgm.out 1).trans rfl; have hz144 : w139.cell? ⟨gm, 2, none⟩ = some (.int .i64 a0_2) := (blk_cell BKgm.out 2).trans rfl; have hz145 : w139.cell? ⟨gm, 3, none⟩ = some (.slice A0_3 l0_3.length c0_3) := (blk_cell BKgm.out 3).trans rfl; have hf146 := blk_frozen BKgm.out 0; have hf147 := blk_frozen BKgm.out 1; have hf148 := blk_frozen BKgm.out 2; have hf149 := blk_frozen BKgm.out 3; have HO := r_; clear r_ ho4) | (go_at_call 44; refine (HCA.out _ (qW HB.out)).mono ?_; rintro e w150 ⟨A', c', rfl, hr', hl', hb⟩; have r_ := aM (Kd.R_below (qR HO.out) hb); clear HO; have HO := r_; clear r_; have HPR := aM hr'; clear hr'; have n151 := bB BKgm hb; have n152 := bS HB hb; clear HB BKgm; have BKgm := n151; have HB := n152; clear n151 n152 hb; have hz153 : w150.cell? ⟨gm, 0, none⟩ = some (.int .i64 a0_0) := (blk_cell BKgm.out 0).trans rfl; have hz154 : w150.cell? ⟨gm, 1, none⟩ = some (.int .i64 a0_1) := (blk_cell BKgm.out 1).trans rfl; have hz155 : w150.cell? ⟨gm, 2, none⟩ = some (.int .i64 a0_2) := (blk_cell BKgm.out 2).trans rfl; have hz156 : w150.cell? ⟨gm, 3, none⟩ = some (.slice A0_3 l0_3.length c0_3) := (blk_cell BKgm.out 3).trans rfl; have hf157 := blk_frozen BKgm.out 0; have hf158 := blk_frozen BKgm.out 1; have hf159 := blk_frozen BKgm.out 2; have hf160 := blk_frozen BKgm.out 3) | ((with_reducible refine gate_builtin (b := .append) (xs := #[.tmp 30, .tmp 34]) rfl ?_); at_builtin; refine Kd.R_append_rows (Kd.int .i64) (w0 := w) w.heap.size rfl (.tmp 30) (.tmp 34) 22 3 (.int .i64 0) 8 rfl Try.underlying22 info3 rfl (by decide) (by omega) vl [] px _ _ _ (fun _ => True) (fun _ => False) rfl rfl ?aO ?aR (fun _ _ h => h) (fun _ h => h.elim) ?aF ?aB ?aS ?aL ?_; (case aR => exact HPR.out); (case aB => exact (qW HB.out)); (case aF => exact (fun _ _ => trivial)); (case aO => exact HO.out); (case aS => exact (below_size (qW HB.out))); (case aL => have := HPL.out; simp only [List.length_nil]; omega); intro v311 w5 ho hb hg hat; rw [List.nil_append] at ho; replace HB := aM (hb); replace HO := aM (ho); clear ho hb hg hat))
  go_ret
  exact ⟨_, rfl, by refine qR ?_; exact HO.out, by exact qW HB.out⟩
def laws_szIntS.f (l0 : List Int) (a1 : Int) : Option (Int) := if (wrap64 (a1 - (l0.length : Int))) < 0 then (some (-1)) else (some (wrap64 (a1 - (l0.length : Int))))
set_option maxHeartbeats 8000000 in
set_option maxRecDepth 100000 in
theorem laws_szIntS.calls (A0 : Option Addr) (c0 : Nat) (l0 : List Int) (a1 : Int) (r : Int) (w : World) (hr0 : Kd.C (Kd.int .i64) w A0 l0.length l0) (hc0 : l0.length ≤ c0) (h : laws_szIntS.f l0 a1 = some r) :
  Calls Try.prog 39 #[.slice A0 l0.length c0, .int .i64 a1] w fun e w' => e = .returned (.int .i64 r) ∧ Drawn0 w w' := by
 have HR0 := aM hr0
 have HC0 := aM hc0
 clear hr0 hc0
 unfold laws_szIntS.f at h
 have H := h
 clear h
 by_cases c3 : (wrap64 (a1 - (l0.length : Int))) < 0
 ·rw [if_pos c3] at H
  have c3b0 : decide ((wrap64 (a1 - (l0.length : Int))) < 0) = true := decide_eq_true c3
  clear c3
  obtain rfl := Option.some.inj H
  go_enter Try.func39, Try.ntmps39
  go_wp2
  go_ret
  exact ⟨qE, qD⟩
 rw [if_neg c3] at H
 have c3b0 : decide ((wrap64 (a1 - (l0.length : Int))) < 0) = false := decide_eq_false c3
 clear c3
 obtain rfl := Option.some.inj H
 go_enter Try.func39, Try.ntmps39
 go_wp2
 go_ret
 exact ⟨qE, qD⟩
def laws_eqIntSS.l0 : Nat → List (List Int) → List (List Int) → Int → Option (Bool)
 | 0, _, _, _ => none
 | k + 1, x0, x1, x5 => if x5 < (x0.length : Int) then (if 0 ≤ x5 then (if x5 < (x1.length : Int) then ((laws_eqIntS.f k (rd_L1 x0 x5) (rd_L1 x1 x5)).bind fun t163 => (if t163 = true then (laws_eqIntSS.l0 k x0 x1 (wrap64 (x5 + 1))) else (some false))) else (none)) else (none)) else (some true)
def laws_eqIntSS.f (k : Nat) (l0 : List (List Int)) (l1 : List (List Int)) : Option (Bool) := if (l0.length : Int) = (l1.length : Int) then (laws_eqIntSS.l0 k l0 l1 0) else (some false)
theorem laws_eqIntSS.mono_l : ∀ k, (∀ y0 y1 y2, LeO (laws_eqIntSS.l0 k y0 y1 y2) (laws_eqIntSS.l0 (k + 1) y0 y1 y2))
 | 0 => fun _ _ _ r h => by simp [laws_eqIntSS.l0] at h
 | k + 1 => by
  have ih0 := laws_eqIntSS.mono_l k
  ·intro y0 y1 y2
   unfold laws_eqIntSS.l0
   repeat' first | (with_reducible first | exact ih0 _ _ _ | exact laws_eqIntS.mono _ _ _ | exact lR | exact lN | refine lI ?_ ?_ | refine lB ?_ fun _ => ?_) | exact ih0 _ _ _ | exact laws_eqIntS.mono _ _ _ | exact lN | refine lI ?_ ?_ | refine lB ?_ fun _ => ?_
theorem laws_eqIntSS.mono : ∀ a0 a1 k, LeO (laws_eqIntSS.f k a0 a1) (laws_eqIntSS.f (k + 1) a0 a1) := by
 intro a0 a1 k
 have ih0 := laws_eqIntSS.mono_l k
 unfold laws_eqIntSS.f
 repeat' first | (with_reducible first | exact ih0 _ _ _ | exact laws_eqIntS.mono _ _ _ | exact lR | exact lN | refine lI ?_ ?_ | refine lB ?_ fun _ => ?_) | exact ih0 _ _ _ | exact laws_eqIntS.mono _ _ _ | exact lN | refine lI ?_ ?_ | refine lB ?_ fun _ => ?_
set_option maxHeartbeats 8000000 in
set_option maxRecDepth 100000 in
theorem laws_eqIntSS.calls (k : Nat) (A0 : Option Addr) (c0 : Nat) (l0 : List (List Int)) (A1 : Option Addr) (c1 : Nat) (l1 : List (List Int)) (r : Bool) (w : World) (hr0 : Kd.C (Kd.slice 3 (Kd.int .i64)) w A0 l0.length l0) (hc0 : l0.length ≤ c0) (hr1 : Kd.C (Kd.slice 3 (Kd.int .i64)) w A1 l1.length l1) (hc1 : l1.length ≤ c1) (h : laws_eqIntSS.f k l0 l1 = some r) :
  Calls Try.prog 16 #[.slice A0 l0.length c0, .slice A1 l1.length c1] w fun e w' => e = .returned (.bool r) ∧ Drawn0 w w' := by
 have HR0 := aM hr0
 have HC0 := aM hc0
 clear hr0 hc0
 have HR1 := aM hr1
 have HC1 := aM hc1
 clear hr1 hc1
 unfold laws_eqIntSS.f at h
 have H := h
 clear h
 by_cases c3 : (l0.length : Int) = (l1.length : Int)
 rotate_left
 ·rw [if_neg c3] at H
  have c3b0 : ((l0.length : Int) == (l1.length : Int)) = false := beq_eq_false_iff_ne.mpr c3
  have c3b1 : ((l0.length : Int) != (l1.length : Int)) = true := bne_iff_ne.mpr c3
  have c3b2 : (l0.length == l1.length) = false := by first | simpa using c3 | (simp at c3 ⊢; omega)
  obtain rfl := Option.some.inj H
  go_enter Try.func16, Try.ntmps16
  go_wp2
  repeat (go_quiet (fail); try go_wp2)
  go_ret
  exact ⟨qE, qD⟩
 rw [if_pos c3] at H
 have c3b0 : ((l0.length : Int) == (l1.length : Int)) = true := beq_iff_eq.mpr c3
 have c3b1 : ((l0.length : Int) != (l1.length : Int)) = false := bne_eq_false_iff_eq.mpr c3
 have c3b2 : (l0.length == l1.length) = true := by first | simpa using c3 | (simp at c3 ⊢; omega)
 clear c3
 have H' := aM H
 clear H
 go_enter Try.func16, Try.ntmps16
 go_wp2
 repeat (go_quiet (fail); try go_wp2)
 go_loopg [5] k (fun kq v5 w' => ∃ (x5_1 : Int), v5 = .int .i64 x5_1 ∧ Aside0 (laws_eqIntSS.l0 kq l0 l1 x5_1 = some r) ∧ Aside0 (kq ≤ k) ∧ Drawn0 w w')
 case atStart => exact ⟨(0), qE, H', ⟨Nat.le_refl _⟩, qD⟩
 case round =>
  clear H'
  try clear c1
  try clear c3
  try clear c3b0
  try clear c3b1
  try clear c3b2
  obtain ⟨x5_1, rfl, HA, HK1, ⟨m1, rfl⟩⟩ := hrel
  cases gk with
  | zero => exact absurd HA.out (by simp [laws_eqIntSS.l0])
  | succ k1 =>
   have H := HA.out
   clear HA
   simp only [laws_eqIntSS.l0] at H
   by_cases c4 : x5_1 < (l0.length : Int)
   rotate_left
   ·rw [if_neg c4] at H
    have c4b0 : decide (x5_1 < (l0.length : Int)) = false := decide_eq_false c4
    clear c4
    obtain rfl := Option.some.inj H
    go_wp2
    repeat (go_quiet (fail); try go_wp2)
    go_ret
    exact ⟨qE, qD⟩
   rw [if_pos c4] at H
   have c4b0 : decide (x5_1 < (l0.length : Int)) = true := decide_eq_true c4
   clear c4
   replace H := iD H
   obtain ⟨c5b0, H⟩ := H
   replace H := iD H
   obtain ⟨c6b0, H⟩ := H
   replace H := Option.bind_eq_some_iff.mp H
   obtain ⟨t163, A70, H⟩ := H
   replace H : (if t163 = true then (laws_eqIntSS.l0 k1 l0 l1 (wrap64 (x5_1 + 1))) else (some false)) = some r := H
   have A7 := aM A70
   clear A70
   by_cases c8 : t163 = true
   rotate_left
   ·replace c8 := Bool.eq_false_iff.mpr c8
    subst c8
    have H1 : (some false) = some r := by rw [if_neg (show ¬ (false = true) by decide)] at H; exact H
    clear H
    have H := H1
    clear H1
    obtain rfl := Option.some.inj H
    have p161 : 0 ≤ (x5_1 : Int) := oD
    have q161 : x5_1 < (l0.length : Int) := oD
    obtain ⟨ad161, A161_0, c161_0, e161, hx161_0, hl161_0, hi161_0⟩ := at_L1 HR0.out x5_1 p161 q161
    cases e161
    have HR161_0 := aM hi161_0
    have HC161_0 := aM hl161_0
    clear hi161_0 hl161_0
    replace p161 := eq_true p161
    replace q161 := eq_true q161
    have p162 : 0 ≤ (x5_1 : Int) := oD
    have q162 : x5_1 < (l1.length : Int) := oD
    obtain ⟨ad162, A162_0, c162_0, e162, hx162_0, hl162_0, hi162_0⟩ := at_L1 HR1.out x5_1 p162 q162
    cases e162
    have HR162_0 := aM hi162_0
    have HC162_0 := aM hl162_0
    clear hi162_0 hl162_0
    replace p162 := eq_true p162
    replace q162 := eq_true q162
    go_wp2_with (first | (go_at_call 48; (with_reducible refine (laws_eqIntS.calls k1 _ _ (rd_L1 l0 x5_1) _ _ (rd_L1 l1 x5_1) false _ ?side1 ?side2 ?side3 ?side4 A7.out).mono ?_); (case side1 => exact qC HR161_0.out); (case side2 => exact HC161_0.out); (case side3 => exact qC HR162_0.out); (case side4 => exact HC162_0.out); rintro e w' ⟨rfl, ⟨nd, rfl⟩⟩; (try first | exact ⟨rfl, _, World.drewN_drewN _ _ _⟩ | exact ⟨rfl, _, Eq.trans (World.drewN_drewN _ _ _) (congrArg (World.drewN _) (Nat.add_assoc _ _ _))⟩)))
    repeat (go_quiet (first | (go_at_call 48; (with_reducible refine (laws_eqIntS.calls k1 _ _ (rd_L1 l0 x5_1) _ _ (rd_L1 l1 x5_1) false _ ?side1 ?side2 ?side3 ?side4 A7.out).mono ?_); (case side1 => exact qC HR161_0.out); (case side2 => exact HC161_0.out); (case side3 => exact qC HR162_0.out); (case side4 => exact HC162_0.out); rintro e w' ⟨rfl, ⟨nd, rfl⟩⟩; (try first | exact ⟨rfl, _, World.drewN_drewN _ _ _⟩ | exact ⟨rfl, _, Eq.trans (World.drewN_drewN _ _ _) (congrArg (World.drewN _) (Nat.add_assoc _ _ _))⟩))); try go_wp2_with (first | (go_at_call 48; (with_reducible refine (laws_eqIntS.calls k1 _ _ (rd_L1 l0 x5_1) _ _ (rd_L1 l1 x5_1) false _ ?side1 ?side2 ?side3 ?side4 A7.out).mono ?_); (case side1 => exact qC HR161_0.out); (case side2 => exact HC161_0.out); (case side3 => exact qC HR162_0.out); (case side4 => exact HC162_0.out); rintro e w' ⟨rfl, ⟨nd, rfl⟩⟩; (try first | exact ⟨rfl, _, World.drewN_drewN _ _ _⟩ | exact ⟨rfl, _, Eq.trans (World.drewN_drewN _ _ _) (congrArg (World.drewN _) (Nat.add_assoc _ _ _))⟩))))
    go_ret
    exact ⟨qE, qD⟩
   subst c8
   have H1 : (laws_eqIntSS.l0 k1 l0 l1 (wrap64 (x5_1 + 1))) = some r := by rw [if_pos rfl] at H; exact H
   clear H
   have H := H1
   clear H1
   have H' := aM H
   clear H
   have p161 : 0 ≤ (x5_1 : Int) := oD
   have q161 : x5_1 < (l0.length : Int) := oD
   obtain ⟨ad161, A161_0, c161_0, e161, hx161_0, hl161_0, hi161_0⟩ := at_L1 HR0.out x5_1 p161 q161
   cases e161
   have HR161_0 := aM hi161_0
   have HC161_0 := aM hl161_0
   clear hi161_0 hl161_0
   replace p161 := eq_true p161
   replace q161 := eq_true q161
   have p162 : 0 ≤ (x5_1 : Int) := oD
   have q162 : x5_1 < (l1.length : Int) := oD
   obtain ⟨ad162, A162_0, c162_0, e162, hx162_0, hl162_0, hi162_0⟩ := at_L1 HR1.out x5_1 p162 q162
   cases e162
   have HR162_0 := aM hi162_0
   have HC162_0 := aM hl162_0
   clear hi162_0 hl162_0
   replace p162 := eq_true p162
   replace q162 := eq_true q162
   go_wp2_with (first | (go_at_call 48; (with_reducible refine (laws_eqIntS.calls k1 _ _ (rd_L1 l0 x5_1) _ _ (rd_L1 l1 x5_1) true _ ?side1 ?side2 ?side3 ?side4 A7.out).mono ?_); (case side1 => exact qC HR161_0.out); (case side2 => exact HC161_0.out); (case side3 => exact qC HR162_0.out); (case side4 => exact HC162_0.out); rintro e w' ⟨rfl, ⟨nd, rfl⟩⟩; (try first | exact ⟨rfl, _, World.drewN_drewN _ _ _⟩ | exact ⟨rfl, _, Eq.trans (World.drewN_drewN _ _ _) (congrArg (World.drewN _) (Nat.add_assoc _ _ _))⟩)))
   repeat (go_quiet (first | (go_at_call 48; (with_reducible refine (laws_eqIntS.calls k1 _ _ (rd_L1 l0 x5_1) _ _ (rd_L1 l1 x5_1) true _ ?side1 ?side2 ?side3 ?side4 A7.out).mono ?_); (case side1 => exact qC HR161_0.out); (case side2 => exact HC161_0.out); (case side3 => exact qC HR162_0.out); (case side4 => exact HC162_0.out); rintro e w' ⟨rfl, ⟨nd, rfl⟩⟩; (try first | exact ⟨rfl, _, World.drewN_drewN _ _ _⟩ | exact ⟨rfl, _, Eq.trans (World.drewN_drewN _ _ _) (congrArg (World.drewN _) (Nat.add_assoc _ _ _))⟩))); try go_wp2_with (first | (go_at_call 48; (with_reducible refine (laws_eqIntS.calls k1 _ _ (rd_L1 l0 x5_1) _ _ (rd_L1 l1 x5_1) true _ ?side1 ?side2 ?side3 ?side4 A7.out).mono ?_); (case side1 => exact qC HR161_0.out); (case side2 => exact HC161_0.out); (case side3 => exact qC HR162_0.out); (case side4 => exact HC162_0.out); rintro e w' ⟨rfl, ⟨nd, rfl⟩⟩; (try first | exact ⟨rfl, _, World.drewN_drewN _ _ _⟩ | exact ⟨rfl, _, Eq.trans (World.drewN_drewN _ _ _) (congrArg (World.drewN _) (Nat.add_assoc _ _ _))⟩))))
   go_roundg k1
   case measure => have := HK1.out; omega
   case rel => exact ⟨(wrap64 (x5_1 + 1)), qE, H', ⟨by have := HK1.out; omega⟩, qD⟩
def laws_szIntSS.l0 : Nat → List (List Int) → Int → Int → Option (Int)
 | 0, _, _, _ => none
 | k + 1, x0, x1, x5 => if x5 < (x0.length : Int) then (if 0 ≤ x5 then ((laws_szIntS.f (rd_L1 x0 x5) x1).bind fun t381 => (if t381 < 0 then (some (-1)) else (laws_szIntSS.l0 k x0 t381 (wrap64 (x5 + 1))))) else (none)) else (some x1)
def laws_szIntSS.f (k : Nat) (l0 : List (List Int)) (a1 : Int) : Option (Int) := if (wrap64 (a1 - (l0.length : Int))) < 0 then (some (-1)) else (laws_szIntSS.l0 k l0 (wrap64 (a1 - (l0.length : Int))) 0)
theorem laws_szIntSS.mono_l : ∀ k, (∀ y0 y1 y2, LeO (laws_szIntSS.l0 k y0 y1 y2) (laws_szIntSS.l0 (k + 1) y0 y1 y2))
 | 0 => fun _ _ _ r h => by simp [laws_szIntSS.l0] at h
 | k + 1 => by
  have ih0 := laws_szIntSS.mono_l k
  ·intro y0 y1 y2
   unfold laws_szIntSS.l0
   repeat' first | (with_reducible first | exact ih0 _ _ _ | exact lR | exact lN | refine lI ?_ ?_ | refine lB ?_ fun _ => ?_) | exact ih0 _ _ _ | exact lN | refine lI ?_ ?_ | refine lB ?_ fun _ => ?_
theorem laws_szIntSS.mono : ∀ a0 a1 k, LeO (laws_szIntSS.f k a0 a1) (laws_szIntSS.f (k + 1) a0 a1) := by
 intro a0 a1 k
 have ih0 := laws_szIntSS.mono_l k
 unfold laws_szIntSS.f
 repeat' first | (with_reducible first | exact ih0 _ _ _ | exact lR | exact lN | refine lI ?_ ?_ | refine lB ?_ fun _ => ?_) | exact ih0 _ _ _ | exact lN | refine lI ?_ ?_ | refine lB ?_ fun _ => ?_
set_option maxHeartbeats 8000000 in
set_option maxRecDepth 100000 in
theorem laws_szIntSS.calls (k : Nat) (A0 : Option Addr) (c0 : Nat) (l0 : List (List Int)) (a1 : Int) (r : Int) (w : World) (hr0 : Kd.C (Kd.slice 3 (Kd.int .i64)) w A0 l0.length l0) (hc0 : l0.length ≤ c0) (h : laws_szIntSS.f k l0 a1 = some r) :
  Calls Try.prog 28 #[.slice A0 l0.length c0, .int .i64 a1] w fun e w' => e = .returned (.int .i64 r) ∧ Drawn0 w w' := by
 have HR0 := aM hr0
 have HC0 := aM hc0
 clear hr0 hc0
 unfold laws_szIntSS.f at h
 have H := h
 clear h
 by_cases c3 : (wrap64 (a1 - (l0.length : Int))) < 0
 ·rw [if_pos c3] at H
  have c3b0 : decide ((wrap64 (a1 - (l0.length : Int))) < 0) = true := decide_eq_true c3
  clear c3
  obtain rfl := Option.some.inj H
  go_enter Try.func28, Try.ntmps28
  go_wp2
  go_ret
  exact ⟨qE, qD⟩
 rw [if_neg c3] at H
 have c3b0 : decide ((wrap64 (a1 - (l0.length : Int))) < 0) = false := decide_eq_false c3
 clear c3
 have H' := aM H
 clear H
 go_enter Try.func28, Try.ntmps28
 go_wp2
 go_loopg [1, 5] k (fun kq v1 v5 w' => ∃ (x1_1 : Int) (x5_1 : Int), v1 = .int .i64 x1_1 ∧ v5 = .int .i64 x5_1 ∧ Aside0 (laws_szIntSS.l0 kq l0 x1_1 x5_1 = some r) ∧ Aside0 (kq ≤ k) ∧ Drawn0 w w')
 case atStart => exact ⟨(wrap64 (a1 - (l0.length : Int))), (0), qE, qE, H', ⟨Nat.le_refl _⟩, qD⟩
 case round =>
  clear H'
  try clear c3
  try clear c3b0
  obtain ⟨x1_1, x5_1, rfl, rfl, HA, HK1, ⟨m1, rfl⟩⟩ := hrel
  cases gk with
  | zero => exact absurd HA.out (by simp [laws_szIntSS.l0])
  | succ k1 =>
   have H := HA.out
   clear HA
   simp only [laws_szIntSS.l0] at H
   by_cases c4 : x5_1 < (l0.length : Int)
   rotate_left
   ·rw [if_neg c4] at H
    have c4b0 : decide (x5_1 < (l0.length : Int)) = false := decide_eq_false c4
    clear c4
    obtain rfl := Option.some.inj H
    go_wp2
    go_ret
    exact ⟨qE, qD⟩
   rw [if_pos c4] at H
   have c4b0 : decide (x5_1 < (l0.length : Int)) = true := decide_eq_true c4
   clear c4
   replace H := iD H
   obtain ⟨c5b0, H⟩ := H
   replace H := Option.bind_eq_some_iff.mp H
   obtain ⟨t381, A60, H⟩ := H
   replace H : (if t381 < 0 then (some (-1)) else (laws_szIntSS.l0 k1 l0 t381 (wrap64 (x5_1 + 1)))) = some r := H
   have A6 := aM A60
   clear A60
   by_cases c7 : t381 < 0
   ·rw [if_pos c7] at H
    have c7b0 : decide (t381 < 0) = true := decide_eq_true c7
    clear c7
    obtain rfl := Option.some.inj H
    have p380 : 0 ≤ (x5_1 : Int) := oD
    have q380 : x5_1 < (l0.length : Int) := oD
    obtain ⟨ad380, A380_0, c380_0, e380, hx380_0, hl380_0, hi380_0⟩ := at_L1 HR0.out x5_1 p380 q380
    cases e380
    have HR380_0 := aM hi380_0
    have HC380_0 := aM hl380_0
    clear hi380_0 hl380_0
    replace p380 := eq_true p380
    replace q380 := eq_true q380
    go_wp2_with (first | ((with_reducible refine gate_callee (f := 39) rfl ?_); refine gL (some 23) Try.func39 #[.slice A380_0 (rd_L1 l0 x5_1).length c380_0, .int .i64 x1_1] ?_; (with_reducible refine (laws_szIntS.calls _ _ (rd_L1 l0 x5_1) x1_1 t381 _ ?side1 ?side2 A6.out).mono ?_); (case side1 => exact qC HR380_0.out); (case side2 => exact HC380_0.out); rintro e w' ⟨rfl, ⟨nd, rfl⟩⟩; refine ⟨_, rfl, ?_⟩))
    go_ret
    exact ⟨qE, qD⟩
   rw [if_neg c7] at H
   have c7b0 : decide (t381 < 0) = false := decide_eq_false c7
   clear c7
   have H' := aM H
   clear H
   have p380 : 0 ≤ (x5_1 : Int) := oD
   have q380 : x5_1 < (l0.length : Int) := oD
   obtain ⟨ad380, A380_0, c380_0, e380, hx380_0, hl380_0, hi380_0⟩ := at_L1 HR0.out x5_1 p380 q380
   cases e380
   have HR380_0 := aM hi380_0
   have HC380_0 := aM hl380_0
   clear hi380_0 hl380_0
   replace p380 := eq_true p380
   replace q380 := eq_true q380
   go_wp2_with (first | ((with_reducible refine gate_callee (f := 39) rfl ?_); refine gL (some 23) Try.func39 #[.slice A380_0 (rd_L1 l0 x5_1).length c380_0, .int .i64 x1_1] ?_; (with_reducible refine (laws_szIntS.calls _ _ (rd_L1 l0 x5_1) x1_1 t381 _ ?side1 ?side2 A6.out).mono ?_); (case side1 => exact qC HR380_0.out); (case side2 => exact HC380_0.out); rintro e w' ⟨rfl, ⟨nd, rfl⟩⟩; refine ⟨_, rfl, ?_⟩))
   go_roundg k1
   case measure => have := HK1.out; omega
   case rel => exact ⟨(t381), (wrap64 (x5_1 + 1)), qE, qE, H', ⟨by have := HK1.out; omega⟩, qD⟩
def laws_toIntSS.l0 : Nat → List (List Int) → List (List Int) → Int → Option ((List (List Int)))
 | 0, _, _, _ => none
 | k + 1, x0, x3, x4 => if x4 < (x0.length : Int) then (if 0 ≤ x4 then ((laws_toIntS.f k (rd_L1 x0 x4)).bind fun t406 => (if x4 < (x3.length : Int) then (laws_toIntSS.l0 k x0 (x3.set (x4 : Int).toNat t406) (wrap64 (x4 + 1))) else (none))) else (none)) else (some x3)
def laws_toIntSS.f (k : Nat) (l0 : List (List Int)) : Option ((List (List Int))) := if 0 ≤ (l0.length : Int) then (if ((l0.length : Int) : Int).toNat ≤ 11728124029610 then (laws_toIntSS.l0 k l0 (List.replicate ((l0.length : Int) : Int).toNat []) 0) else (none)) else (none)
theorem laws_toIntSS.mono_l : ∀ k, (∀ y0 y1 y2, LeO (laws_toIntSS.l0 k y0 y1 y2) (laws_toIntSS.l0 (k + 1) y0 y1 y2))
 | 0 => fun _ _ _ r h => by simp [laws_toIntSS.l0] at h
 | k + 1 => by
  have ih0 := laws_toIntSS.mono_l k
  ·intro y0 y1 y2
   unfold laws_toIntSS.l0
   repeat' first | (with_reducible first | exact ih0 _ _ _ | exact laws_toIntS.mono _ _ | exact lR | exact lN | refine lI ?_ ?_ | refine lB ?_ fun _ => ?_) | exact ih0 _ _ _ | exact laws_toIntS.mono _ _ | exact lN | refine lI ?_ ?_ | refine lB ?_ fun _ => ?_
theorem laws_toIntSS.mono : ∀ a0 k, LeO (laws_toIntSS.f k a0) (laws_toIntSS.f (k + 1) a0) := by
 intro a0 k
 have ih0 := laws_toIntSS.mono_l k
 unfold laws_toIntSS.f
 repeat' first | (with_reducible first | exact ih0 _ _ _ | exact laws_toIntS.mono _ _ | exact lR | exact lN | refine lI ?_ ?_ | refine lB ?_ fun _ => ?_) | exact ih0 _ _ _ | exact laws_toIntS.mono _ _ | exact lN | refine lI ?_ ?_ | refine lB ?_ fun _ => ?_
set_option maxHeartbeats 8000000 in
set_option maxRecDepth 100000 in
theorem laws_toIntSS.calls (k : Nat) (A0 : Option Addr) (c0 : Nat) (l0 : List (List Int)) (r : List (List Int)) (w : World) (hr0 : Kd.C (Kd.slice 3 (Kd.int .i64)) w A0 l0.length l0) (hc0 : l0.length ≤ c0) (h : laws_toIntSS.f k l0 = some r) :
  Calls Try.prog 30 #[.slice A0 l0.length c0] w fun e w' => ∃ v0_ : Value, e = .returned (v0_) ∧ Kd.S (Kd.slice 3 (Kd.int .i64)) 22 w' w.heap.size (fun _ => True) v0_ r ∧ Below w.heap.size w w' := by
 have HR0 := aM hr0
 have HC0 := aM hc0
 clear hr0 hc0
 have HB := aM (Below.refl w.heap.size w)
 unfold laws_toIntSS.f at h
 have H := h
 clear h
 replace H := iS H
 obtain ⟨c2, H⟩ := H
 have c2b0 := eq_true c2
 have c2b1 : decide (0 ≤ (l0.length : Int)) = true := decide_eq_true c2
 clear c2
 replace H := iS H
 obtain ⟨c3, H⟩ := H
 have c3b0 := eq_true c3
 have c3b1 : decide (((l0.length : Int) : Int).toNat ≤ 11728124029610) = true := decide_eq_true c3
 clear c3
 obtain ⟨y402, hy402⟩ : ∃ y_ : List (List Int), y_ = (List.replicate ((l0.length : Int) : Int).toNat []) := ⟨_, rfl⟩
 replace H : (laws_toIntSS.l0 k l0 y402 0) = some r := rY hy402 H
 have Ny402 := aM hy402
 clear hy402
 have H' := aM H
 clear H
 go_enter Try.func30, Try.ntmps30
 go_wp2_with (first | ((with_reducible refine gate_dst (N := 7) rfl ?_); refine Kd.S_make (Kd.slice 3 (Kd.int .i64)) _ 22 rfl (N := 7) rfl 26 _ _ rfl (l0.length : Int) rfl rfl Try.underlying26 (.slice none 0 0) 24 info22 rfl (by decide) (by omega) [] (ok := fun _ => True) (okp := fun _ => True) ⟨_, rfl, Kd.R_nil _ _ _ _ _⟩ (fun _ hk => hk) trivial oD (Nat.le_trans (Nat.mul_le_mul_right _ (oD : (l0.length : Int).toNat ≤ 11728124029610)) (by omega)) (Below.refl _ _) (Nat.le_refl _) ?_; intro v403 w4 ho5 hb hg_ hnew_; clear hg_ hnew_; (first | rw [← Ny402.out] at ho5 | (simp only [Int.reduceToNat] at ho5; rw [← Ny402.out] at ho5)); have HO404 := aM (Kd.S_lower ho5 (below_size (qW HB.out))); replace HB := bS HB hb; clear hb ho5))
 go_loopg [4] k (fun kq v4 w' => ∃ (x3_1 : List (List Int)) (x4_1 : Int), v4 = .int .i64 x4_1 ∧ Aside0 (laws_toIntSS.l0 kq l0 x3_1 x4_1 = some r) ∧ Aside0 (kq ≤ k) ∧ Aside0 (Kd.S (Kd.slice 3 (Kd.int .i64)) 22 w' w.heap.size (fun _ => True) v403 x3_1) ∧ Aside0 (Below w.heap.size w w'))
 case atStart => exact ⟨(y402), (0), qE, H', ⟨Nat.le_refl _⟩, ⟨by (with_reducible repeat (first | apply Kd.S_alloc | apply Kd.S_drewN | apply Kd.S_drew)); exact HO404.out⟩, ⟨by exact qW HB.out⟩⟩
 case round =>
  clear H'
  try clear c2
  try clear c2b0
  try clear c2b1
  try clear c3
  try clear c3b0
  try clear c3b1
  obtain ⟨x3_1, x4_1, rfl, HA, HK1, HO_3, HB⟩ := hrel
  cases gk with
  | zero => exact absurd HA.out (by simp [laws_toIntSS.l0])
  | succ k1 =>
   have H := HA.out
   clear HA
   simp only [laws_toIntSS.l0] at H
   by_cases c6 : x4_1 < (l0.length : Int)
   rotate_left
   ·rw [if_neg c6] at H
    have c6b0 : decide (x4_1 < (l0.length : Int)) = false := decide_eq_false c6
    clear c6
    obtain rfl := Option.some.inj H
    go_wp2
    go_ret
    exact ⟨_, qX, by (with_reducible repeat (first | apply Kd.S_alloc | apply Kd.S_drewN | apply Kd.S_drew)); exact HO_3.out, by exact qW HB.out⟩
   rw [if_pos c6] at H
   have c6b0 : decide (x4_1 < (l0.length : Int)) = true := decide_eq_true c6
   clear c6
   replace H := iD H
   obtain ⟨c7b0, H⟩ := H
   replace H := Option.bind_eq_some_iff.mp H
   obtain ⟨t406, A80, H⟩ := H
   replace H : (if x4_1 < (x3_1.length : Int) then (laws_toIntSS.l0 k1 l0 (x3_1.set (x4_1 : Int).toNat t406) (wrap64 (x4_1 + 1))) else (none)) = some r := H
   have A8 := aM A80
   clear A80
   replace H := iD H
   obtain ⟨c9b0, H⟩ := H
   obtain ⟨y409, hy409⟩ : ∃ y_ : List (List Int), y_ = (x3_1.set (x4_1 : Int).toNat t406) := ⟨_, rfl⟩
   replace H : (laws_toIntSS.l0 k1 l0 y409 (wrap64 (x4_1 + 1))) = some r := rY hy409 H
   have Ny409 := aM hy409
   clear hy409
   have H' := aM H
   clear H
   have p405 : 0 ≤ (x4_1 : Int) := oD
   have q405 : x4_1 < (l0.length : Int) := oD
   obtain ⟨ad405, A405_0, c405_0, e405, hx405_0, hl405_0, hi405_0⟩ := at_L1 HR0.out x4_1 p405 q405
   cases e405
   replace hx405_0 := bD HB hx405_0
   have HR405_0 := aM hi405_0
   have HC405_0 := aM hl405_0
   clear hi405_0 hl405_0
   replace p405 := eq_true p405
   replace q405 := eq_true q405
   go_wp2_with (first | ((with_reducible refine gate_callee (f := 42) rfl ?_); refine gL (some 20) Try.func42 #[.slice A405_0 (rd_L1 l0 x4_1).length c405_0] ?_; (with_reducible refine (laws_toIntS.calls k1 _ _ (rd_L1 l0 x4_1) t406 _ ?side1 ?side2 A8.out).mono ?_); (case side1 => exact qC (Kd.C_below HR405_0.out HB.out)); (case side2 => exact HC405_0.out); rintro e w11 ⟨v407, rfl, ho0, hb⟩; refine ⟨_, rfl, ?_⟩; replace HO_3 := aM (Kd.S_elder' (by (with_reducible repeat (first | apply Kd.S_alloc | apply Kd.S_drewN | apply Kd.S_drew)); exact HO_3.out) (Kd.R_base ho0) hb); have HO408 := oR ho0 HB; replace HB := bS HB hb; clear hb ho0; have p10 : 0 ≤ (x4_1 : Int) := oD; have q10 : (x4_1 : Int) < ((x3_1.length : Int) : Int) := oD; obtain ⟨go10, co10, eo10, gb10, gl10, cl10, HG10⟩ := Kd.S_form HO_3.out (by omega); (first | cases eo10 | (injection eo10 with ea_ en_ ec_; (first | subst ea_ | (injection ea_ with ea_; subst ea_)); subst ec_; clear en_)); have GB10 := aM gb10; have GG10 := aM HG10; clear gb10 gl10 HG10; obtain ⟨_, ce10, hcl10, hM10, hcc10, hfr10, _, _⟩ := Kd.S_elem HO_3.out [] (x4_1 : Int) p10 q10; obtain ⟨ve10_0, rfl, ge10_0⟩ := hM10; have hx10_0 := hcc10 0 _ rfl; have hf10_0 := hfr10 0; (try simp only [show ((Kd.slice 3 (Kd.int .i64))).sz = 1 from rfl, Nat.mul_one, Nat.add_zero] at hx10_0); (try simp only [show ((Kd.slice 3 (Kd.int .i64))).sz = 1 from rfl, Nat.mul_one, Nat.add_zero] at hf10_0); (try clear hcl10); (try clear hcc10); (try clear hfr10); (try clear hM10); replace p10 := eq_true p10; replace q10 := eq_true q10; have n_ := aM (Kd.S_mono (ok' := (fun k_ => some k_ ≠ (v407 : Value).ownBlock)) HO_3.out (fun k_ hk => hk.2)); clear HO_3; have HO_3 := n_; clear n_; have HX12 := aM (show Kd.S (Kd.slice 3 (Kd.int .i64)) 22 w11 w.heap.size (fun k_ => ((fun _ => True)) k_ ∧ ¬ ((fun k_ => some k_ = (v407 : Value).ownBlock)) k_) (.slice (some ⟨go10, 0, none⟩) x3_1.length co10) x3_1 from (by (with_reducible repeat (first | apply Kd.S_alloc | apply Kd.S_drewN | apply Kd.S_drew)); exact Kd.S_mono HO_3.out (fun k_ hk => ⟨trivial, fun e_ => hk e_⟩))); obtain ⟨oki12, ce12, hcl12, hM12, hcc12, hfr12, hoki12, hH12⟩ := Kd.S_elem HX12.out [] (x4_1 : Int) oD (by have h_ : (x4_1 : Int) < ((x3_1.length : Int) : Int) := oD; first | exact h_ | (have e_ := (Kd.S_reads' HO_3.out).1; omega) | simpa using h_); obtain ⟨ve12_0, rfl, ge12_0⟩ := hM12; have HP12 := Kd.S_seg hH12 oD (by have h_ : (x4_1 : Int) < ((x3_1.length : Int) : Int) := oD; first | exact h_ | (have e_ := (Kd.S_reads' HO_3.out).1; omega) | simpa using h_) (seg := [v407]) (j := 0) (show 1 ≤ 1 from by decide) (x' := t406) (Kd.M_row (Kd.R_mono (Kd.R_tight rfl (Kd.R_mono (ok' := fun k_ => ((fun _ => True)) k_ ∧ k_ ≠ go10) (Kd.R_apart' (HO408.out) (Kd.S_typed HO_3.out) (by decide)) (fun k_ hk => ⟨trivial, fun e_ => (hk.2) (by rw [e_]; rfl)⟩))) (fun _ h_ => Or.inr (h_)))) (fun _ hk => hk) (fun k_ hk_ => ((Kd.R_mono (ok' := fun k_ => ((fun _ => True)) k_ ∧ k_ ≠ go10) (Kd.R_apart' (HO408.out) (Kd.S_typed HO_3.out) (by decide)) (fun k_ hk => ⟨trivial, fun e_ => (hk.2) (by rw [e_]; rfl)⟩))).1 k_ hk_.symm); have hx12_0 := hcc12 0 _ rfl; (try simp only [show ((Kd.slice 3 (Kd.int .i64))).sz = 1 from rfl, Nat.mul_one, Nat.add_zero] at hx12_0); have hf12_0 := hfr12 0; (try simp only [show ((Kd.slice 3 (Kd.int .i64))).sz = 1 from rfl, Nat.mul_one, Nat.add_zero] at hf12_0); (try clear hcl12); (try clear hcc12); (try clear hfr12); (try clear hM12); (try clear hoki12); (try clear hH12); (try simp only [show ((Kd.slice 3 (Kd.int .i64))).sz = 1 from rfl, Nat.mul_one, Nat.add_zero] at HP12); obtain ⟨Aq_, cq_, eq_⟩ := Kd.R_slice HO408.out) | ((with_reducible refine gate_store (t := 22) (p := 21) rfl ?_); refine store_event (t := 22) (p := 21) (v := ?vo_w13) (w1 := (w11.setCell ⟨go10, (x4_1 : Int).toNat, none⟩ (v407))) ?hg ?ho ?hn ?hr ?_; (case ho => rfl); (case hg => rfl); (case hn => rfl); (case hr => first | (go_simp; done) | (go_simp; rfl)); intro w13 hw; have hg : w11.grownBy w13 (some go10) := (by rw [hw]; exact HP12.2); have hp_ : Kd.S (Kd.slice 3 (Kd.int .i64)) 22 w13 w.heap.size (fun _ => True) (.slice (some ⟨go10, 0, none⟩) x3_1.length co10) y409 := (by rw [hw, Ny409.out]; exact HP12.1); clear HP12; replace HO_3 := aM (hp_); replace HB := aM ((by rw [hw]; exact below_set (HB.out) GB10.out : Below w.heap.size w w13)); clear HO408; clear hg hw hp_))
   go_roundg k1
   case measure => have := HK1.out; omega
   case rel => exact ⟨(y409), (wrap64 (x4_1 + 1)), qE, H', ⟨by have := HK1.out; omega⟩, ⟨by (with_reducible repeat (first | apply Kd.S_alloc | apply Kd.S_drewN | apply Kd.S_drew)); exact HO_3.out⟩, ⟨by exact qW HB.out⟩⟩
def spec_copyInts.f (l0 : List Int) : Option (List Int) := (some (([] : List Int) : List Int)).bind fun y111 => (if y111.length + l0.length < 17592186044416 then (some (y111 ++ l0)) else (none))
set_option maxHeartbeats 8000000 in
set_option maxRecDepth 100000 in
theorem spec_copyInts.calls (A0 : Option Addr) (c0 : Nat) (l0 : List Int) (r : List Int) (w : World) (hr0 : Kd.C (Kd.int .i64) w A0 l0.length l0) (hc0 : l0.length ≤ c0) (h : spec_copyInts.f l0 = some r) :
  Calls Try.prog 76 #[.slice A0 l0.length c0] w fun e w' => ∃ v0_ : Value, e = .returned (v0_) ∧ Kd.R (Kd.int .i64) 3 w' w.heap.size (fun _ => True) v0_ r ∧ Below w.heap.size w w' := by
 have HR0 := aM hr0
 have HC0 := aM hc0
 clear hr0 hc0
 have HB := aM (Below.refl w.heap.size w)
 unfold spec_copyInts.f at h
 have H := h
 clear h
 obtain ⟨y111, hy111⟩ : ∃ y_ : List Int, y_ = (([] : List Int)) := ⟨_, rfl⟩
 replace H : (if y111.length + l0.length < 17592186044416 then (some (y111 ++ l0)) else (none)) = some r := rY hy111 H
 have Ny111 := aM hy111
 clear hy111
 replace H := iS H
 obtain ⟨c2, H⟩ := H
 have LMc2 := aM c2
 clear c2
 obtain ⟨y114, hy114⟩ : ∃ y_ : List Int, y_ = (y111 ++ l0) := ⟨_, rfl⟩
 replace H : (some y114) = some r := rY hy114 H
 have Ny114 := aM hy114
 clear hy114
 obtain rfl := Option.some.inj H
 go_enter Try.func76, Try.ntmps76
 go_wp2_with (first | ((with_reducible refine gate_dst (N := 3) rfl ?_); refine iL ([] : List Int) [] ?_; intro v112 w3 ho4 hb hg_ hnew_; clear hg_ hnew_; (first | rw [← Ny111.out] at ho4 | (simp only [Int.reduceToNat] at ho4; rw [← Ny111.out] at ho4)); have HO113 := oR ho4 HB; replace HB := bS HB hb; clear hb ho4) | ((with_reducible refine gate_builtin (b := .append) (xs := #[.tmp 3, .tmp 4]) rfl ?_); at_builtin; refine Kd.R_append_rows (Kd.int .i64) (w0 := w) w.heap.size rfl (.tmp 3) (.tmp 4) 22 3 (.int .i64 0) 8 rfl Try.underlying22 info3 rfl (by decide) (by omega) v112 y111 l0 _ _ _ (fun _ => True) (fun _ => False) rfl rfl ?aO ?aR (fun _ _ h => h) (fun _ h => h.elim) ?aF ?aB ?aS ?aL ?_; (case aR => exact qC (Kd.C_below HR0.out HB.out)); (case aB => exact (qW HB.out)); (case aF => exact (fun _ _ => trivial)); (case aO => exact (qR HO113.out)); (case aS => exact (below_size (qW HB.out))); (case aL => have := LMc2.out; omega); intro v115 w5 ho hb hg hat; rw [← Ny114.out] at ho; replace HB := aM (hb); have HO116 := aM (ho); clear HO113; clear ho hb hg hat))
 go_ret
 exact ⟨_, qX, by refine qR ?_; exact HO116.out, by exact qW HB.out⟩
def spec_equalInts.l0 : Nat → List Int → List Int → Int → Option (Bool)
 | 0, _, _, _ => none
 | k + 1, x0, x1, x5 => if x5 < (x0.length : Int) then (if 0 ≤ x5 then (if x5 < (x1.length : Int) then (if (rd x0 x5) = (rd x1 x5) then (spec_equalInts.l0 k x0 x1 (wrap64 (x5 + 1))) else (some false)) else (none)) else (none)) else (some true)
def spec_equalInts.f (k : Nat) (l0 : List Int) (l1 : List Int) : Option (Bool) := if (l0.length : Int) = (l1.length : Int) then (spec_equalInts.l0 k l0 l1 0) else (some false)
theorem spec_equalInts.mono_l : ∀ k, (∀ y0 y1 y2, LeO (spec_equalInts.l0 k y0 y1 y2) (spec_equalInts.l0 (k + 1) y0 y1 y2))
 | 0 => fun _ _ _ r h => by simp [spec_equalInts.l0] at h
 | k + 1 => by
  have ih0 := spec_equalInts.mono_l k
  ·intro y0 y1 y2
   unfold spec_equalInts.l0
   repeat' first | (with_reducible first | exact ih0 _ _ _ | exact lR | exact lN | refine lI ?_ ?_ | refine lB ?_ fun _ => ?_) | exact ih0 _ _ _ | exact lN | refine lI ?_ ?_ | refine lB ?_ fun _ => ?_
theorem spec_equalInts.mono : ∀ a0 a1 k, LeO (spec_equalInts.f k a0 a1) (spec_equalInts.f (k + 1) a0 a1) := by
 intro a0 a1 k
 have ih0 := spec_equalInts.mono_l k
 unfold spec_equalInts.f
 repeat' first | (with_reducible first | exact ih0 _ _ _ | exact lR | exact lN | refine lI ?_ ?_ | refine lB ?_ fun _ => ?_) | exact ih0 _ _ _ | exact lN | refine lI ?_ ?_ | refine lB ?_ fun _ => ?_
set_option maxHeartbeats 8000000 in
set_option maxRecDepth 100000 in
theorem spec_equalInts.calls (k : Nat) (A0 : Option Addr) (c0 : Nat) (l0 : List Int) (A1 : Option Addr) (c1 : Nat) (l1 : List Int) (r : Bool) (w : World) (hr0 : Kd.C (Kd.int .i64) w A0 l0.length l0) (hc0 : l0.length ≤ c0) (hr1 : Kd.C (Kd.int .i64) w A1 l1.length l1) (hc1 : l1.length ≤ c1) (h : spec_equalInts.f k l0 l1 = some r) :
  Calls Try.prog 90 #[.slice A0 l0.length c0, .slice A1 l1.length c1] w fun e w' => e = .returned (.bool r) ∧ Drawn0 w w' := by
 have HR0 := aM hr0
 have HC0 := aM hc0
 clear hr0 hc0
 have HR1 := aM hr1
 have HC1 := aM hc1
 clear hr1 hc1
 unfold spec_equalInts.f at h
 have H := h
 clear h
 by_cases c3 : (l0.length : Int) = (l1.length : Int)
 rotate_left
 ·rw [if_neg c3] at H
  have c3b0 : ((l0.length : Int) == (l1.length : Int)) = false := beq_eq_false_iff_ne.mpr c3
  have c3b1 : ((l0.length : Int) != (l1.length : Int)) = true := bne_iff_ne.mpr c3
  have c3b2 : (l0.length == l1.length) = false := by first | simpa using c3 | (simp at c3 ⊢; omega)
  obtain rfl := Option.some.inj H
  go_enter Try.func90, Try.ntmps90
  go_wp2
  repeat (go_quiet (fail); try go_wp2)
  go_ret
  exact ⟨qE, qD⟩
 rw [if_pos c3] at H
 have c3b0 : ((l0.length : Int) == (l1.length : Int)) = true := beq_iff_eq.mpr c3
 have c3b1 : ((l0.length : Int) != (l1.length : Int)) = false := bne_eq_false_iff_eq.mpr c3
 have c3b2 : (l0.length == l1.length) = true := by first | simpa using c3 | (simp at c3 ⊢; omega)
 clear c3
 have H' := aM H
 clear H
 go_enter Try.func90, Try.ntmps90
 go_wp2
 repeat (go_quiet (fail); try go_wp2)
 go_loopg [5] k (fun kq v5 w' => ∃ (x5_1 : Int), v5 = .int .i64 x5_1 ∧ Aside0 (spec_equalInts.l0 kq l0 l1 x5_1 = some r) ∧ Aside0 (kq ≤ k) ∧ Drawn0 w w')
 case atStart => exact ⟨(0), qE, H', ⟨Nat.le_refl _⟩, qD⟩
 case round =>
  clear H'
  try clear c1
  try clear c3
  try clear c3b0
  try clear c3b1
  try clear c3b2
  obtain ⟨x5_1, rfl, HA, HK1, ⟨m1, rfl⟩⟩ := hrel
  cases gk with
  | zero => exact absurd HA.out (by simp [spec_equalInts.l0])
  | succ k1 =>
   have H := HA.out
   clear HA
   simp only [spec_equalInts.l0] at H
   by_cases c4 : x5_1 < (l0.length : Int)
   rotate_left
   ·rw [if_neg c4] at H
    have c4b0 : decide (x5_1 < (l0.length : Int)) = false := decide_eq_false c4
    clear c4
    obtain rfl := Option.some.inj H
    go_wp2
    repeat (go_quiet (fail); try go_wp2)
    go_ret
    exact ⟨qE, qD⟩
   rw [if_pos c4] at H
   have c4b0 : decide (x5_1 < (l0.length : Int)) = true := decide_eq_true c4
   clear c4
   replace H := iD H
   obtain ⟨c5b0, H⟩ := H
   replace H := iD H
   obtain ⟨c6b0, H⟩ := H
   by_cases c7 : (rd l0 x5_1) = (rd l1 x5_1)
   rotate_left
   ·rw [if_neg c7] at H
    have c7b0 : ((rd l0 x5_1) == (rd l1 x5_1)) = false := beq_eq_false_iff_ne.mpr c7
    have c7b1 : ((rd l0 x5_1) != (rd l1 x5_1)) = true := bne_iff_ne.mpr c7
    obtain rfl := Option.some.inj H
    obtain ⟨ad117, e117, hx117_0⟩ := Kd.at_int HR0.out x5_1 oD oD
    cases e117
    have p117 := eq_true (oD : 0 ≤ (x5_1 : Int))
    have q117 := eq_true (oD : x5_1 < (l0.length : Int))
    obtain ⟨ad118, e118, hx118_0⟩ := Kd.at_int HR1.out x5_1 oD oD
    cases e118
    have p118 := eq_true (oD : 0 ≤ (x5_1 : Int))
    have q118 := eq_true (oD : x5_1 < (l1.length : Int))
    go_wp2
    repeat (go_quiet (fail); try go_wp2)
    go_ret
    exact ⟨qE, qD⟩
   rw [if_pos c7] at H
   have c7b0 : ((rd l0 x5_1) == (rd l1 x5_1)) = true := beq_iff_eq.mpr c7
   have c7b1 : ((rd l0 x5_1) != (rd l1 x5_1)) = false := bne_eq_false_iff_eq.mpr c7
   clear c7
   have H' := aM H
   clear H
   obtain ⟨ad117, e117, hx117_0⟩ := Kd.at_int HR0.out x5_1 oD oD
   cases e117
   have p117 := eq_true (oD : 0 ≤ (x5_1 : Int))
   have q117 := eq_true (oD : x5_1 < (l0.length : Int))
   obtain ⟨ad118, e118, hx118_0⟩ := Kd.at_int HR1.out x5_1 oD oD
   cases e118
   have p118 := eq_true (oD : 0 ≤ (x5_1 : Int))
   have q118 := eq_true (oD : x5_1 < (l1.length : Int))
   go_wp2
   repeat (go_quiet (fail); try go_wp2)
   go_roundg k1
   case measure => have := HK1.out; omega
   case rel => exact ⟨(wrap64 (x5_1 + 1)), qE, H', ⟨by have := HK1.out; omega⟩, qD⟩
def spec_colorAt.l0 : Nat → List (List Int) → List Int → Int → Option (Int)
 | 0, _, _, _ => none
 | k + 1, x0, x1, x5 => if x5 < (x0.length : Int) then (if 0 ≤ x5 then ((spec_equalInts.f k (rd_L1 x0 x5) x1).bind fun t120 => (if t120 = true then (some x5) else (spec_colorAt.l0 k x0 x1 (wrap64 (x5 + 1))))) else (none)) else (some (-1))
def spec_colorAt.f (k : Nat) (l0 : List (List Int)) (l1 : List Int) : Option (Int) := spec_colorAt.l0 k l0 l1 0
theorem spec_colorAt.mono_l : ∀ k, (∀ y0 y1 y2, LeO (spec_colorAt.l0 k y0 y1 y2) (spec_colorAt.l0 (k + 1) y0 y1 y2))
 | 0 => fun _ _ _ r h => by simp [spec_colorAt.l0] at h
 | k + 1 => by
  have ih0 := spec_colorAt.mono_l k
  ·intro y0 y1 y2
   unfold spec_colorAt.l0
   repeat' first | (with_reducible first | exact ih0 _ _ _ | exact spec_equalInts.mono _ _ _ | exact lR | exact lN | refine lI ?_ ?_ | refine lB ?_ fun _ => ?_) | exact ih0 _ _ _ | exact spec_equalInts.mono _ _ _ | exact lN | refine lI ?_ ?_ | refine lB ?_ fun _ => ?_
theorem spec_colorAt.mono : ∀ a0 a1 k, LeO (spec_colorAt.f k a0 a1) (spec_colorAt.f (k + 1) a0 a1) := by
 intro a0 a1 k
 have ih0 := spec_colorAt.mono_l k
 unfold spec_colorAt.f
 repeat' first | (with_reducible first | exact ih0 _ _ _ | exact spec_equalInts.mono _ _ _ | exact lR | exact lN | refine lI ?_ ?_ | refine lB ?_ fun _ => ?_) | exact ih0 _ _ _ | exact spec_equalInts.mono _ _ _ | exact lN | refine lI ?_ ?_ | refine lB ?_ fun _ => ?_
set_option maxHeartbeats 8000000 in
set_option maxRecDepth 100000 in
theorem spec_colorAt.calls (k : Nat) (A0 : Option Addr) (c0 : Nat) (l0 : List (List Int)) (A1 : Option Addr) (c1 : Nat) (l1 : List Int) (r : Int) (w : World) (hr0 : Kd.C (Kd.slice 3 (Kd.int .i64)) w A0 l0.length l0) (hc0 : l0.length ≤ c0) (hr1 : Kd.C (Kd.int .i64) w A1 l1.length l1) (hc1 : l1.length ≤ c1) (h : spec_colorAt.f k l0 l1 = some r) :
  Calls Try.prog 77 #[.slice A0 l0.length c0, .slice A1 l1.length c1] w fun e w' => e = .returned (.int .i64 r) ∧ Drawn0 w w' := by
 have HR0 := aM hr0
 have HC0 := aM hc0
 clear hr0 hc0
 have HR1 := aM hr1
 have HC1 := aM hc1
 clear hr1 hc1
 unfold spec_colorAt.f at h
 have H := h
 clear h
 have H' := aM H
 clear H
 go_enter Try.func77, Try.ntmps77
 go_wp2
 go_loopg [5] k (fun kq v5 w' => ∃ (x5_1 : Int), v5 = .int .i64 x5_1 ∧ Aside0 (spec_colorAt.l0 kq l0 l1 x5_1 = some r) ∧ Aside0 (kq ≤ k) ∧ Drawn0 w w')
 case atStart => exact ⟨(0), qE, H', ⟨Nat.le_refl _⟩, qD⟩
 case round =>
  clear H'
  try clear c1
  obtain ⟨x5_1, rfl, HA, HK1, ⟨m1, rfl⟩⟩ := hrel
  cases gk with
  | zero => exact absurd HA.out (by simp [spec_colorAt.l0])
  | succ k1 =>
   have H := HA.out
   clear HA
   simp only [spec_colorAt.l0] at H
   by_cases c3 : x5_1 < (l0.length : Int)
   rotate_left
   ·rw [if_neg c3] at H
    have c3b0 : decide (x5_1 < (l0.length : Int)) = false := decide_eq_false c3
    clear c3
    obtain rfl := Option.some.inj H
    go_wp2
    go_ret
    exact ⟨qE, qD⟩
   rw [if_pos c3] at H
   have c3b0 : decide (x5_1 < (l0.length : Int)) = true := decide_eq_true c3
   clear c3
   replace H := iD H
   obtain ⟨c4b0, H⟩ := H
   replace H := Option.bind_eq_some_iff.mp H
   obtain ⟨t120, A50, H⟩ := H
   replace H : (if t120 = true then (some x5_1) else (spec_colorAt.l0 k1 l0 l1 (wrap64 (x5_1 + 1)))) = some r := H
   have A5 := aM A50
   clear A50
   by_cases c6 : t120 = true
   ·subst c6
    have H1 : (some x5_1) = some r := by rw [if_pos rfl] at H; exact H
    clear H
    have H := H1
    clear H1
    obtain rfl := Option.some.inj H
    have p119 : 0 ≤ (x5_1 : Int) := oD
    have q119 : x5_1 < (l0.length : Int) := oD
    obtain ⟨ad119, A119_0, c119_0, e119, hx119_0, hl119_0, hi119_0⟩ := at_L1 HR0.out x5_1 p119 q119
    cases e119
    have HR119_0 := aM hi119_0
    have HC119_0 := aM hl119_0
    clear hi119_0 hl119_0
    replace p119 := eq_true p119
    replace q119 := eq_true q119
    go_wp2_with (first | ((with_reducible refine gate_callee (f := 90) rfl ?_); refine gL (some 17) Try.func90 #[.slice A119_0 (rd_L1 l0 x5_1).length c119_0, .slice A1 l1.length c1] ?_; (with_reducible refine (spec_equalInts.calls k1 _ _ (rd_L1 l0 x5_1) _ _ l1 true _ ?side1 ?side2 ?side3 ?side4 A5.out).mono ?_); (case side1 => exact qC HR119_0.out); (case side2 => exact HC119_0.out); (case side3 => exact qC HR1.out); (case side4 => exact HC1.out); rintro e w' ⟨rfl, ⟨nd, rfl⟩⟩; refine ⟨_, rfl, ?_⟩))
    go_ret
    exact ⟨qE, qD⟩
   replace c6 := Bool.eq_false_iff.mpr c6
   subst c6
   have H1 : (spec_colorAt.l0 k1 l0 l1 (wrap64 (x5_1 + 1))) = some r := by rw [if_neg (show ¬ (false = true) by decide)] at H; exact H
   clear H
   have H := H1
   clear H1
   have H' := aM H
   clear H
   have p119 : 0 ≤ (x5_1 : Int) := oD
   have q119 : x5_1 < (l0.length : Int) := oD
   obtain ⟨ad119, A119_0, c119_0, e119, hx119_0, hl119_0, hi119_0⟩ := at_L1 HR0.out x5_1 p119 q119
   cases e119
   have HR119_0 := aM hi119_0
   have HC119_0 := aM hl119_0
   clear hi119_0 hl119_0
   replace p119 := eq_true p119
   replace q119 := eq_true q119
   go_wp2_with (first | ((with_reducible refine gate_callee (f := 90) rfl ?_); refine gL (some 17) Try.func90 #[.slice A119_0 (rd_L1 l0 x5_1).length c119_0, .slice A1 l1.length c1] ?_; (with_reducible refine (spec_equalInts.calls k1 _ _ (rd_L1 l0 x5_1) _ _ l1 false _ ?side1 ?side2 ?side3 ?side4 A5.out).mono ?_); (case side1 => exact qC HR119_0.out); (case side2 => exact HC119_0.out); (case side3 => exact qC HR1.out); (case side4 => exact HC1.out); rintro e w' ⟨rfl, ⟨nd, rfl⟩⟩; refine ⟨_, rfl, ?_⟩))
   go_roundg k1
   case measure => have := HK1.out; omega
   case rel => exact ⟨(wrap64 (x5_1 + 1)), qE, H', ⟨by have := HK1.out; omega⟩, qD⟩
def spec_allColors.l0 : Nat → List (List Int) → Int → Int → Int → Int → List Int → Option ((List (List Int)))
 | 0, _, _, _, _, _, _ => none
 | k + 1, x3, x4, x122000, x122001, x122002, x122003 => if x4 < (x122003.length : Int) then (if 0 ≤ x4 then (if x4 ≤ (wrap64 (x4 + x122002)) then (if (wrap64 (x4 + x122002)) ≤ (x122003.length : Int) then ((spec_copyInts.f ((x122003.take ((wrap64 (x4 + x122002)) : Int).toNat).drop (x4 : Int).toNat)).bind fun t126 => ((spec_colorAt.f k x3 t126).bind fun t129 => (if t129 < 0 then (if x3.length < 5864062014805 then (spec_allColors.l0 k (x3 ++ [t126]) (wrap64 (x4 + x122002)) x122000 x122001 x122002 x122003) else (none)) else (spec_allColors.l0 k x3 (wrap64 (x4 + x122002)) x122000 x122001 x122002 x122003)))) else (none)) else (none)) else (none)) else (some x3)
def spec_allColors.f (k : Nat) (a0_0 : Int) (a0_1 : Int) (a0_2 : Int) (l0_3 : List Int) : Option ((List (List Int))) := spec_allColors.l0 k (([] : List (List Int))) 0 a0_0 a0_1 a0_2 l0_3
theorem spec_allColors.mono_l : ∀ k, (∀ y0 y1 y2 y3 y4 y5, LeO (spec_allColors.l0 k y0 y1 y2 y3 y4 y5) (spec_allColors.l0 (k + 1) y0 y1 y2 y3 y4 y5))
 | 0 => fun _ _ _ _ _ _ r h => by simp [spec_allColors.l0] at h
 | k + 1 => by
  have ih0 := spec_allColors.mono_l k
  ·intro y0 y1 y2 y3 y4 y5
   unfold spec_allColors.l0
   repeat' first | (with_reducible first | exact ih0 _ _ _ _ _ _ | exact spec_colorAt.mono _ _ _ | exact lR | exact lN | refine lI ?_ ?_ | refine lB ?_ fun _ => ?_) | exact ih0 _ _ _ _ _ _ | exact spec_colorAt.mono _ _ _ | exact lN | refine lI ?_ ?_ | refine lB ?_ fun _ => ?_
theorem spec_allColors.mono : ∀ a0 a1 a2 a3 k, LeO (spec_allColors.f k a0 a1 a2 a3) (spec_allColors.f (k + 1) a0 a1 a2 a3) := by
 intro a0 a1 a2 a3 k
 have ih0 := spec_allColors.mono_l k
 unfold spec_allColors.f
 repeat' first | (with_reducible first | exact ih0 _ _ _ _ _ _ | exact spec_colorAt.mono _ _ _ | exact lR | exact lN | refine lI ?_ ?_ | refine lB ?_ fun _ => ?_) | exact ih0 _ _ _ _ _ _ | exact spec_colorAt.mono _ _ _ | exact lN | refine lI ?_ ?_ | refine lB ?_ fun _ => ?_
set_option maxHeartbeats 8000000 in
set_option maxRecDepth 100000 in
theorem spec_allColors.calls (k : Nat) (a0_0 : Int) (a0_1 : Int) (a0_2 : Int) (A0_3 : Option Addr) (c0_3 : Nat) (l0_3 : List Int) (r : List (List Int)) (w : World) (hr0_3 : Kd.C (Kd.int .i64) w A0_3 l0_3.length l0_3) (hc0_3 : l0_3.length ≤ c0_3) (h : spec_allColors.f k a0_0 a0_1 a0_2 l0_3 = some r) :
  Calls Try.prog 41 #[.agg #[.int .i64 a0_0, .int .i64 a0_1, .int .i64 a0_2, .slice A0_3 l0_3.length c0_3]] w fun e w' => ∃ v0_ : Value, e = .returned (v0_) ∧ Kd.S (Kd.slice 3 (Kd.int .i64)) 22 w' w.heap.size (fun _ => True) v0_ r ∧ Below w.heap.size w w' := by
 have hu29 := Try.underlying29
 have HR0_3 := aM hr0_3
 have HC0_3 := aM hc0_3
 clear hr0_3 hc0_3
 have HB := aM (Below.refl w.heap.size w)
 unfold spec_allColors.f at h
 have H := h
 clear h
 obtain ⟨y122, hy122⟩ : ∃ y_ : List (List Int), y_ = (([] : List (List Int))) := ⟨_, rfl⟩
 replace H : (spec_allColors.l0 k y122 0 a0_0 a0_1 a0_2 l0_3) = some r := rY hy122 H
 have Ny122 := aM hy122
 clear hy122
 have H' := aM H
 clear H
 go_enter Try.func41, Try.ntmps41
 go_wp2_with (first | ((with_reducible refine gate_dst (N := 1) rfl ?_); refine bxE (N := 1) (cs := #[.int .i64 a0_0, .int .i64 a0_1, .int .i64 a0_2, .slice A0_3 l0_3.length c0_3]) (t := 29) ?_; intro gb121 hg w2 hbox hb; have BK121 := aM (hbox); have GW121 := gW hg HB; have GE121 := gW hg HB; replace HB := bS HB hb; clear hb hbox hg) | ((with_reducible refine gate_dst (N := 6) rfl ?_); refine Kd.S_lit (Kd.slice 3 (Kd.int .i64)) _ 22 ?hg (N := 6) ?hd (xs := ([] : List (List Int))) (inner := []) (ok := fun _ => True) (okp := fun _ => True) ?hr ?hp (fun _ hk => hk) trivial (Below.refl _ _) (Nat.le_refl _) (by simp) ?_; (case hd => rfl); (case hg => rfl); (case hr => first | (go_simp; done) | (go_simp; rfl)); (case hp => exact (Reps.none _ _)); intro v123 w3 ho4 hb hg_ hnew_; clear hg_ hnew_; (first | rw [← Ny122.out] at ho4 | (simp only [Int.reduceToNat] at ho4; rw [← Ny122.out] at ho4)); have HO124 := aM (Kd.S_lower ho4 (below_size (qW HB.out))); replace BK121 := bB BK121 hb; replace HB := bS HB hb; clear hb ho4))
 go_loopg [3, 4] k (fun kq v3 v4 w' => ∃ (x3_1 : List (List Int)) (x4_1 : Int), v4 = .int .i64 x4_1 ∧ Aside0 (spec_allColors.l0 kq x3_1 x4_1 a0_0 a0_1 a0_2 l0_3 = some r) ∧ Aside0 (kq ≤ k) ∧ Aside0 (Kd.S (Kd.slice 3 (Kd.int .i64)) 22 w' w.heap.size (fun _ => True) v3 x3_1) ∧ Aside0 (w'.heap[gb121]? = some (.cells #[.int .i64 a0_0, .int .i64 a0_1, .int .i64 a0_2, (.slice A0_3 l0_3.length c0_3)] 29 (0, 0))) ∧ Aside0 (Below w.heap.size w w'))
 case atStart => exact ⟨(y122), (0), qE, H', ⟨Nat.le_refl _⟩, ⟨by (with_reducible repeat (first | apply Kd.S_alloc | apply Kd.S_drewN | apply Kd.S_drew)); exact HO124.out⟩, ⟨by refine qB ?_; exact BK121.out⟩, ⟨by exact qW HB.out⟩⟩
 case round =>
  clear H'
  obtain ⟨x3_1, x4_1, rfl, HA, HK1, HO_3, BK121, HB⟩ := hrel
  cases gk with
  | zero => exact absurd HA.out (by simp [spec_allColors.l0])
  | succ k1 =>
   have H := HA.out
   clear HA
   simp only [spec_allColors.l0] at H
   by_cases c5 : x4_1 < (l0_3.length : Int)
   rotate_left
   ·rw [if_neg c5] at H
    have c5b0 : decide (x4_1 < (l0_3.length : Int)) = false := decide_eq_false c5
    clear c5
    obtain rfl := Option.some.inj H
    obtain ⟨⟨hcz26_0, hcz26_1, hcz26_2, hcz26_3⟩, hfz26_0, hfz26_1, hfz26_2, hfz26_3⟩ := cf4 BK121
    go_wp2
    go_ret
    exact ⟨_, qX, by (with_reducible repeat (first | apply Kd.S_alloc | apply Kd.S_drewN | apply Kd.S_drew)); exact HO_3.out, by exact qW HB.out⟩
   rw [if_pos c5] at H
   have c5b0 : decide (x4_1 < (l0_3.length : Int)) = true := decide_eq_true c5
   clear c5
   replace H := iS H
   obtain ⟨c6, H⟩ := H
   have c6b0 := eq_true c6
   have c6b1 : decide (0 ≤ x4_1) = true := decide_eq_true c6
   clear c6
   replace H := iS H
   obtain ⟨c7, H⟩ := H
   have c7b0 := eq_true c7
   have c7b1 : decide (x4_1 ≤ (wrap64 (x4_1 + a0_2))) = true := decide_eq_true c7
   replace H := iS H
   obtain ⟨c8, H⟩ := H
   have c8b0 := eq_true c8
   have c8b1 : decide ((wrap64 (x4_1 + a0_2)) ≤ (l0_3.length : Int)) = true := decide_eq_true c8
   replace H := Option.bind_eq_some_iff.mp H
   obtain ⟨t126, A90, H⟩ := H
   replace H : ((spec_colorAt.f k1 x3_1 t126).bind fun t129 => (if t129 < 0 then (if x3_1.length < 5864062014805 then (spec_allColors.l0 k1 (x3_1 ++ [t126]) (wrap64 (x4_1 + a0_2)) a0_0 a0_1 a0_2 l0_3) else (none)) else (spec_allColors.l0 k1 x3_1 (wrap64 (x4_1 + a0_2)) a0_0 a0_1 a0_2 l0_3))) = some r := H
   have A9 := aM A90
   clear A90
   replace H := Option.bind_eq_some_iff.mp H
   obtain ⟨t129, A100, H⟩ := H
   replace H : (if t129 < 0 then (if x3_1.length < 5864062014805 then (spec_allColors.l0 k1 (x3_1 ++ [t126]) (wrap64 (x4_1 + a0_2)) a0_0 a0_1 a0_2 l0_3) else (none)) else (spec_allColors.l0 k1 x3_1 (wrap64 (x4_1 + a0_2)) a0_0 a0_1 a0_2 l0_3)) = some r := H
   have A10 := aM A100
   clear A100
   by_cases c11 : t129 < 0
   rotate_left
   ·rw [if_neg c11] at H
    have c11b0 : decide (t129 < 0) = false := decide_eq_false c11
    clear c11
    have H' := aM H
    clear H
    obtain ⟨⟨hcz20_0, hcz20_1, hcz20_2, hcz20_3⟩, hfz20_0, hfz20_1, hfz20_2, hfz20_3⟩ := cf4 BK121
    obtain ⟨i021, hi021, _, hsz21, _⟩ := info_parts info3
    obtain ⟨A21, hcut21, hA21, hC21⟩ := print_mid_of (P := Try.prog) (Value.int .i64) 0 22 3 .i64 .i64 Try.underlying22 hi021 hsz21 A0_3 c0_3 l0_3 x4_1 (wrap64 (x4_1 + a0_2)) oD (by first | omega | exact oD) oD HC0_3.out
    have HR125 := aM (Kd.C_of_reads (h1 := fun _ => rfl) (hA21 _ (Kd.reads_of_C HR0_3.out)))
    have HC125 := aM hC21
    clear hA21 hC21 hi021 hsz21
    go_wp2_with (first | ((with_reducible refine gate_callee (f := 76) rfl ?_); refine goesL_ (some 24) rfl rfl Try.func76 (by kernel_rfl) rfl #[.slice A21 ((l0_3.take ((wrap64 (x4_1 + a0_2)) : Int).toNat).drop (x4_1 : Int).toNat).length (c0_3 - x4_1.toNat)] rfl (by (try simp only [List.map_toArray, List.map_cons, List.map_nil]); first | done | (rw [show ((l0_3.take ((wrap64 (x4_1 + a0_2)) : Int).toNat).drop (x4_1 : Int).toNat).length = ((wrap64 (x4_1 + a0_2)).toNat - x4_1.toNat) from (by rw [List.length_drop, List.length_take]; have h_ : ((wrap64 (x4_1 + a0_2)) : Int) ≤ (l0_3.length : Int) := oD; omega)] <;> rfl) | rfl | (simp only [List.length_drop, List.length_take]; rfl)) ?_; (with_reducible refine (spec_copyInts.calls _ _ ((l0_3.take ((wrap64 (x4_1 + a0_2)) : Int).toNat).drop (x4_1 : Int).toNat) t126 _ ?side1 ?side2 A9.out).mono ?_); (case side1 => exact qC (Kd.C_below HR125.out HB.out)); (case side2 => exact HC125.out); rintro e w22 ⟨v127, rfl, ho0, hb⟩; refine ⟨_, rfl, ?_⟩; replace HO_3 := aM (Kd.S_elder' (by (with_reducible repeat (first | apply Kd.S_alloc | apply Kd.S_drewN | apply Kd.S_drew)); exact HO_3.out) (Kd.R_base ho0) hb); have HO128 := oR ho0 HB; replace BK121 := bB BK121 hb; replace HB := bS HB hb; clear hb ho0; obtain ⟨Ao23, co23, eo23⟩ := Kd.S_slice HO_3.out; subst eo23; obtain ⟨Ao24, co24, rfl⟩ := sL HO128) | ((with_reducible refine gate_callee (f := 77) rfl ?_); refine gL (some 27) Try.func77 #[.slice Ao23 x3_1.length co23, .slice Ao24 t126.length co24] ?_; (with_reducible refine (spec_colorAt.calls k1 _ _ x3_1 _ _ t126 t129 _ ?side1 ?side2 ?side3 ?side4 A10.out).mono ?_); (case side1 => exact qC (Kd.S_reads' HO_3.out).2.2); (case side2 => exact (Kd.S_reads' HO_3.out).2.1); (case side3 => exact qC (Kd.R_reads' HO128.out).2.2); (case side4 => exact (Kd.R_reads' HO128.out).2.1); rintro e w' ⟨rfl, ⟨nd, rfl⟩⟩; refine ⟨_, rfl, ?_⟩; obtain ⟨⟨hcz25_0, hcz25_1, hcz25_2, hcz25_3⟩, hfz25_0, hfz25_1, hfz25_2, hfz25_3⟩ := cf4 BK121))
    go_roundg k1
    case measure => have := HK1.out; omega
    case rel => exact ⟨(x3_1), (wrap64 (x4_1 + a0_2)), qE, H', ⟨by have := HK1.out; omega⟩, ⟨by (with_reducible repeat (first | apply Kd.S_alloc | apply Kd.S_drewN | apply Kd.S_drew)); exact Kd.S_mono HO_3.out (fun _ hk => trivial)⟩, ⟨by refine qB ?_; exact BK121.out⟩, ⟨by exact qW HB.out⟩⟩
   rw [if_pos c11] at H
   have c11b0 : decide (t129 < 0) = true := decide_eq_true c11
   clear c11
   replace H := iS H
   obtain ⟨c12, H⟩ := H
   have LMc12 := aM c12
   clear c12
   obtain ⟨y130, hy130⟩ : ∃ y_ : List (List Int), y_ = (x3_1 ++ [t126]) := ⟨_, rfl⟩
   replace H : (spec_allColors.l0 k1 y130 (wrap64 (x4_1 + a0_2)) a0_0 a0_1 a0_2 l0_3) = some r := rY hy130 H
   have Ny130 := aM hy130
   clear hy130
   have H' := aM H
   clear H
   obtain ⟨⟨hcz13_0, hcz13_1, hcz13_2, hcz13_3⟩, hfz13_0, hfz13_1, hfz13_2, hfz13_3⟩ := cf4 BK121
   obtain ⟨i014, hi014, _, hsz14, _⟩ := info_parts info3
   obtain ⟨A14, hcut14, hA14, hC14⟩ := print_mid_of (P := Try.prog) (Value.int .i64) 0 22 3 .i64 .i64 Try.underlying22 hi014 hsz14 A0_3 c0_3 l0_3 x4_1 (wrap64 (x4_1 + a0_2)) oD (by first | omega | exact oD) oD HC0_3.out
   have HR125 := aM (Kd.C_of_reads (h1 := fun _ => rfl) (hA14 _ (Kd.reads_of_C HR0_3.out)))
   have HC125 := aM hC14
   clear hA14 hC14 hi014 hsz14
   go_wp2_with (first | ((with_reducible refine gate_callee (f := 76) rfl ?_); refine goesL_ (some 24) rfl rfl Try.func76 (by kernel_rfl) rfl #[.slice A14 ((l0_3.take ((wrap64 (x4_1 + a0_2)) : Int).toNat).drop (x4_1 : Int).toNat).length (c0_3 - x4_1.toNat)] rfl (by (try simp only [List.map_toArray, List.map_cons, List.map_nil]); first | done | (rw [show ((l0_3.take ((wrap64 (x4_1 + a0_2)) : Int).toNat).drop (x4_1 : Int).toNat).length = ((wrap64 (x4_1 + a0_2)).toNat - x4_1.toNat) from (by rw [List.length_drop, List.length_take]; have h_ : ((wrap64 (x4_1 + a0_2)) : Int) ≤ (l0_3.length : Int) := oD; omega)] <;> rfl) | rfl | (simp only [List.length_drop, List.length_take]; rfl)) ?_; (with_reducible refine (spec_copyInts.calls _ _ ((l0_3.take ((wrap64 (x4_1 + a0_2)) : Int).toNat).drop (x4_1 : Int).toNat) t126 _ ?side1 ?side2 A9.out).mono ?_); (case side1 => exact qC (Kd.C_below HR125.out HB.out)); (case side2 => exact HC125.out); rintro e w15 ⟨v127, rfl, ho0, hb⟩; refine ⟨_, rfl, ?_⟩; replace HO_3 := aM (Kd.S_elder' (by (with_reducible repeat (first | apply Kd.S_alloc | apply Kd.S_drewN | apply Kd.S_drew)); exact HO_3.out) (Kd.R_base ho0) hb); have HO128 := oR ho0 HB; replace BK121 := bB BK121 hb; replace HB := bS HB hb; clear hb ho0; obtain ⟨Ao16, co16, eo16⟩ := Kd.S_slice HO_3.out; subst eo16; obtain ⟨Ao17, co17, rfl⟩ := sL HO128) | ((with_reducible refine gate_callee (f := 77) rfl ?_); refine gL (some 27) Try.func77 #[.slice Ao16 x3_1.length co16, .slice Ao17 t126.length co17] ?_; (with_reducible refine (spec_colorAt.calls k1 _ _ x3_1 _ _ t126 t129 _ ?side1 ?side2 ?side3 ?side4 A10.out).mono ?_); (case side1 => exact qC (Kd.S_reads' HO_3.out).2.2); (case side2 => exact (Kd.S_reads' HO_3.out).2.1); (case side3 => exact qC (Kd.R_reads' HO128.out).2.2); (case side4 => exact (Kd.R_reads' HO128.out).2.1); rintro e w' ⟨rfl, ⟨nd, rfl⟩⟩; refine ⟨_, rfl, ?_⟩) | ((with_reducible refine gate_builtin (b := .append) (xs := #[.tmp 29, .tmp 31]) rfl ?_); at_builtin; refine Kd.S_append (Kd.slice 3 (Kd.int .i64)) (w0 := w) w.heap.size rfl (.tmp 29) (.tmp 31) 26 22 (.slice none 0 0) 24 rfl Try.underlying26 info22 rfl (by decide) (by omega) (.slice Ao16 x3_1.length co16) x3_1 t126 [.slice Ao17 t126.length co17] (fun _ => True) (fun k_ => some k_ = (.slice Ao17 t126.length co17 : Value).ownBlock) rfl rfl ?aP (fun k_ hk_ => ((Kd.R_mono (ok' := fun k_ => ((fun _ => True)) k_ ∧ some k_ ≠ (.slice Ao16 x3_1.length co16 : Value).ownBlock) (Kd.R_apart' (HO128.out) (Kd.S_typed HO_3.out) (by decide)) (fun k_ hk => ⟨trivial, hk.2⟩))).1 k_ hk_.symm) ?aF ?aO ?aB ?aS ?aL ?_; (case aP => exact Kd.M_row (Kd.R_mono (Kd.R_tight rfl (Kd.R_mono (ok' := fun k_ => ((fun _ => True)) k_ ∧ some k_ ≠ (.slice Ao16 x3_1.length co16 : Value).ownBlock) (Kd.R_apart' (HO128.out) (Kd.S_typed HO_3.out) (by decide)) (fun k_ hk => ⟨trivial, hk.2⟩))) (fun _ h_ => h_))); (case aB => exact (qW HB.out)); (case aF => exact (fun _ _ => trivial)); (case aO => exact (by (with_reducible repeat (first | apply Kd.S_alloc | apply Kd.S_drewN | apply Kd.S_drew)); exact Kd.S_mono HO_3.out (fun k_ hk => ⟨trivial, fun e_ => hk.2 e_⟩))); (case aS => exact (below_size (qW HB.out))); (case aL => have := LMc12.out; omega); intro v131 w18 ho hb hg hat; rw [← Ny130.out] at ho; replace BK121 := aM (blk_grown (g := gb121) (o := .cells #[.int .i64 a0_0, .int .i64 a0_1, .int .i64 a0_2, .slice A0_3 l0_3.length c0_3] 29 (0, 0)) (qB BK121.out) hg (Kd.S_ne HO_3.out BK121.out (by decide))); replace HB := aM (hb); have HO132 := aM (ho); clear HO_3 HO128; clear ho hb hg hat; obtain ⟨⟨hcz19_0, hcz19_1, hcz19_2, hcz19_3⟩, hfz19_0, hfz19_1, hfz19_2, hfz19_3⟩ := cf4 BK121))
   go_roundg k1
   case measure => have := HK1.out; omega
   case rel => exact ⟨(y130), (wrap64 (x4_1 + a0_2)), qE, H', ⟨by have := HK1.out; omega⟩, ⟨by (with_reducible repeat (first | apply Kd.S_alloc | apply Kd.S_drewN | apply Kd.S_drew)); exact HO132.out⟩, ⟨by refine qB ?_; exact BK121.out⟩, ⟨by exact qW HB.out⟩⟩
end Go.Proofs.Ytohbpilokmppbaa.P
