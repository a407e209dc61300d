/- Pure lemmas: what the printed functions answer, for every input; no Go, no memory, no condition but those that each lemma names. -/
import Derived.Laws.Strings
import Derived.Test.YtcmkijmjafgkfaaVWords
import Derived.Test.YtcmkijmjafgkfaaK1
import Derived.Test.YtcmkijmjafgkfaaK2
namespace Go.Proofs.Ytcmkijmjafgkfaa.Wp
open Go.RowKit Go.Proofs.YtcmkijmjafgkfaaW.PrintWords
set_option linter.unusedVariables false
def Wp {α : Type} (g : Nat → Option α) (P : α → Prop) : Prop := ∃ r, P r ∧ ∃ K, ∀ k, K ≤ k → g k = some r
theorem Wp.mono {α : Type} {g : Nat → Option α} {P Q : α → Prop} (h : Wp g P) (hi : ∀ a, P a → Q a) : Wp g Q := by
  obtain ⟨r, hp, K, hk⟩ := h
  exact ⟨r, hi r hp, K, hk⟩
theorem Wp.ret {α : Type} {P : α → Prop} {r : α} (h : P r) : Wp (fun _ => some r) P := ⟨r, h, 0, fun _ _ => rfl⟩
theorem Wp.bind {α β : Type} {g : Nat → Option α} {f : Nat → α → Option β} {P : β → Prop} (h : Wp g (fun a => Wp (fun k => f k a) P)) : Wp (fun k => (g k).bind (f k)) P := by
  obtain ⟨a, ⟨r, hp, K, hk⟩, K', hk'⟩ := h
  refine ⟨r, hp, max K K', fun k hkk => ?_⟩
  show (g k).bind (f k) = some r
  rw [hk' k (by omega)]
  exact hk k (by omega)
theorem Wp.call {α β : Type} {g : Nat → Option α} {f : Nat → α → Option β} {Q : α → Prop} {P : β → Prop} (h : Wp g Q) (hf : ∀ a, Q a → Wp (fun k => f k a) P) : Wp (fun k => (g k).bind (f k)) P :=
  Wp.bind (h.mono hf)
theorem Wp.ite {α : Type} {c : Prop} [Decidable c] {g h : Nat → Option α} {P : α → Prop} (h1 : c → Wp g P) (h2 : ¬ c → Wp h P) : Wp (fun k => if c then g k else h k) P := by
  by_cases hc : c
  · simpa only [if_pos hc] using h1 hc
  · simpa only [if_neg hc] using h2 hc
theorem Wp.pos {α : Type} {c : Prop} [Decidable c] {g h : Nat → Option α} {P : α → Prop} (hc : c) (h1 : Wp g P) : Wp (fun k => if c then g k else h k) P := Wp.ite (fun _ => h1) (fun h => absurd hc h)
theorem Wp.neg {α : Type} {c : Prop} [Decidable c] {g h : Nat → Option α} {P : α → Prop} (hc : ¬ c) (h1 : Wp h P) : Wp (fun k => if c then g k else h k) P := Wp.ite (fun h => absurd h hc) (fun _ => h1)
theorem Wp.step {α : Type} {g f : Nat → Option α} {P : α → Prop} (h : ∀ k, g (k + 1) = f k) (hf : Wp f P) : Wp g P := by
  obtain ⟨r, hp, K, hk⟩ := hf
  refine ⟨r, hp, K + 1, fun k hkk => ?_⟩
  obtain ⟨k, rfl⟩ : ∃ m, k = m + 1 := ⟨k - 1, by omega⟩
  rw [h k]
  exact hk k (by omega)
theorem Wp.of {α : Type} {g : Nat → Option α} {P : α → Prop} {r : α} (h : ∀ k, g k = some r) (hp : P r) : Wp g P := ⟨r, hp, 0, fun k _ => h k⟩
theorem Wp.rounds {α : Type} {g : Nat → Option α} {r : α} (h : Wp g (fun a => a = r)) : ∃ k, g k = some r := by
  obtain ⟨r', rfl, K, hk⟩ := h
  exact ⟨K, hk K (Nat.le_refl K)⟩
theorem w64 {x : Int} (h0 : -9223372036854775808 ≤ x) (h1 : x ≤ 9223372036854775807) : wrap64 x = x := by
  unfold wrap64
  omega
end Go.Proofs.Ytcmkijmjafgkfaa.Wp
namespace Go.Proofs.Ytcmkijmjafgkfaa.P
open Go.RowKit Go.Proofs.YtcmkijmjafgkfaaW.PrintWords Go.Proofs.YtcmkijmjafgkfaaW.PrintLast Go.Proofs.YtcmkijmjafgkfaaW.PrintMore Go.Proofs.Ytcmkijmjafgkfaa.Wp
set_option linter.unusedVariables false
theorem rd_mem (l : List Int) (i : Int) (h0 : 0 ≤ i) (h1 : i < (l.length : Int)) : rd l i ∈ l := by
  unfold rd
  rw [List.getD_eq_getElem?_getD, List.getElem?_eq_getElem (by omega)]
  exact List.getElem_mem _
theorem rd_le {l : List Int} {a b : Int} (h : ∀ x ∈ l, a ≤ x ∧ x ≤ b) (i : Int) (h0 : 0 ≤ i) (h1 : i < (l.length : Int)) : a ≤ rd l i ∧ rd l i ≤ b := h _ (rd_mem l i h0 h1)
def Rdr (b : List Int) (p : Int) : Prop := (∀ x ∈ b, 0 ≤ x ∧ x ≤ 255) ∧ b.length ≤ 2000 ∧ 0 ≤ p ∧ p ≤ 1000000
theorem tmod_range (x n : Int) (hx : 0 ≤ x) (hn : 0 < n) : 0 ≤ Int.tmod x n ∧ Int.tmod x n < n := by
  rw [Int.tmod_eq_emod_of_nonneg hx]
  exact ⟨Int.emod_nonneg _ (by omega), Int.emod_lt_of_pos _ hn⟩
theorem bits_xor_nonneg (x y : Int) (hx : 0 ≤ x) (hx2 : x ≤ 1000000000000) (hy : 0 ≤ y) (hy2 : y ≤ 1000000000000) : 0 ≤ Go.bits .xor .i64 x y := by
  obtain ⟨a, rfl⟩ := Int.eq_ofNat_of_zero_le hx
  obtain ⟨b, rfl⟩ := Int.eq_ofNat_of_zero_le hy
  have ha : a < 2 ^ 62 := by omega
  have hb : b < 2 ^ 62 := by omega
  have ha' : a % 2 ^ 64 = a := Nat.mod_eq_of_lt (by omega)
  have hb' : b % 2 ^ 64 = b := Nat.mod_eq_of_lt (by omega)
  have hc : a ^^^ b < 2 ^ 62 := Nat.xor_lt_two_pow ha hb
  have hw : IntKind.i64.wrap ((a ^^^ b : Nat) : Int) = ((a ^^^ b : Nat) : Int) := by
    have h64 : IntKind.i64.wrap ((a ^^^ b : Nat) : Int) = wrap64 ((a ^^^ b : Nat) : Int) := i64_w _
    rw [h64, w64 (by omega) (by omega)]
  have he : Go.bits .xor .i64 (a : Int) (b : Int) = ((a ^^^ b : Nat) : Int) := by
    have hbits : IntKind.i64.bits = 64 := rfl
    simp only [Go.bits, BitVec.ofInt_natCast, BitVec.toNat_xor, BitVec.toNat_ofNat, hbits, ha', hb', hw]
  rw [he]
  exact Int.natCast_nonneg _
theorem w_newReader (l : List Int) (hb : ∀ x ∈ l, (Lit.int .u8 x).wf = true) : Wp (fun _ => spec_newReader.f l) (fun r => Rdr r.1 r.2 ∧ r.2 = 0) := by
  have hb' : ∀ x ∈ l, 0 ≤ x ∧ x ≤ 255 := fun x hx => by
    have h := hb x hx
    simp only [Lit.wf, Bool.and_eq_true, decide_eq_true_eq] at h
    have h0 : IntKind.u8.min = 0 := rfl
    have h1 : IntKind.u8.max = 255 := rfl
    omega
  unfold spec_newReader.f
  refine Wp.ite (fun h => Wp.pos (by omega) (Wp.ret ?_)) (fun h => Wp.ret ?_)
  · exact ⟨⟨fun x hx => hb' x (List.mem_of_mem_take hx), by show (l.take 2000).length ≤ 2000; rw [List.length_take]; omega, Int.le_refl _, by show (0 : Int) ≤ 1000000; omega⟩, rfl⟩
  · exact ⟨⟨hb', by show l.length ≤ 2000; omega, Int.le_refl _, by show (0 : Int) ≤ 1000000; omega⟩, rfl⟩
theorem w_pick (b : List Int) (p n : Int) (h : Rdr b p) (hp : p < 1000000) (hn : n ≤ 1000000000000) :
    Wp (fun k => spec_reader_pick.f k b p n) (fun r => ∃ x, r = (x, p + 1) ∧ 0 ≤ x ∧ (1 ≤ n → x < n) ∧ (n < 1 → x = 0)) := by
  obtain ⟨hb, hl, h0, h1⟩ := h
  unfold spec_reader_pick.f
  rw [w64 (x := p + 1) (by omega) (by omega)]
  refine Wp.ite (fun hn1 => ?_) (fun hn1 => ?_)
  · refine Wp.step (fun k => spec_reader_pick.j0.eq_2 ..) (Wp.pos rfl (Wp.ret ?_))
    exact ⟨0, rfl, by omega, by omega, fun _ => rfl⟩
  · refine Wp.step (fun k => spec_reader_pick.j0.eq_2 ..) ?_
    rw [show p + 1 - 1 = p by omega, w64 (x := p) (by omega) (by omega)]
    refine Wp.ite (fun hz => Wp.ret ?_) (fun hz => ?_)
    · exact ⟨0, rfl, by omega, by omega, by omega⟩
    · have hpos : 0 < (b.length : Int) := by
        have : ¬ (b.length : Int) = 0 := by simpa using hz
        omega
      refine Wp.ite (fun hlt => ?_) (fun hge => ?_)
      · refine Wp.pos h0 (Wp.neg (by omega) (Wp.ret ?_))
        have hr := rd_le hb p h0 hlt
        rw [w64 (x := rd b p) (by omega) (by omega)]
        have := tmod_range (rd b p) n hr.1 (by omega)
        exact ⟨_, rfl, this.1, fun _ => this.2, by omega⟩
      · refine Wp.neg (by omega) ?_
        have t1 := tmod_range p b.length h0 hpos
        refine Wp.pos t1.1 (Wp.pos t1.2 ?_)
        rw [w64 (x := p * 7) (by omega) (by omega), w64 (x := p * 7 + 3) (by omega) (by omega)]
        have t2 := tmod_range (p * 7 + 3) b.length (by omega) hpos
        refine Wp.pos t2.1 (Wp.pos t2.2 (Wp.neg (by omega) (Wp.ret ?_)))
        have r1 := rd_le hb _ t1.1 t1.2
        have r2 := rd_le hb _ t2.1 t2.2
        generalize rd b (Int.tmod p b.length) = u at r1 ⊢
        generalize rd b (Int.tmod (p * 7 + 3) b.length) = v at r2 ⊢
        have hd : 0 ≤ Int.tdiv p b.length ∧ Int.tdiv p b.length ≤ p := by
          rw [Int.tdiv_eq_ediv_of_nonneg h0]
          exact ⟨Int.ediv_nonneg h0 (by omega), Int.ediv_le_self _ h0⟩
        generalize Int.tdiv p b.length = d at hd ⊢
        rw [w64 (x := u) (by omega) (by omega), w64 (x := u * 131) (by omega) (by omega), w64 (x := v) (by omega) (by omega), w64 (x := v * 1117) (by omega) (by omega),
          w64 (x := u * 131 + v * 1117) (by omega) (by omega), w64 (x := p * 29) (by omega) (by omega), w64 (x := u * 131 + v * 1117 + p * 29) (by omega) (by omega),
          w64 (x := d) (by omega) (by omega), w64 (x := d * 53) (by omega) (by omega), w64 (x := u * 131 + v * 1117 + p * 29 + d * 53) (by omega) (by omega)]
        have hs : 0 ≤ u * 131 + v * 1117 + p * 29 + d * 53 ∧ u * 131 + v * 1117 + p * 29 + d * 53 ≤ 1000000000 := by omega
        generalize u * 131 + v * 1117 + p * 29 + d * 53 = s at hs ⊢
        have hq : 0 ≤ Int.tdiv s 64 ∧ Int.tdiv s 64 ≤ s := by
          rw [Int.tdiv_eq_ediv_of_nonneg hs.1]
          exact ⟨Int.ediv_nonneg hs.1 (by omega), Int.ediv_le_self _ hs.1⟩
        rw [w64 (x := Int.tdiv s 64) (by omega) (by omega)]
        have hx := bits_xor_nonneg s (Int.tdiv s 64) hs.1 (by omega) hq.1 (by omega)
        have := tmod_range _ n hx (by omega)
        exact ⟨_, rfl, this.1, fun _ => this.2, by omega⟩
theorem Rdr.up {b : List Int} {p q : Int} (h : Rdr b p) (h1 : p ≤ q) (h2 : q ≤ 1000000) : Rdr b q := ⟨h.1, h.2.1, by have := h.2.2.1; omega, h2⟩
theorem w_one (b : List Int) (p : Int) (l : List Int) (h : Rdr b p) (hp : p < 1000000) (hl : 0 < l.length) (hl2 : l.length ≤ 1000) :
    Wp (fun k => spec_reader_one.f k b p l) (fun r => ∃ x, r = (x, p + 1) ∧ x ∈ l) := by
  unfold spec_reader_one.f
  refine Wp.call (w_pick b p l.length h hp (by omega)) ?_
  rintro _ ⟨x, rfl, h0, h1, _⟩
  have h1 := h1 (by omega)
  exact Wp.pos h0 (Wp.pos h1 (Wp.ret ⟨_, rfl, rd_mem l x h0 h1⟩))
end Go.Proofs.Ytcmkijmjafgkfaa.P
namespace Go.Proofs.Ytcmkijmjafgkfaa.P
open Go.RowKit Go.Proofs.YtcmkijmjafgkfaaW.PrintWords Go.Proofs.YtcmkijmjafgkfaaW.PrintLast Go.Proofs.YtcmkijmjafgkfaaW.PrintMore Go.Proofs.Ytcmkijmjafgkfaa.Wp
set_option linter.unusedVariables false
set_option linter.unusedSimpArgs false
theorem w_copyInts (l : List Int) (hl : l.length ≤ 1000000000) : Wp (fun _ => spec_copyInts.f l) (fun r => r = l) := by
  unfold spec_copyInts.f
  exact Wp.pos (by simp; omega) (Wp.ret (by simp))
end Go.Proofs.Ytcmkijmjafgkfaa.P
namespace Go.Proofs.Ytcmkijmjafgkfaa.P
open Go.RowKit Go.Proofs.YtcmkijmjafgkfaaW.PrintWords Go.Proofs.YtcmkijmjafgkfaaW.PrintLast Go.Proofs.YtcmkijmjafgkfaaW.PrintMore Go.Proofs.Ytcmkijmjafgkfaa.Wp
set_option linter.unusedVariables false
set_option linter.unusedSimpArgs false
theorem w_spoil (b : List Int) (p : Int) (l : List Int) (n : Int) (h : Rdr b p) (hp : p ≤ 999900) (hl : l.length ≤ 1000000) :
    Wp (fun k => spec_reader_spoil.f k b p l n) (fun r => r.1.length ≤ l.length + 1 ∧ p ≤ r.2 ∧ r.2 ≤ p + 3) := by
  unfold spec_reader_spoil.f
  refine Wp.call (w_copyInts l (by omega)) ?_
  rintro _ rfl
  refine Wp.call (w_pick b p 20 h (by omega) (by omega)) ?_
  rintro _ ⟨x, rfl, x0, x1, _⟩
  have h1 := h.up (q := p + 1) (by omega) (by omega)
  refine Wp.ite (fun _ => Wp.pos (by omega) (Wp.ret ⟨by first | (simp; done) | (simp; omega), by first | (simp; done) | (simp; omega), by first | (simp; done) | (simp; omega)⟩)) (fun _ => ?_)
  refine Wp.ite (fun _ => Wp.ite (fun _ => Wp.pos (by omega) (Wp.ret ⟨by first | (simp; done) | (simp; omega), by first | (simp; done) | (simp; omega), by first | (simp; done) | (simp; omega)⟩)) (fun _ => Wp.ret ⟨by first | (simp; done) | (simp; omega), by first | (simp; done) | (simp; omega), by first | (simp; done) | (simp; omega)⟩)) (fun _ => ?_)
  refine Wp.ite (fun _ => Wp.ite (fun hg => ?_) (fun _ => Wp.ret ⟨by first | (simp; done) | (simp; omega), by first | (simp; done) | (simp; omega), by first | (simp; done) | (simp; omega)⟩)) (fun _ => Wp.ret ⟨by first | (simp; done) | (simp; omega), by first | (simp; done) | (simp; omega), by first | (simp; done) | (simp; omega)⟩)
  refine Wp.call (w_pick b _ _ h1 (by omega) (by omega)) ?_
  rintro _ ⟨y, rfl, y0, y1, _⟩
  have y1 := y1 (by omega)
  have h2 := h.up (q := p + 1 + 1) (by omega) (by omega)
  refine Wp.call (w_one b _ _ h2 (by omega) (by simp) (by simp)) ?_
  rintro _ ⟨z, rfl, hz⟩
  exact Wp.pos y0 (Wp.pos y1 (Wp.ret ⟨by first | (simp; done) | (simp; omega), by first | (simp; done) | (simp; omega), by first | (simp; done) | (simp; omega)⟩))
end Go.Proofs.Ytcmkijmjafgkfaa.P
namespace Go.Proofs.Ytcmkijmjafgkfaa.P
open Go.RowKit Go.Proofs.YtcmkijmjafgkfaaW.PrintWords Go.Proofs.YtcmkijmjafgkfaaW.PrintLast Go.Proofs.YtcmkijmjafgkfaaW.PrintMore Go.Proofs.Ytcmkijmjafgkfaa.Wp
set_option linter.unusedVariables false
set_option linter.unusedSimpArgs false
theorem bl_rd (l : List Int) (i : Nat) : rd l (i : Int) = l.getD i 0 := by simp [rd]
theorem bl_rd_lt (l : List Int) (i : Nat) (h : i < l.length) : rd l (i : Int) = l[i] := by simp [rd, List.getD_eq_getElem?_getD, List.getElem?_eq_getElem h]
theorem bl_ext {x l : List Int} (hx : x.length = l.length) (h : ∀ j, j < l.length → x.getD j 0 = l.getD j 0) : x = l := by
  apply List.ext_getElem hx
  intro j h1 h2
  have := h j h2
  simpa [List.getD_eq_getElem?_getD, List.getElem?_eq_getElem h1, List.getElem?_eq_getElem h2] using this
theorem bl_set {x : List Int} {i : Nat} (v : Int) (j : Nat) (hi : i < x.length) : (x.set i v).getD j 0 = if j = i then v else x.getD j 0 := by
  simp only [List.getD_eq_getElem?_getD, List.getElem?_set]
  by_cases h : i = j
  · subst h; simp [hi]
  · simp [h, Ne.symm h, eq_comm]
theorem bl_all_drop (l : List Int) (p : Int → Bool) (i : Nat) (h : i < l.length) : (l.drop i).all p = (p (l.getD i 0) && (l.drop (i + 1)).all p) := by
  rw [List.drop_eq_getElem_cons h, List.all_cons]
  simp [List.getD_eq_getElem?_getD, List.getElem?_eq_getElem h]
theorem w_inRange0 (a b c : Int) : Wp (fun _ => spec_inRange.f a b c) (fun r => r = decide (b ≤ a ∧ a ≤ c)) := by
  unfold spec_inRange.f
  refine Wp.ite (fun h => Wp.ret ?_) (fun h => Wp.ret ?_)
  · simp [h]
  · simp [h]
theorem w_allIn (l : List Int) (a b : Int) (hl : l.length ≤ 1000000000) : Wp (fun k => spec_allIn.f k l a b) (fun r => r = l.all fun n => decide (a ≤ n ∧ n ≤ b)) := by
  unfold spec_allIn.f
  have key : ∀ d (i : Nat), i + d = l.length → Wp (fun k => spec_allIn.l0 k l a b i) (fun r => r = (l.drop i).all fun n => decide (a ≤ n ∧ n ≤ b)) := by
    intro d
    induction d with
    | zero =>
      intro i hd
      refine Wp.step (fun k => spec_allIn.l0.eq_2 ..) (Wp.neg (by omega) (Wp.ret ?_))
      rw [List.drop_of_length_le (by omega)]
      rfl
    | succ d ih =>
      intro i hd
      refine Wp.step (fun k => spec_allIn.l0.eq_2 ..) (Wp.pos (by omega) (Wp.pos (by omega) ?_))
      refine Wp.call (w_inRange0 _ _ _) ?_
      rintro _ rfl
      rw [bl_all_drop l _ i (by omega), bl_rd]
      refine Wp.ite (fun h => ?_) (fun h => Wp.ret ?_)
      · rw [h, Bool.true_and, w64 (x := (i : Int) + 1) (by omega) (by omega)]
        exact ih (i + 1) (by omega)
      · rw [Bool.not_eq_true] at h
        rw [h, Bool.false_and]
  exact key l.length 0 (by omega)
def marks (a : Int) (n : Nat) : List Int := (List.range n).map fun j : Nat => a + (j : Int)
theorem w_equalInts (a b : List Int) (hl : a.length ≤ 1000000000) : Wp (fun k => laws_equalInts.f k a b) (fun r => r = decide (a = b)) := by
  unfold laws_equalInts.f
  refine Wp.ite (fun he => ?_) (fun he => Wp.ret ?_)
  · have key : ∀ d (i : Nat), i + d = a.length → (∀ j, j < i → a.getD j 0 = b.getD j 0) → Wp (fun k => laws_equalInts.l0 k a b i) (fun r => r = decide (a = b)) := by
      intro d
      induction d with
      | zero =>
        intro i hd h
        refine Wp.step (fun k => laws_equalInts.l0.eq_2 ..) (Wp.neg (by omega) (Wp.ret ?_))
        exact (decide_eq_true (bl_ext (by omega) fun j hj => h j (by omega))).symm
      | succ d ih =>
        intro i hd h
        refine Wp.step (fun k => laws_equalInts.l0.eq_2 ..) (Wp.pos (by omega) (Wp.pos (by omega) (Wp.pos (by omega) ?_)))
        rw [bl_rd, bl_rd]
        refine Wp.ite (fun h1 => ?_) (fun h1 => Wp.ret ?_)
        · rw [w64 (x := (i : Int) + 1) (by omega) (by omega)]
          refine ih (i + 1) (by omega) fun j hj => ?_
          by_cases e : j = i
          · rw [e]; exact h1
          · exact h j (by omega)
        · exact (decide_eq_false fun e => h1 (by rw [e])).symm
    exact key a.length 0 (by omega) (fun j hj => by omega)
  · exact (decide_eq_false fun e => he (by rw [e])).symm
end Go.Proofs.Ytcmkijmjafgkfaa.P
namespace Go.Proofs.Ytcmkijmjafgkfaa.P
open Go.RowKit Go.Proofs.YtcmkijmjafgkfaaW.PrintWords Go.Proofs.YtcmkijmjafgkfaaW.PrintLast Go.Proofs.YtcmkijmjafgkfaaW.PrintMore Go.Proofs.Ytcmkijmjafgkfaa.Wp
set_option linter.unusedVariables false
set_option linter.unusedSimpArgs false
abbrev Nd := Int × List Int
def nd (q : List Nd) (i : Nat) : Nd := q.getD i (0, [])
def wt (q : List Nd) (i : Nat) : Int := (nd q i).1
def IsMin (q : List Nd) (k : Nat) : Prop := k < q.length ∧ (∀ i, i < q.length → wt q k ≤ wt q i) ∧ ∀ i, i < k → wt q k < wt q i
theorem IsMin.unique {q : List Nd} {k k' : Nat} (h : IsMin q k) (h' : IsMin q k') : k = k' := by
  obtain ⟨a, b, c⟩ := h
  obtain ⟨a', b', c'⟩ := h'
  rcases Nat.lt_trichotomy k k' with e | e | e
  · have := c' k e; have := b k' a'; omega
  · exact e
  · have := c k' e; have := b' k a; omega
def amTo (q : List Nd) : Nat → Nat
  | 0 => 0
  | i + 1 => if wt q i < wt q (amTo q i) then i else amTo q i
def am (q : List Nd) : Nat := amTo q q.length
theorem amTo_spec (q : List Nd) (i : Nat) : amTo q (i + 1) ≤ i ∧ (∀ j, j ≤ i → wt q (amTo q (i + 1)) ≤ wt q j) ∧ ∀ j, j < amTo q (i + 1) → wt q (amTo q (i + 1)) < wt q j := by
  induction i with
  | zero =>
    have e : amTo q 1 = 0 := by simp [amTo]
    rw [e]
    exact ⟨Nat.le_refl _, fun j hj => by rw [show j = 0 by omega]; exact Int.le_refl _, fun j hj => absurd hj (Nat.not_lt_zero _)⟩
  | succ i ih =>
    obtain ⟨h1, h2, h3⟩ := ih
    by_cases h : wt q (i + 1) < wt q (amTo q (i + 1))
    · have e : amTo q (i + 1 + 1) = i + 1 := if_pos h
      rw [e]
      refine ⟨Nat.le_refl _, fun j hj => ?_, fun j hj => ?_⟩
      · by_cases hj' : j = i + 1
        · rw [hj']; exact Int.le_refl _
        · have := h2 j (by omega); omega
      · have := h2 j (by omega); omega
    · have e : amTo q (i + 1 + 1) = amTo q (i + 1) := if_neg h
      rw [e]
      refine ⟨by omega, fun j hj => ?_, h3⟩
      by_cases hj' : j = i + 1
      · rw [hj']; omega
      · exact h2 j (by omega)
theorem am_min (q : List Nd) (h : 0 < q.length) : IsMin q (am q) := by
  unfold am
  obtain ⟨n, hn⟩ : ∃ n, q.length = n + 1 := ⟨q.length - 1, by omega⟩
  rw [hn]
  obtain ⟨h1, h2, h3⟩ := amTo_spec q n
  exact ⟨by omega, fun i hi => h2 i (by omega), h3⟩
theorem am_eq {q : List Nd} {k : Nat} (h : IsMin q k) : am q = k := (am_min q (by have := h.1; omega)).unique h
def bump (x s : List Int) : List Int := s.foldl (fun x i => x.set i.toNat (x.getD i.toNat 0 + 1)) x
def rest1 (q : List Nd) : List Nd := q.eraseIdx (am q)
def rest2 (q : List Nd) : List Nd := (rest1 q).eraseIdx (am (rest1 q))
def sy (q : List Nd) : List Int := (nd q (am q)).2 ++ (nd (rest1 q) (am (rest1 q))).2
def sw (q : List Nd) : Int := (nd q (am q)).1 + (nd (rest1 q) (am (rest1 q))).1
def mrg (q : List Nd) : List Nd := rest2 q ++ [(sw q, sy q)]
def huff : Nat → List Nd → List Int → List Int
  | 0, _, x => x
  | f + 1, q, x => if q.length ≤ 1 then x else huff f (mrg q) (bump x (sy q))
theorem rest1_len (q : List Nd) (h : 0 < q.length) : (rest1 q).length + 1 = q.length := by
  unfold rest1
  have := (am_min q h).1
  rw [List.length_eraseIdx_of_lt this]
  omega
theorem rest2_len (q : List Nd) (h : 1 < q.length) : (rest2 q).length + 2 = q.length := by
  have h1 := rest1_len q (by omega)
  unfold rest2
  have := (am_min (rest1 q) (by omega)).1
  rw [List.length_eraseIdx_of_lt this]
  omega
theorem mrg_len (q : List Nd) (h : 1 < q.length) : (mrg q).length + 1 = q.length := by
  have := rest2_len q h
  unfold mrg
  rw [List.length_append]
  simp
  omega
theorem bump_len (s x : List Int) : (bump x s).length = x.length := by
  unfold bump
  induction s generalizing x with
  | nil => rfl
  | cons i s ih =>
    rw [List.foldl_cons, ih]
    simp
theorem huff_len (f : Nat) (q : List Nd) (x : List Int) : (huff f q x).length = x.length := by
  induction f generalizing q x with
  | zero => rfl
  | succ f ih =>
    unfold huff
    split
    · rfl
    · rw [ih, bump_len]
def nodesTo (l : List Int) : Nat → List Nd
  | 0 => []
  | i + 1 => if 0 < l.getD i 0 then nodesTo l i ++ [(l.getD i 0, [(i : Int)])] else nodesTo l i
def nodes0 (l : List Int) : List Nd := nodesTo l l.length
theorem nodesTo_len (l : List Int) (i : Nat) : (nodesTo l i).length ≤ i := by
  induction i with
  | zero => exact Nat.le_refl _
  | succ i ih =>
    unfold nodesTo
    split
    · rw [List.length_append]; simp; omega
    · omega
def clOf (l : List Int) : List Int :=
  if (nodes0 l).length = 1 then (List.replicate l.length 0).set ((nd (nodes0 l) 0).2.getD 0 0).toNat 1 else huff (nodes0 l).length (nodes0 l) (List.replicate l.length 0)
theorem clOf_len (l : List Int) : (clOf l).length = l.length := by
  unfold clOf
  split
  · simp
  · rw [huff_len]; simp
def NdOk (n : Nat) (q : List Nd) (W : Int) (S : Nat) : Prop :=
  (∀ p ∈ q, 0 ≤ p.1 ∧ ∀ s ∈ p.2, 0 ≤ s ∧ s < (n : Int)) ∧ (q.map (·.1)).sum ≤ W ∧ (q.map (·.2.length)).sum ≤ S
theorem sum_erase (f : Nd → Int) (q : List Nd) (k : Nat) (h : k < q.length) : ((q.eraseIdx k).map f).sum + f (nd q k) = (q.map f).sum := by
  induction q generalizing k with
  | nil => simp at h
  | cons a q ih =>
    cases k with
    | zero => simp [nd]; omega
    | succ k =>
      have := ih k (by simpa using h)
      simp [nd] at this ⊢
      omega
theorem sumN_erase (f : Nd → Nat) (q : List Nd) (k : Nat) (h : k < q.length) : ((q.eraseIdx k).map f).sum + f (nd q k) = (q.map f).sum := by
  induction q generalizing k with
  | nil => simp at h
  | cons a q ih =>
    cases k with
    | zero => simp [nd]; omega
    | succ k =>
      have := ih k (by simpa using h)
      simp [nd] at this ⊢
      omega
theorem nd_mem (q : List Nd) (k : Nat) (h : k < q.length) : nd q k ∈ q := by
  unfold nd
  rw [List.getD_eq_getElem?_getD, List.getElem?_eq_getElem h]
  exact List.getElem_mem _
theorem sum_nonneg (f : Nd → Int) (q : List Nd) (h : ∀ p ∈ q, 0 ≤ f p) : 0 ≤ (q.map f).sum := by
  induction q with
  | nil => simp
  | cons a q ih =>
    have h1 := h a (List.mem_cons_self ..)
    have h2 := ih fun p hp => h p (List.mem_cons_of_mem _ hp)
    simp
    omega
theorem NdOk.parts {n : Nat} {q : List Nd} {W : Int} {S : Nat} (h : NdOk n q W S) (hq : 1 < q.length) :
    (0 ≤ sw q ∧ sw q ≤ W) ∧ (∀ s ∈ sy q, 0 ≤ s ∧ s < (n : Int)) ∧ (sy q).length ≤ S ∧ NdOk n (mrg q) W S := by
  obtain ⟨h1, h2, h3⟩ := h
  have l1 := rest1_len q (by omega)
  have m1 := (am_min q (by omega)).1
  have m2 := (am_min (rest1 q) (by omega)).1
  have e1 := sum_erase (·.1) q (am q) m1
  have e2 := sum_erase (·.1) (rest1 q) (am (rest1 q)) m2
  have f1 := sumN_erase (·.2.length) q (am q) m1
  have f2 := sumN_erase (·.2.length) (rest1 q) (am (rest1 q)) m2
  have a1 := h1 _ (nd_mem q _ m1)
  have sub : ∀ p ∈ rest1 q, p ∈ q := fun p hp => List.mem_of_mem_eraseIdx hp
  have sub2 : ∀ p ∈ rest2 q, p ∈ q := fun p hp => sub p (List.mem_of_mem_eraseIdx hp)
  have a2 := h1 _ (sub _ (nd_mem (rest1 q) _ m2))
  have p2 := sum_nonneg (·.1) (rest2 q) fun p hp => (h1 p (sub2 p hp)).1
  have hsy : ∀ s ∈ sy q, 0 ≤ s ∧ s < (n : Int) := fun s hs => by
    rcases List.mem_append.1 hs with h | h
    · exact a1.2 s h
    · exact a2.2 s h
  have e1' : ((rest1 q).map (·.1)).sum + (nd q (am q)).1 = (q.map (·.1)).sum := e1
  have e2' : ((rest2 q).map (·.1)).sum + (nd (rest1 q) (am (rest1 q))).1 = ((rest1 q).map (·.1)).sum := e2
  have f1' : ((rest1 q).map (·.2.length)).sum + (nd q (am q)).2.length = (q.map (·.2.length)).sum := f1
  have f2' : ((rest2 q).map (·.2.length)).sum + (nd (rest1 q) (am (rest1 q))).2.length = ((rest1 q).map (·.2.length)).sum := f2
  have hsw : sw q = (nd q (am q)).1 + (nd (rest1 q) (am (rest1 q))).1 := rfl
  have hsl : (sy q).length = (nd q (am q)).2.length + (nd (rest1 q) (am (rest1 q))).2.length := List.length_append ..
  refine ⟨by omega, hsy, by omega, fun p hp => ?_, ?_, ?_⟩
  · rcases List.mem_append.1 hp with h | h
    · exact h1 p (sub2 p h)
    · rw [List.mem_singleton] at h
      rw [h]
      exact ⟨by show 0 ≤ sw q; omega, hsy⟩
  · unfold mrg
    rw [List.map_append, List.sum_append]
    simp
    omega
  · unfold mrg
    rw [List.map_append, List.sum_append]
    simp
    omega
def rem : List Int → List (List Int) → List Bool → List Nd
  | w :: ws, m :: ms, u :: us => if u then rem ws ms us else (w, m) :: rem ws ms us
  | _, _, _ => []
def cnt : List Bool → Nat → Nat
  | [], _ => 0
  | _, 0 => 0
  | u :: us, a + 1 => (if u then 0 else 1) + cnt us a
theorem cnt_mono (us : List Bool) (a b : Nat) (h : a ≤ b) : cnt us a ≤ cnt us b := by
  induction us generalizing a b with
  | nil => simp [cnt]
  | cons u us ih =>
    cases a with
    | zero => simp [cnt]
    | succ a =>
      cases b with
      | zero => omega
      | succ b =>
        have := ih a b (by omega)
        simp only [cnt]
        omega
theorem rem_at (ws : List Int) (ms : List (List Int)) (us : List Bool) (a : Nat) (h1 : ws.length = us.length) (h2 : ms.length = us.length) (ha : a < us.length) (hu : us.getD a true = false) :
    cnt us a < (rem ws ms us).length ∧ nd (rem ws ms us) (cnt us a) = (ws.getD a 0, ms.getD a []) ∧ rem ws ms (us.set a true) = (rem ws ms us).eraseIdx (cnt us a) := by
  induction us generalizing ws ms a with
  | nil => simp at ha
  | cons u us ih =>
    cases ws with
    | nil => simp at h1
    | cons w ws =>
      cases ms with
      | nil => simp at h2
      | cons m ms =>
        cases a with
        | zero =>
          have hu' : u = false := by simpa using hu
          subst hu'
          simp [rem, cnt, nd]
        | succ a =>
          obtain ⟨i1, i2, i3⟩ := ih ws ms a (by simpa using h1) (by simpa using h2) (by simpa using ha) (by simpa using hu)
          cases u with
          | true =>
            simp only [rem, cnt, if_true, Nat.zero_add, List.set_cons_succ, List.getD_cons_succ]
            exact ⟨i1, i2, i3⟩
          | false =>
            simp only [rem, cnt, Bool.false_eq_true, if_false, List.set_cons_succ, List.getD_cons_succ, List.length_cons, Nat.add_comm 1, List.eraseIdx_cons_succ]
            exact ⟨by omega, by simpa [nd] using i2, by rw [i3]⟩
theorem rem_sur (ws : List Int) (ms : List (List Int)) (us : List Bool) (j : Nat) (h1 : ws.length = us.length) (h2 : ms.length = us.length) (hj : j < (rem ws ms us).length) : ∃ a, a < us.length ∧ us.getD a true = false ∧ cnt us a = j := by
  induction us generalizing ws ms j with
  | nil => cases ws <;> cases ms <;> simp [rem] at hj
  | cons u us ih =>
    cases ws with
    | nil => simp at h1
    | cons w ws =>
      cases ms with
      | nil => simp at h2
      | cons m ms =>
        cases u with
        | true =>
          simp only [rem, if_true] at hj
          obtain ⟨a, a1, a2, a3⟩ := ih ws ms j (by simpa using h1) (by simpa using h2) hj
          exact ⟨a + 1, by simpa using a1, by simpa using a2, by simp [cnt, a3]⟩
        | false =>
          cases j with
          | zero => exact ⟨0, by simp, by simp, by simp [cnt]⟩
          | succ j =>
            simp only [rem, Bool.false_eq_true, if_false, List.length_cons] at hj
            obtain ⟨a, a1, a2, a3⟩ := ih ws ms j (by simpa using h1) (by simpa using h2) (by omega)
            exact ⟨a + 1, by simpa using a1, by simpa using a2, by simp [cnt, a3, Nat.add_comm]⟩
theorem rem_push (ws : List Int) (ms : List (List Int)) (us : List Bool) (w : Int) (m : List Int) (h1 : ws.length = us.length) (h2 : ms.length = us.length) : rem (ws ++ [w]) (ms ++ [m]) (us ++ [false]) = rem ws ms us ++ [(w, m)] := by
  induction us generalizing ws ms with
  | nil =>
    cases ws with
    | nil => cases ms with
      | nil => simp [rem]
      | cons => simp at h2
    | cons => simp at h1
  | cons u us ih =>
    cases ws with
    | nil => simp at h1
    | cons w ws =>
      cases ms with
      | nil => simp at h2
      | cons m ms =>
        have := ih ws ms (by simpa using h1) (by simpa using h2)
        cases u <;> simp [rem, this]
theorem rem_all (q : List Nd) : rem (q.map (·.1)) (q.map (·.2)) (List.replicate q.length false) = q := by
  induction q with
  | nil => rfl
  | cons a q ih =>
    rw [List.length_cons, List.replicate_succ]
    simp [rem, ih]
def Lt (ws : List Int) (us : List Bool) (a : Nat) : Prop :=
  a < us.length ∧ us.getD a true = false ∧ ∀ b, b < us.length → us.getD b true = false → ws.getD a 0 ≤ ws.getD b 0 ∧ (b < a → ws.getD a 0 < ws.getD b 0)
theorem Lt.am {ws : List Int} {ms : List (List Int)} {us : List Bool} {a : Nat} (h : Lt ws us a) (h1 : ws.length = us.length) (h2 : ms.length = us.length) : am (rem ws ms us) = cnt us a := by
  obtain ⟨ha, hu, hm⟩ := h
  obtain ⟨i1, i2, _⟩ := rem_at ws ms us a h1 h2 ha hu
  have g : ∀ j, j < (rem ws ms us).length → ∃ b, b < us.length ∧ us.getD b true = false ∧ cnt us b = j ∧ wt (rem ws ms us) j = ws.getD b 0 := fun j hj => by
    obtain ⟨b, b1, b2, b3⟩ := rem_sur ws ms us j h1 h2 hj
    have := (rem_at ws ms us b h1 h2 b1 b2).2.1
    exact ⟨b, b1, b2, b3, by unfold wt; rw [← b3, this]⟩
  have e : wt (rem ws ms us) (cnt us a) = ws.getD a 0 := by unfold wt; rw [i2]
  refine am_eq ⟨i1, fun j hj => ?_, fun j hj => ?_⟩
  · obtain ⟨b, b1, b2, b3, b4⟩ := g j hj
    rw [e, b4]
    exact (hm b b1 b2).1
  · obtain ⟨b, b1, b2, b3, b4⟩ := g j (by omega)
    rw [e, b4]
    refine (hm b b1 b2).2 ?_
    rcases Nat.lt_or_ge b a with h | h
    · exact h
    · have := cnt_mono us a b h
      omega
theorem bl_rdb (us : List Bool) (i : Nat) : rdOf false us (i : Int) = us.getD i false := by simp [rdOf]
theorem getD_tf (us : List Bool) (i : Nat) (h : i < us.length) : us.getD i true = us.getD i false := by simp [List.getD_eq_getElem?_getD, List.getElem?_eq_getElem h]
theorem w_lightest (ws : List Int) (us : List Bool) (h1 : ws.length = us.length) (hl : us.length ≤ 1000) (he : ∃ b, b < us.length ∧ us.getD b true = false) :
    Wp (fun k => spec_lightest.f k ws us) (fun r => ∃ a : Nat, r = a ∧ Lt ws us a) := by
  unfold spec_lightest.f
  have key : ∀ d (i : Nat) (t : Int), i + d = us.length → ((t = -1 ∧ ∀ j, j < i → us.getD j true = true) ∨ ∃ a : Nat, t = a ∧ a < i ∧ us.getD a true = false ∧ ∀ b, b < i → us.getD b true = false → ws.getD a 0 ≤ ws.getD b 0 ∧ (b < a → ws.getD a 0 < ws.getD b 0)) →
      Wp (fun k => spec_lightest.l0 k ws us t i) (fun r => ∃ a : Nat, r = a ∧ Lt ws us a) := by
    intro d
    induction d with
    | zero =>
      intro i t hd ht
      refine Wp.step (fun k => spec_lightest.l0.eq_2 ..) (Wp.neg (by omega) (Wp.ret ?_))
      rcases ht with ⟨_, h⟩ | ⟨a, rfl, ha, hu, hm⟩
      · obtain ⟨b, hb, hu⟩ := he
        rw [h b (by omega)] at hu
        cases hu
      · exact ⟨a, rfl, by omega, hu, fun b hb => hm b (by omega)⟩
    | succ d ih =>
      intro i t hd ht
      refine Wp.step (fun k => spec_lightest.l0.eq_2 ..) (Wp.pos (by omega) (Wp.pos (by omega) (Wp.pos (by omega) ?_)))
      rw [bl_rdb, w64 (x := (i : Int) + 1) (by omega) (by omega), ← getD_tf us i (by omega), bl_rd]
      refine Wp.ite (fun hu => ih (i + 1) t (by omega) ?_) (fun hu => ?_)
      · rcases ht with ⟨e, h⟩ | ⟨a, e, ha, h, hm⟩
        · exact .inl ⟨e, fun j hj => by by_cases hji : j = i; (· rw [hji]; exact hu); exact h j (by omega)⟩
        · exact .inr ⟨a, e, by omega, h, fun b hb hub => by
            by_cases hbi : b = i
            · rw [hbi, hu] at hub; cases hub
            · exact hm b (by omega) hub⟩
      · have hu : us.getD i true = false := by simpa using hu
        rcases ht with ⟨rfl, h⟩ | ⟨a, rfl, ha, h, hm⟩
        · refine Wp.pos (by omega) (ih (i + 1) i (by omega) (.inr ⟨i, rfl, by omega, hu, fun b hb hub => ?_⟩))
          by_cases hbi : b = i
          · subst hbi; exact ⟨Int.le_refl _, fun h => absurd h (Nat.lt_irrefl _)⟩
          · rw [h b (by omega)] at hub; cases hub
        · refine Wp.neg (by omega) (Wp.pos (by omega) (Wp.pos (by omega) ?_))
          rw [bl_rd]
          refine Wp.ite (fun hlt => ih (i + 1) i (by omega) (.inr ⟨i, rfl, by omega, hu, fun b hb hub => ?_⟩)) (fun hlt => ih (i + 1) a (by omega) (.inr ⟨a, rfl, by omega, h, fun b hb hub => ?_⟩))
          · by_cases hbi : b = i
            · subst hbi; exact ⟨Int.le_refl _, fun h => absurd h (Nat.lt_irrefl _)⟩
            · have := (hm b (by omega) hub).1
              exact ⟨by omega, fun _ => by omega⟩
          · by_cases hbi : b = i
            · subst hbi; exact ⟨by omega, fun h => by omega⟩
            · exact hm b (by omega) hub
  exact key us.length 0 (-1) (by omega) (.inl ⟨rfl, fun j hj => absurd hj (Nat.not_lt_zero _)⟩)
theorem rdL_get (ms : List (List Int)) (i : Nat) : rd_L3 ms (i : Int) = ms.getD i [] := by simp [rd_L3]
theorem bump_get (x : List Int) (s : List Int) (i : Nat) : bump x (s.take (i + 1)) = if h : i < s.length then (bump x (s.take i)).set s[i].toNat ((bump x (s.take i)).getD s[i].toNat 0 + 1) else bump x (s.take i) := by
  split
  · rename_i h
    rw [List.take_succ_eq_append_getElem h]
    unfold bump
    rw [List.foldl_append]
    rfl
  · rename_i h
    rw [List.take_of_length_le (by omega), List.take_of_length_le (by omega)]
def LnOk (x : List Int) (B : Int) : Prop := ∀ v ∈ x, 0 ≤ v ∧ v ≤ B
theorem LnOk.get {x : List Int} {B : Int} (h : LnOk x B) (hB : 0 ≤ B) (i : Nat) : 0 ≤ x.getD i 0 ∧ x.getD i 0 ≤ B := by
  rcases Nat.lt_or_ge i x.length with hi | hi
  · have := h _ (List.getElem_mem hi)
    simpa [List.getD_eq_getElem?_getD, List.getElem?_eq_getElem hi] using this
  · simp [List.getD_eq_getElem?_getD, List.getElem?_eq_none hi, hB]
theorem LnOk.bump {x : List Int} {B : Int} (h : LnOk x B) (hB : 0 ≤ B) (s : List Int) : LnOk (bump x s) (B + s.length) := by
  induction s generalizing x B with
  | nil => simpa [P.bump] using h
  | cons i s ih =>
    have h' : LnOk (x.set i.toNat (x.getD i.toNat 0 + 1)) (B + 1) := fun v hv => by
      rcases List.mem_or_eq_of_mem_set hv with h1 | h1
      · have := h v h1; omega
      · have := h.get hB i.toNat
        omega
    have := ih h' (by omega)
    have e : B + ((i :: s).length : Int) = B + 1 + (s.length : Int) := by rw [List.length_cons]; omega
    rw [e]
    exact this
theorem w_sHuff (n : Nat) (hn : n ≤ 1000) : ∀ (f : Nat) (q : List Nd) (x : List Int) (ws : List Int) (ms : List (List Int)) (us : List Bool) (B : Int),
    q.length ≤ f → f ≤ 1000 → rem ws ms us = q → ws.length = us.length → ms.length = us.length → us.length + q.length ≤ 1000 → NdOk n q 100000000 1000 → x.length = n → LnOk x B → 0 ≤ B → B + 1000 * q.length ≤ 100000000 →
    Wp (fun k => spec_codeLengths.l1 k x ws ms us q.length) (fun r => r = huff f q x) := by
  intro f
  induction f with
  | zero =>
    intro q x ws ms us B hf _ _ _ _ _ _ _ _ _ _
    exact Wp.step (fun k => spec_codeLengths.l1.eq_2 ..) (Wp.neg (by omega) (Wp.ret rfl))
  | succ f ih =>
    intro q x ws ms us B hf hf2 hr h1 h2 hu hq hx hB hB0 hB1
    unfold huff
    refine Wp.step (fun k => spec_codeLengths.l1.eq_2 ..) (Wp.ite (fun h => ?_) (fun h => Wp.ret (by rw [if_pos (show q.length ≤ 1 by omega)])))
    have hq1 : 1 < q.length := by omega
    rw [if_neg (show ¬ q.length ≤ 1 by omega)]
    obtain ⟨⟨s0, s1⟩, hsy, hsl, hq'⟩ := hq.parts hq1
    have l1 := rest1_len q (by omega)
    have l2 := mrg_len q hq1
    refine Wp.call (w_lightest ws us h1 (by omega) ?_) ?_
    · obtain ⟨b, b1, b2, _⟩ := rem_sur ws ms us 0 h1 h2 (by rw [hr]; omega)
      exact ⟨b, b1, b2⟩
    rintro _ ⟨a, rfl, hA⟩
    have eA := hA.am h1 h2
    rw [hr] at eA
    obtain ⟨a1, a2, a3⟩ := rem_at ws ms us a h1 h2 hA.1 hA.2.1
    rw [hr, ← eA] at a1 a2 a3
    refine Wp.pos (by omega) (Wp.pos (by have := hA.1; omega) ?_)
    refine Wp.call (Q := fun r => r = us.set a true) (Wp.ret (by rw [Int.toNat_natCast])) ?_
    rintro _ rfl
    have hul : (us.set a true).length = us.length := List.length_set ..
    refine Wp.call (w_lightest ws (us.set a true) (by omega) (by omega) ?_) ?_
    · obtain ⟨b, b1, b2, _⟩ := rem_sur ws ms (us.set a true) 0 (by omega) (by omega) (by rw [a3]; show 0 < (rest1 q).length; omega)
      exact ⟨b, b1, b2⟩
    rintro _ ⟨b, rfl, hC⟩
    have eC := hC.am (ms := ms) (by omega) (by omega)
    rw [show rem ws ms (us.set a true) = rest1 q from a3] at eC
    obtain ⟨c1, c2, c3⟩ := rem_at ws ms (us.set a true) b (by omega) (by omega) hC.1 hC.2.1
    rw [show rem ws ms (us.set a true) = rest1 q from a3, ← eC] at c1 c2 c3
    have hbl := hC.1
    have hal := hA.1
    refine Wp.pos (by omega) (Wp.pos (by omega) (Wp.pos (by omega) ?_))
    rw [rdL_get, rdL_get]
    refine Wp.call (w_copyInts (ms.getD a []) ?_) ?_
    · have : (nd q (am q)).2.length ≤ (sy q).length := by unfold sy; rw [List.length_append]; omega
      rw [a2] at this
      simp only at this
      omega
    rintro _ rfl
    have esy : ms.getD a [] ++ ms.getD b [] = sy q := by unfold sy; rw [a2, c2]
    have esw : ws.getD a 0 + ws.getD b 0 = sw q := by unfold sw; rw [a2, c2]
    have elen : (ms.getD a []).length + (ms.getD b []).length = (sy q).length := by rw [← esy, List.length_append]
    refine Wp.pos (by omega) (Wp.pos (by omega) ?_)
    rw [esy, Int.toNat_natCast]
    have fin : Wp (fun k => spec_codeLengths.l2 k (bump x (sy q)) ws ms ((us.set a true).set b true) q.length a b (sy q) ((sy q).length : Nat)) (fun r => r = huff f (mrg q) (bump x (sy q))) := by
      refine Wp.step (fun k => spec_codeLengths.l2.eq_2 ..) (Wp.neg (by omega) (Wp.pos (by omega) (Wp.pos (by omega) (Wp.pos (by omega) (Wp.pos (by omega) (Wp.pos (by omega) (Wp.pos (by omega) (Wp.pos ?_ ?_))))))))
      · rw [List.length_set, List.length_set]; omega
      rw [bl_rd, bl_rd, esw, w64 (x := sw q) (by omega) (by omega), w64 (x := (q.length : Int) - 1) (by omega) (by omega), show (q.length : Int) - 1 = (mrg q).length by omega]
      refine ih (mrg q) _ _ _ _ (B + 1000) (by omega) (by omega) ?_ ?_ ?_ ?_ hq' (by rw [bump_len]; exact hx) ?_ (by omega) (by omega)
      · rw [rem_push _ _ _ _ _ (by rw [List.length_set, List.length_set]; omega) (by rw [List.length_set, List.length_set]; omega), c3]
        rfl
      · simp only [List.length_append, List.length_set, List.length_cons, List.length_nil]; omega
      · simp only [List.length_append, List.length_set, List.length_cons, List.length_nil]; omega
      · simp only [List.length_append, List.length_set, List.length_cons, List.length_nil]; omega
      · intro v hv
        have := hB.bump hB0 (sy q) v hv
        omega
    have key : ∀ d (i : Nat), i + d = (sy q).length → Wp (fun k => spec_codeLengths.l2 k (bump x ((sy q).take i)) ws ms ((us.set a true).set b true) q.length a b (sy q) i) (fun r => r = huff f (mrg q) (bump x (sy q))) := by
      intro d
      induction d with
      | zero =>
        intro i hd
        have : i = (sy q).length := by omega
        subst this
        rw [List.take_length]
        exact fin
      | succ d ihd =>
        intro i hd
        have hi : i < (sy q).length := by omega
        have h := ihd (i + 1) (by omega)
        rw [bump_get, dif_pos hi] at h
        have hs := hsy _ (List.getElem_mem hi)
        refine Wp.step (fun k => spec_codeLengths.l2.eq_2 ..) (Wp.pos (by omega) (Wp.pos (by omega) ?_))
        rw [bl_rd_lt _ i hi, w64 (x := (i : Int) + 1) (by omega) (by omega)]
        generalize (sy q)[i] = s at hs h
        obtain ⟨s, rfl⟩ := Int.eq_ofNat_of_zero_le hs.1
        refine Wp.pos (by omega) (Wp.pos (by rw [bump_len]; omega) ?_)
        have hv := (hB.bump hB0 ((sy q).take i)).get (by rw [List.length_take]; omega) s
        rw [List.length_take] at hv
        rw [bl_rd, w64 (x := _ + 1) (by omega) (by omega)]
        exact h
    have := key (sy q).length 0 (by omega)
    exact this
def VC (l : List Int) : Prop := (1 ≤ l.length ∧ l.length ≤ 16) ∧ (l.all fun n => decide (0 ≤ n ∧ n ≤ 9999)) = true
instance (l : List Int) : Decidable (VC l) := inferInstanceAs (Decidable (_ ∧ _))
theorem VC.get {l : List Int} (h : VC l) (i : Nat) : 0 ≤ l.getD i 0 ∧ l.getD i 0 ≤ 9999 := by
  rcases Nat.lt_or_ge i l.length with hi | hi
  · have := of_decide_eq_true (List.all_eq_true.1 h.2 l[i] (List.getElem_mem hi))
    simpa [List.getD_eq_getElem?_getD, List.getElem?_eq_getElem hi] using this
  · simp [List.getD_eq_getElem?_getD, List.getElem?_eq_none hi]
theorem nodesTo_ok {l : List Int} (h : VC l) (i : Nat) (hi : i ≤ l.length) : NdOk l.length (nodesTo l i) (10000 * i) i := by
  induction i with
  | zero => exact ⟨fun p hp => by simp [nodesTo] at hp, by simp [nodesTo], by simp [nodesTo]⟩
  | succ i ih =>
    obtain ⟨a, b, c⟩ := ih (by omega)
    have hg := h.get i
    unfold nodesTo
    split
    · refine ⟨fun p hp => ?_, ?_, ?_⟩
      · rcases List.mem_append.1 hp with h1 | h1
        · exact a p h1
        · rw [List.mem_singleton] at h1
          rw [h1]
          exact ⟨hg.1, fun s hs => by rw [List.mem_singleton] at hs; omega⟩
      · rw [List.map_append, List.sum_append]
        simp only [List.map_cons, List.map_nil, List.sum_cons, List.sum_nil, List.length_cons, List.length_nil]
        omega
      · rw [List.map_append, List.sum_append]
        simp only [List.map_cons, List.map_nil, List.sum_cons, List.sum_nil, List.length_cons, List.length_nil]
        omega
    · exact ⟨a, by omega, by omega⟩
theorem node_one {l : List Int} (h : VC l) (h1 : (nodes0 l).length = 1) : ∃ i : Nat, i < l.length ∧ nodes0 l = [(l.getD i 0, [(i : Int)])] := by
  have g : ∀ i, i ≤ l.length → (nodesTo l i).length = 0 ∨ (∃ j : Nat, j < l.length ∧ nodesTo l i = [(l.getD j 0, [(j : Int)])]) ∨ 1 < (nodesTo l i).length := by
    intro i hi
    induction i with
    | zero => exact .inl rfl
    | succ i ih =>
      unfold nodesTo
      split
      · rcases ih (by omega) with e | ⟨j, hj, e⟩ | e
        · have : nodesTo l i = [] := List.eq_nil_of_length_eq_zero e
          rw [this]
          exact .inr (.inl ⟨i, by omega, rfl⟩)
        · rw [e]; exact .inr (.inr (by simp))
        · exact .inr (.inr (by rw [List.length_append]; simp; omega))
      · exact ih (by omega)
  rcases g l.length (Nat.le_refl _) with e | e | e
  · unfold nodes0 at h1; omega
  · exact e
  · unfold nodes0 at h1; omega
theorem w_sCodeLengths (l : List Int) (hl : l.length ≤ 1000000000) : Wp (fun k => spec_CodeLengths.f k l) (fun r => r = if VC l then clOf l else []) := by
  unfold spec_CodeLengths.f spec_validCounts.f
  refine Wp.call (Q := fun r => r = decide (VC l)) ?_ ?_
  · refine Wp.call (w_inRange0 _ _ _) ?_
    rintro _ rfl
    refine Wp.ite (fun h => ?_) (fun h => Wp.ret (decide_eq_false fun e => h (decide_eq_true ⟨by have := e.1.1; omega, by have := e.1.2; omega⟩)).symm)
    have h := of_decide_eq_true h
    refine Wp.call (w_allIn l 0 9999 hl) ?_
    rintro _ rfl
    refine Wp.ret ?_
    rw [Bool.eq_iff_iff, decide_eq_true_eq]
    exact ⟨fun e => ⟨by omega, e⟩, fun e => e.2⟩
  rintro _ rfl
  refine Wp.ite (fun h => ?_) (fun h => Wp.ret (if_neg fun e => h (decide_eq_true e)).symm)
  have hV : VC l := of_decide_eq_true h
  rw [if_pos hV]
  refine Wp.call (Q := fun r => r = clOf l) ?_ (by rintro _ rfl; exact Wp.ret rfl)
  have hl16 := hV.1.2
  unfold spec_codeLengths.f
  refine Wp.pos (by omega) (Wp.pos (by omega) ?_)
  have fin : Wp (fun k => spec_codeLengths.l0 k l (List.replicate l.length 0) ((nodes0 l).map (·.1)) ((nodes0 l).map (·.2)) (l.length : Nat)) (fun r => r = clOf l) := by
    have hnl := nodesTo_len l l.length
    have hok := nodesTo_ok hV l.length (Nat.le_refl _)
    refine Wp.step (fun k => spec_codeLengths.l0.eq_2 ..) (Wp.neg (by omega) ?_)
    rw [List.length_map, List.length_map]
    unfold clOf
    refine Wp.ite (fun h1 => ?_) (fun h1 => ?_)
    · have h1 : (nodes0 l).length = 1 := by omega
      rw [if_pos h1]
      obtain ⟨i, hi, e⟩ := node_one hV h1
      rw [e]
      refine Wp.pos (by simp) (Wp.pos (by simp [rd_L3]) (Wp.pos (by simp [rd_L3, rd]) (Wp.pos (by simp [rd_L3, rd]; omega) (Wp.ret ?_))))
      simp [rd_L3, rd, nd]
    · have h1 : ¬ (nodes0 l).length = 1 := by omega
      rw [if_neg h1]
      refine Wp.pos (by omega) (Wp.pos (by unfold nodes0; omega) ?_)
      rw [Int.toNat_natCast]
      unfold nodes0 at h1 ⊢
      refine w_sHuff l.length (by omega) _ _ _ _ _ _ 0 (Nat.le_refl _) (by omega) (rem_all _) (by simp) (by simp) (by rw [List.length_replicate]; omega) ⟨hok.1, by have := hok.2.1; omega, by have := hok.2.2; omega⟩ (by simp) ?_ (by omega) (by omega)
      intro v hv
      rw [List.eq_of_mem_replicate hv]
      omega
  have key : ∀ d (i : Nat), i + d = l.length → Wp (fun k => spec_codeLengths.l0 k l (List.replicate l.length 0) ((nodesTo l i).map (·.1)) ((nodesTo l i).map (·.2)) i) (fun r => r = clOf l) := by
    intro d
    induction d with
    | zero =>
      intro i hd
      have : i = l.length := by omega
      subst this
      exact fin
    | succ d ih =>
      intro i hd
      have h := ih (i + 1) (by omega)
      have hnl := nodesTo_len l i
      refine Wp.step (fun k => spec_codeLengths.l0.eq_2 ..) (Wp.pos (by omega) (Wp.pos (by omega) ?_))
      rw [bl_rd, w64 (x := (i : Int) + 1) (by omega) (by omega)]
      refine Wp.ite (fun h1 => Wp.pos (by rw [List.length_map]; omega) (Wp.pos (by rw [List.length_map]; omega) ?_)) (fun h1 => ?_)
      · rw [show nodesTo l (i + 1) = nodesTo l i ++ [(l.getD i 0, [(i : Int)])] from if_pos h1, List.map_append, List.map_append] at h
        exact h
      · rw [show nodesTo l (i + 1) = nodesTo l i from if_neg h1] at h
        exact h
  exact key l.length 0 (by omega)
end Go.Proofs.Ytcmkijmjafgkfaa.P
namespace Go.Proofs.Ytcmkijmjafgkfaa.P
open Go.RowKit Go.Proofs.YtcmkijmjafgkfaaW.PrintWords Go.Proofs.YtcmkijmjafgkfaaW.PrintLast Go.Proofs.YtcmkijmjafgkfaaW.PrintMore Go.Proofs.Ytcmkijmjafgkfaa.Wp
set_option linter.unusedVariables false
set_option linter.unusedSimpArgs false
theorem w_anyCounts (b : List Int) (q : Int) (h : Rdr b q) (hq : q ≤ 900000) : Wp (fun k => spec_anyCounts.f k b q) (fun r => r.1.length ≤ 18 ∧ q ≤ r.2 ∧ r.2 ≤ q + 30) := by
  unfold spec_anyCounts.f
  refine Wp.call (w_one b q _ h (by omega) (by simp) (by simp)) ?_
  rintro _ ⟨n, rfl, hn⟩
  have hn : 0 ≤ n ∧ n ≤ 17 := by simp only [List.mem_cons, List.not_mem_nil, or_false] at hn; omega
  have key : ∀ (d : Nat) (x : List Int) (p : Int), (x.length : Int) + d ≤ 17 → d ≤ 17 → q + 1 ≤ p → p ≤ q + 1 + 17 - d → Wp (fun k => spec_anyCounts.l0 k x d b p) (fun r => r.1.length ≤ 18 ∧ q ≤ r.2 ∧ r.2 ≤ q + 30) := by
    intro d
    induction d with
    | zero =>
      intro x p hx hd hp hp2
      refine Wp.step (fun k => spec_anyCounts.l0.eq_2 ..) (Wp.neg (by omega) ?_)
      refine Wp.call (w_spoil b p x 10000 (h.up (by omega) (by omega)) (by omega) (by omega)) ?_
      rintro r ⟨h1, h2, h3⟩
      exact Wp.ret ⟨by first | omega | (simp only; omega), by first | omega | (simp only; omega), by first | omega | (simp only; omega)⟩
    | succ d ih =>
      intro x p hx hd hp hp2
      refine Wp.step (fun k => spec_anyCounts.l0.eq_2 ..) (Wp.pos (by omega) ?_)
      refine Wp.call (w_one b p _ (h.up (by omega) (by omega)) (by omega) (by simp) (by simp)) ?_
      rintro _ ⟨v, rfl, _⟩
      refine Wp.pos (by omega) ?_
      rw [w64 (x := ((d + 1 : Nat) : Int) - 1) (by omega) (by omega), show ((d + 1 : Nat) : Int) - 1 = (d : Int) by omega]
      exact ih _ _ (by rw [List.length_append]; simp; omega) (by omega) (by first | omega | (simp only; omega)) (by first | omega | (simp only; omega))
  obtain ⟨n, rfl⟩ := Int.eq_ofNat_of_zero_le hn.1
  exact key n [] (q + 1) (by simp; omega) (by omega) (by omega) (by omega)
theorem w_codeLengthsOf (l : List Int) (hl : l.length ≤ 1000) : Wp (fun k => spec_codeLengthsOf.f k l) (fun r => r.length ≤ 1000) := by
  unfold spec_codeLengthsOf.f
  refine Wp.call (w_sCodeLengths l (by omega)) ?_
  rintro _ rfl
  refine Wp.ite (fun _ => Wp.ret (by simp)) (fun _ => Wp.ret ?_)
  split
  · rw [clOf_len]; exact hl
  · simp
theorem w_anyLengths (b : List Int) (q : Int) (h : Rdr b q) (hq : q ≤ 900000) : Wp (fun k => spec_anyLengths.f k b q) (fun r => r.1.length ≤ 1001 ∧ q ≤ r.2 ∧ r.2 ≤ q + 40) := by
  unfold spec_anyLengths.f
  refine Wp.call (w_anyCounts b q h hq) ?_
  rintro r ⟨h1, h2, h3⟩
  refine Wp.call (w_codeLengthsOf r.1 (by omega)) ?_
  intro x hx
  refine Wp.call (w_one b r.2 _ (h.up (by omega) (by omega)) (by omega) (by simp) (by simp)) ?_
  rintro _ ⟨v, rfl, _⟩
  refine Wp.call (w_spoil b _ x v (h.up (by first | omega | (simp only; omega)) (by first | omega | (simp only; omega))) (by first | omega | (simp only; omega)) (by omega)) ?_
  rintro s ⟨h4, h5, h6⟩
  simp only at h5 h6
  exact Wp.ret ⟨by first | omega | (simp only; omega), by first | omega | (simp only; omega), by first | omega | (simp only; omega)⟩
end Go.Proofs.Ytcmkijmjafgkfaa.P
namespace Go.Proofs.Ytcmkijmjafgkfaa.P
open Go.RowKit Go.Proofs.YtcmkijmjafgkfaaW.PrintWords Go.Proofs.YtcmkijmjafgkfaaW.PrintLast Go.Proofs.YtcmkijmjafgkfaaW.PrintMore Go.Proofs.Ytcmkijmjafgkfaa.Wp
set_option linter.unusedVariables false
set_option linter.unusedSimpArgs false
theorem mx_nat (n : Nat) : mx (n : Int) 1 = if n = 0 then 1 else (n : Int) := by
  unfold mx
  split <;> split <;> omega
theorem w_drawEnc1 {x5 x6 b : List Int} {x7 : Int} {q : Int} {P : List Int × List Int → Prop} (h5 : x5.length ≤ 1001) (h6 : x6.length ≤ 1000) (hi : ∀ v : Int, 0 ≤ v → Wp (fun k => spec_DrawEncodeSymbols.l0 k x5 (x6 ++ [v]) (wrap64 (x7 - 1)) b q) P) :
    ∀ d (x9 : Nat) (x8 : Int), x9 + d = x5.length → 0 ≤ x8 → (0 < x5.length → x8 < x5.length) → Wp (fun k => spec_DrawEncodeSymbols.l1 k x5 x6 x7 x8 x9 b q) P := by
  intro d
  induction d with
  | zero =>
    intro x9 x8 hd h0 h1
    exact Wp.step (fun k => spec_DrawEncodeSymbols.l1.eq_2 ..) (Wp.neg (by omega) (Wp.pos (by omega) (hi x8 h0)))
  | succ d ih =>
    intro x9 x8 hd h0 h1
    refine Wp.step (fun k => spec_DrawEncodeSymbols.l1.eq_2 ..) (Wp.pos (by omega) (Wp.pos (by omega) (Wp.pos (h1 (by omega)) ?_)))
    refine Wp.ite (fun _ => Wp.neg (by omega) ?_) (fun _ => Wp.pos (by omega) (hi x8 h0))
    have hm := h1 (by omega)
    rw [w64 (x := x8 + 1) (by omega) (by omega), w64 (x := (x9 : Int) + 1) (by omega) (by omega)]
    have ht : 0 ≤ Int.tmod (x8 + 1) (x5.length : Int) ∧ Int.tmod (x8 + 1) (x5.length : Int) < (x5.length : Int) := by
      rw [Int.tmod_eq_emod_of_nonneg (by omega)]
      exact ⟨Int.emod_nonneg _ (by omega), Int.emod_lt_of_pos _ (by omega)⟩
    exact ih (x9 + 1) _ (by omega) ht.1 (fun _ => ht.2)
theorem w_drawEnc0 {x5 b : List Int} (h5 : x5.length ≤ 1001) : ∀ (m : Nat) (x6 : List Int) (q : Int), Rdr b q → q + m ≤ 900000 → x6.length + m ≤ 1000 → Wp (fun k => spec_DrawEncodeSymbols.l0 k x5 x6 (m : Int) b q) (fun r => r.1.length ≤ 1001 ∧ r.2.length ≤ 1001)
  | 0, x6, q, h, hq, h6 => by
    refine Wp.step (fun k => spec_DrawEncodeSymbols.l0.eq_2 ..) (Wp.neg (by omega) ?_)
    refine Wp.call (w_spoil b q x6 16 h (by omega) (by omega)) ?_
    rintro r ⟨h1, _⟩
    exact Wp.ret ⟨by simp only; omega, h5⟩
  | m + 1, x6, q, h, hq, h6 => by
    refine Wp.step (fun k => spec_DrawEncodeSymbols.l0.eq_2 ..) (Wp.pos (by omega) ?_)
    refine Wp.call (w_pick b q _ h (by omega) (by rw [mx_nat]; split <;> omega)) ?_
    rintro _ ⟨v, rfl, v0, v1, v2⟩
    refine w_drawEnc1 (P := fun r => r.1.length ≤ 1001 ∧ r.2.length ≤ 1001) h5 (by omega) (fun a ha => ?_) x5.length 0 v (by omega) v0 (fun h9 => ?_)
    · have hw : wrap64 (((m + 1 : Nat) : Int) - 1) = (m : Int) := by
        rw [w64 (x := ((m + 1 : Nat) : Int) - 1) (by omega) (by omega)]
        omega
      rw [hw]
      exact w_drawEnc0 h5 m (x6 ++ [a]) (q + 1) (h.up (by omega) (by omega)) (by omega) (by rw [List.length_append, List.length_singleton]; omega)
    · rw [mx_nat, if_neg (by omega)] at v1
      exact v1 (by omega)
theorem w_DrawEncode (l : List Int) (hb : ∀ x ∈ l, (Lit.int .u8 x).wf = true) : Wp (fun k => spec_DrawEncodeSymbols.f k l) (fun r => r.1.length ≤ 1001 ∧ r.2.length ≤ 1001) := by
  unfold spec_DrawEncodeSymbols.f
  refine Wp.call (w_newReader l hb) ?_
  rintro ⟨b, q⟩ ⟨h, e⟩
  simp only at e h
  subst e
  refine Wp.call (w_anyLengths b 0 h (by omega)) ?_
  rintro ⟨x5, q5⟩ ⟨h1, h2, h3⟩
  simp only at h1 h2 h3
  refine Wp.call (w_one b q5 _ (h.up (by omega) (by omega)) (by omega) (by simp) (by simp)) ?_
  rintro _ ⟨v, rfl, hv⟩
  have hv' : 0 ≤ v ∧ v ≤ 12 := by
    simp only [List.mem_cons, List.not_mem_nil, or_false] at hv
    omega
  have hk := w_drawEnc0 (x5 := x5) (b := b) h1 v.toNat [] (q5 + 1) (h.up (by omega) (by omega)) (by omega) (by simp; omega)
  rw [Int.toNat_of_nonneg hv'.1] at hk
  exact hk
end Go.Proofs.Ytcmkijmjafgkfaa.P
namespace Go.Proofs.Ytcmkijmjafgkfaa.P
open Go.RowKit Go.Proofs.YtcmkijmjafgkfaaW.PrintWords Go.Proofs.YtcmkijmjafgkfaaW.PrintLast Go.Proofs.YtcmkijmjafgkfaaW.PrintMore Go.Proofs.Ytcmkijmjafgkfaa.Wp
set_option linter.unusedVariables false
set_option linter.unusedSimpArgs false
theorem w_min (l : List Int) (hl : l.length ≤ 1000000000) (h : 0 < l.length) : Wp (fun k => slices_Min_int_int.f k l) (fun r => r ∈ l ∧ ∀ x ∈ l, r ≤ x) := by
  unfold slices_Min_int_int.f
  have key : ∀ d (i : Nat) (m : Int), i + d = l.length → m ∈ l → (∀ j, j < i → m ≤ l.getD j 0) → Wp (fun k => slices_Min_int_int.l0 k l m i) (fun r => r ∈ l ∧ ∀ x ∈ l, r ≤ x) := by
    intro d
    induction d with
    | zero =>
      intro i m hd hm h
      refine Wp.step (fun k => slices_Min_int_int.l0.eq_2 ..) (Wp.neg (by omega) (Wp.ret ⟨hm, fun x hx => ?_⟩))
      obtain ⟨j, hj, rfl⟩ := List.getElem_of_mem hx
      have := h j (by omega)
      simpa [List.getD_eq_getElem?_getD, List.getElem?_eq_getElem hj] using this
    | succ d ih =>
      intro i m hd hm h
      refine Wp.step (fun k => slices_Min_int_int.l0.eq_2 ..) (Wp.pos (by omega) (Wp.pos (by omega) ?_))
      rw [w64 (x := (i : Int) + 1) (by omega) (by omega), bl_rd]
      have hmem : l.getD i 0 ∈ l := by rw [← bl_rd, bl_rd_lt l i (by omega)]; exact List.getElem_mem _
      refine ih (i + 1) _ (by omega) ?_ fun j hj => ?_
      · unfold mn
        split
        · exact hmem
        · exact hm
      · have h1 : mn m (l.getD i 0) ≤ m ∧ mn m (l.getD i 0) ≤ l.getD i 0 := by unfold mn; split <;> omega
        by_cases e : j = i
        · rw [e]; exact h1.2
        · exact Int.le_trans h1.1 (h j (by omega))
  refine Wp.neg (by omega) (Wp.pos (by omega) ?_)
  have e0 : rd l 0 = l[0] := bl_rd_lt l 0 h
  rw [e0]
  refine key (l.length - 1) 1 _ (by omega) (List.getElem_mem _) fun j hj => ?_
  have : j = 0 := by omega
  subst this
  simp [List.getD_eq_getElem?_getD, List.getElem?_eq_getElem h]
theorem w_max (l : List Int) (hl : l.length ≤ 1000000000) (h : 0 < l.length) : Wp (fun k => slices_Max_int_int.f k l) (fun r => r ∈ l ∧ ∀ x ∈ l, x ≤ r) := by
  unfold slices_Max_int_int.f
  have key : ∀ d (i : Nat) (m : Int), i + d = l.length → m ∈ l → (∀ j, j < i → l.getD j 0 ≤ m) → Wp (fun k => slices_Max_int_int.l0 k l m i) (fun r => r ∈ l ∧ ∀ x ∈ l, x ≤ r) := by
    intro d
    induction d with
    | zero =>
      intro i m hd hm h
      refine Wp.step (fun k => slices_Max_int_int.l0.eq_2 ..) (Wp.neg (by omega) (Wp.ret ⟨hm, fun x hx => ?_⟩))
      obtain ⟨j, hj, rfl⟩ := List.getElem_of_mem hx
      have := h j (by omega)
      simpa [List.getD_eq_getElem?_getD, List.getElem?_eq_getElem hj] using this
    | succ d ih =>
      intro i m hd hm h
      refine Wp.step (fun k => slices_Max_int_int.l0.eq_2 ..) (Wp.pos (by omega) (Wp.pos (by omega) ?_))
      rw [w64 (x := (i : Int) + 1) (by omega) (by omega), bl_rd]
      have hmem : l.getD i 0 ∈ l := by rw [← bl_rd, bl_rd_lt l i (by omega)]; exact List.getElem_mem _
      refine ih (i + 1) _ (by omega) ?_ fun j hj => ?_
      · unfold mx
        split
        · exact hmem
        · exact hm
      · have h1 : m ≤ mx m (l.getD i 0) ∧ l.getD i 0 ≤ mx m (l.getD i 0) := by unfold mx; split <;> omega
        by_cases e : j = i
        · rw [e]; exact h1.2
        · exact Int.le_trans (h j (by omega)) h1.1
  refine Wp.neg (by omega) (Wp.pos (by omega) ?_)
  have e0 : rd l 0 = l[0] := bl_rd_lt l 0 h
  rw [e0]
  refine key (l.length - 1) 1 _ (by omega) (List.getElem_mem _) fun j hj => ?_
  have : j = 0 := by omega
  subst this
  simp [List.getD_eq_getElem?_getD, List.getElem?_eq_getElem h]
def p2 (n : Nat) : Int := ((2 ^ n : Nat) : Int)
theorem p2_pos (n : Nat) : 1 ≤ p2 n := by
  unfold p2
  have : 0 < 2 ^ n := Nat.pow_pos (by omega)
  omega
theorem p2_succ (n : Nat) : p2 (n + 1) = 2 * p2 n := by
  unfold p2
  rw [Nat.pow_succ]
  omega
theorem p2_add (a b : Nat) : p2 (a + b) = p2 a * p2 b := by
  unfold p2
  rw [Nat.pow_add, Int.natCast_mul]
theorem p2_mono {a b : Nat} (h : a ≤ b) : p2 a ≤ p2 b := by
  unfold p2
  have := Nat.pow_le_pow_right (n := 2) (by omega) h
  omega
theorem p2_16 : p2 16 = 65536 := by decide
theorem shl_p2 (x : Int) (n : Nat) (hn : n ≤ 20) (h0 : 0 ≤ x) (h1 : x ≤ 1000000000) : shl .i64 x (n : Int) = x * p2 n := by
  unfold shl
  have e : min ((n : Int).toNat) IntKind.i64.bits = n := by
    rw [Int.toNat_natCast]
    exact Nat.min_eq_left (by show n ≤ 64; omega)
  rw [e, show (2 : Int) ^ n = p2 n by unfold p2; rw [Int.natCast_pow]; rfl]
  have h2 : p2 n ≤ p2 20 := p2_mono hn
  have h20 : p2 20 = 1048576 := by decide
  have hp := p2_pos n
  have m0 : 0 ≤ x * p2 n := Int.mul_nonneg h0 (by omega)
  have m1 : x * p2 n ≤ 1000000000 * 1048576 := Int.mul_le_mul h1 (by omega) (by omega) (by omega)
  exact (i64_w _).trans (w64 (by omega) (by omega))
theorem shr_p2 (x : Int) (n : Nat) (hn : n ≤ 60) : shr .i64 x (n : Int) = x / p2 n := by
  unfold shr
  have e : min ((n : Int).toNat) IntKind.i64.bits = n := by
    rw [Int.toNat_natCast]
    exact Nat.min_eq_left (by show n ≤ 64; omega)
  rw [e, show (2 : Int) ^ n = p2 n by unfold p2; rw [Int.natCast_pow]; rfl]
end Go.Proofs.Ytcmkijmjafgkfaa.P
namespace Go.Proofs.Ytcmkijmjafgkfaa.P
open Go.RowKit Go.Proofs.YtcmkijmjafgkfaaW.PrintWords Go.Proofs.YtcmkijmjafgkfaaW.PrintLast Go.Proofs.YtcmkijmjafgkfaaW.PrintMore Go.Proofs.Ytcmkijmjafgkfaa.Wp
set_option linter.unusedVariables false
set_option linter.unusedSimpArgs false
def cnStep (l : List Int) (n : Int) (s : List Int × Int) (i : Nat) : List Int × Int := if l.getD i 0 = n then (s.1.set i s.2, s.2 + 1) else s
def cnRow (l : List Int) (n : Int) (s : List Int × Int) : Nat → List Int × Int
  | 0 => s
  | i + 1 => cnStep l n (cnRow l n s i) i
def cnAll (l : List Int) : Nat → List Int × Int
  | 0 => (List.replicate l.length 0, 0)
  | n + 1 => cnRow l ((n : Int) + 1) ((cnAll l n).1, 2 * (cnAll l n).2) l.length
def cnOf (l : List Int) : List Int := (cnAll l 16).1
theorem cnStep_len (l : List Int) (n : Int) (s : List Int × Int) (i : Nat) : (cnStep l n s i).1.length = s.1.length := by
  unfold cnStep
  split <;> simp
theorem cnRow_len (l : List Int) (n : Int) (s : List Int × Int) (i : Nat) : (cnRow l n s i).1.length = s.1.length := by
  induction i with
  | zero => rfl
  | succ i ih => exact (cnStep_len l n _ i).trans ih
theorem cnAll_len (l : List Int) (n : Nat) : (cnAll l n).1.length = l.length := by
  induction n with
  | zero => simp [cnAll]
  | succ n ih => exact (cnRow_len l _ _ _).trans ih
theorem cnOf_len (l : List Int) : (cnOf l).length = l.length := cnAll_len l 16
theorem cnRow_next (l : List Int) (n : Int) (s : List Int × Int) (i : Nat) : s.2 ≤ (cnRow l n s i).2 ∧ (cnRow l n s i).2 ≤ s.2 + i := by
  induction i with
  | zero => exact ⟨Int.le_refl _, by show s.2 ≤ s.2 + ((0 : Nat) : Int); omega⟩
  | succ i ih =>
    have : (cnRow l n s i).2 ≤ (cnStep l n (cnRow l n s i) i).2 ∧ (cnStep l n (cnRow l n s i) i).2 ≤ (cnRow l n s i).2 + 1 := by
      unfold cnStep
      split <;> (try simp only) <;> omega
    show s.2 ≤ (cnStep l n (cnRow l n s i) i).2 ∧ (cnStep l n (cnRow l n s i) i).2 ≤ s.2 + ((i + 1 : Nat) : Int)
    omega
theorem cnAll_next (l : List Int) (hl : l.length ≤ 16) (n : Nat) : 0 ≤ (cnAll l n).2 ∧ (cnAll l n).2 ≤ 16 * p2 n - 16 := by
  induction n with
  | zero => exact ⟨Int.le_refl _, by show (0 : Int) ≤ 16 * p2 0 - 16; decide⟩
  | succ n ih =>
    have h := cnRow_next l ((n : Int) + 1) ((cnAll l n).1, 2 * (cnAll l n).2) l.length
    try simp only at h
    rw [p2_succ]
    show 0 ≤ (cnRow l ((n : Int) + 1) ((cnAll l n).1, 2 * (cnAll l n).2) l.length).2 ∧ _ ≤ _
    constructor
    · omega
    · show (cnRow l ((n : Int) + 1) ((cnAll l n).1, 2 * (cnAll l n).2) l.length).2 ≤ _
      omega
theorem cnAll_small (l : List Int) (hl : l.length ≤ 16) (n : Nat) (hn : n ≤ 16) : 0 ≤ (cnAll l n).2 ∧ (cnAll l n).2 ≤ 1048576 := by
  have h := cnAll_next l hl n
  have := p2_mono hn
  rw [p2_16] at this
  omega
theorem w_sCanon (l : List Int) (hl : l.length ≤ 16) : Wp (fun k => spec_canonicalCodes.f k l) (fun r => r = cnOf l) := by
  unfold spec_canonicalCodes.f
  refine Wp.pos (by omega) (Wp.pos (by omega) ?_)
  have row : ∀ (n : Nat), n < 16 → Wp (fun k => spec_canonicalCodes.l0 k l (cnAll l (n + 1)).1 (cnAll l (n + 1)).2 ((n : Int) + 1 + 1)) (fun r => r = cnOf l) → ∀ d (i : Nat), i + d = l.length →
      Wp (fun k => spec_canonicalCodes.l1 k l (cnRow l ((n : Int) + 1) ((cnAll l n).1, 2 * (cnAll l n).2) i).1 (cnRow l ((n : Int) + 1) ((cnAll l n).1, 2 * (cnAll l n).2) i).2 ((n : Int) + 1) i) (fun r => r = cnOf l) := by
    intro n hn next d
    induction d with
    | zero =>
      intro i hd
      refine Wp.step (fun k => spec_canonicalCodes.l1.eq_2 ..) (Wp.neg (by omega) ?_)
      rw [w64 (x := (n : Int) + 1 + 1) (by omega) (by omega)]
      have : i = l.length := by omega
      subst this
      exact next
    | succ d ih =>
      intro i hd
      have h := ih (i + 1) (by omega)
      have hb := cnRow_next l ((n : Int) + 1) ((cnAll l n).1, 2 * (cnAll l n).2) i
      have hs := cnAll_small l hl n (by omega)
      have hlen := (cnRow_len l ((n : Int) + 1) ((cnAll l n).1, 2 * (cnAll l n).2) i).trans (cnAll_len l n)
      try simp only at hb
      refine Wp.step (fun k => spec_canonicalCodes.l1.eq_2 ..) (Wp.pos (by omega) (Wp.pos (by omega) ?_))
      rw [bl_rd, w64 (x := (i : Int) + 1) (by omega) (by omega), w64 (x := _ + 1) (by omega) (by omega)]
      refine Wp.ite (fun h1 => Wp.pos (by omega) ?_) (fun h1 => ?_)
      · rw [show cnRow l ((n : Int) + 1) ((cnAll l n).1, 2 * (cnAll l n).2) (i + 1) = (((cnRow l ((n : Int) + 1) ((cnAll l n).1, 2 * (cnAll l n).2) i).1.set i (cnRow l ((n : Int) + 1) ((cnAll l n).1, 2 * (cnAll l n).2) i).2), (cnRow l ((n : Int) + 1) ((cnAll l n).1, 2 * (cnAll l n).2) i).2 + 1) from if_pos h1] at h
        exact h
      · rw [show cnRow l ((n : Int) + 1) ((cnAll l n).1, 2 * (cnAll l n).2) (i + 1) = cnRow l ((n : Int) + 1) ((cnAll l n).1, 2 * (cnAll l n).2) i from if_neg h1] at h
        exact h
  have key : ∀ d (n : Nat), n + d = 16 → Wp (fun k => spec_canonicalCodes.l0 k l (cnAll l n).1 (cnAll l n).2 ((n : Int) + 1)) (fun r => r = cnOf l) := by
    intro d
    induction d with
    | zero =>
      intro n hd
      refine Wp.step (fun k => spec_canonicalCodes.l0.eq_2 ..) (Wp.neg (by omega) (Wp.ret ?_))
      have : n = 16 := by omega
      subst this
      rfl
    | succ d ih =>
      intro n hd
      have hs := cnAll_small l hl n (by omega)
      refine Wp.step (fun k => spec_canonicalCodes.l0.eq_2 ..) (Wp.pos (by omega) ?_)
      rw [w64 (x := 2 * _) (by omega) (by omega)]
      exact row n (by omega) (ih (n + 1) (by omega)) l.length 0 (by omega)
  exact key 16 0 (by omega)
def kw (x : Int) : Int := if 0 < x then p2 (16 - x).toNat else 0
def kr (l : List Int) : Int := (l.map kw).sum
theorem kr_take (l : List Int) (i : Nat) (h : i < l.length) : kr (l.take (i + 1)) = kr (l.take i) + kw (l.getD i 0) := by
  unfold kr
  rw [List.take_succ_eq_append_getElem h, List.map_append, List.sum_append]
  simp [List.getD_eq_getElem?_getD, List.getElem?_eq_getElem h]
theorem kw_range (x : Int) (h : 0 ≤ x) : 0 ≤ kw x ∧ kw x ≤ 65536 := by
  unfold kw
  split
  · have h1 := p2_pos (16 - x).toNat
    have h2 := p2_mono (show (16 - x).toNat ≤ 16 by omega)
    rw [p2_16] at h2
    omega
  · omega
theorem kr_range (l : List Int) (h : ∀ x ∈ l, 0 ≤ x) : 0 ≤ kr l ∧ kr l ≤ 65536 * l.length := by
  induction l with
  | nil => exact ⟨Int.le_refl _, by simp [kr]⟩
  | cons x l ih =>
    have h1 := kw_range x (h x (List.mem_cons_self ..))
    have h2 := ih fun y hy => h y (List.mem_cons_of_mem _ hy)
    have e : kr (x :: l) = kw x + kr l := by simp [kr]
    rw [e, List.length_cons]
    omega
def all16 (l : List Int) : Bool := l.all fun n => decide (0 ≤ n ∧ n ≤ 16)
theorem all16_mem {l : List Int} (h : all16 l = true) : ∀ x ∈ l, 0 ≤ x ∧ x ≤ 16 := fun x hx => of_decide_eq_true (List.all_eq_true.1 h x hx)
theorem all16_get {l : List Int} (h : all16 l = true) (i : Nat) : 0 ≤ l.getD i 0 ∧ l.getD i 0 ≤ 16 := by
  rcases Nat.lt_or_ge i l.length with hi | hi
  · have := all16_mem h l[i] (List.getElem_mem hi)
    simpa [List.getD_eq_getElem?_getD, List.getElem?_eq_getElem hi] using this
  · simp [List.getD_eq_getElem?_getD, List.getElem?_eq_none hi]
def VL (l : List Int) : Prop := (1 ≤ l.length ∧ l.length ≤ 16) ∧ all16 l = true ∧ kr l ≤ 65536
instance (l : List Int) : Decidable (VL l) := inferInstanceAs (Decidable (_ ∧ _ ∧ _))
theorem w_kraft (l : List Int) (hl : l.length ≤ 16) (ha : all16 l = true) : Wp (fun k => spec_kraft.f k l) (fun r => r = kr l) := by
  unfold spec_kraft.f
  have key : ∀ d (i : Nat), i + d = l.length → Wp (fun k => spec_kraft.l0 k l (kr (l.take i)) i) (fun r => r = kr l) := by
    intro d
    induction d with
    | zero =>
      intro i hd
      refine Wp.step (fun k => spec_kraft.l0.eq_2 ..) (Wp.neg (by omega) (Wp.ret ?_))
      rw [List.take_of_length_le (by omega)]
    | succ d ih =>
      intro i hd
      have h := ih (i + 1) (by omega)
      have hr := all16_get ha i
      have hk := kr_range (l.take i) fun x hx => (all16_mem ha x (List.mem_of_mem_take hx)).1
      rw [List.length_take] at hk
      rw [kr_take l i (by omega)] at h
      refine Wp.step (fun k => spec_kraft.l0.eq_2 ..) (Wp.pos (by omega) (Wp.pos (by omega) ?_))
      rw [bl_rd, w64 (x := (i : Int) + 1) (by omega) (by omega), w64 (x := 16 - _) (by omega) (by omega)]
      have hkw := kw_range (l.getD i 0) hr.1
      refine Wp.ite (fun h1 => Wp.pos (by omega) ?_) (fun h1 => ?_)
      · have e : shl .i64 1 (16 - l.getD i 0) = kw (l.getD i 0) := by
          have := shl_p2 1 (16 - l.getD i 0).toNat (by omega) (by omega) (by omega)
          rw [Int.toNat_of_nonneg (by omega), Int.one_mul] at this
          rw [this]
          unfold kw
          rw [if_pos h1]
        rw [e, w64 (x := kr (l.take i) + _) (by omega) (by omega)]
        exact h
      · rw [show kw (l.getD i 0) = 0 from if_neg h1, Int.add_zero] at h
        exact h
  exact key l.length 0 (by omega)
theorem w_validLengths (l : List Int) (hl : l.length ≤ 1000000000) : Wp (fun k => spec_validLengths.f k l) (fun r => r = decide (VL l)) := by
  unfold spec_validLengths.f
  refine Wp.call (w_inRange0 _ _ _) ?_
  rintro _ rfl
  refine Wp.ite (fun h => ?_) (fun h => Wp.ret (decide_eq_false fun e => h (decide_eq_true ⟨by have := e.1.1; omega, by have := e.1.2; omega⟩)).symm)
  have h := of_decide_eq_true h
  refine Wp.call (w_allIn l 0 16 hl) ?_
  rintro _ rfl
  refine Wp.ite (fun ha => ?_) (fun ha => Wp.ret (decide_eq_false fun e => ha e.2.1).symm)
  refine Wp.call (w_kraft l (by omega) ha) ?_
  rintro _ rfl
  refine Wp.ret ?_
  by_cases hk : kr l ≤ 65536
  · rw [decide_eq_true hk, decide_eq_true (show VL l from ⟨by omega, ha, hk⟩)]
  · rw [decide_eq_false hk, decide_eq_false (show ¬ VL l from fun e => hk e.2.2)]
theorem w_canonical (l : List Int) (hl : l.length ≤ 1000000000) : Wp (fun k => impl_canonical.f k l) (fun r => r = if VL l then (cnOf l, true) else ([], false)) := by
  unfold impl_canonical.f
  have bad : ¬ VL l → Wp (fun k => impl_canonical.j0 k l true) (fun r => r = if VL l then (cnOf l, true) else ([], false)) := fun h =>
    Wp.step (fun k => impl_canonical.j0.eq_2 ..) (Wp.pos rfl (Wp.ret (if_neg h).symm))
  refine Wp.ite (fun h => bad fun e => by have := e.1.1; omega) (fun h0 => ?_)
  refine Wp.ite (fun h => bad fun e => by have := e.1.2; omega) (fun h1 => ?_)
  refine Wp.call (w_min l hl (by omega)) ?_
  rintro a ⟨ha, ha'⟩
  refine Wp.ite (fun h => bad fun e => by have := (all16_mem e.2.1 a ha).1; omega) (fun h2 => ?_)
  refine Wp.call (w_max l hl (by omega)) ?_
  rintro b ⟨hb, hb'⟩
  by_cases hb16 : b > 16
  · rw [decide_eq_true hb16]
    exact bad fun e => by have := (all16_mem e.2.1 b hb).2; omega
  · rw [decide_eq_false hb16]
    have h16 : all16 l = true := List.all_eq_true.2 fun x hx => decide_eq_true ⟨by have := ha' x hx; omega, by have := hb' x hx; omega⟩
    refine Wp.step (fun k => impl_canonical.j0.eq_2 ..) (Wp.neg (by decide) ?_)
    have fin : Wp (fun k => impl_canonical.l0 k l (kr l) l l.length (l.length : Nat)) (fun r => r = if VL l then (cnOf l, true) else ([], false)) := by
      refine Wp.step (fun k => impl_canonical.l0.eq_2 ..) (Wp.neg (by omega) ?_)
      refine Wp.ite (fun hk => Wp.ret (if_neg fun e => by have := e.2.2; omega).symm) (fun hk => ?_)
      rw [if_pos (show VL l from ⟨by omega, h16, by omega⟩)]
      refine Wp.pos (by omega) (Wp.pos (by omega) ?_)
      have row : ∀ (n : Nat), n < 16 → Wp (fun k => impl_canonical.l1 k l (cnAll l (n + 1)).1 (cnAll l (n + 1)).2 ((n : Int) + 1 + 1)) (fun r => r = (cnOf l, true)) → ∀ d (i : Nat), i + d = l.length →
          Wp (fun k => impl_canonical.l2 k l (cnRow l ((n : Int) + 1) ((cnAll l n).1, 2 * (cnAll l n).2) i).1 (cnRow l ((n : Int) + 1) ((cnAll l n).1, 2 * (cnAll l n).2) i).2 ((n : Int) + 1) l l.length i) (fun r => r = (cnOf l, true)) := by
        intro n hn next d
        induction d with
        | zero =>
          intro i hd
          refine Wp.step (fun k => impl_canonical.l2.eq_2 ..) (Wp.neg (by omega) ?_)
          rw [w64 (x := (n : Int) + 1 + 1) (by omega) (by omega)]
          have : i = l.length := by omega
          subst this
          exact next
        | succ d ih =>
          intro i hd
          have h := ih (i + 1) (by omega)
          have hb := cnRow_next l ((n : Int) + 1) ((cnAll l n).1, 2 * (cnAll l n).2) i
          have hs := cnAll_small l (by omega) n (by omega)
          have hlen := (cnRow_len l ((n : Int) + 1) ((cnAll l n).1, 2 * (cnAll l n).2) i).trans (cnAll_len l n)
          try simp only at hb
          refine Wp.step (fun k => impl_canonical.l2.eq_2 ..) (Wp.pos (by omega) (Wp.pos (by omega) (Wp.pos (by omega) ?_)))
          rw [bl_rd, w64 (x := (i : Int) + 1) (by omega) (by omega), w64 (x := _ + 1) (by omega) (by omega)]
          refine Wp.ite (fun h1 => Wp.pos (by omega) ?_) (fun h1 => ?_)
          · rw [show cnRow l ((n : Int) + 1) ((cnAll l n).1, 2 * (cnAll l n).2) (i + 1) = (((cnRow l ((n : Int) + 1) ((cnAll l n).1, 2 * (cnAll l n).2) i).1.set i (cnRow l ((n : Int) + 1) ((cnAll l n).1, 2 * (cnAll l n).2) i).2), (cnRow l ((n : Int) + 1) ((cnAll l n).1, 2 * (cnAll l n).2) i).2 + 1) from if_pos h1] at h
            exact h
          · rw [show cnRow l ((n : Int) + 1) ((cnAll l n).1, 2 * (cnAll l n).2) (i + 1) = cnRow l ((n : Int) + 1) ((cnAll l n).1, 2 * (cnAll l n).2) i from if_neg h1] at h
            exact h
      have key : ∀ d (n : Nat), n + d = 16 → Wp (fun k => impl_canonical.l1 k l (cnAll l n).1 (cnAll l n).2 ((n : Int) + 1)) (fun r => r = (cnOf l, true)) := by
        intro d
        induction d with
        | zero =>
          intro n hd
          refine Wp.step (fun k => impl_canonical.l1.eq_2 ..) (Wp.neg (by omega) (Wp.ret ?_))
          have : n = 16 := by omega
          subst this
          rfl
        | succ d ih =>
          intro n hd
          have hs := cnAll_small l (by omega) n (by omega)
          refine Wp.step (fun k => impl_canonical.l1.eq_2 ..) (Wp.pos (by omega) ?_)
          rw [Int.mul_comm _ 2, w64 (x := 2 * _) (by omega) (by omega)]
          exact row n (by omega) (ih (n + 1) (by omega)) l.length 0 (by omega)
      exact key 16 0 (by omega)
    have key : ∀ d (i : Nat), i + d = l.length → Wp (fun k => impl_canonical.l0 k l (kr (l.take i)) l l.length i) (fun r => r = if VL l then (cnOf l, true) else ([], false)) := by
      intro d
      induction d with
      | zero =>
        intro i hd
        have : i = l.length := by omega
        subst this
        rw [List.take_length]
        exact fin
      | succ d ih =>
        intro i hd
        have h := ih (i + 1) (by omega)
        have hr := all16_get h16 i
        have hk := kr_range (l.take i) fun x hx => (all16_mem h16 x (List.mem_of_mem_take hx)).1
        rw [List.length_take] at hk
        rw [kr_take l i (by omega)] at h
        refine Wp.step (fun k => impl_canonical.l0.eq_2 ..) (Wp.pos (by omega) (Wp.pos (by omega) (Wp.pos (by omega) ?_)))
        rw [bl_rd, w64 (x := (i : Int) + 1) (by omega) (by omega), w64 (x := 16 - _) (by omega) (by omega)]
        have hkw := kw_range (l.getD i 0) hr.1
        refine Wp.ite (fun h1 => Wp.pos (by omega) ?_) (fun h1 => ?_)
        · have e : shl .i64 1 (16 - l.getD i 0) = kw (l.getD i 0) := by
            have := shl_p2 1 (16 - l.getD i 0).toNat (by omega) (by omega) (by omega)
            rw [Int.toNat_of_nonneg (by omega), Int.one_mul] at this
            rw [this]
            unfold kw
            rw [if_pos h1]
          rw [e, w64 (x := kr (l.take i) + _) (by omega) (by omega)]
          exact h
        · rw [show kw (l.getD i 0) = 0 from if_neg h1, Int.add_zero] at h
          exact h
    exact key l.length 0 (by omega)
end Go.Proofs.Ytcmkijmjafgkfaa.P
namespace Go.Proofs.Ytcmkijmjafgkfaa.P
open Go.RowKit Go.Proofs.YtcmkijmjafgkfaaW.PrintWords Go.Proofs.YtcmkijmjafgkfaaW.PrintLast Go.Proofs.YtcmkijmjafgkfaaW.PrintMore Go.Proofs.Ytcmkijmjafgkfaa.Wp
set_option linter.unusedVariables false
set_option linter.unusedSimpArgs false
def CnOk (c : List Int) : Prop := ∀ x ∈ c, 0 ≤ x ∧ x ≤ 1048592
theorem cnRow_ok (l : List Int) (n : Int) (s : List Int × Int) (i : Nat) (hi : i ≤ 16) (h : CnOk s.1) (h0 : 0 ≤ s.2) (h1 : s.2 ≤ 1048576) : CnOk (cnRow l n s i).1 := by
  induction i with
  | zero => exact h
  | succ i ih =>
    have hb := cnRow_next l n s i
    show CnOk (cnStep l n (cnRow l n s i) i).1
    unfold cnStep
    split
    · intro x hx
      rcases List.mem_or_eq_of_mem_set hx with h2 | h2
      · exact ih (by omega) x h2
      · rw [h2]; omega
    · exact ih (by omega)
theorem cnAll_ok (l : List Int) (hl : l.length ≤ 16) (n : Nat) (hn : n ≤ 16) : CnOk (cnAll l n).1 := by
  induction n with
  | zero => intro x hx; rw [List.eq_of_mem_replicate hx]; omega
  | succ n ih =>
    have h1 := cnAll_next l hl n
    have h2 := p2_mono (show n ≤ 15 by omega)
    have h3 : p2 15 = 32768 := by decide
    exact cnRow_ok l _ _ _ hl (ih (by omega)) (by show 0 ≤ 2 * (cnAll l n).2; omega) (by show 2 * (cnAll l n).2 ≤ 1048576; omega)
theorem cnOf_get (l : List Int) (hl : l.length ≤ 16) (i : Nat) : 0 ≤ (cnOf l).getD i 0 ∧ (cnOf l).getD i 0 ≤ 1048592 := by
  rcases Nat.lt_or_ge i (cnOf l).length with h | h
  · have := cnAll_ok l hl 16 (by omega) _ (List.getElem_mem h)
    simpa [List.getD_eq_getElem?_getD, List.getElem?_eq_getElem h] using this
  · simp [List.getD_eq_getElem?_getD, List.getElem?_eq_none h]
def digs (c : Int) : Nat → List Int
  | 0 => []
  | n + 1 => (48 + c / p2 n % 2) :: digs c n
theorem digs_len (c : Int) (n : Nat) : (digs c n).length = n := by
  induction n with
  | zero => rfl
  | succ n ih => simp [digs, ih]
theorem and_one (x : Int) (h0 : 0 ≤ x) (h1 : x ≤ 1000000000000) : Go.bits .and .i64 x 1 = x % 2 := by
  obtain ⟨a, rfl⟩ := Int.eq_ofNat_of_zero_le h0
  have ha' : a % 2 ^ 64 = a := Nat.mod_eq_of_lt (by omega)
  have hc : a &&& 1 = a % 2 := Nat.and_one_is_mod a
  have hw : IntKind.i64.wrap ((a &&& 1 : Nat) : Int) = ((a &&& 1 : Nat) : Int) := by
    have h64 : IntKind.i64.wrap ((a &&& 1 : Nat) : Int) = wrap64 ((a &&& 1 : Nat) : Int) := i64_w _
    rw [h64, w64 (by omega) (by omega)]
  have he : Go.bits .and .i64 (a : Int) ((1 : Nat) : Int) = ((a &&& 1 : Nat) : Int) := by
    have hbits : IntKind.i64.bits = 64 := rfl
    simp only [Go.bits, BitVec.ofInt_natCast, BitVec.toNat_and, BitVec.toNat_ofNat, hbits, ha', show 1 % 2 ^ 64 = 1 from rfl, hw]
  show Go.bits .and .i64 (a : Int) ((1 : Nat) : Int) = _
  rw [he, hc]
  omega
theorem half_range (c : Int) (n : Nat) (h0 : 0 ≤ c) (h1 : c ≤ 1048592) : 0 ≤ c / p2 n ∧ c / p2 n ≤ 1048592 := by
  have hp := p2_pos n
  exact ⟨Int.ediv_nonneg h0 (by omega), Int.le_trans (Int.ediv_le_self _ h0) h1⟩
theorem w_digits (c : Int) (n : Nat) (hn : n ≤ 16) (h0 : 0 ≤ c) (h1 : c ≤ 1048592) : Wp (fun k => spec_digits.f k c n) (fun r => r = strOfNums (digs c n)) := by
  unfold spec_digits.f
  have key : ∀ (n : Nat) (a : List Int), n ≤ 16 → a.length ≤ 1000 - n → Wp (fun k => spec_digits.l0 k c a ((n : Int) - 1)) (fun r => r = strOfNums (a ++ digs c n)) := by
    intro n
    induction n with
    | zero =>
      intro a _ _
      refine Wp.step (fun k => spec_digits.l0.eq_2 ..) (Wp.neg (by omega) (Wp.ret ?_))
      simp [digs]
    | succ n ih =>
      intro a hn ha
      have h := ih (a ++ [48 + c / p2 n % 2]) (by omega) (by rw [List.length_append]; simp; omega)
      rw [List.append_assoc] at h
      have hr := half_range c n h0 h1
      refine Wp.step (fun k => spec_digits.l0.eq_2 ..) (Wp.pos (by omega) (Wp.pos (by omega) (Wp.pos (by omega) ?_)))
      rw [show ((n + 1 : Nat) : Int) - 1 = (n : Int) by omega, w64 (x := (n : Int) - 1) (by omega) (by omega), shr_p2 c n (by omega), Int.tmod_eq_emod_of_nonneg hr.1, w64 (x := 48 + _) (by omega) (by omega),
        show (48 + c / p2 n % 2) % 256 = 48 + c / p2 n % 2 by omega]
      exact h
  rw [w64 (x := (n : Int) - 1) (by omega) (by omega)]
  exact key n [] hn (by simp)
def NoSym (l : List Int) (s : Int) : Prop := s < 0 ∨ (l.length : Int) ≤ s ∨ l.getD s.toNat 0 = 0
instance (l : List Int) (s : Int) : Decidable (NoSym l s) := inferInstanceAs (Decidable (_ ∨ _ ∨ _))
def encL (l c : List Int) : List Int → Option (List Int)
  | [] => some []
  | s :: x => if NoSym l s then none else (encL l c x).map fun y => digs (c.getD s.toNat 0) (l.getD s.toNat 0).toNat ++ y
def encR (a : List Int) : Option (List Int) → ByteArray × Bool
  | none => (⟨#[]⟩, false)
  | some y => (strOfNums (a ++ y), true)
def encAll (x l : List Int) : ByteArray × Bool := if VL l ∧ x.length ≤ 1200 then encR [] (encL l (cnOf l) x) else (⟨#[]⟩, false)
theorem encL_drop (l c x : List Int) (i : Nat) (h : i < x.length) : encL l c (x.drop i) = if NoSym l (x.getD i 0) then none else (encL l c (x.drop (i + 1))).map fun y => digs (c.getD (x.getD i 0).toNat 0) (l.getD (x.getD i 0).toNat 0).toNat ++ y := by
  rw [List.drop_eq_getElem_cons h]
  simp [encL, List.getD_eq_getElem?_getD, List.getElem?_eq_getElem h]
theorem encR_map (a d : List Int) (o : Option (List Int)) : encR a (o.map fun y => d ++ y) = encR (a ++ d) o := by
  cases o <;> simp [encR]
theorem str_append (a b : List Int) : strOfNums (a ++ b) = strOfNums a ++ strOfNums b := by
  apply ByteArray.ext
  simp [strOfNums]
theorem w_sEncode (x l : List Int) (hl : l.length ≤ 1000000000) (hx : x.length ≤ 1000000000) : Wp (fun k => spec_EncodeSymbols.f k x l) (fun r => r = encAll x l) := by
  unfold spec_EncodeSymbols.f
  refine Wp.call (w_validLengths l hl) ?_
  rintro _ rfl
  have bad : ¬ (VL l ∧ x.length ≤ 1200) → Wp (fun _ => some ((⟨#[]⟩ : ByteArray), false)) (fun r => r = encAll x l) := fun h => Wp.ret (if_neg h).symm
  refine Wp.ite (fun h => ?_) (fun h => bad fun e => h (decide_eq_true e.1))
  have hV := of_decide_eq_true h
  refine Wp.ite (fun h2 => bad fun e => by omega) (fun h2 => ?_)
  ·
    unfold encAll
    rw [if_pos ⟨hV, by omega⟩]
    unfold spec_encodeSymbols.f
    refine Wp.call (Q := fun r => r = encR [] (encL l (cnOf l) x)) ?_ (by rintro _ rfl; exact Wp.ret rfl)
    refine Wp.call (w_sCanon l hV.1.2) ?_
    rintro _ rfl
    have hcl := cnOf_len l
    have hl16 := hV.1.2
    have key : ∀ d (i : Nat) (a : List Int), i + d = x.length → a.length ≤ 16 * i → Wp (fun k => spec_encodeSymbols.l0 k x l (strOfNums a) (cnOf l) i) (fun r => r = encR a (encL l (cnOf l) (x.drop i))) := by
      intro d
      induction d with
      | zero =>
        intro i a hd ha
        refine Wp.step (fun k => spec_encodeSymbols.l0.eq_2 ..) (Wp.neg (by omega) (Wp.ret ?_))
        rw [List.drop_of_length_le (by omega)]
        simp [encL, encR]
      | succ d ih =>
        intro i a hd ha
        refine Wp.step (fun k => spec_encodeSymbols.l0.eq_2 ..) (Wp.pos (by omega) (Wp.pos (by omega) ?_))
        refine Wp.call (w_inRange0 _ _ _) ?_
        rintro _ rfl
        rw [bl_rd, encL_drop l _ x i (by omega), w64 (x := (l.length : Int) - 1) (by omega) (by omega)]
        generalize x.getD i 0 = s
        refine Wp.ite (fun h => ?_) (fun h => Wp.ret ?_)
        · have h := of_decide_eq_true h
          obtain ⟨s, rfl⟩ := Int.eq_ofNat_of_zero_le h.1
          rw [bl_rd, bl_rd, Int.toNat_natCast]
          have hr := all16_get hV.2.1 s
          have hc := cnOf_get l hl16 s
          refine Wp.pos (by omega) (Wp.pos (by omega) (Wp.ite (fun h3 => Wp.ret ?_) (fun h3 => Wp.pos (by omega) ?_)))
          · rw [if_pos (show NoSym l s from .inr (.inr (by rw [Int.toNat_natCast]; exact h3)))]
            rfl
          · have hd2 := w_digits ((cnOf l).getD s 0) (l.getD s 0).toNat (by omega) hc.1 hc.2
            rw [Int.toNat_of_nonneg hr.1] at hd2
            refine Wp.call hd2 ?_
            rintro _ rfl
            have hdl := digs_len ((cnOf l).getD s 0) (l.getD s 0).toNat
            refine Wp.pos (by rw [strOfNums_size, strOfNums_size]; omega) ?_
            have hns : ¬ NoSym l s := by
              rintro (e | e | e)
              · omega
              · omega
              · rw [Int.toNat_natCast] at e; exact h3 e
            rw [if_neg hns, encR_map, ← str_append, w64 (x := (i : Int) + 1) (by omega) (by omega)]
            exact ih (i + 1) _ (by omega) (by rw [List.length_append]; omega)
        · rw [if_pos (show NoSym l s from ?_)]
          · rfl
          · rcases Decidable.em (0 ≤ s) with e | e
            · exact .inr (.inl (by have h : ¬ (0 ≤ s ∧ s ≤ (l.length : Int) - 1) := fun e => h (decide_eq_true e)
                                   omega))
            · exact .inl (by omega)
    have := key x.length 0 [] (by omega) (by simp)
    exact this
theorem w_iEncode (x l : List Int) (hl : l.length ≤ 1000000000) (hx : x.length ≤ 1000000000) : Wp (fun k => impl_EncodeSymbols.f k x l) (fun r => r = encAll x l) := by
  unfold impl_EncodeSymbols.f
  refine Wp.call (w_canonical l hl) ?_
  rintro _ rfl
  have bad : ∀ c, ¬ (VL l ∧ x.length ≤ 1200) → Wp (fun k => impl_EncodeSymbols.j0 k x l c true) (fun r => r = encAll x l) := fun c h =>
    Wp.step (fun k => impl_EncodeSymbols.j0.eq_2 ..) (Wp.pos rfl (Wp.ret (if_neg h).symm))
  by_cases hV : VL l
  · rw [if_pos hV]
    refine Wp.pos rfl ?_
    by_cases h2 : (x.length : Int) > 1200
    · rw [decide_eq_true h2]
      exact bad _ fun e => by omega
    · rw [decide_eq_false h2]
      refine Wp.step (fun k => impl_EncodeSymbols.j0.eq_2 ..) (Wp.neg (by decide) ?_)
      unfold encAll
      rw [if_pos ⟨hV, by omega⟩]
      have hcl := cnOf_len l
      have hl16 := hV.1.2
      have key : ∀ d (i : Nat) (a : List Int), i + d = x.length → a.length ≤ 16 * i → Wp (fun k => impl_EncodeSymbols.l0 k l (cnOf l) a x x.length i) (fun r => r = encR a (encL l (cnOf l) (x.drop i))) := by
        intro d
        induction d with
        | zero =>
          intro i a hd ha
          refine Wp.step (fun k => impl_EncodeSymbols.l0.eq_2 ..) (Wp.neg (by omega) (Wp.ret ?_))
          rw [List.drop_of_length_le (by omega)]
          simp [encL, encR]
        | succ d ih =>
          intro i a hd ha
          refine Wp.step (fun k => impl_EncodeSymbols.l0.eq_2 ..) (Wp.pos (by omega) (Wp.pos (by omega) (Wp.pos (by omega) ?_)))
          rw [bl_rd, encL_drop l _ x i (by omega)]
          generalize x.getD i 0 = s
          have no : NoSym l s → Wp (fun k => impl_EncodeSymbols.j2 k l (cnOf l) a s x x.length i true) (fun r => r = encR a (if NoSym l s then none else (encL l (cnOf l) (x.drop (i + 1))).map fun y => digs ((cnOf l).getD s.toNat 0) (l.getD s.toNat 0).toNat ++ y)) := fun h =>
            Wp.step (fun k => impl_EncodeSymbols.j2.eq_2 ..) (Wp.pos rfl (Wp.ret (by rw [if_pos h]; rfl)))
          refine Wp.ite (fun h => no (.inl h)) (fun h0 => Wp.ite (fun h => no (.inr (.inl h))) (fun h1 => Wp.pos (by omega) (Wp.pos (by omega) ?_)))
          obtain ⟨s, rfl⟩ := Int.eq_ofNat_of_zero_le (show 0 ≤ s by omega)
          rw [bl_rd]
          by_cases h3 : l.getD s 0 = 0
          · rw [h3]
            exact no (.inr (.inr (by rw [Int.toNat_natCast]; exact h3)))
          · rw [show (l.getD s 0 == 0) = false from beq_eq_false_iff_ne.2 h3]
            have hns : ¬ NoSym l s := by
              rintro (e | e | e)
              · omega
              · omega
              · rw [Int.toNat_natCast] at e; exact h3 e
            rw [if_neg hns, encR_map, Int.toNat_natCast]
            have hr := all16_get hV.2.1 s
            have hc := cnOf_get l hl16 s
            refine Wp.step (fun k => impl_EncodeSymbols.j2.eq_2 ..) (Wp.neg (by decide) (Wp.pos (by omega) (Wp.pos (by omega) ?_)))
            rw [bl_rd, w64 (x := l.getD s 0 - 1) (by omega) (by omega)]
            have bits : ∀ (n : Nat) (b : List Int), n ≤ 16 → b.length ≤ 100000 - n → Wp (fun k => impl_EncodeSymbols.l0 k l (cnOf l) (b ++ digs ((cnOf l).getD s 0) n) x x.length ((i + 1 : Nat) : Int)) (fun r => r = encR (a ++ digs ((cnOf l).getD s 0) (l.getD s 0).toNat) (encL l (cnOf l) (x.drop (i + 1)))) →
                Wp (fun k => impl_EncodeSymbols.l1 k l (cnOf l) b s ((n : Int) - 1) x x.length i) (fun r => r = encR (a ++ digs ((cnOf l).getD s 0) (l.getD s 0).toNat) (encL l (cnOf l) (x.drop (i + 1)))) := by
              intro n
              induction n with
              | zero =>
                intro b _ _ hb
                refine Wp.step (fun k => impl_EncodeSymbols.l1.eq_2 ..) (Wp.neg (by omega) ?_)
                rw [w64 (x := (i : Int) + 1) (by omega) (by omega)]
                rw [show b ++ digs ((cnOf l).getD s 0) 0 = b from List.append_nil _] at hb
                exact hb
              | succ n ihn =>
                intro b hn hbl hb
                have hq := half_range ((cnOf l).getD s 0) n hc.1 hc.2
                refine Wp.step (fun k => impl_EncodeSymbols.l1.eq_2 ..) (Wp.pos (by omega) (Wp.pos (by omega) (Wp.pos (by omega) (Wp.pos (by omega) (Wp.pos (by omega) ?_)))))
                rw [show ((n + 1 : Nat) : Int) - 1 = (n : Int) by omega, w64 (x := (n : Int) - 1) (by omega) (by omega), bl_rd, shr_p2 _ n (by omega), and_one _ hq.1 (by omega), w64 (x := 48 + _) (by omega) (by omega),
                  show (48 + (cnOf l).getD s 0 / p2 n % 2) % 256 = 48 + (cnOf l).getD s 0 / p2 n % 2 by omega]
                refine ihn _ (by omega) (by rw [List.length_append]; simp; omega) ?_
                rw [List.append_assoc]
                exact hb
            have hdl := digs_len ((cnOf l).getD s 0) (l.getD s 0).toNat
            have := bits (l.getD s 0).toNat a (by omega) (by omega) (ih (i + 1) _ (by omega) (by rw [List.length_append]; omega))
            rw [Int.toNat_of_nonneg hr.1] at this
            exact this
      have := key x.length 0 [] (by omega) (by simp)
      exact this
  · rw [if_neg hV]
    exact Wp.neg (by decide) (bad _ fun e => hV e.1)
end Go.Proofs.Ytcmkijmjafgkfaa.P
namespace Go.Proofs.Ytcmkijmjafgkfaa.P
open Go.RowKit Go.Proofs.YtcmkijmjafgkfaaW.PrintWords Go.Proofs.YtcmkijmjafgkfaaW.PrintLast Go.Proofs.YtcmkijmjafgkfaaW.PrintMore Go.Proofs.Ytcmkijmjafgkfaa.Wp
set_option linter.unusedVariables false
set_option linter.unusedSimpArgs false
def Proc (l : List Int) (n : Int) (i a : Nat) : Prop := a < l.length ∧ 0 < l.getD a 0 ∧ (l.getD a 0 < n ∨ l.getD a 0 = n ∧ a < i)
def Bef (l : List Int) (a b : Nat) : Prop := l.getD a 0 < l.getD b 0 ∨ l.getD a 0 = l.getD b 0 ∧ a < b
def CnInv (l : List Int) (n : Int) (i : Nat) (c : List Int) (x : Int) : Prop :=
  (∀ a, Proc l n i a → (c.getD a 0 + 1) * p2 (n - l.getD a 0).toNat ≤ x) ∧ ∀ a b, Proc l n i a → Proc l n i b → Bef l a b → (c.getD a 0 + 1) * p2 (l.getD b 0 - l.getD a 0).toNat ≤ c.getD b 0
theorem p2_0 : p2 0 = 1 := by decide
theorem CnInv.row {l : List Int} {n : Int} {i : Nat} {s : List Int × Int} (h : CnInv l n i s.1 s.2) (hn : 0 < n) (hl : s.1.length = l.length) (hi : i < l.length) : CnInv l n (i + 1) (cnStep l n s i).1 (cnStep l n s i).2 := by
  obtain ⟨h1, h2⟩ := h
  unfold cnStep
  by_cases e : l.getD i 0 = n
  · rw [if_pos e]
    have old : ∀ a, Proc l n (i + 1) a → a ≠ i → Proc l n i a := fun a ⟨p1, p2, p3⟩ hne => ⟨p1, p2, p3.elim .inl fun p => .inr ⟨p.1, by omega⟩⟩
    have get : ∀ a, (s.1.set i s.2).getD a 0 = if a = i then s.2 else s.1.getD a 0 := fun a => bl_set _ _ (by omega)
    refine ⟨fun a ha => ?_, fun a b ha hb hab => ?_⟩
    · simp only [get]
      by_cases hai : a = i
      · subst hai
        rw [if_pos rfl, e, show (n - n).toNat = 0 by omega, p2_0]
        omega
      · rw [if_neg hai]
        have := h1 a (old a ha hai)
        omega
    · simp only [get]
      by_cases hbi : b = i
      · subst hbi
        by_cases hai : a = b
        · subst hai
          rcases hab with h | h <;> omega
        · rw [if_neg hai, if_pos rfl, e]
          exact h1 a (old a ha hai)
      · by_cases hai : a = i
        · subst hai
          obtain ⟨q1, q2, q3⟩ := hb
          rcases hab with h | h <;> rcases q3 with h' | h' <;> omega
        · rw [if_neg hai, if_neg hbi]
          exact h2 a b (old a ha hai) (old b hb hbi) hab
  · rw [if_neg e]
    have old : ∀ a, Proc l n (i + 1) a → Proc l n i a := fun a ⟨p1, p2, p3⟩ => ⟨p1, p2, p3.elim .inl fun p => .inr ⟨p.1, by
      rcases Nat.lt_or_ge a i with h | h
      · exact h
      · have : a = i := by omega
        subst this
        exact absurd p.1 e⟩⟩
    exact ⟨fun a ha => h1 a (old a ha), fun a b ha hb => h2 a b (old a ha) (old b hb)⟩
theorem cnAll_inv (l : List Int) (n : Nat) : CnInv l n l.length (cnAll l n).1 (cnAll l n).2 := by
  induction n with
  | zero =>
    have no : ∀ a, ¬ Proc l ((0 : Nat) : Int) l.length a := fun a ⟨p1, p2, p3⟩ => by rcases p3 with h | h <;> omega
    exact ⟨fun a ha => absurd ha (no a), fun a b ha => absurd ha (no a)⟩
  | succ n ih =>
    obtain ⟨h1, h2⟩ := ih
    have st : CnInv l ((n : Int) + 1) 0 (cnAll l n).1 (2 * (cnAll l n).2) := by
      have old : ∀ a, Proc l ((n : Int) + 1) 0 a → Proc l n l.length a := fun a ⟨p1, p2, p3⟩ => ⟨p1, p2, by omega⟩
      refine ⟨fun a ha => ?_, fun a b ha hb => h2 a b (old a ha) (old b hb)⟩
      have h := h1 a (old a ha)
      have hlt : l.getD a 0 ≤ n := by have := (old a ha).2.2; omega
      rw [show ((n : Int) + 1 - l.getD a 0).toNat = (n - l.getD a 0).toNat + 1 by omega, p2_succ, Int.mul_left_comm]
      omega
    have go : ∀ i, i ≤ l.length → CnInv l ((n : Int) + 1) i (cnRow l ((n : Int) + 1) ((cnAll l n).1, 2 * (cnAll l n).2) i).1 (cnRow l ((n : Int) + 1) ((cnAll l n).1, 2 * (cnAll l n).2) i).2 := by
      intro i hi
      induction i with
      | zero => exact st
      | succ i ih => exact (ih (by omega)).row (by omega) ((cnRow_len l _ _ i).trans (cnAll_len l n)) (by omega)
    exact go l.length (Nat.le_refl _)
theorem cn_before {l : List Int} (h : all16 l = true) {a b : Nat} (ha : a < l.length) (hb : b < l.length) (h0 : 0 < l.getD a 0) (hab : Bef l a b) : ((cnOf l).getD a 0 + 1) * p2 (l.getD b 0 - l.getD a 0).toNat ≤ (cnOf l).getD b 0 := by
  have r1 := all16_get h a
  have r2 := all16_get h b
  refine (cnAll_inv l 16).2 a b ⟨ha, h0, ?_⟩ ⟨hb, ?_, ?_⟩ hab
  · by_cases e : l.getD a 0 = 16
    · exact .inr ⟨e, ha⟩
    · exact .inl (by show l.getD a 0 < (16 : Int); omega)
  · rcases hab with h | h <;> omega
  · by_cases e : l.getD b 0 = 16
    · exact .inr ⟨e, hb⟩
    · exact .inl (by show l.getD b 0 < (16 : Int); omega)
theorem cn_prefix {l : List Int} (h : all16 l = true) {a b : Nat} (ha : a < l.length) (hb : b < l.length) (h0 : 0 < l.getD a 0) (hne : a ≠ b) (hle : l.getD a 0 ≤ l.getD b 0) : (cnOf l).getD b 0 / p2 (l.getD b 0 - l.getD a 0).toNat ≠ (cnOf l).getD a 0 := by
  by_cases hab : Bef l a b
  · have h1 := cn_before h ha hb h0 hab
    have hp := p2_pos (l.getD b 0 - l.getD a 0).toNat
    have := Int.le_ediv_of_mul_le (by omega) h1
    omega
  · have e : l.getD b 0 = l.getD a 0 := by
      rcases Int.lt_or_le (l.getD a 0) (l.getD b 0) with h | h
      · exact absurd (.inl h) hab
      · omega
    have hlt : b < a := by
      rcases Nat.lt_or_ge b a with h | h
      · exact h
      · exact absurd (.inr ⟨e.symm, by omega⟩) hab
    have h1 := cn_before h hb ha (by omega) (.inr ⟨e, hlt⟩)
    rw [e, show (l.getD a 0 - l.getD a 0).toNat = 0 by omega, p2_0] at h1 ⊢
    rw [Int.ediv_one]
    omega
end Go.Proofs.Ytcmkijmjafgkfaa.P
namespace Go.Proofs.Ytcmkijmjafgkfaa.P
open Go.RowKit Go.Proofs.YtcmkijmjafgkfaaW.PrintWords Go.Proofs.YtcmkijmjafgkfaaW.PrintLast Go.Proofs.YtcmkijmjafgkfaaW.PrintMore Go.Proofs.Ytcmkijmjafgkfaa.Wp
set_option linter.unusedVariables false
def cntE (n : Int) (l : List Int) : Int := (l.map fun x => if x = n then (1 : Int) else 0).sum
def kn (n : Int) (l : List Int) : Int := (l.map fun x => if 0 < x ∧ x ≤ n then p2 (n - x).toNat else 0).sum
theorem cntE_take (n : Int) (l : List Int) (i : Nat) (h : i < l.length) : cntE n (l.take (i + 1)) = cntE n (l.take i) + if l.getD i 0 = n then 1 else 0 := by
  unfold cntE
  rw [List.take_succ_eq_append_getElem h, List.map_append, List.sum_append]
  simp [List.getD_eq_getElem?_getD, List.getElem?_eq_getElem h]
theorem cnRow_two (l : List Int) (n : Int) (s : List Int × Int) : ∀ i, i ≤ l.length → (cnRow l n s i).2 = s.2 + cntE n (l.take i)
  | 0, _ => by simp [cnRow, cntE]
  | i + 1, h => by
    have ih := cnRow_two l n s i (by omega)
    rw [cnRow, cnStep, cntE_take n l i (by omega)]
    split
    · show (cnRow l n s i).2 + 1 = _
      rw [ih]
      omega
    · rw [ih]
      omega
theorem kn_succ (n : Nat) (l : List Int) : kn ((n : Int) + 1) l = 2 * kn n l + cntE ((n : Int) + 1) l := by
  unfold kn cntE
  induction l with
  | nil => rfl
  | cons x l ih =>
    simp only [List.map_cons, List.sum_cons]
    rw [ih]
    by_cases h : 0 < x ∧ x ≤ (n : Int)
    · rw [if_pos (⟨h.1, by omega⟩ : 0 < x ∧ x ≤ (n : Int) + 1), if_pos h, if_neg (by omega), show ((n : Int) + 1 - x).toNat = ((n : Int) - x).toNat + 1 by omega, p2_succ]
      omega
    · by_cases h2 : x = (n : Int) + 1
      · rw [if_pos (by omega : 0 < x ∧ x ≤ (n : Int) + 1), if_neg h, if_pos h2, show ((n : Int) + 1 - x).toNat = 0 by omega, p2_0]
        omega
      · rw [if_neg (by omega : ¬ (0 < x ∧ x ≤ (n : Int) + 1)), if_neg h, if_neg h2]
        omega
theorem cnAll_two (l : List Int) : ∀ n : Nat, (cnAll l n).2 = kn n l
  | 0 => by
    unfold kn
    show (0 : Int) = _
    induction l with
    | nil => rfl
    | cons x l ih =>
      simp only [List.map_cons, List.sum_cons]
      rw [← ih, if_neg (by omega)]
      rfl
  | n + 1 => by
    have ih := cnAll_two l n
    rw [cnAll, cnRow_two l _ _ _ (Nat.le_refl _), List.take_length]
    show 2 * (cnAll l n).2 + _ = _
    rw [ih]
    exact (kn_succ n l).symm
theorem kn16 {l : List Int} (h : all16 l = true) : kn ((16 : Nat) : Int) l = kr l := by
  have hm := all16_mem h
  clear h
  unfold kn kr
  induction l with
  | nil => rfl
  | cons x l ih =>
    simp only [List.map_cons, List.sum_cons]
    rw [ih (fun y hy => hm y (List.mem_cons_of_mem _ hy))]
    have hx := hm x List.mem_cons_self
    unfold kw
    by_cases h0 : 0 < x
    · rw [if_pos h0, if_pos (⟨h0, by omega⟩ : 0 < x ∧ x ≤ ((16 : Nat) : Int))]
      rfl
    · rw [if_neg h0, if_neg (by omega)]
theorem cn_bound {l : List Int} (h : VL l) {a : Nat} (ha : a < l.length) (h0 : 0 < l.getD a 0) : (cnOf l).getD a 0 < p2 (l.getD a 0).toNat := by
  obtain ⟨_, h16, hk⟩ := h
  have hr := all16_get h16 a
  have h1 := (cnAll_inv l 16).1 a ⟨ha, h0, by omega⟩
  rw [cnAll_two, kn16 h16] at h1
  have e : p2 (l.getD a 0).toNat * p2 (((16 : Nat) : Int) - l.getD a 0).toNat = 65536 := by
    rw [← p2_add, show (l.getD a 0).toNat + (((16 : Nat) : Int) - l.getD a 0).toNat = 16 by omega]
    rfl
  have hp := p2_pos (((16 : Nat) : Int) - l.getD a 0).toNat
  have h2 : ((cnOf l).getD a 0 + 1) * p2 (((16 : Nat) : Int) - l.getD a 0).toNat ≤ p2 (l.getD a 0).toNat * p2 (((16 : Nat) : Int) - l.getD a 0).toNat := by
    rw [e]
    exact Int.le_trans h1 hk
  have := Int.le_of_mul_le_mul_right h2 (by omega)
  omega
end Go.Proofs.Ytcmkijmjafgkfaa.P
namespace Go.Proofs.Ytcmkijmjafgkfaa.P
open Go.RowKit Go.Proofs.YtcmkijmjafgkfaaW.PrintWords Go.Proofs.YtcmkijmjafgkfaaW.PrintLast Go.Proofs.YtcmkijmjafgkfaaW.PrintMore Go.Proofs.Ytcmkijmjafgkfaa.Wp
set_option linter.unusedVariables false
set_option linter.unusedSimpArgs false
theorem half_div (x : Int) (q : Nat) : x / 2 / p2 q = x / (2 * p2 q) := Int.ediv_ediv_of_nonneg (by omega)
def cv (s : ByteArray) (i : Nat) : Nat → Int
  | 0 => 0
  | j + 1 => 2 * cv s i j + (bt s ((i + j : Nat) : Int) - 48)
def Bits (s : ByteArray) (i j : Nat) : Prop := ∀ t, t < j → bt s ((i + t : Nat) : Int) = 48 ∨ bt s ((i + t : Nat) : Int) = 49
theorem Bits.le {s : ByteArray} {i j j' : Nat} (h : Bits s i j) (hj : j' ≤ j) : Bits s i j' := fun t ht => h t (by omega)
theorem Bits.succ {s : ByteArray} {i j : Nat} (h : Bits s i j) (hb : bt s ((i + j : Nat) : Int) = 48 ∨ bt s ((i + j : Nat) : Int) = 49) : Bits s i (j + 1) := fun t ht => by
  rcases Nat.lt_or_ge t j with h1 | h1
  · exact h t h1
  · have : t = j := by omega
    subst this
    exact hb
theorem cv_range {s : ByteArray} {i : Nat} : ∀ j, Bits s i j → 0 ≤ cv s i j ∧ cv s i j < p2 j
  | 0, _ => ⟨Int.le_refl _, by rw [p2_0]; exact Int.zero_lt_one⟩
  | j + 1, h => by
    have ih := cv_range j (h.le (Nat.le_succ _))
    have hb := h j (Nat.lt_succ_self _)
    rw [cv, p2_succ]
    omega
theorem cv_div {s : ByteArray} {i a : Nat} : ∀ b, Bits s i (a + b) → cv s i (a + b) / p2 b = cv s i a
  | 0, _ => by rw [p2_0]; exact Int.ediv_one _
  | b + 1, h => by
    have ih := cv_div (s := s) (i := i) (a := a) b (h.le (by omega))
    have hb := h (a + b) (by omega)
    rw [← Nat.add_assoc, cv, p2_succ, ← half_div]
    rw [show (2 * cv s i (a + b) + (bt s ((i + (a + b) : Nat) : Int) - 48)) / 2 = cv s i (a + b) by omega]
    exact ih
theorem digs_bits {s : ByteArray} {i : Nat} : ∀ (m : Nat) (c : Int), 0 ≤ c → c < p2 m → ((∀ j, j < m → bt s ((i + j : Nat) : Int) = (digs c m).getD j 0) ↔ Bits s i m ∧ cv s i m = c)
  | 0, c, h0, h1 => by
    have : c = 0 := by rw [p2_0] at h1; omega
    subst this
    exact ⟨fun _ => ⟨fun t ht => absurd ht (Nat.not_lt_zero _), rfl⟩, fun _ j hj => absurd hj (Nat.not_lt_zero _)⟩
  | m + 1, c, h0, h1 => by
    have hg : ∀ (n : Nat) (c : Int) (j : Nat), j < n → (digs c n).getD j 0 = 48 + c / p2 (n - 1 - j) % 2 := by
      intro n
      induction n with
      | zero => intro c j hj; omega
      | succ n ihn =>
        intro c j hj
        cases j with
        | zero => simp [digs]
        | succ j =>
          rw [digs, List.getD_cons_succ, ihn c j (by omega), show n - 1 - j = n + 1 - 1 - (j + 1) by omega]
    rw [p2_succ] at h1
    have ih := digs_bits (s := s) (i := i) m (c / 2) (by omega) (by omega)
    have hd : ∀ j, j < m → (digs c (m + 1)).getD j 0 = (digs (c / 2) m).getD j 0 := fun j hj => by
      rw [hg _ _ _ (by omega), hg _ _ _ hj, show m + 1 - 1 - j = (m - 1 - j) + 1 by omega, p2_succ, ← half_div]
    have hl : (digs c (m + 1)).getD m 0 = 48 + c % 2 := by
      rw [hg _ _ _ (by omega), show m + 1 - 1 - m = 0 by omega, p2_0, Int.ediv_one]
    constructor
    · intro h
      obtain ⟨h2, h3⟩ := ih.1 (fun j hj => (h j (by omega)).trans (hd j hj))
      have h4 := (h m (by omega)).trans hl
      refine ⟨h2.succ (by omega), ?_⟩
      rw [cv, h3, h4]
      omega
    · rintro ⟨h2, h3⟩
      have hb := h2 m (Nat.lt_succ_self _)
      rw [cv] at h3
      have h4 := ih.2 ⟨h2.le (Nat.le_succ _), by omega⟩
      intro j hj
      rcases Nat.lt_or_ge j m with h5 | h5
      · exact (h4 j h5).trans (hd j h5).symm
      · have : j = m := by omega
        subst this
        rw [hl]
        omega
def Mt (l : List Int) (s : ByteArray) (i n : Nat) : Prop := n < l.length ∧ 0 < l.getD n 0 ∧ i + (l.getD n 0).toNat ≤ s.size ∧ Bits s i (l.getD n 0).toNat ∧ cv s i (l.getD n 0).toNat = (cnOf l).getD n 0
theorem Mt.one {l : List Int} (hV : VL l) {s : ByteArray} {i a b : Nat} (ha : Mt l s i a) (hb : Mt l s i b) : a = b := by
  have key : ∀ a b, Mt l s i a → Mt l s i b → l.getD a 0 ≤ l.getD b 0 → a = b := fun a b ha hb hle => by
    refine Classical.byContradiction fun hne => ?_
    obtain ⟨a1, a2, a3, a4, a5⟩ := ha
    obtain ⟨b1, b2, b3, b4, b5⟩ := hb
    refine cn_prefix hV.2.1 a1 b1 a2 hne hle ?_
    rw [← b5, ← a5]
    have e : (l.getD b 0).toNat = (l.getD a 0).toNat + (l.getD b 0 - l.getD a 0).toNat := by omega
    rw [e]
    exact cv_div _ (by rw [← e]; exact b4)
  rcases Int.le_total (l.getD a 0) (l.getD b 0) with h | h
  · exact key a b ha hb h
  · exact (key b a hb ha h).symm
end Go.Proofs.Ytcmkijmjafgkfaa.P
namespace Go.Proofs.Ytcmkijmjafgkfaa.P
open Go.RowKit Go.Proofs.YtcmkijmjafgkfaaW.PrintWords Go.Proofs.YtcmkijmjafgkfaaW.PrintLast Go.Proofs.YtcmkijmjafgkfaaW.PrintMore Go.Proofs.Ytcmkijmjafgkfaa.Wp
set_option linter.unusedVariables false
set_option linter.unusedSimpArgs false
theorem u8_inj : ∀ {a b : List UInt8}, a.map (fun x => (x.toNat : Int)) = b.map (fun x => (x.toNat : Int)) → a = b
  | [], [], _ => rfl
  | [], _ :: _, h => by simp at h
  | _ :: _, [], h => by simp at h
  | x :: a, y :: b, h => by
    simp only [List.map_cons, List.cons.injEq] at h
    have e : x = y := UInt8.toNat_inj.1 (by have := h.1; omega)
    rw [e, u8_inj h.2]
theorem u8_nums : ∀ {x : List Int}, (∀ y ∈ x, 0 ≤ y ∧ y ≤ 255) → (x.map fun n => UInt8.ofNat n.toNat).map (fun b => (b.toNat : Int)) = x
  | [], _ => rfl
  | y :: x, h => by
    rw [List.map_cons, List.map_cons, u8_nums (fun z hz => h z (List.mem_cons_of_mem _ hz))]
    have hy := h y List.mem_cons_self
    have e : ((UInt8.ofNat y.toNat).toNat : Int) = y := by
      rw [UInt8.toNat_ofNat', Nat.mod_eq_of_lt (by omega)]
      omega
    rw [e]
theorem bt_bytes (s : ByteArray) (i : Nat) : bt s (i : Int) = (bytesOf s).getD i 0 := by
  rw [← rd_bytesOf]
  unfold rd
  rw [Int.toNat_natCast]
theorem cut_eq (s : ByteArray) (a m : Nat) (h : a + m ≤ s.size) (x : List Int) (hx : x.length = m) (hb : ∀ y ∈ x, 0 ≤ y ∧ y ≤ 255) : (s.extract a (a + m)).toList = (strOfNums x).toList ↔ ∀ j, j < m → bt s ((a + j : Nat) : Int) = x.getD j 0 := by
  have e1 : (s.extract a (a + m)).toList.map (fun b => (b.toNat : Int)) = ((bytesOf s).drop a).take m := by
    rw [ByteArray.toList_eq, ByteArray.data_extract, Array.toList_extract]
    unfold bytesOf
    rw [List.extract_eq_take_drop]
    rw [show a + m - a = m by omega, ← List.map_drop, ← List.map_take]
  have e2 : (strOfNums x).toList.map (fun b => (b.toNat : Int)) = x := by
    rw [ByteArray.toList_eq]
    unfold strOfNums
    exact u8_nums hb
  have e3 : (s.extract a (a + m)).toList = (strOfNums x).toList ↔ ((bytesOf s).drop a).take m = x := by
    constructor
    · intro e
      rw [← e1, e, e2]
    · intro e
      exact u8_inj (by rw [e1, e2, e])
  rw [e3]
  have hl : (bytesOf s).length = s.size := bytesOf_length s
  constructor
  · intro e j hj
    rw [bt_bytes, ← e]
    simp only [List.getD_eq_getElem?_getD, List.getElem?_take, if_pos hj, List.getElem?_drop]
  · intro e
    refine List.ext_getElem? fun j => ?_
    rcases Nat.lt_or_ge j m with hj | hj
    · have := e j hj
      rw [bt_bytes] at this
      rw [List.getElem?_take, if_pos hj, List.getElem?_drop, List.getElem?_eq_getElem (by omega), List.getElem?_eq_getElem (by omega)]
      simp only [List.getD_eq_getElem?_getD] at this
      rw [List.getElem?_eq_getElem (by omega), List.getElem?_eq_getElem (by omega)] at this
      simpa using this
    · rw [List.getElem?_eq_none (by rw [List.length_take]; omega), List.getElem?_eq_none (by omega)]
theorem digs_byte (c : Int) : ∀ (n : Nat), ∀ y ∈ digs c n, 0 ≤ y ∧ y ≤ 255
  | 0, y, h => absurd h (List.not_mem_nil)
  | n + 1, y, h => by
    rw [digs] at h
    rcases List.mem_cons.1 h with h | h
    · omega
    · exact digs_byte c n y h
instance (l : List Int) (s : ByteArray) (i n : Nat) : Decidable (Mt l s i n) := by
  unfold Mt Bits
  infer_instance
def fm (l : List Int) (s : ByteArray) (i : Nat) : Option Nat := (List.range l.length).find? fun n => decide (Mt l s i n)
theorem fm_none {l : List Int} {s : ByteArray} {i : Nat} (h : ∀ n, ¬ Mt l s i n) : fm l s i = none := List.find?_eq_none.2 (fun n _ => by simp [h n])
theorem fm_some {l : List Int} (hV : VL l) {s : ByteArray} {i n : Nat} (h : Mt l s i n) : fm l s i = some n := by
  unfold fm
  cases e : (List.range l.length).find? fun n => decide (Mt l s i n) with
  | none => exact absurd (decide_eq_true h) (List.find?_eq_none.1 e n (List.mem_range.2 h.1))
  | some m =>
    have h2 : Mt l s i m := by
      have h3 := List.find?_some e
      simpa using h3
    rw [Mt.one hV h h2]
theorem fm_mt {l : List Int} {s : ByteArray} {i n : Nat} (e : fm l s i = some n) : Mt l s i n := by
  have h3 := List.find?_some e
  simpa using h3
def fmR (l : List Int) (i : Nat) : Option Nat → Int × Int
  | none => (-1, -1)
  | some n => ((n : Int), (i : Int) + l.getD n 0)
theorem w_symbolAt {l : List Int} (hV : VL l) (s : ByteArray) (hs : s.size ≤ 1000000000000) (i : Nat) (hi : i ≤ s.size) : Wp (fun k => spec_symbolAt.f k s i l (cnOf l)) (fun r => r = fmR l i (fm l s i)) := by
  unfold spec_symbolAt.f
  have key : ∀ d (x : Nat), x + d = l.length → (∀ n, n < x → ¬ Mt l s i n) → Wp (fun k => spec_symbolAt.l0 k s i l (cnOf l) x) (fun r => r = fmR l i (fm l s i)) := by
    intro d
    induction d with
    | zero =>
      intro x hd hno
      refine Wp.step (fun k => spec_symbolAt.l0.eq_2 ..) (Wp.neg (by omega) (Wp.ret ?_))
      rw [fm_none (fun n h => hno n (by have := h.1; omega) h)]
      rfl
    | succ d ih =>
      intro x hd hno
      have hr := all16_get hV.2.1 x
      have hgo : ¬ Mt l s i x → Wp (fun k => spec_symbolAt.l0 k s i l (cnOf l) (wrap64 ((x : Int) + 1))) (fun r => r = fmR l i (fm l s i)) := fun h => by
        have h2 := ih (x + 1) (by omega) (fun n hn => by
          rcases Nat.lt_or_ge n x with h3 | h3
          · exact hno n h3
          · have : n = x := by omega
            subst this
            exact h)
        have hl := hV.1.2
        rw [w64 (x := (x : Int) + 1) (by omega) (by omega)]
        exact h2
      refine Wp.step (fun k => spec_symbolAt.l0.eq_2 ..) (Wp.pos (by omega) (Wp.pos (by omega) ?_))
      rw [bl_rd, bl_rd]
      refine Wp.ite (fun h1 => ?_) (fun h1 => hgo (fun h => h1 h.2.1))
      rw [w64 (x := (s.size : Int) - i) (by omega) (by omega)]
      refine Wp.ite (fun h2 => ?_) (fun h2 => hgo (fun h => by have := h.2.2.1; omega))
      rw [w64 (x := (i : Int) + l.getD x 0) (by omega) (by omega)]
      refine Wp.pos (by omega) (Wp.pos (by omega) (Wp.pos (by omega) (Wp.pos (by rw [cnOf_len]; omega) ?_)))
      have hc := cnOf_get l hV.1.2 x
      have hb := cn_bound hV (show x < l.length by omega) (by omega)
      refine Wp.call (by have h := w_digits ((cnOf l).getD x 0) (l.getD x 0).toNat (by omega) hc.1 hc.2; rw [Int.toNat_of_nonneg (by omega)] at h; exact h) ?_
      rintro _ rfl
      have e0 : ((i : Int) + l.getD x 0).toNat = i + (l.getD x 0).toNat := by omega
      have hcut := cut_eq s i (l.getD x 0).toNat (by omega) (digs ((cnOf l).getD x 0) (l.getD x 0).toNat) (digs_len _ _) (digs_byte _ _)
      have hdb := digs_bits (s := s) (i := i) (l.getD x 0).toNat ((cnOf l).getD x 0) hc.1 hb
      rw [e0, Int.toNat_natCast]
      refine Wp.ite (fun h3 => Wp.ret ?_) (fun h3 => hgo (fun h => h3 (hcut.2 (hdb.2 ⟨h.2.2.2.1, h.2.2.2.2⟩))))
      have h4 := hdb.1 (hcut.1 h3)
      rw [fm_some hV (⟨by omega, h1, by omega, h4.1, h4.2⟩ : Mt l s i x)]
      rfl
  exact key l.length 0 (by omega) (fun n hn => absurd hn (Nat.not_lt_zero _))
end Go.Proofs.Ytcmkijmjafgkfaa.P
namespace Go.Proofs.Ytcmkijmjafgkfaa.P
open Go.RowKit Go.Proofs.YtcmkijmjafgkfaaW.PrintWords Go.Proofs.YtcmkijmjafgkfaaW.PrintLast Go.Proofs.YtcmkijmjafgkfaaW.PrintMore Go.Proofs.Ytcmkijmjafgkfaa.Wp
set_option linter.unusedVariables false
set_option linter.unusedSimpArgs false
def decN (l : List Int) (s : ByteArray) (go : List Int → Nat → List Int × Bool) (out : List Int) (p : Nat) : Option Nat → List Int × Bool
  | none => ([], false)
  | some n => if out.length = 1200 then ([], false) else go (out ++ [(n : Int)]) (p + (l.getD n 0).toNat)
def decM (l : List Int) (s : ByteArray) : Nat → List Int → Nat → List Int × Bool
  | 0, _, _ => ([], false)
  | f + 1, out, p => if p < s.size then decN l s (decM l s f) out p (fm l s p) else (out, true)
def decAll (s : ByteArray) (l : List Int) : List Int × Bool := if VL l then decM l s (s.size + 1) [] 0 else ([], false)
theorem decM_len (l : List Int) (s : ByteArray) : ∀ f out p, out.length ≤ 1200 → (decM l s f out p).1.length ≤ 1200
  | 0, _, _, _ => Nat.zero_le _
  | f + 1, out, p, h => by
    rw [decM]
    split
    · cases fm l s p with
      | none => exact Nat.zero_le _
      | some n =>
        rw [decN]
        by_cases h5 : out.length = 1200
        · rw [if_pos h5]
          exact Nat.zero_le _
        · rw [if_neg h5]
          exact decM_len l s f _ _ (by rw [List.length_append, List.length_singleton]; omega)
    · exact h
theorem decAll_len (s : ByteArray) (l : List Int) : (decAll s l).1.length ≤ 1200 := by
  unfold decAll
  by_cases h : VL l
  · rw [if_pos h]
    exact decM_len l s _ _ _ (Nat.zero_le _)
  · rw [if_neg h]
    exact Nat.zero_le _
theorem w_sDecode (s : ByteArray) (hs : s.size ≤ 1000000000000) (l : List Int) (hl : l.length ≤ 1000000000) : Wp (fun k => spec_DecodeSymbols.f k s l) (fun r => r = decAll s l) := by
  unfold spec_DecodeSymbols.f
  refine Wp.call (w_validLengths l hl) ?_
  rintro _ rfl
  refine Wp.ite (fun h => ?_) (fun h => Wp.ret (if_neg (fun e => h (decide_eq_true e))).symm)
  have hV := of_decide_eq_true h
  refine Wp.call (w_sCanon l hV.1.2) ?_
  rintro _ rfl
  have key : ∀ f out p, s.size + 1 ≤ f + p → p ≤ s.size → out.length ≤ 1200 → Wp (fun k => spec_DecodeSymbols.l0 k s l out (cnOf l) (p : Nat)) (fun r => r = decM l s f out p) := by
    intro f
    induction f with
    | zero => intro out p h1 h2; omega
    | succ f ih =>
      intro out p h1 h2 h3
      refine Wp.step (fun k => spec_DecodeSymbols.l0.eq_2 ..) ?_
      rw [decM]
      by_cases h4 : p < s.size
      · refine Wp.pos (by omega) ?_
        rw [if_pos h4]
        refine Wp.call (w_symbolAt hV s hs p h2) ?_
        rintro _ rfl
        cases e : fm l s p with
        | none => exact Wp.pos (show (-1 : Int) < 0 by decide) (Wp.ret rfl)
        | some n =>
          obtain ⟨m1, m2, m3, m4, m5⟩ := fm_mt e
          refine Wp.neg (by simp only [fmR]; omega) ?_
          rw [decN]
          by_cases h5 : out.length = 1200
          · rw [if_pos h5]
            exact Wp.pos (by omega) (Wp.ret rfl)
          · rw [if_neg h5]
            refine Wp.neg (by omega) (Wp.pos (by omega) ?_)
            have h6 := ih (out ++ [(n : Int)]) (p + (l.getD n 0).toNat) (by omega) (by omega) (by rw [List.length_append, List.length_singleton]; omega)
            rw [show ((p + (l.getD n 0).toNat : Nat) : Int) = (p : Int) + l.getD n 0 by omega] at h6
            exact h6
      · refine Wp.neg (by omega) ?_
        rw [if_neg h4]
        exact Wp.ret rfl
  have h1 := key (s.size + 1) [] 0 (by omega) (by omega) (by simp)
  unfold decAll
  rw [if_pos hV]
  exact h1
theorem dcLook_none {l c : List Int} {len code : Int} : ∀ {m : Nat}, dcLook l c len code m = none → ∀ n, n < m → ¬ (0 < l.getD n 0 ∧ l.getD n 0 = len ∧ c.getD n 0 = code)
  | 0, _, n, h => absurd h (Nat.not_lt_zero _)
  | m + 1, e, n, h => by
    rw [dcLook] at e
    split at e
    · cases e
    · rename_i hn
      rw [bl_rd, bl_rd] at hn
      rcases Nat.lt_or_ge n m with h1 | h1
      · exact dcLook_none e n h1
      · have : n = m := by omega
        subst this
        exact hn
theorem dcLook_some {l c : List Int} {len code v : Int} : ∀ {m : Nat}, dcLook l c len code m = some v → ∃ n : Nat, v = n ∧ n < m ∧ 0 < l.getD n 0 ∧ l.getD n 0 = len ∧ c.getD n 0 = code
  | 0, e => by cases e
  | m + 1, e => by
    rw [dcLook] at e
    split at e
    · rename_i hn
      rw [bl_rd, bl_rd] at hn
      exact ⟨m, (Option.some.inj e).symm, Nat.lt_succ_self _, hn⟩
    · obtain ⟨n, h1, h2, h3⟩ := dcLook_some e
      exact ⟨n, h1, by omega, h3⟩
theorem w64_nat (n : Nat) (h : n ≤ 2000000000000) : wrap64 ((n : Int) + 1) = ((n + 1 : Nat) : Int) := by
  rw [w64 (x := (n : Int) + 1) (by omega) (by omega)]
  omega
theorem wf_small {x : Int} (h0 : 0 ≤ x) (h1 : x ≤ 1048592) : (Lit.int .i64 x).wf = true := by
  have e1 : IntKind.i64.min = -9223372036854775808 := rfl
  have e2 : IntKind.i64.max = 9223372036854775807 := rfl
  simp only [Lit.wf, e1, e2, Bool.and_eq_true, decide_eq_true_eq]
  omega
theorem dcOk_VL {l : List Int} (hV : VL l) : dcOk l (cnOf l) = true := by
  unfold dcOk
  simp only [Bool.and_eq_true, decide_eq_true_eq, List.all_eq_true]
  refine ⟨⟨⟨hV.1.2, cnOf_len l⟩, fun x hx => ?_⟩, fun x hx => ?_⟩
  · have := all16_mem hV.2.1 x hx
    exact wf_small (by omega) (by omega)
  · obtain ⟨i, hi, rfl⟩ := List.getElem_of_mem hx
    have := cnOf_get l hV.1.2 i
    rw [List.getD_eq_getElem?_getD, List.getElem?_eq_getElem hi] at this
    exact wf_small this.1 this.2
theorem w_iDecode (s : ByteArray) (hs : s.size ≤ 1000000000000) (l : List Int) (hl : l.length ≤ 1000000000) : Wp (fun k => impl_DecodeSymbols.f k s l) (fun r => r = decAll s l) := by
  unfold impl_DecodeSymbols.f
  refine Wp.call (w_canonical l hl) ?_
  rintro _ rfl
  unfold decAll
  by_cases hV : VL l
  · rw [if_pos hV, if_pos hV]
    refine Wp.pos rfl (Wp.pos (dcOk_VL hV) ?_)
    have key : ∀ d p j out f, p + j + d = s.size → Bits s p j → j ≤ 16 → (∀ n, Mt l s p n → j < (l.getD n 0).toNat) → out.length ≤ 1200 → s.size + 1 ≤ f + p →
        Wp (fun k => dcGo l (cnOf l) s k out (j : Nat) (cv s p j) ((p + j : Nat) : Int)) (fun r => r = decM l s f out p) := by
      intro d
      induction d with
      | zero =>
        intro p j out f hd hB hj hno ho hf
        obtain ⟨f, rfl⟩ : ∃ g, f = g + 1 := ⟨f - 1, by omega⟩
        refine Wp.step (fun k => dcGo.eq_2 ..) (Wp.neg (by omega) ?_)
        rw [decM]
        by_cases h0 : j = 0
        · subst h0
          rw [if_neg (show ¬ p < s.size by omega)]
          exact Wp.neg (show ¬ (0 : Int) < ((0 : Nat) : Int) by omega) (Wp.ret rfl)
        · rw [if_pos (show p < s.size by omega), fm_none (fun n h => by have h1 := hno n h; have := h.2.2.1; omega)]
          exact Wp.pos (show (0 : Int) < (j : Int) by omega) (Wp.ret rfl)
      | succ d ih =>
        intro p j out f hd hB hj hno ho hf
        obtain ⟨f, rfl⟩ : ∃ g, f = g + 1 := ⟨f - 1, by omega⟩
        refine Wp.step (fun k => dcGo.eq_2 ..) (Wp.pos (by omega) (Wp.pos (by omega) ?_))
        refine Wp.ite (fun h1 => ?_) (fun h1 => Wp.ret ?_)
        · have hB1 := hB.succ h1.1
          have ej : wrap64 ((j : Int) + 1) = ((j + 1 : Nat) : Int) := w64_nat j (by omega)
          have ei : wrap64 (((p + j : Nat) : Int) + 1) = ((p + (j + 1) : Nat) : Int) := w64_nat (p + j) (by clear ej; omega)
          have hr := cv_range j hB
          have hp := p2_mono hj
          rw [p2_16] at hp
          have hbt := h1.1
          have ec : wrap64 (wrap64 (2 * cv s p j) + (bt s ((p + j : Nat) : Int) - 48)) = cv s p (j + 1) := by
            clear ej ei
            rw [w64 (x := 2 * cv s p j) (by omega) (by omega), w64 (x := 2 * cv s p j + (bt s ((p + j : Nat) : Int) - 48)) (by omega) (by omega), cv]
          rw [ec, ej, ei]
          clear ec ej ei
          cases e : dcLook l (cnOf l) ((j + 1 : Nat) : Int) (cv s p (j + 1)) l.length with
          | none =>
            refine ih p (j + 1) out (f + 1) (by omega) hB1 (by have := h1.2; omega) (fun n h => ?_) ho hf
            have h2 := hno n h
            rcases Nat.lt_or_ge (j + 1) (l.getD n 0).toNat with h3 | h3
            · exact h3
            · have e4 : (l.getD n 0).toNat = j + 1 := by omega
              have h5 := h.2.2.2.2
              rw [e4] at h5
              exact absurd ⟨h.2.1, by omega, h5.symm⟩ (dcLook_none e n h.1)
          | some v =>
            obtain ⟨n, rfl, n1, n2, n3, n4⟩ := dcLook_some e
            have e4 : (l.getD n 0).toNat = j + 1 := by omega
            have hM : Mt l s p n := ⟨n1, n2, by omega, by rw [e4]; exact hB1, by rw [e4]; exact n4.symm⟩
            rw [decM, if_pos (show p < s.size by omega), fm_some hV hM, decN]
            by_cases h5 : out.length = 1200
            · rw [if_pos h5]
              exact Wp.pos (by omega) (Wp.ret rfl)
            · rw [if_neg h5]
              refine Wp.neg (by omega) (Wp.pos (by omega) ?_)
              have h6 := ih (p + (j + 1)) 0 (out ++ [(n : Int)]) f (by omega) (fun t ht => absurd ht (Nat.not_lt_zero _)) (by omega) (fun m h => by have := h.2.1; omega) (by rw [List.length_append, List.length_singleton]; omega) (by omega)
              rw [e4]
              exact h6
        · rw [decM, if_pos (show p < s.size by omega), fm_none (fun n h => ?_)]
          · rfl
          · have h2 := hno n h
            have h3 := all16_get hV.2.1 n
            exact h1 ⟨h.2.2.2.1 j h2, by omega⟩
    exact key s.size 0 0 [] (s.size + 1) (by omega) (fun t ht => absurd ht (Nat.not_lt_zero _)) (by omega) (fun n h => by have := h.2.1; omega) (by simp) (by omega)
  · rw [if_neg hV, if_neg hV]
    exact Wp.neg (by simp) (Wp.ret rfl)
end Go.Proofs.Ytcmkijmjafgkfaa.P
namespace Go.Proofs.Ytcmkijmjafgkfaa.P
open Go.RowKit Go.Proofs.YtcmkijmjafgkfaaW.PrintWords Go.Proofs.YtcmkijmjafgkfaaW.PrintLast Go.Proofs.YtcmkijmjafgkfaaW.PrintMore Go.Proofs.Ytcmkijmjafgkfaa.Wp
set_option linter.unusedVariables false
set_option linter.unusedSimpArgs false
theorem cut_take (s : ByteArray) (a m : Nat) (h : a + m ≤ s.size) (x : List Int) (hx : x.length = m) (e : ∀ j, j < m → bt s ((a + j : Nat) : Int) = x.getD j 0) : ((bytesOf s).drop a).take m = x := by
  have hl : (bytesOf s).length = s.size := bytesOf_length s
  refine List.ext_getElem? fun j => ?_
  rcases Nat.lt_or_ge j m with hj | hj
  · have := e j hj
    rw [bt_bytes] at this
    rw [List.getElem?_take, if_pos hj, List.getElem?_drop, List.getElem?_eq_getElem (by omega), List.getElem?_eq_getElem (by omega)]
    simp only [List.getD_eq_getElem?_getD] at this
    rw [List.getElem?_eq_getElem (by omega), List.getElem?_eq_getElem (by omega)] at this
    simpa using this
  · rw [List.getElem?_eq_none (by rw [List.length_take]; omega), List.getElem?_eq_none (by omega)]
theorem Mt.drop {l : List Int} (hV : VL l) {s : ByteArray} {p n : Nat} (h : Mt l s p n) : (bytesOf s).drop p = digs ((cnOf l).getD n 0) (l.getD n 0).toNat ++ (bytesOf s).drop (p + (l.getD n 0).toNat) := by
  obtain ⟨h1, h2, h3, h4, h5⟩ := h
  have hc := cnOf_get l hV.1.2 n
  have hb := cn_bound hV h1 h2
  have hd := (digs_bits (s := s) (i := p) (l.getD n 0).toNat ((cnOf l).getD n 0) hc.1 hb).2 ⟨h4, h5⟩
  have ht := cut_take s p (l.getD n 0).toNat h3 (digs ((cnOf l).getD n 0) (l.getD n 0).toNat) (digs_len _ _) hd
  have he := List.take_append_drop (l.getD n 0).toNat ((bytesOf s).drop p)
  rw [ht, List.drop_drop] at he
  exact he.symm
theorem dec_enc {l : List Int} (hV : VL l) (s : ByteArray) : ∀ f out p r, p ≤ s.size → decM l s f out p = (r, true) → ∃ x, r = out ++ x ∧ encL l (cnOf l) x = some ((bytesOf s).drop p)
  | 0, out, p, r, hp, h => by simp [decM] at h
  | f + 1, out, p, r, hp, h => by
    rw [decM] at h
    by_cases h1 : p < s.size
    · rw [if_pos h1] at h
      cases e : fm l s p with
      | none => rw [e] at h; simp [decN] at h
      | some n =>
        rw [e, decN] at h
        have hM := fm_mt e
        by_cases h5 : out.length = 1200
        · rw [if_pos h5] at h
          simp at h
        · rw [if_neg h5] at h
          obtain ⟨x, h6, h7⟩ := dec_enc hV s f _ _ _ hM.2.2.1 h
          refine ⟨(n : Int) :: x, by rw [h6, List.append_assoc]; rfl, ?_⟩
          have h8 := hM.2.1
          have h9 := hM.1
          rw [encL, if_neg (by unfold NoSym; rw [Int.toNat_natCast]; omega), h7, Int.toNat_natCast, Option.map_some, ← Mt.drop hV hM]
    · rw [if_neg h1] at h
      simp only [Prod.mk.injEq, and_true] at h
      refine ⟨[], by rw [h, List.append_nil], ?_⟩
      rw [List.drop_eq_nil_of_le (by rw [bytesOf_length]; omega)]
      rfl
theorem str_bytes (s : ByteArray) : strOfNums (bytesOf s) = s := by
  apply ByteArray.ext
  unfold strOfNums bytesOf
  rw [List.map_map]
  have e : ((fun n : Int => UInt8.ofNat n.toNat) ∘ fun b : UInt8 => (b.toNat : Int)) = id := by
    funext b
    simp
  rw [e, List.map_id]
theorem enc_of_dec {s : ByteArray} {l : List Int} (h : (decAll s l).2 = true) : encAll (decAll s l).1 l = (s, true) := by
  have hlen := decAll_len s l
  unfold decAll at h hlen ⊢
  by_cases hV : VL l
  · rw [if_pos hV] at h hlen ⊢
    obtain ⟨x, h1, h2⟩ := dec_enc hV s (s.size + 1) [] 0 (decM l s (s.size + 1) [] 0).fst (Nat.zero_le _) (Prod.ext rfl h)
    rw [List.nil_append] at h1
    unfold encAll
    rw [if_pos ⟨hV, hlen⟩, h1, h2]
    show (strOfNums ([] ++ (bytesOf s).drop 0), true) = _
    rw [List.nil_append, List.drop_zero, str_bytes]
  · rw [if_neg hV] at h
    exact absurd h (by simp)
def lsum (l x : List Int) : Int := (x.map fun a => l.getD a.toNat 0).sum
theorem encL_all {l c : List Int} (h16 : all16 l = true) : ∀ (x y : List Int), encL l c x = some y → (∀ a ∈ x, ¬ NoSym l a) ∧ (y.length : Int) = lsum l x ∧ ∀ b ∈ y, 0 ≤ b ∧ b ≤ 255
  | [], y, h => by
    obtain rfl := Option.some.inj h
    exact ⟨fun a ha => absurd ha List.not_mem_nil, rfl, fun b hb => absurd hb List.not_mem_nil⟩
  | a :: x, y, h => by
    rw [encL] at h
    split at h
    · cases h
    · rename_i hs
      obtain ⟨y', h1, rfl⟩ := Option.map_eq_some_iff.1 h
      obtain ⟨i1, i2, i3⟩ := encL_all h16 x y' h1
      have hr := all16_get h16 a.toNat
      refine ⟨fun b hb => ?_, ?_, fun b hb => ?_⟩
      · rcases List.mem_cons.1 hb with rfl | hb
        · exact hs
        · exact i1 b hb
      · unfold lsum at i2 ⊢
        rw [List.length_append, digs_len, List.map_cons, List.sum_cons, ← i2]
        omega
      · rcases List.mem_append.1 hb with hb | hb
        · exact digs_byte _ _ b hb
        · exact i3 b hb
theorem lsum_range {l : List Int} (h16 : all16 l = true) : ∀ x : List Int, 0 ≤ lsum l x ∧ lsum l x ≤ 16 * x.length
  | [] => ⟨Int.le_refl _, by simp [lsum]⟩
  | a :: x => by
    have ih := lsum_range h16 x
    have hr := all16_get h16 a.toNat
    have e : lsum l (a :: x) = l.getD a.toNat 0 + lsum l x := by simp [lsum]
    rw [e, List.length_cons]
    omega
theorem bytes_str {y : List Int} (h : ∀ b ∈ y, 0 ≤ b ∧ b ≤ 255) : bytesOf (strOfNums y) = y := by
  unfold bytesOf strOfNums
  exact u8_nums h
theorem enc_some {x l : List Int} (h : (encAll x l).2 = true) : VL l ∧ x.length ≤ 1200 ∧ ∃ y, encL l (cnOf l) x = some y ∧ (encAll x l).1 = strOfNums y := by
  unfold encAll at h ⊢
  by_cases hV : VL l ∧ x.length ≤ 1200
  · rw [if_pos hV] at h ⊢
    cases e : encL l (cnOf l) x with
    | none => rw [e] at h; simp [encR] at h
    | some y => exact ⟨hV.1, hV.2, y, rfl, by rw [encR, List.nil_append]⟩
  · rw [if_neg hV] at h
    simp at h
end Go.Proofs.Ytcmkijmjafgkfaa.P
namespace Go.Proofs.Ytcmkijmjafgkfaa.P
open Go.RowKit Go.Proofs.YtcmkijmjafgkfaaW.PrintWords Go.Proofs.YtcmkijmjafgkfaaW.PrintLast Go.Proofs.YtcmkijmjafgkfaaW.PrintMore Go.Proofs.Ytcmkijmjafgkfaa.Wp
set_option linter.unusedVariables false
set_option linter.unusedSimpArgs false
theorem w_readerOf (b : List Int) (q : Int) (l : List ByteArray) (h : Rdr b q) (hq : q ≤ 900000) (h0 : 0 < l.length) (h1 : l.length ≤ 1000) (hs : ∀ s ∈ l, s.size ≤ 2) : Wp (fun k => spec_reader_of.f k b q l) (fun r => r.1.size ≤ 2) := by
  unfold spec_reader_of.f
  refine Wp.call (w_pick b q _ h (by omega) (by omega)) ?_
  rintro _ ⟨v, rfl, v0, v1, v2⟩
  have v3 := v1 (by omega)
  refine Wp.pos v0 (Wp.pos v3 (Wp.ret ?_))
  simp only
  unfold rdOf
  rw [List.getD_eq_getElem?_getD, List.getElem?_eq_getElem (by omega)]
  exact hs _ (List.getElem_mem _)
theorem w_mutate (b : List Int) (q : Int) (s : ByteArray) (h : Rdr b q) (hq : q ≤ 899990) (hs : s.size ≤ 1000000) : Wp (fun k => spec_mutate.f k b q s) (fun r => r.1.size ≤ 2000002) := by
  unfold spec_mutate.f
  rw [w64 (x := (s.size : Int) + 1) (by omega) (by omega)]
  refine Wp.call (w_pick b q _ h (by omega) (by omega)) ?_
  rintro _ ⟨v, rfl, v0, v1, v2⟩
  have v3 := v1 (by omega)
  refine Wp.call (w_pick b _ _ (h.up (by omega) (by omega)) (by omega) (by omega)) ?_
  rintro _ ⟨z, rfl, z0, z1, z2⟩
  dsimp only
  have e1 : (s.extract 0 v.toNat).size ≤ s.size := by rw [ByteArray.size_extract]; omega
  refine Wp.ite (fun _ => ?_) (fun _ => ?_)
  · refine Wp.ite (fun hv => Wp.pos v0 (Wp.pos (by omega) ?_)) (fun _ => Wp.ret (by simp only; omega))
    refine Wp.call (w_readerOf b _ _ (h.up (by omega) (by omega)) (by omega) (by simp) (by simp) (by decide)) ?_
    intro r hr
    refine Wp.pos (by omega) ?_
    rw [w64 (x := v + 1) (by omega) (by omega)]
    have e2 : (s.extract (v + 1).toNat s.size).size ≤ s.size := by rw [ByteArray.size_extract]; omega
    refine Wp.pos (by omega) (Wp.pos (by omega) (Wp.pos (by rw [ByteArray.size_append]; omega) (Wp.ret ?_)))
    simp only [ByteArray.size_append]
    omega
  · refine Wp.ite (fun _ => Wp.pos v0 (Wp.pos (by omega) (Wp.ret (by simp only; omega)))) (fun _ => ?_)
    refine Wp.ite (fun _ => ?_) (fun _ => Wp.ret (by simp only; omega))
    refine Wp.call (w_readerOf b _ _ (h.up (by omega) (by omega)) (by omega) (by simp) (by simp) (by decide)) ?_
    intro r hr
    refine Wp.pos (by omega) (Wp.ret ?_)
    simp only [ByteArray.size_append]
    omega
theorem encAll_size (x l : List Int) : (encAll x l).1.size ≤ 19200 := by
  cases hok : (encAll x l).2 with
  | false =>
    unfold encAll at hok ⊢
    split
    · rename_i h
      rw [if_pos h] at hok
      cases e : encL l (cnOf l) x with
      | none => exact Nat.zero_le _
      | some y => rw [e] at hok; simp [encR] at hok
    · exact Nat.zero_le _
  | true =>
    obtain ⟨hV, hx, y, hy, hs⟩ := enc_some hok
    obtain ⟨_, hlen, hbt⟩ := encL_all hV.2.1 x y hy
    have hr := lsum_range hV.2.1 x
    rw [hs, ← bytesOf_length, bytes_str hbt]
    omega
theorem w_DrawDecode (a : List Int) (hb : ∀ x ∈ a, (Lit.int .u8 x).wf = true) : Wp (fun k => spec_DrawDecodeSymbols.f k a) (fun r => r.1.size ≤ 2000002 ∧ r.2.length ≤ 1001) := by
  unfold spec_DrawDecodeSymbols.f
  refine Wp.call (w_newReader a hb) ?_
  rintro ⟨b, q⟩ ⟨h, e⟩
  simp only at e h
  subst e
  refine Wp.call (w_DrawEncode a hb) ?_
  rintro ⟨x, l⟩ ⟨hx, hl⟩
  simp only at hx hl
  refine Wp.call (w_sEncode x l (by omega) (by omega)) ?_
  rintro _ rfl
  have hz := encAll_size x l
  refine Wp.call (w_pick b 0 8 h (by omega) (by omega)) ?_
  rintro _ ⟨v, rfl, v0, v1, v2⟩
  dsimp only
  refine Wp.ite (fun _ => Wp.pos (by omega) (Wp.ret ⟨?_, hl⟩)) (fun _ => ?_)
  · have e1 : (⟨#[48]⟩ : ByteArray).size = 1 := rfl
    simp only [ByteArray.size_append]
    omega
  · refine Wp.ite (fun _ => ?_) (fun _ => Wp.ret ⟨by simp only; omega, hl⟩)
    refine Wp.call (w_mutate b _ _ (h.up (by omega) (by omega)) (by omega) (by omega)) ?_
    intro r hr
    exact Wp.ret ⟨hr, hl⟩
end Go.Proofs.Ytcmkijmjafgkfaa.P
namespace Go.Proofs.Ytcmkijmjafgkfaa.Pure
open Go.RowKit Go.Proofs.Ytcmkijmjafgkfaa.P Go.Proofs.YtcmkijmjafgkfaaW.PrintWords Go.Proofs.Ytcmkijmjafgkfaa.Wp
set_option linter.unusedVariables false
theorem FnDecodeSymbols : laws_FnDecodeSymbols.Pure := by
  intro a _ _ hb
  refine Wp.rounds ?_
  unfold laws_FnDecodeSymbols.f
  refine Wp.ite (fun _ => Wp.ret rfl) (fun _ => ?_)
  refine Wp.call (w_DrawDecode a hb) ?_
  rintro ⟨s, l⟩ ⟨hs, hl⟩
  simp only at hs hl
  have hd := decAll_len s l
  refine Wp.call (w_iDecode s (by omega) l (by omega)) ?_
  rintro _ rfl
  refine Wp.call (w_sDecode s (by omega) l (by omega)) ?_
  rintro _ rfl
  refine Wp.call (w_equalInts _ _ (by omega)) ?_
  rintro _ rfl
  refine Wp.pos (by simp) (Wp.neg (by simp) ?_)
  cases hok : (decAll s l).2 with
  | false =>
    refine Wp.step (fun k => laws_FnDecodeSymbols.j0.eq_2 ..) (Wp.pos rfl ?_)
    refine Wp.call (w_equalInts _ _ (by omega)) ?_
    rintro _ rfl
    exact Wp.pos (by simp) (Wp.ret rfl)
  | true =>
    refine Wp.step (fun k => laws_FnDecodeSymbols.j0.eq_2 ..) (Wp.neg (by simp) ?_)
    refine Wp.call (w_iEncode _ l (by omega) (by omega)) ?_
    rintro _ rfl
    rw [enc_of_dec hok]
    exact Wp.pos rfl (Wp.ret (by simp))
end Go.Proofs.Ytcmkijmjafgkfaa.Pure
