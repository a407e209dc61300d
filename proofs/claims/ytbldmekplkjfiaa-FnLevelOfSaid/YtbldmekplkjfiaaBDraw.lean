/- The reader of draws: what it yields lies in its range, and its place goes on by one. Plain lemmas; the conditions are the bytes' range and a bound on the place. -/
import Derived.Test.YtbldmekplkjfiaaPx1
import Derived.Test.YtbldmekplkjfiaaPx2
import Derived.Test.YtbldmekplkjfiaaWp
namespace Go.Proofs.Ytbldmekplkjfiaa.P
open Go.RowKit Go.Proofs.YtbldmekplkjfiaaW.PrintWords Go.Proofs.YtbldmekplkjfiaaW.PrintLast Go.Proofs.YtbldmekplkjfiaaW.PrintMore Go.Proofs.Ytbldmekplkjfiaa.Wp
set_option linter.unusedVariables false

theorem rd_mem (l : List Int) (i : Int) (h0 : 0 ≤ i) (h1 : i < (l.length : Int)) : rd l i ∈ l := by
  unfold rd
  rw [List.getD_eq_getElem?_getD, List.getElem?_eq_getElem (by omega)]
  exact List.getElem_mem _
theorem rd_le {l : List Int} {a b : Int} (h : ∀ x ∈ l, a ≤ x ∧ x ≤ b) (i : Int) (h0 : 0 ≤ i) (h1 : i < (l.length : Int)) : a ≤ rd l i ∧ rd l i ≤ b := h _ (rd_mem l i h0 h1)
/-- A reader: bytes, few of them, and its place. -/
def Rdr (b : List Int) (p : Int) : Prop := (∀ x ∈ b, 0 ≤ x ∧ x ≤ 255) ∧ b.length ≤ 2000 ∧ 0 ≤ p ∧ p ≤ 1000000
theorem tmod_range (x n : Int) (hx : 0 ≤ x) (hn : 0 < n) : 0 ≤ Int.tmod x n ∧ Int.tmod x n < n := by
  rw [Int.tmod_eq_emod_of_nonneg hx]
  exact ⟨Int.emod_nonneg _ (by omega), Int.emod_lt_of_pos _ hn⟩
theorem bits_xor_nonneg (x y : Int) (hx : 0 ≤ x) (hx2 : x ≤ 1000000000000) (hy : 0 ≤ y) (hy2 : y ≤ 1000000000000) : 0 ≤ Go.bits .xor .i64 x y := by
  obtain ⟨a, rfl⟩ := Int.eq_ofNat_of_zero_le hx
  obtain ⟨b, rfl⟩ := Int.eq_ofNat_of_zero_le hy
  have ha : a < 2 ^ 62 := by omega
  have hb : b < 2 ^ 62 := by omega
  have ha' : a % 2 ^ 64 = a := Nat.mod_eq_of_lt (by omega)
  have hb' : b % 2 ^ 64 = b := Nat.mod_eq_of_lt (by omega)
  have hc : a ^^^ b < 2 ^ 62 := Nat.xor_lt_two_pow ha hb
  have hw : IntKind.i64.wrap ((a ^^^ b : Nat) : Int) = ((a ^^^ b : Nat) : Int) := by
    have h64 : IntKind.i64.wrap ((a ^^^ b : Nat) : Int) = wrap64 ((a ^^^ b : Nat) : Int) := i64_w _
    rw [h64, w64 (by omega) (by omega)]
  have he : Go.bits .xor .i64 (a : Int) (b : Int) = ((a ^^^ b : Nat) : Int) := by
    have hbits : IntKind.i64.bits = 64 := rfl
    simp only [Go.bits, BitVec.ofInt_natCast, BitVec.toNat_xor, BitVec.toNat_ofNat, hbits, ha', hb', hw]
  rw [he]
  exact Int.natCast_nonneg _
theorem w_newReader (l : List Int) (hb : ∀ x ∈ l, (Lit.int .u8 x).wf = true) : Wp (fun _ => spec_newReader.f l) (fun r => Rdr r.1 r.2 ∧ r.2 = 0) := by
  have hb' : ∀ x ∈ l, 0 ≤ x ∧ x ≤ 255 := fun x hx => by
    have h := hb x hx
    simp only [Lit.wf, Bool.and_eq_true, decide_eq_true_eq] at h
    have h0 : IntKind.u8.min = 0 := rfl
    have h1 : IntKind.u8.max = 255 := rfl
    omega
  unfold spec_newReader.f
  refine Wp.ite (fun h => Wp.pos (by omega) (Wp.ret ?_)) (fun h => Wp.ret ?_)
  · exact ⟨⟨fun x hx => hb' x (List.mem_of_mem_take hx), by show (l.take 2000).length ≤ 2000; rw [List.length_take]; omega, Int.le_refl _, by show (0 : Int) ≤ 1000000; omega⟩, rfl⟩
  · exact ⟨⟨hb', by show l.length ≤ 2000; omega, Int.le_refl _, by show (0 : Int) ≤ 1000000; omega⟩, rfl⟩
theorem w_pick (b : List Int) (p n : Int) (h : Rdr b p) (hp : p < 1000000) (hn : n ≤ 1000000000000) :
    Wp (fun k => spec_reader_pick.f k b p n) (fun r => ∃ x, r = (x, p + 1) ∧ 0 ≤ x ∧ (1 ≤ n → x < n) ∧ (n < 1 → x = 0)) := by
  obtain ⟨hb, hl, h0, h1⟩ := h
  unfold spec_reader_pick.f
  rw [w64 (x := p + 1) (by omega) (by omega)]
  refine Wp.ite (fun hn1 => ?_) (fun hn1 => ?_)
  · refine Wp.step (fun k => spec_reader_pick.j0.eq_2 ..) (Wp.pos rfl (Wp.ret ?_))
    exact ⟨0, rfl, by omega, by omega, fun _ => rfl⟩
  · refine Wp.step (fun k => spec_reader_pick.j0.eq_2 ..) ?_
    rw [show p + 1 - 1 = p by omega, w64 (x := p) (by omega) (by omega)]
    refine Wp.ite (fun hz => Wp.ret ?_) (fun hz => ?_)
    · exact ⟨0, rfl, by omega, by omega, by omega⟩
    · have hpos : 0 < (b.length : Int) := by
        have : ¬ (b.length : Int) = 0 := by simpa using hz
        omega
      refine Wp.ite (fun hlt => ?_) (fun hge => ?_)
      · refine Wp.pos h0 (Wp.neg (by omega) (Wp.ret ?_))
        have hr := rd_le hb p h0 hlt
        rw [w64 (x := rd b p) (by omega) (by omega)]
        have := tmod_range (rd b p) n hr.1 (by omega)
        exact ⟨_, rfl, this.1, fun _ => this.2, by omega⟩
      · refine Wp.neg (by omega) ?_
        have t1 := tmod_range p b.length h0 hpos
        refine Wp.pos t1.1 (Wp.pos t1.2 ?_)
        rw [w64 (x := p * 7) (by omega) (by omega), w64 (x := p * 7 + 3) (by omega) (by omega)]
        have t2 := tmod_range (p * 7 + 3) b.length (by omega) hpos
        refine Wp.pos t2.1 (Wp.pos t2.2 (Wp.neg (by omega) (Wp.ret ?_)))
        have r1 := rd_le hb _ t1.1 t1.2
        have r2 := rd_le hb _ t2.1 t2.2
        generalize rd b (Int.tmod p b.length) = u at r1 ⊢
        generalize rd b (Int.tmod (p * 7 + 3) b.length) = v at r2 ⊢
        have hd : 0 ≤ Int.tdiv p b.length ∧ Int.tdiv p b.length ≤ p := by
          rw [Int.tdiv_eq_ediv_of_nonneg h0]
          exact ⟨Int.ediv_nonneg h0 (by omega), Int.ediv_le_self _ h0⟩
        generalize Int.tdiv p b.length = d at hd ⊢
        rw [w64 (x := u) (by omega) (by omega), w64 (x := u * 131) (by omega) (by omega), w64 (x := v) (by omega) (by omega), w64 (x := v * 1117) (by omega) (by omega),
          w64 (x := u * 131 + v * 1117) (by omega) (by omega), w64 (x := p * 29) (by omega) (by omega), w64 (x := u * 131 + v * 1117 + p * 29) (by omega) (by omega),
          w64 (x := d) (by omega) (by omega), w64 (x := d * 53) (by omega) (by omega), w64 (x := u * 131 + v * 1117 + p * 29 + d * 53) (by omega) (by omega)]
        have hs : 0 ≤ u * 131 + v * 1117 + p * 29 + d * 53 ∧ u * 131 + v * 1117 + p * 29 + d * 53 ≤ 1000000000 := by omega
        generalize u * 131 + v * 1117 + p * 29 + d * 53 = s at hs ⊢
        have hq : 0 ≤ Int.tdiv s 64 ∧ Int.tdiv s 64 ≤ s := by
          rw [Int.tdiv_eq_ediv_of_nonneg hs.1]
          exact ⟨Int.ediv_nonneg hs.1 (by omega), Int.ediv_le_self _ hs.1⟩
        rw [w64 (x := Int.tdiv s 64) (by omega) (by omega)]
        have hx := bits_xor_nonneg s (Int.tdiv s 64) hs.1 (by omega) hq.1 (by omega)
        have := tmod_range _ n hx (by omega)
        exact ⟨_, rfl, this.1, fun _ => this.2, by omega⟩
theorem Rdr.up {b : List Int} {p q : Int} (h : Rdr b p) (h1 : p ≤ q) (h2 : q ≤ 1000000) : Rdr b q := ⟨h.1, h.2.1, by have := h.2.2.1; omega, h2⟩
theorem w_one (b : List Int) (p : Int) (l : List Int) (h : Rdr b p) (hp : p < 1000000) (hl : 0 < l.length) (hl2 : l.length ≤ 1000) :
    Wp (fun k => spec_reader_one.f k b p l) (fun r => ∃ x, r = (x, p + 1) ∧ x ∈ l) := by
  unfold spec_reader_one.f
  refine Wp.call (w_pick b p l.length h hp (by omega)) ?_
  rintro _ ⟨x, rfl, h0, h1, _⟩
  have h1 := h1 (by omega)
  exact Wp.pos h0 (Wp.pos h1 (Wp.ret ⟨_, rfl, rd_mem l x h0 h1⟩))
end Go.Proofs.Ytbldmekplkjfiaa.P
