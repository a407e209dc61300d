/-
  No cell of these rows narrows 'for every input' (looked for: loops, veiled, ifaces, maps, wideKeys, modest, calm, conditions, laid).
  DERIVED. THE GIVEN ROWS OF THIS SEAT. 12 by the template 'for every input the law returns true; each argument reads behind the call as it read before'; 0 by the template 'total and deterministic' (their statements: YtbldmekplkjfiaaTotals.lean).
  GIVEN WITH THE SEED: the statements are not yours to turn. If you find one false, say at which input.
  Laid BY PROGRAM, IN A SANDBOX (cutbox-rows.mjs): the forced cells as the released guide's own fill.sh prints them over the translation af65f426bfdb58e1… (all of the seat's roots in one cut). By AI agents, Wed Nov 11 2026. No macro, syntax, notation, axiom, sorry.
-/
import Derived.Test.YtbldmekplkjfiaaChecked
import GoSem.Claim
import GoSem.ClaimJoined
import GoSem.ClaimMapViews
import Derived.JoinedTies
import Derived.KernelRfl
namespace Go.Proofs.Ytbldmekplkjfiaa
/- THE CELL 'sum', in the pinned program and in every row, IS THE sha256 OF THE DUMP (.gsa) THAT YtbldmekplkjfiaaProg.lean LOADS. Nothing in Lean hashes anything: it is a label: what it is worth is what the hold of that sum in a sandbox is worth. -/
noncomputable def Try.pinned : Pinned := { name := "ytbldmekplkjfiaa", sum := "af65f426bfdb58e1e3d373e31476d4f9bd43b14316d48fe42a5d8b044ef8be82", checked := Try.checked }
namespace Rows
def none {H : Type} : Left H := { results := [], args := [] }

/-- 'laws.FnExactLevelOf': WHATEVER THE INPUT: true; the input reads as it did. -/
def fnExactLevelOfSpec : ChangeSpec := { name := "fnExactLevelOf", fn := fun _ => fun
  | [d1, d2] => { results := [.lit (.bool true)], args := [d1, d2] }
  | _ => none }
def fnExactLevelOfRow : OpenClaim := { program := "ytbldmekplkjfiaa", sum := "af65f426bfdb58e1e3d373e31476d4f9bd43b14316d48fe42a5d8b044ef8be82", func := "loop.example/pixelworks/laws.FnExactLevelOf", spec := "fnExactLevelOf", apart := false }
def FnExactLevelOfSaid : Prop := fnExactLevelOfRow.holds Try.pinned (OpenSpec.ofChange fnExactLevelOfSpec)

/-- ITS FALSE NEIGHBOUR: 'it returns false'. Refute it at one input. -/
def fnExactLevelOfWrong : ChangeSpec := { name := "fnExactLevelOf", fn := fun _ => fun
  | [d1, d2] => { results := [.lit (.bool false)], args := [d1, d2] }
  | _ => none }
def FnExactLevelOfWrongFalsely : Prop := fnExactLevelOfRow.holds Try.pinned (OpenSpec.ofChange fnExactLevelOfWrong)

/-- 'laws.FnLevelOf': WHATEVER THE INPUT: true; the input reads as it did. -/
def fnLevelOfSpec : ChangeSpec := { name := "fnLevelOf", fn := fun _ => fun
  | [d] => { results := [.lit (.bool true)], args := [d] }
  | _ => none }
def fnLevelOfRow : OpenClaim := { program := "ytbldmekplkjfiaa", sum := "af65f426bfdb58e1e3d373e31476d4f9bd43b14316d48fe42a5d8b044ef8be82", func := "loop.example/pixelworks/laws.FnLevelOf", spec := "fnLevelOf", apart := false }
def FnLevelOfSaid : Prop := fnLevelOfRow.holds Try.pinned (OpenSpec.ofChange fnLevelOfSpec)

/-- ITS FALSE NEIGHBOUR: 'it returns false'. Refute it at one input. -/
def fnLevelOfWrong : ChangeSpec := { name := "fnLevelOf", fn := fun _ => fun
  | [d] => { results := [.lit (.bool false)], args := [d] }
  | _ => none }
def FnLevelOfWrongFalsely : Prop := fnLevelOfRow.holds Try.pinned (OpenSpec.ofChange fnLevelOfWrong)

/-- 'laws.FnExactCheckOf': WHATEVER THE INPUT: true; the input reads as it did. -/
def fnExactCheckOfSpec : ChangeSpec := { name := "fnExactCheckOf", fn := fun _ => fun
  | [d] => { results := [.lit (.bool true)], args := [d] }
  | _ => none }
def fnExactCheckOfRow : OpenClaim := { program := "ytbldmekplkjfiaa", sum := "af65f426bfdb58e1e3d373e31476d4f9bd43b14316d48fe42a5d8b044ef8be82", func := "loop.example/pixelworks/laws.FnExactCheckOf", spec := "fnExactCheckOf", unfollowed := true, recurses := true, apart := false }
def FnExactCheckOfSaid : Prop := fnExactCheckOfRow.holds Try.pinned (OpenSpec.ofChange fnExactCheckOfSpec)

/-- ITS FALSE NEIGHBOUR: 'it returns false'. Refute it at one input. -/
def fnExactCheckOfWrong : ChangeSpec := { name := "fnExactCheckOf", fn := fun _ => fun
  | [d] => { results := [.lit (.bool false)], args := [d] }
  | _ => none }
def FnExactCheckOfWrongFalsely : Prop := fnExactCheckOfRow.holds Try.pinned (OpenSpec.ofChange fnExactCheckOfWrong)

/-- 'laws.FnCheckOf': WHATEVER THE INPUT: true; the input reads as it did. -/
def fnCheckOfSpec : ChangeSpec := { name := "fnCheckOf", fn := fun _ => fun
  | [d] => { results := [.lit (.bool true)], args := [d] }
  | _ => none }
def fnCheckOfRow : OpenClaim := { program := "ytbldmekplkjfiaa", sum := "af65f426bfdb58e1e3d373e31476d4f9bd43b14316d48fe42a5d8b044ef8be82", func := "loop.example/pixelworks/laws.FnCheckOf", spec := "fnCheckOf", unfollowed := true, recurses := true, apart := false }
def FnCheckOfSaid : Prop := fnCheckOfRow.holds Try.pinned (OpenSpec.ofChange fnCheckOfSpec)

/-- ITS FALSE NEIGHBOUR: 'it returns false'. Refute it at one input. -/
def fnCheckOfWrong : ChangeSpec := { name := "fnCheckOf", fn := fun _ => fun
  | [d] => { results := [.lit (.bool false)], args := [d] }
  | _ => none }
def FnCheckOfWrongFalsely : Prop := fnCheckOfRow.holds Try.pinned (OpenSpec.ofChange fnCheckOfWrong)

/-- 'laws.FnExactToLuma': WHATEVER THE INPUT: true; the input reads as it did. -/
def fnExactToLumaSpec : ChangeSpec := { name := "fnExactToLuma", fn := fun _ => fun
  | [d] => { results := [.lit (.bool true)], args := [d] }
  | _ => none }
def fnExactToLumaRow : OpenClaim := { program := "ytbldmekplkjfiaa", sum := "af65f426bfdb58e1e3d373e31476d4f9bd43b14316d48fe42a5d8b044ef8be82", func := "loop.example/pixelworks/laws.FnExactToLuma", spec := "fnExactToLuma", unfollowed := true, recurses := true, apart := false }
def FnExactToLumaSaid : Prop := fnExactToLumaRow.holds Try.pinned (OpenSpec.ofChange fnExactToLumaSpec)

/-- ITS FALSE NEIGHBOUR: 'it returns false'. Refute it at one input. -/
def fnExactToLumaWrong : ChangeSpec := { name := "fnExactToLuma", fn := fun _ => fun
  | [d] => { results := [.lit (.bool false)], args := [d] }
  | _ => none }
def FnExactToLumaWrongFalsely : Prop := fnExactToLumaRow.holds Try.pinned (OpenSpec.ofChange fnExactToLumaWrong)

/-- 'laws.FnToLuma': WHATEVER THE INPUT: true; the input reads as it did. -/
def fnToLumaSpec : ChangeSpec := { name := "fnToLuma", fn := fun _ => fun
  | [d] => { results := [.lit (.bool true)], args := [d] }
  | _ => none }
def fnToLumaRow : OpenClaim := { program := "ytbldmekplkjfiaa", sum := "af65f426bfdb58e1e3d373e31476d4f9bd43b14316d48fe42a5d8b044ef8be82", func := "loop.example/pixelworks/laws.FnToLuma", spec := "fnToLuma", unfollowed := true, recurses := true, apart := false }
def FnToLumaSaid : Prop := fnToLumaRow.holds Try.pinned (OpenSpec.ofChange fnToLumaSpec)

/-- ITS FALSE NEIGHBOUR: 'it returns false'. Refute it at one input. -/
def fnToLumaWrong : ChangeSpec := { name := "fnToLuma", fn := fun _ => fun
  | [d] => { results := [.lit (.bool false)], args := [d] }
  | _ => none }
def FnToLumaWrongFalsely : Prop := fnToLumaRow.holds Try.pinned (OpenSpec.ofChange fnToLumaWrong)

/-- 'laws.FnToLumaGray': WHATEVER THE INPUT: true; the input reads as it did. -/
def fnToLumaGraySpec : ChangeSpec := { name := "fnToLumaGray", fn := fun _ => fun
  | [d] => { results := [.lit (.bool true)], args := [d] }
  | _ => none }
def fnToLumaGrayRow : OpenClaim := { program := "ytbldmekplkjfiaa", sum := "af65f426bfdb58e1e3d373e31476d4f9bd43b14316d48fe42a5d8b044ef8be82", func := "loop.example/pixelworks/laws.FnToLumaGray", spec := "fnToLumaGray", unfollowed := true, recurses := true, apart := false }
def FnToLumaGraySaid : Prop := fnToLumaGrayRow.holds Try.pinned (OpenSpec.ofChange fnToLumaGraySpec)

/-- ITS FALSE NEIGHBOUR: 'it returns false'. Refute it at one input. -/
def fnToLumaGrayWrong : ChangeSpec := { name := "fnToLumaGray", fn := fun _ => fun
  | [d] => { results := [.lit (.bool false)], args := [d] }
  | _ => none }
def FnToLumaGrayWrongFalsely : Prop := fnToLumaGrayRow.holds Try.pinned (OpenSpec.ofChange fnToLumaGrayWrong)

/-- 'laws.FnExactFromLuma': WHATEVER THE INPUT: true; the input reads as it did. -/
def fnExactFromLumaSpec : ChangeSpec := { name := "fnExactFromLuma", fn := fun _ => fun
  | [d] => { results := [.lit (.bool true)], args := [d] }
  | _ => none }
def fnExactFromLumaRow : OpenClaim := { program := "ytbldmekplkjfiaa", sum := "af65f426bfdb58e1e3d373e31476d4f9bd43b14316d48fe42a5d8b044ef8be82", func := "loop.example/pixelworks/laws.FnExactFromLuma", spec := "fnExactFromLuma", unfollowed := true, recurses := true, apart := false }
def FnExactFromLumaSaid : Prop := fnExactFromLumaRow.holds Try.pinned (OpenSpec.ofChange fnExactFromLumaSpec)

/-- ITS FALSE NEIGHBOUR: 'it returns false'. Refute it at one input. -/
def fnExactFromLumaWrong : ChangeSpec := { name := "fnExactFromLuma", fn := fun _ => fun
  | [d] => { results := [.lit (.bool false)], args := [d] }
  | _ => none }
def FnExactFromLumaWrongFalsely : Prop := fnExactFromLumaRow.holds Try.pinned (OpenSpec.ofChange fnExactFromLumaWrong)

/-- 'laws.FnFromLuma': WHATEVER THE INPUT: true; the input reads as it did. -/
def fnFromLumaSpec : ChangeSpec := { name := "fnFromLuma", fn := fun _ => fun
  | [d] => { results := [.lit (.bool true)], args := [d] }
  | _ => none }
def fnFromLumaRow : OpenClaim := { program := "ytbldmekplkjfiaa", sum := "af65f426bfdb58e1e3d373e31476d4f9bd43b14316d48fe42a5d8b044ef8be82", func := "loop.example/pixelworks/laws.FnFromLuma", spec := "fnFromLuma", unfollowed := true, recurses := true, apart := false }
def FnFromLumaSaid : Prop := fnFromLumaRow.holds Try.pinned (OpenSpec.ofChange fnFromLumaSpec)

/-- ITS FALSE NEIGHBOUR: 'it returns false'. Refute it at one input. -/
def fnFromLumaWrong : ChangeSpec := { name := "fnFromLuma", fn := fun _ => fun
  | [d] => { results := [.lit (.bool false)], args := [d] }
  | _ => none }
def FnFromLumaWrongFalsely : Prop := fnFromLumaRow.holds Try.pinned (OpenSpec.ofChange fnFromLumaWrong)

/-- 'laws.FnExactNearestColor': WHATEVER THE INPUT: true; the input reads as it did. -/
def fnExactNearestColorSpec : ChangeSpec := { name := "fnExactNearestColor", fn := fun _ => fun
  | [d1, d2] => { results := [.lit (.bool true)], args := [d1, d2] }
  | _ => none }
def fnExactNearestColorRow : OpenClaim := { program := "ytbldmekplkjfiaa", sum := "af65f426bfdb58e1e3d373e31476d4f9bd43b14316d48fe42a5d8b044ef8be82", func := "loop.example/pixelworks/laws.FnExactNearestColor", spec := "fnExactNearestColor", unfollowed := true, recurses := true, apart := false }
def FnExactNearestColorSaid : Prop := fnExactNearestColorRow.holds Try.pinned (OpenSpec.ofChange fnExactNearestColorSpec)

/-- ITS FALSE NEIGHBOUR: 'it returns false'. Refute it at one input. -/
def fnExactNearestColorWrong : ChangeSpec := { name := "fnExactNearestColor", fn := fun _ => fun
  | [d1, d2] => { results := [.lit (.bool false)], args := [d1, d2] }
  | _ => none }
def FnExactNearestColorWrongFalsely : Prop := fnExactNearestColorRow.holds Try.pinned (OpenSpec.ofChange fnExactNearestColorWrong)

/-- 'laws.FnNearestColor': WHATEVER THE INPUT: true; the input reads as it did. -/
def fnNearestColorSpec : ChangeSpec := { name := "fnNearestColor", fn := fun _ => fun
  | [d] => { results := [.lit (.bool true)], args := [d] }
  | _ => none }
def fnNearestColorRow : OpenClaim := { program := "ytbldmekplkjfiaa", sum := "af65f426bfdb58e1e3d373e31476d4f9bd43b14316d48fe42a5d8b044ef8be82", func := "loop.example/pixelworks/laws.FnNearestColor", spec := "fnNearestColor", unfollowed := true, recurses := true, apart := false }
def FnNearestColorSaid : Prop := fnNearestColorRow.holds Try.pinned (OpenSpec.ofChange fnNearestColorSpec)

/-- ITS FALSE NEIGHBOUR: 'it returns false'. Refute it at one input. -/
def fnNearestColorWrong : ChangeSpec := { name := "fnNearestColor", fn := fun _ => fun
  | [d] => { results := [.lit (.bool false)], args := [d] }
  | _ => none }
def FnNearestColorWrongFalsely : Prop := fnNearestColorRow.holds Try.pinned (OpenSpec.ofChange fnNearestColorWrong)

/-- 'laws.FnFillImage': WHATEVER THE INPUT: true; the input reads as it did. -/
def fnFillImageSpec : ChangeSpec := { name := "fnFillImage", fn := fun _ => fun
  | [d] => { results := [.lit (.bool true)], args := [d] }
  | _ => none }
def fnFillImageRow : OpenClaim := { program := "ytbldmekplkjfiaa", sum := "af65f426bfdb58e1e3d373e31476d4f9bd43b14316d48fe42a5d8b044ef8be82", func := "loop.example/pixelworks/laws.FnFillImage", spec := "fnFillImage", unfollowed := true, recurses := true, apart := false }
def FnFillImageSaid : Prop := fnFillImageRow.holds Try.pinned (OpenSpec.ofChange fnFillImageSpec)

/-- ITS FALSE NEIGHBOUR: 'it returns false'. Refute it at one input. -/
def fnFillImageWrong : ChangeSpec := { name := "fnFillImage", fn := fun _ => fun
  | [d] => { results := [.lit (.bool false)], args := [d] }
  | _ => none }
def FnFillImageWrongFalsely : Prop := fnFillImageRow.holds Try.pinned (OpenSpec.ofChange fnFillImageWrong)

/- THE SECOND FORM. 'bulk': how many values and letters a reading holds, each counted each time it is reached (what is shared counts as often as it is met; a slice's spare places count too). A statement '..UptoSaid' is the law's where the arguments, and the package variables that the reading takes, are together of bulk at most 1048576: NARROWER than '..Said'. Prove '..Said' where nothing that the law and all that it calls make is longer than what came in: it says more and counts as full. Else prove '..UptoSaid'. A law counts once. -/
mutual
def uptoBulk {H : Type} : DataW H → Nat
  | .lit (.string bytes) => bytes.length + 1
  | .lit _ => 1
  | .nil => 1
  | .ptr d => uptoBulk d + 1
  | .slice elems spare => uptoBulkAll elems + uptoBulkAll spare + 1
  | .agg parts => uptoBulkAll parts + 1
  | .iface _ d => uptoBulk d + 1
  | .map entries => uptoBulkEntries entries + 1
  | .held _ => 1
def uptoBulkAll {H : Type} : List (DataW H) → Nat
  | [] => 0
  | d :: r => uptoBulk d + uptoBulkAll r
def uptoBulkEntries {H : Type} : List (Lit × DataW H) → Nat
  | [] => 0
  | x :: r => uptoBulkEntry x + uptoBulkEntries r
def uptoBulkEntry {H : Type} : Lit × DataW H → Nat
  | (.string bytes, d) => bytes.length + uptoBulk d + 1
  | (_, d) => uptoBulk d + 1
 end
def uptoSmall : (H : Type) → List (DataW H) → Bool := fun _ ds => decide (uptoBulkAll ds ≤ 1048576)
def OpenSpec.upto (s : _root_.Go.ChangeSpec) : _root_.Go.OpenSpec := { _root_.Go.OpenSpec.ofChange s with cond := some uptoSmall }

/-- 'laws.FnExactLevelOf', WHERE WHAT IT READS IS OF BULK AT MOST 1048576: true; the input reads as it did. -/
def fnExactLevelOfUptoRow : OpenClaim := { program := "ytbldmekplkjfiaa", sum := "af65f426bfdb58e1e3d373e31476d4f9bd43b14316d48fe42a5d8b044ef8be82", func := "loop.example/pixelworks/laws.FnExactLevelOf", spec := "fnExactLevelOf", apart := false, narrowed := true }
def FnExactLevelOfUptoSaid : Prop := fnExactLevelOfUptoRow.holds Try.pinned (OpenSpec.upto fnExactLevelOfSpec)

/-- 'laws.FnLevelOf', WHERE WHAT IT READS IS OF BULK AT MOST 1048576: true; the input reads as it did. -/
def fnLevelOfUptoRow : OpenClaim := { program := "ytbldmekplkjfiaa", sum := "af65f426bfdb58e1e3d373e31476d4f9bd43b14316d48fe42a5d8b044ef8be82", func := "loop.example/pixelworks/laws.FnLevelOf", spec := "fnLevelOf", apart := false, narrowed := true }
def FnLevelOfUptoSaid : Prop := fnLevelOfUptoRow.holds Try.pinned (OpenSpec.upto fnLevelOfSpec)

/-- 'laws.FnExactCheckOf', WHERE WHAT IT READS IS OF BULK AT MOST 1048576: true; the input reads as it did. -/
def fnExactCheckOfUptoRow : OpenClaim := { program := "ytbldmekplkjfiaa", sum := "af65f426bfdb58e1e3d373e31476d4f9bd43b14316d48fe42a5d8b044ef8be82", func := "loop.example/pixelworks/laws.FnExactCheckOf", spec := "fnExactCheckOf", unfollowed := true, recurses := true, apart := false, narrowed := true }
def FnExactCheckOfUptoSaid : Prop := fnExactCheckOfUptoRow.holds Try.pinned (OpenSpec.upto fnExactCheckOfSpec)

/-- 'laws.FnCheckOf', WHERE WHAT IT READS IS OF BULK AT MOST 1048576: true; the input reads as it did. -/
def fnCheckOfUptoRow : OpenClaim := { program := "ytbldmekplkjfiaa", sum := "af65f426bfdb58e1e3d373e31476d4f9bd43b14316d48fe42a5d8b044ef8be82", func := "loop.example/pixelworks/laws.FnCheckOf", spec := "fnCheckOf", unfollowed := true, recurses := true, apart := false, narrowed := true }
def FnCheckOfUptoSaid : Prop := fnCheckOfUptoRow.holds Try.pinned (OpenSpec.upto fnCheckOfSpec)

/-- 'laws.FnExactToLuma', WHERE WHAT IT READS IS OF BULK AT MOST 1048576: true; the input reads as it did. -/
def fnExactToLumaUptoRow : OpenClaim := { program := "ytbldmekplkjfiaa", sum := "af65f426bfdb58e1e3d373e31476d4f9bd43b14316d48fe42a5d8b044ef8be82", func := "loop.example/pixelworks/laws.FnExactToLuma", spec := "fnExactToLuma", unfollowed := true, recurses := true, apart := false, narrowed := true }
def FnExactToLumaUptoSaid : Prop := fnExactToLumaUptoRow.holds Try.pinned (OpenSpec.upto fnExactToLumaSpec)

/-- 'laws.FnToLuma', WHERE WHAT IT READS IS OF BULK AT MOST 1048576: true; the input reads as it did. -/
def fnToLumaUptoRow : OpenClaim := { program := "ytbldmekplkjfiaa", sum := "af65f426bfdb58e1e3d373e31476d4f9bd43b14316d48fe42a5d8b044ef8be82", func := "loop.example/pixelworks/laws.FnToLuma", spec := "fnToLuma", unfollowed := true, recurses := true, apart := false, narrowed := true }
def FnToLumaUptoSaid : Prop := fnToLumaUptoRow.holds Try.pinned (OpenSpec.upto fnToLumaSpec)

/-- 'laws.FnToLumaGray', WHERE WHAT IT READS IS OF BULK AT MOST 1048576: true; the input reads as it did. -/
def fnToLumaGrayUptoRow : OpenClaim := { program := "ytbldmekplkjfiaa", sum := "af65f426bfdb58e1e3d373e31476d4f9bd43b14316d48fe42a5d8b044ef8be82", func := "loop.example/pixelworks/laws.FnToLumaGray", spec := "fnToLumaGray", unfollowed := true, recurses := true, apart := false, narrowed := true }
def FnToLumaGrayUptoSaid : Prop := fnToLumaGrayUptoRow.holds Try.pinned (OpenSpec.upto fnToLumaGraySpec)

/-- 'laws.FnExactFromLuma', WHERE WHAT IT READS IS OF BULK AT MOST 1048576: true; the input reads as it did. -/
def fnExactFromLumaUptoRow : OpenClaim := { program := "ytbldmekplkjfiaa", sum := "af65f426bfdb58e1e3d373e31476d4f9bd43b14316d48fe42a5d8b044ef8be82", func := "loop.example/pixelworks/laws.FnExactFromLuma", spec := "fnExactFromLuma", unfollowed := true, recurses := true, apart := false, narrowed := true }
def FnExactFromLumaUptoSaid : Prop := fnExactFromLumaUptoRow.holds Try.pinned (OpenSpec.upto fnExactFromLumaSpec)

/-- 'laws.FnFromLuma', WHERE WHAT IT READS IS OF BULK AT MOST 1048576: true; the input reads as it did. -/
def fnFromLumaUptoRow : OpenClaim := { program := "ytbldmekplkjfiaa", sum := "af65f426bfdb58e1e3d373e31476d4f9bd43b14316d48fe42a5d8b044ef8be82", func := "loop.example/pixelworks/laws.FnFromLuma", spec := "fnFromLuma", unfollowed := true, recurses := true, apart := false, narrowed := true }
def FnFromLumaUptoSaid : Prop := fnFromLumaUptoRow.holds Try.pinned (OpenSpec.upto fnFromLumaSpec)

/-- 'laws.FnExactNearestColor', WHERE WHAT IT READS IS OF BULK AT MOST 1048576: true; the input reads as it did. -/
def fnExactNearestColorUptoRow : OpenClaim := { program := "ytbldmekplkjfiaa", sum := "af65f426bfdb58e1e3d373e31476d4f9bd43b14316d48fe42a5d8b044ef8be82", func := "loop.example/pixelworks/laws.FnExactNearestColor", spec := "fnExactNearestColor", unfollowed := true, recurses := true, apart := false, narrowed := true }
def FnExactNearestColorUptoSaid : Prop := fnExactNearestColorUptoRow.holds Try.pinned (OpenSpec.upto fnExactNearestColorSpec)

/-- 'laws.FnNearestColor', WHERE WHAT IT READS IS OF BULK AT MOST 1048576: true; the input reads as it did. -/
def fnNearestColorUptoRow : OpenClaim := { program := "ytbldmekplkjfiaa", sum := "af65f426bfdb58e1e3d373e31476d4f9bd43b14316d48fe42a5d8b044ef8be82", func := "loop.example/pixelworks/laws.FnNearestColor", spec := "fnNearestColor", unfollowed := true, recurses := true, apart := false, narrowed := true }
def FnNearestColorUptoSaid : Prop := fnNearestColorUptoRow.holds Try.pinned (OpenSpec.upto fnNearestColorSpec)

/-- 'laws.FnFillImage', WHERE WHAT IT READS IS OF BULK AT MOST 1048576: true; the input reads as it did. -/
def fnFillImageUptoRow : OpenClaim := { program := "ytbldmekplkjfiaa", sum := "af65f426bfdb58e1e3d373e31476d4f9bd43b14316d48fe42a5d8b044ef8be82", func := "loop.example/pixelworks/laws.FnFillImage", spec := "fnFillImage", unfollowed := true, recurses := true, apart := false, narrowed := true }
def FnFillImageUptoSaid : Prop := fnFillImageUptoRow.holds Try.pinned (OpenSpec.upto fnFillImageSpec)

end Rows
end Go.Proofs.Ytbldmekplkjfiaa
