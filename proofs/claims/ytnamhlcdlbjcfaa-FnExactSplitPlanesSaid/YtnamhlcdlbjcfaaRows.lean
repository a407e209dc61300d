/-
  No cell of these rows narrows 'for every input' (looked for: loops, veiled, ifaces, maps, wideKeys, modest, calm, conditions, laid).
  DERIVED. THE GIVEN ROWS OF THIS SEAT. 12 by the template 'for every input the law returns true; each argument reads behind the call as it read before'; 0 by the template 'total and deterministic' (their statements: YtnamhlcdlbjcfaaTotals.lean).
  GIVEN WITH THE SEED: the statements are not yours to turn. If you find one false, say at which input.
  Laid BY PROGRAM, IN A SANDBOX (cutbox-rows.mjs): the forced cells as the released guide's own fill.sh prints them over the translation bea99b79b32c1b70… (all of the seat's roots in one cut). By AI agents, Wed Nov 11 2026. No macro, syntax, notation, axiom, sorry.
-/
import Derived.Test.YtnamhlcdlbjcfaaChecked
import GoSem.Claim
import GoSem.ClaimJoined
import GoSem.ClaimMapViews
import Derived.JoinedTies
import Derived.KernelRfl
namespace Go.Proofs.Ytnamhlcdlbjcfaa
/- THE CELL 'sum', in the pinned program and in every row, IS THE sha256 OF THE DUMP (.gsa) THAT YtnamhlcdlbjcfaaProg.lean LOADS. Nothing in Lean hashes anything: it is a label: what it is worth is what the hold of that sum in a sandbox is worth. -/
noncomputable def Try.pinned : Pinned := { name := "ytnamhlcdlbjcfaa", sum := "bea99b79b32c1b700887839db36e2167e1554e7e559aa55d439403016cf056cd", checked := Try.checked }
namespace Rows
def none {H : Type} : Left H := { results := [], args := [] }

/-- 'laws.FnExactGrayImage': WHATEVER THE INPUT: true; the input reads as it did. -/
def fnExactGrayImageSpec : ChangeSpec := { name := "fnExactGrayImage", fn := fun _ => fun
  | [d] => { results := [.lit (.bool true)], args := [d] }
  | _ => none }
def fnExactGrayImageRow : OpenClaim := { program := "ytnamhlcdlbjcfaa", sum := "bea99b79b32c1b700887839db36e2167e1554e7e559aa55d439403016cf056cd", func := "loop.example/pixelworks/laws.FnExactGrayImage", spec := "fnExactGrayImage", unfollowed := true, recurses := true, apart := false }
def FnExactGrayImageSaid : Prop := fnExactGrayImageRow.holds Try.pinned (OpenSpec.ofChange fnExactGrayImageSpec)

/-- ITS FALSE NEIGHBOUR: 'it returns false'. Refute it at one input. -/
def fnExactGrayImageWrong : ChangeSpec := { name := "fnExactGrayImage", fn := fun _ => fun
  | [d] => { results := [.lit (.bool false)], args := [d] }
  | _ => none }
def FnExactGrayImageWrongFalsely : Prop := fnExactGrayImageRow.holds Try.pinned (OpenSpec.ofChange fnExactGrayImageWrong)

/-- 'laws.FnGrayImage': WHATEVER THE INPUT: true; the input reads as it did. -/
def fnGrayImageSpec : ChangeSpec := { name := "fnGrayImage", fn := fun _ => fun
  | [d] => { results := [.lit (.bool true)], args := [d] }
  | _ => none }
def fnGrayImageRow : OpenClaim := { program := "ytnamhlcdlbjcfaa", sum := "bea99b79b32c1b700887839db36e2167e1554e7e559aa55d439403016cf056cd", func := "loop.example/pixelworks/laws.FnGrayImage", spec := "fnGrayImage", unfollowed := true, recurses := true, apart := false }
def FnGrayImageSaid : Prop := fnGrayImageRow.holds Try.pinned (OpenSpec.ofChange fnGrayImageSpec)

/-- ITS FALSE NEIGHBOUR: 'it returns false'. Refute it at one input. -/
def fnGrayImageWrong : ChangeSpec := { name := "fnGrayImage", fn := fun _ => fun
  | [d] => { results := [.lit (.bool false)], args := [d] }
  | _ => none }
def FnGrayImageWrongFalsely : Prop := fnGrayImageRow.holds Try.pinned (OpenSpec.ofChange fnGrayImageWrong)

/-- 'laws.FnGrayImageMirror': WHATEVER THE INPUT: true; the input reads as it did. -/
def fnGrayImageMirrorSpec : ChangeSpec := { name := "fnGrayImageMirror", fn := fun _ => fun
  | [d] => { results := [.lit (.bool true)], args := [d] }
  | _ => none }
def fnGrayImageMirrorRow : OpenClaim := { program := "ytnamhlcdlbjcfaa", sum := "bea99b79b32c1b700887839db36e2167e1554e7e559aa55d439403016cf056cd", func := "loop.example/pixelworks/laws.FnGrayImageMirror", spec := "fnGrayImageMirror", unfollowed := true, recurses := true, apart := false }
def FnGrayImageMirrorSaid : Prop := fnGrayImageMirrorRow.holds Try.pinned (OpenSpec.ofChange fnGrayImageMirrorSpec)

/-- ITS FALSE NEIGHBOUR: 'it returns false'. Refute it at one input. -/
def fnGrayImageMirrorWrong : ChangeSpec := { name := "fnGrayImageMirror", fn := fun _ => fun
  | [d] => { results := [.lit (.bool false)], args := [d] }
  | _ => none }
def FnGrayImageMirrorWrongFalsely : Prop := fnGrayImageMirrorRow.holds Try.pinned (OpenSpec.ofChange fnGrayImageMirrorWrong)

/-- 'laws.FnExactScaleNearest': WHATEVER THE INPUT: true; the input reads as it did. -/
def fnExactScaleNearestSpec : ChangeSpec := { name := "fnExactScaleNearest", fn := fun _ => fun
  | [d1, d2, d3] => { results := [.lit (.bool true)], args := [d1, d2, d3] }
  | _ => none }
def fnExactScaleNearestRow : OpenClaim := { program := "ytnamhlcdlbjcfaa", sum := "bea99b79b32c1b700887839db36e2167e1554e7e559aa55d439403016cf056cd", func := "loop.example/pixelworks/laws.FnExactScaleNearest", spec := "fnExactScaleNearest", unfollowed := true, recurses := true, apart := false }
def FnExactScaleNearestSaid : Prop := fnExactScaleNearestRow.holds Try.pinned (OpenSpec.ofChange fnExactScaleNearestSpec)

/-- ITS FALSE NEIGHBOUR: 'it returns false'. Refute it at one input. -/
def fnExactScaleNearestWrong : ChangeSpec := { name := "fnExactScaleNearest", fn := fun _ => fun
  | [d1, d2, d3] => { results := [.lit (.bool false)], args := [d1, d2, d3] }
  | _ => none }
def FnExactScaleNearestWrongFalsely : Prop := fnExactScaleNearestRow.holds Try.pinned (OpenSpec.ofChange fnExactScaleNearestWrong)

/-- 'laws.FnScaleNearest': WHATEVER THE INPUT: true; the input reads as it did. -/
def fnScaleNearestSpec : ChangeSpec := { name := "fnScaleNearest", fn := fun _ => fun
  | [d] => { results := [.lit (.bool true)], args := [d] }
  | _ => none }
def fnScaleNearestRow : OpenClaim := { program := "ytnamhlcdlbjcfaa", sum := "bea99b79b32c1b700887839db36e2167e1554e7e559aa55d439403016cf056cd", func := "loop.example/pixelworks/laws.FnScaleNearest", spec := "fnScaleNearest", unfollowed := true, recurses := true, apart := false }
def FnScaleNearestSaid : Prop := fnScaleNearestRow.holds Try.pinned (OpenSpec.ofChange fnScaleNearestSpec)

/-- ITS FALSE NEIGHBOUR: 'it returns false'. Refute it at one input. -/
def fnScaleNearestWrong : ChangeSpec := { name := "fnScaleNearest", fn := fun _ => fun
  | [d] => { results := [.lit (.bool false)], args := [d] }
  | _ => none }
def FnScaleNearestWrongFalsely : Prop := fnScaleNearestRow.holds Try.pinned (OpenSpec.ofChange fnScaleNearestWrong)

/-- 'laws.FnScaleNearestTurn': WHATEVER THE INPUT: true; the input reads as it did. -/
def fnScaleNearestTurnSpec : ChangeSpec := { name := "fnScaleNearestTurn", fn := fun _ => fun
  | [d] => { results := [.lit (.bool true)], args := [d] }
  | _ => none }
def fnScaleNearestTurnRow : OpenClaim := { program := "ytnamhlcdlbjcfaa", sum := "bea99b79b32c1b700887839db36e2167e1554e7e559aa55d439403016cf056cd", func := "loop.example/pixelworks/laws.FnScaleNearestTurn", spec := "fnScaleNearestTurn", unfollowed := true, recurses := true, apart := false }
def FnScaleNearestTurnSaid : Prop := fnScaleNearestTurnRow.holds Try.pinned (OpenSpec.ofChange fnScaleNearestTurnSpec)

/-- ITS FALSE NEIGHBOUR: 'it returns false'. Refute it at one input. -/
def fnScaleNearestTurnWrong : ChangeSpec := { name := "fnScaleNearestTurn", fn := fun _ => fun
  | [d] => { results := [.lit (.bool false)], args := [d] }
  | _ => none }
def FnScaleNearestTurnWrongFalsely : Prop := fnScaleNearestTurnRow.holds Try.pinned (OpenSpec.ofChange fnScaleNearestTurnWrong)

/-- 'laws.FnExactScaleArea': WHATEVER THE INPUT: true; the input reads as it did. -/
def fnExactScaleAreaSpec : ChangeSpec := { name := "fnExactScaleArea", fn := fun _ => fun
  | [d1, d2, d3] => { results := [.lit (.bool true)], args := [d1, d2, d3] }
  | _ => none }
def fnExactScaleAreaRow : OpenClaim := { program := "ytnamhlcdlbjcfaa", sum := "bea99b79b32c1b700887839db36e2167e1554e7e559aa55d439403016cf056cd", func := "loop.example/pixelworks/laws.FnExactScaleArea", spec := "fnExactScaleArea", unfollowed := true, recurses := true, apart := false }
def FnExactScaleAreaSaid : Prop := fnExactScaleAreaRow.holds Try.pinned (OpenSpec.ofChange fnExactScaleAreaSpec)

/-- ITS FALSE NEIGHBOUR: 'it returns false'. Refute it at one input. -/
def fnExactScaleAreaWrong : ChangeSpec := { name := "fnExactScaleArea", fn := fun _ => fun
  | [d1, d2, d3] => { results := [.lit (.bool false)], args := [d1, d2, d3] }
  | _ => none }
def FnExactScaleAreaWrongFalsely : Prop := fnExactScaleAreaRow.holds Try.pinned (OpenSpec.ofChange fnExactScaleAreaWrong)

/-- 'laws.FnScaleArea': WHATEVER THE INPUT: true; the input reads as it did. -/
def fnScaleAreaSpec : ChangeSpec := { name := "fnScaleArea", fn := fun _ => fun
  | [d] => { results := [.lit (.bool true)], args := [d] }
  | _ => none }
def fnScaleAreaRow : OpenClaim := { program := "ytnamhlcdlbjcfaa", sum := "bea99b79b32c1b700887839db36e2167e1554e7e559aa55d439403016cf056cd", func := "loop.example/pixelworks/laws.FnScaleArea", spec := "fnScaleArea", unfollowed := true, recurses := true, apart := false }
def FnScaleAreaSaid : Prop := fnScaleAreaRow.holds Try.pinned (OpenSpec.ofChange fnScaleAreaSpec)

/-- ITS FALSE NEIGHBOUR: 'it returns false'. Refute it at one input. -/
def fnScaleAreaWrong : ChangeSpec := { name := "fnScaleArea", fn := fun _ => fun
  | [d] => { results := [.lit (.bool false)], args := [d] }
  | _ => none }
def FnScaleAreaWrongFalsely : Prop := fnScaleAreaRow.holds Try.pinned (OpenSpec.ofChange fnScaleAreaWrong)

/-- 'laws.FnScaleAreaTwice': WHATEVER THE INPUT: true; the input reads as it did. -/
def fnScaleAreaTwiceSpec : ChangeSpec := { name := "fnScaleAreaTwice", fn := fun _ => fun
  | [d] => { results := [.lit (.bool true)], args := [d] }
  | _ => none }
def fnScaleAreaTwiceRow : OpenClaim := { program := "ytnamhlcdlbjcfaa", sum := "bea99b79b32c1b700887839db36e2167e1554e7e559aa55d439403016cf056cd", func := "loop.example/pixelworks/laws.FnScaleAreaTwice", spec := "fnScaleAreaTwice", unfollowed := true, recurses := true, apart := false }
def FnScaleAreaTwiceSaid : Prop := fnScaleAreaTwiceRow.holds Try.pinned (OpenSpec.ofChange fnScaleAreaTwiceSpec)

/-- ITS FALSE NEIGHBOUR: 'it returns false'. Refute it at one input. -/
def fnScaleAreaTwiceWrong : ChangeSpec := { name := "fnScaleAreaTwice", fn := fun _ => fun
  | [d] => { results := [.lit (.bool false)], args := [d] }
  | _ => none }
def FnScaleAreaTwiceWrongFalsely : Prop := fnScaleAreaTwiceRow.holds Try.pinned (OpenSpec.ofChange fnScaleAreaTwiceWrong)

/-- 'laws.FnExactSplitPlanes': WHATEVER THE INPUT: true; the input reads as it did. -/
def fnExactSplitPlanesSpec : ChangeSpec := { name := "fnExactSplitPlanes", fn := fun _ => fun
  | [d] => { results := [.lit (.bool true)], args := [d] }
  | _ => none }
def fnExactSplitPlanesRow : OpenClaim := { program := "ytnamhlcdlbjcfaa", sum := "bea99b79b32c1b700887839db36e2167e1554e7e559aa55d439403016cf056cd", func := "loop.example/pixelworks/laws.FnExactSplitPlanes", spec := "fnExactSplitPlanes", unfollowed := true, recurses := true, apart := false }
def FnExactSplitPlanesSaid : Prop := fnExactSplitPlanesRow.holds Try.pinned (OpenSpec.ofChange fnExactSplitPlanesSpec)

/-- ITS FALSE NEIGHBOUR: 'it returns false'. Refute it at one input. -/
def fnExactSplitPlanesWrong : ChangeSpec := { name := "fnExactSplitPlanes", fn := fun _ => fun
  | [d] => { results := [.lit (.bool false)], args := [d] }
  | _ => none }
def FnExactSplitPlanesWrongFalsely : Prop := fnExactSplitPlanesRow.holds Try.pinned (OpenSpec.ofChange fnExactSplitPlanesWrong)

/-- 'laws.FnSplitPlanes': WHATEVER THE INPUT: true; the input reads as it did. -/
def fnSplitPlanesSpec : ChangeSpec := { name := "fnSplitPlanes", fn := fun _ => fun
  | [d] => { results := [.lit (.bool true)], args := [d] }
  | _ => none }
def fnSplitPlanesRow : OpenClaim := { program := "ytnamhlcdlbjcfaa", sum := "bea99b79b32c1b700887839db36e2167e1554e7e559aa55d439403016cf056cd", func := "loop.example/pixelworks/laws.FnSplitPlanes", spec := "fnSplitPlanes", unfollowed := true, recurses := true, apart := false }
def FnSplitPlanesSaid : Prop := fnSplitPlanesRow.holds Try.pinned (OpenSpec.ofChange fnSplitPlanesSpec)

/-- ITS FALSE NEIGHBOUR: 'it returns false'. Refute it at one input. -/
def fnSplitPlanesWrong : ChangeSpec := { name := "fnSplitPlanes", fn := fun _ => fun
  | [d] => { results := [.lit (.bool false)], args := [d] }
  | _ => none }
def FnSplitPlanesWrongFalsely : Prop := fnSplitPlanesRow.holds Try.pinned (OpenSpec.ofChange fnSplitPlanesWrong)

/-- 'laws.FnSplitPlanesTurn': WHATEVER THE INPUT: true; the input reads as it did. -/
def fnSplitPlanesTurnSpec : ChangeSpec := { name := "fnSplitPlanesTurn", fn := fun _ => fun
  | [d] => { results := [.lit (.bool true)], args := [d] }
  | _ => none }
def fnSplitPlanesTurnRow : OpenClaim := { program := "ytnamhlcdlbjcfaa", sum := "bea99b79b32c1b700887839db36e2167e1554e7e559aa55d439403016cf056cd", func := "loop.example/pixelworks/laws.FnSplitPlanesTurn", spec := "fnSplitPlanesTurn", unfollowed := true, recurses := true, apart := false }
def FnSplitPlanesTurnSaid : Prop := fnSplitPlanesTurnRow.holds Try.pinned (OpenSpec.ofChange fnSplitPlanesTurnSpec)

/-- ITS FALSE NEIGHBOUR: 'it returns false'. Refute it at one input. -/
def fnSplitPlanesTurnWrong : ChangeSpec := { name := "fnSplitPlanesTurn", fn := fun _ => fun
  | [d] => { results := [.lit (.bool false)], args := [d] }
  | _ => none }
def FnSplitPlanesTurnWrongFalsely : Prop := fnSplitPlanesTurnRow.holds Try.pinned (OpenSpec.ofChange fnSplitPlanesTurnWrong)

/- THE SECOND FORM. 'bulk': how many values and letters a reading holds, each counted each time it is reached (what is shared counts as often as it is met; a slice's spare places count too). A statement '..UptoSaid' is the law's where the arguments, and the package variables that the reading takes, are together of bulk at most 1048576: NARROWER than '..Said'. Prove '..Said' where nothing that the law and all that it calls make is longer than what came in: it says more and counts as full. Else prove '..UptoSaid'. A law counts once. -/
mutual
def uptoBulk {H : Type} : DataW H → Nat
  | .lit (.string bytes) => bytes.length + 1
  | .lit _ => 1
  | .nil => 1
  | .ptr d => uptoBulk d + 1
  | .slice elems spare => uptoBulkAll elems + uptoBulkAll spare + 1
  | .agg parts => uptoBulkAll parts + 1
  | .iface _ d => uptoBulk d + 1
  | .map entries => uptoBulkEntries entries + 1
  | .held _ => 1
def uptoBulkAll {H : Type} : List (DataW H) → Nat
  | [] => 0
  | d :: r => uptoBulk d + uptoBulkAll r
def uptoBulkEntries {H : Type} : List (Lit × DataW H) → Nat
  | [] => 0
  | x :: r => uptoBulkEntry x + uptoBulkEntries r
def uptoBulkEntry {H : Type} : Lit × DataW H → Nat
  | (.string bytes, d) => bytes.length + uptoBulk d + 1
  | (_, d) => uptoBulk d + 1
 end
def uptoSmall : (H : Type) → List (DataW H) → Bool := fun _ ds => decide (uptoBulkAll ds ≤ 1048576)
def OpenSpec.upto (s : _root_.Go.ChangeSpec) : _root_.Go.OpenSpec := { _root_.Go.OpenSpec.ofChange s with cond := some uptoSmall }

/-- 'laws.FnExactGrayImage', WHERE WHAT IT READS IS OF BULK AT MOST 1048576: true; the input reads as it did. -/
def fnExactGrayImageUptoRow : OpenClaim := { program := "ytnamhlcdlbjcfaa", sum := "bea99b79b32c1b700887839db36e2167e1554e7e559aa55d439403016cf056cd", func := "loop.example/pixelworks/laws.FnExactGrayImage", spec := "fnExactGrayImage", unfollowed := true, recurses := true, apart := false, narrowed := true }
def FnExactGrayImageUptoSaid : Prop := fnExactGrayImageUptoRow.holds Try.pinned (OpenSpec.upto fnExactGrayImageSpec)

/-- 'laws.FnGrayImage', WHERE WHAT IT READS IS OF BULK AT MOST 1048576: true; the input reads as it did. -/
def fnGrayImageUptoRow : OpenClaim := { program := "ytnamhlcdlbjcfaa", sum := "bea99b79b32c1b700887839db36e2167e1554e7e559aa55d439403016cf056cd", func := "loop.example/pixelworks/laws.FnGrayImage", spec := "fnGrayImage", unfollowed := true, recurses := true, apart := false, narrowed := true }
def FnGrayImageUptoSaid : Prop := fnGrayImageUptoRow.holds Try.pinned (OpenSpec.upto fnGrayImageSpec)

/-- 'laws.FnGrayImageMirror', WHERE WHAT IT READS IS OF BULK AT MOST 1048576: true; the input reads as it did. -/
def fnGrayImageMirrorUptoRow : OpenClaim := { program := "ytnamhlcdlbjcfaa", sum := "bea99b79b32c1b700887839db36e2167e1554e7e559aa55d439403016cf056cd", func := "loop.example/pixelworks/laws.FnGrayImageMirror", spec := "fnGrayImageMirror", unfollowed := true, recurses := true, apart := false, narrowed := true }
def FnGrayImageMirrorUptoSaid : Prop := fnGrayImageMirrorUptoRow.holds Try.pinned (OpenSpec.upto fnGrayImageMirrorSpec)

/-- 'laws.FnExactScaleNearest', WHERE WHAT IT READS IS OF BULK AT MOST 1048576: true; the input reads as it did. -/
def fnExactScaleNearestUptoRow : OpenClaim := { program := "ytnamhlcdlbjcfaa", sum := "bea99b79b32c1b700887839db36e2167e1554e7e559aa55d439403016cf056cd", func := "loop.example/pixelworks/laws.FnExactScaleNearest", spec := "fnExactScaleNearest", unfollowed := true, recurses := true, apart := false, narrowed := true }
def FnExactScaleNearestUptoSaid : Prop := fnExactScaleNearestUptoRow.holds Try.pinned (OpenSpec.upto fnExactScaleNearestSpec)

/-- 'laws.FnScaleNearest', WHERE WHAT IT READS IS OF BULK AT MOST 1048576: true; the input reads as it did. -/
def fnScaleNearestUptoRow : OpenClaim := { program := "ytnamhlcdlbjcfaa", sum := "bea99b79b32c1b700887839db36e2167e1554e7e559aa55d439403016cf056cd", func := "loop.example/pixelworks/laws.FnScaleNearest", spec := "fnScaleNearest", unfollowed := true, recurses := true, apart := false, narrowed := true }
def FnScaleNearestUptoSaid : Prop := fnScaleNearestUptoRow.holds Try.pinned (OpenSpec.upto fnScaleNearestSpec)

/-- 'laws.FnScaleNearestTurn', WHERE WHAT IT READS IS OF BULK AT MOST 1048576: true; the input reads as it did. -/
def fnScaleNearestTurnUptoRow : OpenClaim := { program := "ytnamhlcdlbjcfaa", sum := "bea99b79b32c1b700887839db36e2167e1554e7e559aa55d439403016cf056cd", func := "loop.example/pixelworks/laws.FnScaleNearestTurn", spec := "fnScaleNearestTurn", unfollowed := true, recurses := true, apart := false, narrowed := true }
def FnScaleNearestTurnUptoSaid : Prop := fnScaleNearestTurnUptoRow.holds Try.pinned (OpenSpec.upto fnScaleNearestTurnSpec)

/-- 'laws.FnExactScaleArea', WHERE WHAT IT READS IS OF BULK AT MOST 1048576: true; the input reads as it did. -/
def fnExactScaleAreaUptoRow : OpenClaim := { program := "ytnamhlcdlbjcfaa", sum := "bea99b79b32c1b700887839db36e2167e1554e7e559aa55d439403016cf056cd", func := "loop.example/pixelworks/laws.FnExactScaleArea", spec := "fnExactScaleArea", unfollowed := true, recurses := true, apart := false, narrowed := true }
def FnExactScaleAreaUptoSaid : Prop := fnExactScaleAreaUptoRow.holds Try.pinned (OpenSpec.upto fnExactScaleAreaSpec)

/-- 'laws.FnScaleArea', WHERE WHAT IT READS IS OF BULK AT MOST 1048576: true; the input reads as it did. -/
def fnScaleAreaUptoRow : OpenClaim := { program := "ytnamhlcdlbjcfaa", sum := "bea99b79b32c1b700887839db36e2167e1554e7e559aa55d439403016cf056cd", func := "loop.example/pixelworks/laws.FnScaleArea", spec := "fnScaleArea", unfollowed := true, recurses := true, apart := false, narrowed := true }
def FnScaleAreaUptoSaid : Prop := fnScaleAreaUptoRow.holds Try.pinned (OpenSpec.upto fnScaleAreaSpec)

/-- 'laws.FnScaleAreaTwice', WHERE WHAT IT READS IS OF BULK AT MOST 1048576: true; the input reads as it did. -/
def fnScaleAreaTwiceUptoRow : OpenClaim := { program := "ytnamhlcdlbjcfaa", sum := "bea99b79b32c1b700887839db36e2167e1554e7e559aa55d439403016cf056cd", func := "loop.example/pixelworks/laws.FnScaleAreaTwice", spec := "fnScaleAreaTwice", unfollowed := true, recurses := true, apart := false, narrowed := true }
def FnScaleAreaTwiceUptoSaid : Prop := fnScaleAreaTwiceUptoRow.holds Try.pinned (OpenSpec.upto fnScaleAreaTwiceSpec)

/-- 'laws.FnExactSplitPlanes', WHERE WHAT IT READS IS OF BULK AT MOST 1048576: true; the input reads as it did. -/
def fnExactSplitPlanesUptoRow : OpenClaim := { program := "ytnamhlcdlbjcfaa", sum := "bea99b79b32c1b700887839db36e2167e1554e7e559aa55d439403016cf056cd", func := "loop.example/pixelworks/laws.FnExactSplitPlanes", spec := "fnExactSplitPlanes", unfollowed := true, recurses := true, apart := false, narrowed := true }
def FnExactSplitPlanesUptoSaid : Prop := fnExactSplitPlanesUptoRow.holds Try.pinned (OpenSpec.upto fnExactSplitPlanesSpec)

/-- 'laws.FnSplitPlanes', WHERE WHAT IT READS IS OF BULK AT MOST 1048576: true; the input reads as it did. -/
def fnSplitPlanesUptoRow : OpenClaim := { program := "ytnamhlcdlbjcfaa", sum := "bea99b79b32c1b700887839db36e2167e1554e7e559aa55d439403016cf056cd", func := "loop.example/pixelworks/laws.FnSplitPlanes", spec := "fnSplitPlanes", unfollowed := true, recurses := true, apart := false, narrowed := true }
def FnSplitPlanesUptoSaid : Prop := fnSplitPlanesUptoRow.holds Try.pinned (OpenSpec.upto fnSplitPlanesSpec)

/-- 'laws.FnSplitPlanesTurn', WHERE WHAT IT READS IS OF BULK AT MOST 1048576: true; the input reads as it did. -/
def fnSplitPlanesTurnUptoRow : OpenClaim := { program := "ytnamhlcdlbjcfaa", sum := "bea99b79b32c1b700887839db36e2167e1554e7e559aa55d439403016cf056cd", func := "loop.example/pixelworks/laws.FnSplitPlanesTurn", spec := "fnSplitPlanesTurn", unfollowed := true, recurses := true, apart := false, narrowed := true }
def FnSplitPlanesTurnUptoSaid : Prop := fnSplitPlanesTurnUptoRow.holds Try.pinned (OpenSpec.upto fnSplitPlanesTurnSpec)

end Rows
end Go.Proofs.Ytnamhlcdlbjcfaa
