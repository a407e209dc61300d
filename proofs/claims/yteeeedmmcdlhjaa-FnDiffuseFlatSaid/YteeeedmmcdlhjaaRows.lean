/-
  No cell of these rows narrows 'for every input' (looked for: loops, veiled, ifaces, maps, wideKeys, modest, calm, conditions, laid).
  DERIVED. THE GIVEN ROWS OF THIS SEAT. 9 by the template 'for every input the law returns true; each argument reads behind the call as it read before'; 0 by the template 'total and deterministic' (their statements: YteeeedmmcdlhjaaTotals.lean).
  GIVEN WITH THE SEED: the statements are not yours to turn. If you find one false, say at which input.
  Laid BY PROGRAM, IN A SANDBOX (cutbox-rows.mjs): the forced cells as the released guide's own fill.sh prints them over the translation bff701f7fb22987f… (all of the seat's roots in one cut). By AI agents, Wed Nov 11 2026. No macro, syntax, notation, axiom, sorry.
-/
import Derived.Test.YteeeedmmcdlhjaaChecked
import GoSem.Claim
import GoSem.ClaimJoined
import GoSem.ClaimMapViews
import Derived.JoinedTies
import Derived.KernelRfl
namespace Go.Proofs.Yteeeedmmcdlhjaa
/- THE CELL 'sum', in the pinned program and in every row, IS THE sha256 OF THE DUMP (.gsa) THAT YteeeedmmcdlhjaaProg.lean LOADS. Nothing in Lean hashes anything: it is a label: what it is worth is what the hold of that sum in a sandbox is worth. -/
noncomputable def Try.pinned : Pinned := { name := "yteeeedmmcdlhjaa", sum := "bff701f7fb22987f8ef7f2f432d1f7c4f562324bd324c0eaa8a80e678d41aea9", checked := Try.checked }
namespace Rows
def none {H : Type} : Left H := { results := [], args := [] }

/-- 'laws.FnMergePlanes': WHATEVER THE INPUT: true; the input reads as it did. -/
def fnMergePlanesSpec : ChangeSpec := { name := "fnMergePlanes", fn := fun _ => fun
  | [d] => { results := [.lit (.bool true)], args := [d] }
  | _ => none }
def fnMergePlanesRow : OpenClaim := { program := "yteeeedmmcdlhjaa", sum := "bff701f7fb22987f8ef7f2f432d1f7c4f562324bd324c0eaa8a80e678d41aea9", func := "loop.example/pixelworks/laws.FnMergePlanes", spec := "fnMergePlanes", unfollowed := true, recurses := true, apart := false }
def FnMergePlanesSaid : Prop := fnMergePlanesRow.holds Try.pinned (OpenSpec.ofChange fnMergePlanesSpec)

/-- ITS FALSE NEIGHBOUR: 'it returns false'. Refute it at one input. -/
def fnMergePlanesWrong : ChangeSpec := { name := "fnMergePlanes", fn := fun _ => fun
  | [d] => { results := [.lit (.bool false)], args := [d] }
  | _ => none }
def FnMergePlanesWrongFalsely : Prop := fnMergePlanesRow.holds Try.pinned (OpenSpec.ofChange fnMergePlanesWrong)

/-- 'laws.FnExactOrderImage': WHATEVER THE INPUT: true; the input reads as it did. -/
def fnExactOrderImageSpec : ChangeSpec := { name := "fnExactOrderImage", fn := fun _ => fun
  | [d1, d2] => { results := [.lit (.bool true)], args := [d1, d2] }
  | _ => none }
def fnExactOrderImageRow : OpenClaim := { program := "yteeeedmmcdlhjaa", sum := "bff701f7fb22987f8ef7f2f432d1f7c4f562324bd324c0eaa8a80e678d41aea9", func := "loop.example/pixelworks/laws.FnExactOrderImage", spec := "fnExactOrderImage", unfollowed := true, recurses := true, apart := false }
def FnExactOrderImageSaid : Prop := fnExactOrderImageRow.holds Try.pinned (OpenSpec.ofChange fnExactOrderImageSpec)

/-- ITS FALSE NEIGHBOUR: 'it returns false'. Refute it at one input. -/
def fnExactOrderImageWrong : ChangeSpec := { name := "fnExactOrderImage", fn := fun _ => fun
  | [d1, d2] => { results := [.lit (.bool false)], args := [d1, d2] }
  | _ => none }
def FnExactOrderImageWrongFalsely : Prop := fnExactOrderImageRow.holds Try.pinned (OpenSpec.ofChange fnExactOrderImageWrong)

/-- 'laws.FnOrderImage': WHATEVER THE INPUT: true; the input reads as it did. -/
def fnOrderImageSpec : ChangeSpec := { name := "fnOrderImage", fn := fun _ => fun
  | [d] => { results := [.lit (.bool true)], args := [d] }
  | _ => none }
def fnOrderImageRow : OpenClaim := { program := "yteeeedmmcdlhjaa", sum := "bff701f7fb22987f8ef7f2f432d1f7c4f562324bd324c0eaa8a80e678d41aea9", func := "loop.example/pixelworks/laws.FnOrderImage", spec := "fnOrderImage", unfollowed := true, recurses := true, apart := false }
def FnOrderImageSaid : Prop := fnOrderImageRow.holds Try.pinned (OpenSpec.ofChange fnOrderImageSpec)

/-- ITS FALSE NEIGHBOUR: 'it returns false'. Refute it at one input. -/
def fnOrderImageWrong : ChangeSpec := { name := "fnOrderImage", fn := fun _ => fun
  | [d] => { results := [.lit (.bool false)], args := [d] }
  | _ => none }
def FnOrderImageWrongFalsely : Prop := fnOrderImageRow.holds Try.pinned (OpenSpec.ofChange fnOrderImageWrong)

/-- 'laws.FnExactDiffuseImage': WHATEVER THE INPUT: true; the input reads as it did. -/
def fnExactDiffuseImageSpec : ChangeSpec := { name := "fnExactDiffuseImage", fn := fun _ => fun
  | [d1, d2] => { results := [.lit (.bool true)], args := [d1, d2] }
  | _ => none }
def fnExactDiffuseImageRow : OpenClaim := { program := "yteeeedmmcdlhjaa", sum := "bff701f7fb22987f8ef7f2f432d1f7c4f562324bd324c0eaa8a80e678d41aea9", func := "loop.example/pixelworks/laws.FnExactDiffuseImage", spec := "fnExactDiffuseImage", unfollowed := true, recurses := true, apart := false }
def FnExactDiffuseImageSaid : Prop := fnExactDiffuseImageRow.holds Try.pinned (OpenSpec.ofChange fnExactDiffuseImageSpec)

/-- ITS FALSE NEIGHBOUR: 'it returns false'. Refute it at one input. -/
def fnExactDiffuseImageWrong : ChangeSpec := { name := "fnExactDiffuseImage", fn := fun _ => fun
  | [d1, d2] => { results := [.lit (.bool false)], args := [d1, d2] }
  | _ => none }
def FnExactDiffuseImageWrongFalsely : Prop := fnExactDiffuseImageRow.holds Try.pinned (OpenSpec.ofChange fnExactDiffuseImageWrong)

/-- 'laws.FnDiffuseImage': WHATEVER THE INPUT: true; the input reads as it did. -/
def fnDiffuseImageSpec : ChangeSpec := { name := "fnDiffuseImage", fn := fun _ => fun
  | [d] => { results := [.lit (.bool true)], args := [d] }
  | _ => none }
def fnDiffuseImageRow : OpenClaim := { program := "yteeeedmmcdlhjaa", sum := "bff701f7fb22987f8ef7f2f432d1f7c4f562324bd324c0eaa8a80e678d41aea9", func := "loop.example/pixelworks/laws.FnDiffuseImage", spec := "fnDiffuseImage", unfollowed := true, recurses := true, apart := false }
def FnDiffuseImageSaid : Prop := fnDiffuseImageRow.holds Try.pinned (OpenSpec.ofChange fnDiffuseImageSpec)

/-- ITS FALSE NEIGHBOUR: 'it returns false'. Refute it at one input. -/
def fnDiffuseImageWrong : ChangeSpec := { name := "fnDiffuseImage", fn := fun _ => fun
  | [d] => { results := [.lit (.bool false)], args := [d] }
  | _ => none }
def FnDiffuseImageWrongFalsely : Prop := fnDiffuseImageRow.holds Try.pinned (OpenSpec.ofChange fnDiffuseImageWrong)

/-- 'laws.FnDiffuseFlat': WHATEVER THE INPUT: true; the input reads as it did. -/
def fnDiffuseFlatSpec : ChangeSpec := { name := "fnDiffuseFlat", fn := fun _ => fun
  | [d] => { results := [.lit (.bool true)], args := [d] }
  | _ => none }
def fnDiffuseFlatRow : OpenClaim := { program := "yteeeedmmcdlhjaa", sum := "bff701f7fb22987f8ef7f2f432d1f7c4f562324bd324c0eaa8a80e678d41aea9", func := "loop.example/pixelworks/laws.FnDiffuseFlat", spec := "fnDiffuseFlat", unfollowed := true, recurses := true, apart := false }
def FnDiffuseFlatSaid : Prop := fnDiffuseFlatRow.holds Try.pinned (OpenSpec.ofChange fnDiffuseFlatSpec)

/-- ITS FALSE NEIGHBOUR: 'it returns false'. Refute it at one input. -/
def fnDiffuseFlatWrong : ChangeSpec := { name := "fnDiffuseFlat", fn := fun _ => fun
  | [d] => { results := [.lit (.bool false)], args := [d] }
  | _ => none }
def FnDiffuseFlatWrongFalsely : Prop := fnDiffuseFlatRow.holds Try.pinned (OpenSpec.ofChange fnDiffuseFlatWrong)

/-- 'laws.FnExactConvolveImage': WHATEVER THE INPUT: true; the input reads as it did. -/
def fnExactConvolveImageSpec : ChangeSpec := { name := "fnExactConvolveImage", fn := fun _ => fun
  | [d1, d2] => { results := [.lit (.bool true)], args := [d1, d2] }
  | _ => none }
def fnExactConvolveImageRow : OpenClaim := { program := "yteeeedmmcdlhjaa", sum := "bff701f7fb22987f8ef7f2f432d1f7c4f562324bd324c0eaa8a80e678d41aea9", func := "loop.example/pixelworks/laws.FnExactConvolveImage", spec := "fnExactConvolveImage", unfollowed := true, recurses := true, apart := false }
def FnExactConvolveImageSaid : Prop := fnExactConvolveImageRow.holds Try.pinned (OpenSpec.ofChange fnExactConvolveImageSpec)

/-- ITS FALSE NEIGHBOUR: 'it returns false'. Refute it at one input. -/
def fnExactConvolveImageWrong : ChangeSpec := { name := "fnExactConvolveImage", fn := fun _ => fun
  | [d1, d2] => { results := [.lit (.bool false)], args := [d1, d2] }
  | _ => none }
def FnExactConvolveImageWrongFalsely : Prop := fnExactConvolveImageRow.holds Try.pinned (OpenSpec.ofChange fnExactConvolveImageWrong)

/-- 'laws.FnConvolveImage': WHATEVER THE INPUT: true; the input reads as it did. -/
def fnConvolveImageSpec : ChangeSpec := { name := "fnConvolveImage", fn := fun _ => fun
  | [d] => { results := [.lit (.bool true)], args := [d] }
  | _ => none }
def fnConvolveImageRow : OpenClaim := { program := "yteeeedmmcdlhjaa", sum := "bff701f7fb22987f8ef7f2f432d1f7c4f562324bd324c0eaa8a80e678d41aea9", func := "loop.example/pixelworks/laws.FnConvolveImage", spec := "fnConvolveImage", unfollowed := true, recurses := true, apart := false }
def FnConvolveImageSaid : Prop := fnConvolveImageRow.holds Try.pinned (OpenSpec.ofChange fnConvolveImageSpec)

/-- ITS FALSE NEIGHBOUR: 'it returns false'. Refute it at one input. -/
def fnConvolveImageWrong : ChangeSpec := { name := "fnConvolveImage", fn := fun _ => fun
  | [d] => { results := [.lit (.bool false)], args := [d] }
  | _ => none }
def FnConvolveImageWrongFalsely : Prop := fnConvolveImageRow.holds Try.pinned (OpenSpec.ofChange fnConvolveImageWrong)

/-- 'laws.FnConvolveImageTurn': WHATEVER THE INPUT: true; the input reads as it did. -/
def fnConvolveImageTurnSpec : ChangeSpec := { name := "fnConvolveImageTurn", fn := fun _ => fun
  | [d] => { results := [.lit (.bool true)], args := [d] }
  | _ => none }
def fnConvolveImageTurnRow : OpenClaim := { program := "yteeeedmmcdlhjaa", sum := "bff701f7fb22987f8ef7f2f432d1f7c4f562324bd324c0eaa8a80e678d41aea9", func := "loop.example/pixelworks/laws.FnConvolveImageTurn", spec := "fnConvolveImageTurn", unfollowed := true, recurses := true, apart := false }
def FnConvolveImageTurnSaid : Prop := fnConvolveImageTurnRow.holds Try.pinned (OpenSpec.ofChange fnConvolveImageTurnSpec)

/-- ITS FALSE NEIGHBOUR: 'it returns false'. Refute it at one input. -/
def fnConvolveImageTurnWrong : ChangeSpec := { name := "fnConvolveImageTurn", fn := fun _ => fun
  | [d] => { results := [.lit (.bool false)], args := [d] }
  | _ => none }
def FnConvolveImageTurnWrongFalsely : Prop := fnConvolveImageTurnRow.holds Try.pinned (OpenSpec.ofChange fnConvolveImageTurnWrong)

/- THE SECOND FORM. 'bulk': how many values and letters a reading holds, each counted each time it is reached (what is shared counts as often as it is met; a slice's spare places count too). A statement '..UptoSaid' is the law's where the arguments, and the package variables that the reading takes, are together of bulk at most 1048576: NARROWER than '..Said'. Prove '..Said' where nothing that the law and all that it calls make is longer than what came in: it says more and counts as full. Else prove '..UptoSaid'. A law counts once. -/
mutual
def uptoBulk {H : Type} : DataW H → Nat
  | .lit (.string bytes) => bytes.length + 1
  | .lit _ => 1
  | .nil => 1
  | .ptr d => uptoBulk d + 1
  | .slice elems spare => uptoBulkAll elems + uptoBulkAll spare + 1
  | .agg parts => uptoBulkAll parts + 1
  | .iface _ d => uptoBulk d + 1
  | .map entries => uptoBulkEntries entries + 1
  | .held _ => 1
def uptoBulkAll {H : Type} : List (DataW H) → Nat
  | [] => 0
  | d :: r => uptoBulk d + uptoBulkAll r
def uptoBulkEntries {H : Type} : List (Lit × DataW H) → Nat
  | [] => 0
  | x :: r => uptoBulkEntry x + uptoBulkEntries r
def uptoBulkEntry {H : Type} : Lit × DataW H → Nat
  | (.string bytes, d) => bytes.length + uptoBulk d + 1
  | (_, d) => uptoBulk d + 1
 end
def uptoSmall : (H : Type) → List (DataW H) → Bool := fun _ ds => decide (uptoBulkAll ds ≤ 1048576)
def OpenSpec.upto (s : _root_.Go.ChangeSpec) : _root_.Go.OpenSpec := { _root_.Go.OpenSpec.ofChange s with cond := some uptoSmall }

/-- 'laws.FnMergePlanes', WHERE WHAT IT READS IS OF BULK AT MOST 1048576: true; the input reads as it did. -/
def fnMergePlanesUptoRow : OpenClaim := { program := "yteeeedmmcdlhjaa", sum := "bff701f7fb22987f8ef7f2f432d1f7c4f562324bd324c0eaa8a80e678d41aea9", func := "loop.example/pixelworks/laws.FnMergePlanes", spec := "fnMergePlanes", unfollowed := true, recurses := true, apart := false, narrowed := true }
def FnMergePlanesUptoSaid : Prop := fnMergePlanesUptoRow.holds Try.pinned (OpenSpec.upto fnMergePlanesSpec)

/-- 'laws.FnExactOrderImage', WHERE WHAT IT READS IS OF BULK AT MOST 1048576: true; the input reads as it did. -/
def fnExactOrderImageUptoRow : OpenClaim := { program := "yteeeedmmcdlhjaa", sum := "bff701f7fb22987f8ef7f2f432d1f7c4f562324bd324c0eaa8a80e678d41aea9", func := "loop.example/pixelworks/laws.FnExactOrderImage", spec := "fnExactOrderImage", unfollowed := true, recurses := true, apart := false, narrowed := true }
def FnExactOrderImageUptoSaid : Prop := fnExactOrderImageUptoRow.holds Try.pinned (OpenSpec.upto fnExactOrderImageSpec)

/-- 'laws.FnOrderImage', WHERE WHAT IT READS IS OF BULK AT MOST 1048576: true; the input reads as it did. -/
def fnOrderImageUptoRow : OpenClaim := { program := "yteeeedmmcdlhjaa", sum := "bff701f7fb22987f8ef7f2f432d1f7c4f562324bd324c0eaa8a80e678d41aea9", func := "loop.example/pixelworks/laws.FnOrderImage", spec := "fnOrderImage", unfollowed := true, recurses := true, apart := false, narrowed := true }
def FnOrderImageUptoSaid : Prop := fnOrderImageUptoRow.holds Try.pinned (OpenSpec.upto fnOrderImageSpec)

/-- 'laws.FnExactDiffuseImage', WHERE WHAT IT READS IS OF BULK AT MOST 1048576: true; the input reads as it did. -/
def fnExactDiffuseImageUptoRow : OpenClaim := { program := "yteeeedmmcdlhjaa", sum := "bff701f7fb22987f8ef7f2f432d1f7c4f562324bd324c0eaa8a80e678d41aea9", func := "loop.example/pixelworks/laws.FnExactDiffuseImage", spec := "fnExactDiffuseImage", unfollowed := true, recurses := true, apart := false, narrowed := true }
def FnExactDiffuseImageUptoSaid : Prop := fnExactDiffuseImageUptoRow.holds Try.pinned (OpenSpec.upto fnExactDiffuseImageSpec)

/-- 'laws.FnDiffuseImage', WHERE WHAT IT READS IS OF BULK AT MOST 1048576: true; the input reads as it did. -/
def fnDiffuseImageUptoRow : OpenClaim := { program := "yteeeedmmcdlhjaa", sum := "bff701f7fb22987f8ef7f2f432d1f7c4f562324bd324c0eaa8a80e678d41aea9", func := "loop.example/pixelworks/laws.FnDiffuseImage", spec := "fnDiffuseImage", unfollowed := true, recurses := true, apart := false, narrowed := true }
def FnDiffuseImageUptoSaid : Prop := fnDiffuseImageUptoRow.holds Try.pinned (OpenSpec.upto fnDiffuseImageSpec)

/-- 'laws.FnDiffuseFlat', WHERE WHAT IT READS IS OF BULK AT MOST 1048576: true; the input reads as it did. -/
def fnDiffuseFlatUptoRow : OpenClaim := { program := "yteeeedmmcdlhjaa", sum := "bff701f7fb22987f8ef7f2f432d1f7c4f562324bd324c0eaa8a80e678d41aea9", func := "loop.example/pixelworks/laws.FnDiffuseFlat", spec := "fnDiffuseFlat", unfollowed := true, recurses := true, apart := false, narrowed := true }
def FnDiffuseFlatUptoSaid : Prop := fnDiffuseFlatUptoRow.holds Try.pinned (OpenSpec.upto fnDiffuseFlatSpec)

/-- 'laws.FnExactConvolveImage', WHERE WHAT IT READS IS OF BULK AT MOST 1048576: true; the input reads as it did. -/
def fnExactConvolveImageUptoRow : OpenClaim := { program := "yteeeedmmcdlhjaa", sum := "bff701f7fb22987f8ef7f2f432d1f7c4f562324bd324c0eaa8a80e678d41aea9", func := "loop.example/pixelworks/laws.FnExactConvolveImage", spec := "fnExactConvolveImage", unfollowed := true, recurses := true, apart := false, narrowed := true }
def FnExactConvolveImageUptoSaid : Prop := fnExactConvolveImageUptoRow.holds Try.pinned (OpenSpec.upto fnExactConvolveImageSpec)

/-- 'laws.FnConvolveImage', WHERE WHAT IT READS IS OF BULK AT MOST 1048576: true; the input reads as it did. -/
def fnConvolveImageUptoRow : OpenClaim := { program := "yteeeedmmcdlhjaa", sum := "bff701f7fb22987f8ef7f2f432d1f7c4f562324bd324c0eaa8a80e678d41aea9", func := "loop.example/pixelworks/laws.FnConvolveImage", spec := "fnConvolveImage", unfollowed := true, recurses := true, apart := false, narrowed := true }
def FnConvolveImageUptoSaid : Prop := fnConvolveImageUptoRow.holds Try.pinned (OpenSpec.upto fnConvolveImageSpec)

/-- 'laws.FnConvolveImageTurn', WHERE WHAT IT READS IS OF BULK AT MOST 1048576: true; the input reads as it did. -/
def fnConvolveImageTurnUptoRow : OpenClaim := { program := "yteeeedmmcdlhjaa", sum := "bff701f7fb22987f8ef7f2f432d1f7c4f562324bd324c0eaa8a80e678d41aea9", func := "loop.example/pixelworks/laws.FnConvolveImageTurn", spec := "fnConvolveImageTurn", unfollowed := true, recurses := true, apart := false, narrowed := true }
def FnConvolveImageTurnUptoSaid : Prop := fnConvolveImageTurnUptoRow.holds Try.pinned (OpenSpec.upto fnConvolveImageTurnSpec)

end Rows
end Go.Proofs.Yteeeedmmcdlhjaa
